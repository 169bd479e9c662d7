/- Part 24 of the proof's texts: what the theorem needs of them. -/
import Derived.Test.YtlhdbcjlmkglkaaGreatSQG22
import Derived.Test.YtlhdbcjlmkglkaaGreatSQG23
import Derived.Test.YtlhdbcjlmkglkaaGreatSQG17
import Derived.Test.YtlhdbcjlmkglkaaGreatSQG18
import Derived.Test.YtlhdbcjlmkglkaaGreatSQG15
import Derived.Lib.Hide
import Derived.Test.YtlhdbcjlmkglkaaGreatSQG16

set_option linter.unusedVariables false
set_option linter.unusedSimpArgs false
/- What is wrong with a quote: the program's and the document's. -/
set_option linter.unusedSimpArgs false
set_option linter.unusedVariables false
namespace Go.Proofs.YtlhdbcjlmkglkaaGreat.Q
open Go Go.RowKit Go.Proofs Go.Proofs.YtlhdbcjlmkglkaaGreat.PL Go.Proofs.YtlhdbcjlmkglkaaGreatW.PrintWords
theorem w64 (n : Int) (h : -9223372036854775808 ≤ n ∧ n ≤ 9223372036854775807) : wrap64 n = n := by unfold wrap64; omega
abbrev okA (x : S24) : Prop := (1 ≤ x.f0 ∧ x.f0 ≤ 1125899906842624) ∧ (1 ≤ x.f2 ∧ x.f2 ≤ 2) ∧ (1 ≤ x.f3 ∧ x.f3 ≤ 64) ∧ (1 ≤ x.f4 ∧ x.f4 ≤ 1125899906842624) ∧ (-1000000 ≤ x.f5 ∧ x.f5 ≤ 1000000)
abbrev goodD (d : Int) : Prop := 0 ≤ d ∧ d ≤ 200000
abbrev okB (x : S24) : Prop := goodD x.f6 ∧ (x.f7 = 0 ∨ goodD x.f7 ∧ x.f6 < x.f7 ∧ x.f7 - x.f6 ≤ 3660)
/-- What is wrong with a quote. -/
def qE (x : S24) : Int := if okA x then (if okB x then 0 else 10) else 1
def chkE (x : S24) : Int := if 1 ≤ x.f1 ∧ x.f1 ≤ 32 then qE x else 1
theorem good_t (d : Int) (h : goodD d) : calendar_Good.f d = some true := by unfold calendar_Good.f; unfold goodD at h; rw [if_pos (by omega), decide_eq_true (by omega)]
theorem good_n (d : Int) (h : ¬ goodD d) : calendar_Good.f d = some false := by
  unfold calendar_Good.f; unfold goodD at h
  by_cases h0 : d ≥ 0
  · rw [if_pos h0, decide_eq_false (by omega)]
  · rw [if_neg h0]
theorem rgood (d : Int) : lombardref02_Good.f d = calendar_Good.f d := rfl
theorem j1_f (k : Nat) (x : S24) : msg_quote.j1 (k + 1) false x.f0 x.f1 x.f2 x.f3 x.f4 x.f5 x.f6 x.f7 = some (if okB x then 0 else 10) := by
  rw [msg_quote.j1, if_neg (by decide)]
  unfold okB
  by_cases h6 : goodD x.f6
  · rw [good_t _ h6, Option.bind_some, if_pos rfl]
    by_cases h7 : x.f7 = 0
    · rw [if_pos h7, if_pos ⟨h6, .inl h7⟩]
    rw [if_neg h7]
    by_cases g7 : goodD x.f7
    · have hw : wrap64 (x.f7 - x.f6) = x.f7 - x.f6 := w64 _ (by unfold goodD at *; omega)
      rw [good_t _ g7, Option.bind_some, if_pos rfl, hw]
      by_cases h8 : x.f7 ≤ x.f6
      · rw [if_pos h8, if_neg (by omega)]
      rw [if_neg h8]
      by_cases h9 : x.f7 - x.f6 > 3660
      · rw [if_pos h9, if_neg (by omega)]
      · rw [if_neg h9, if_pos ⟨h6, .inr ⟨g7, by omega, by omega⟩⟩]
    · rw [good_n _ g7, Option.bind_some, if_neg (by decide), if_neg (fun h => h.2.elim h7 (fun h => g7 h.1))]
  · rw [good_n _ h6, Option.bind_some, if_neg (by decide), if_neg (fun h => h6 h.1)]
theorem j1_t (k : Nat) (x : S24) : msg_quote.j1 (k + 1) true x.f0 x.f1 x.f2 x.f3 x.f4 x.f5 x.f6 x.f7 = some 1 := by rw [msg_quote.j1, if_pos rfl]
theorem j0_t (k : Nat) (x : S24) : msg_quote.j0 (k + 1) true x.f0 x.f1 x.f2 x.f3 x.f4 x.f5 x.f6 x.f7 = some 1 := by rw [msg_quote.j0, if_pos rfl]
theorem j0_f (k : Nat) (x : S24) : msg_quote.j0 (k + 2) false x.f0 x.f1 x.f2 x.f3 x.f4 x.f5 x.f6 x.f7 = some (if (1 ≤ x.f4 ∧ x.f4 ≤ 1125899906842624) ∧ (-1000000 ≤ x.f5 ∧ x.f5 ≤ 1000000) then (if okB x then 0 else 10) else 1) := by
  rw [msg_quote.j0, if_neg (by decide), j1_t]
  by_cases h1 : x.f4 < 1
  · rw [if_pos h1, if_neg (by omega)]
  rw [if_neg h1]
  by_cases h2 : x.f4 > 1125899906842624
  · rw [if_pos h2, if_neg (by omega)]
  rw [if_neg h2]
  by_cases h3 : x.f5 < -1000000
  · rw [if_pos h3, if_neg (by omega)]
  rw [if_neg h3]
  by_cases h4 : x.f5 > 1000000
  · rw [decide_eq_true h4, j1_t, if_neg (by omega)]
  · rw [decide_eq_false h4, j1_f, if_pos (show (1 ≤ x.f4 ∧ x.f4 ≤ 1125899906842624) ∧ (-1000000 ≤ x.f5 ∧ x.f5 ≤ 1000000) by omega)]
theorem msgQ_f (x : S24) : msg_quote.f 3 x.f0 x.f1 x.f2 x.f3 x.f4 x.f5 x.f6 x.f7 = some (qE x) := by
  have t := j0_t 2 x
  have f := j0_f 1 x
  unfold msg_quote.f qE okA
  by_cases h0 : x.f0 < 1
  · rw [if_pos h0, t, if_neg (show ¬ okA x by unfold okA; omega)]
  rw [if_neg h0]
  by_cases h1 : x.f0 > 1125899906842624
  · rw [if_pos h1, t, if_neg (show ¬ okA x by unfold okA; omega)]
  rw [if_neg h1]
  by_cases h3 : x.f3 < 1
  · rw [if_pos h3, t, if_neg (show ¬ okA x by unfold okA; omega)]
    split <;> (try split) <;> rfl
  rw [if_neg h3]
  by_cases h4 : x.f3 > 64
  · rw [decide_eq_true h4, t, if_neg (show ¬ okA x by unfold okA; omega)]
    split <;> (try split) <;> rfl
  rw [decide_eq_false h4, t, f]
  by_cases h2 : x.f2 = 1
  · rw [if_pos h2]
    by_cases h5 : (1 ≤ x.f4 ∧ x.f4 ≤ 1125899906842624) ∧ (-1000000 ≤ x.f5 ∧ x.f5 ≤ 1000000)
    · rw [if_pos h5, if_pos (show okA x by unfold okA; omega)]
    · rw [if_neg h5, if_neg (show ¬ okA x by unfold okA; omega)]
  rw [if_neg h2]
  by_cases h2 : x.f2 = 2
  · rw [if_pos h2]
    by_cases h5 : (1 ≤ x.f4 ∧ x.f4 ≤ 1125899906842624) ∧ (-1000000 ≤ x.f5 ∧ x.f5 ≤ 1000000)
    · rw [if_pos h5, if_pos (show okA x by unfold okA; omega)]
    · rw [if_neg h5, if_neg (show ¬ okA x by unfold okA; omega)]
  · rw [if_neg h2, if_neg (show ¬ okA x by unfold okA; omega)]
theorem in_f (a b c : Int) : lombardref10_in.f a b c = some (decide (b ≤ a ∧ a ≤ c)) := by
  unfold lombardref10_in.f
  by_cases h : a ≥ b
  · rw [if_pos h, decide_eq_decide.2 (show a ≤ c ↔ b ≤ a ∧ a ≤ c by omega)]
  · rw [if_neg h, decide_eq_false (by omega)]
theorem am_f (a : Int) : lombardref10_Amount.f a = some (decide (1 ≤ a ∧ a ≤ 1125899906842624)) := by
  unfold lombardref10_Amount.f
  by_cases h : a ≥ 1
  · rw [if_pos h, decide_eq_decide.2 (show a ≤ 1125899906842624 ↔ 1 ≤ a ∧ a ≤ 1125899906842624 by omega)]
  · rw [if_neg h, decide_eq_false (by omega)]
theorem rj0_t (k : Nat) (x : S24) : lombardref10_Quote.j0 (k + 1) true x.f0 x.f1 x.f2 x.f3 x.f4 x.f5 x.f6 x.f7 = some 1 := by rw [lombardref10_Quote.j0, if_pos rfl]
theorem rj0_f (k : Nat) (x : S24) : lombardref10_Quote.j0 (k + 1) false x.f0 x.f1 x.f2 x.f3 x.f4 x.f5 x.f6 x.f7 = some (if okB x then 0 else 10) := by
  rw [lombardref10_Quote.j0, if_neg (by decide), rgood, rgood]
  unfold okB
  by_cases h6 : goodD x.f6
  · rw [good_t _ h6, Option.bind_some, if_pos rfl]
    by_cases h7 : x.f7 = 0
    · rw [if_pos h7, if_pos ⟨h6, .inl h7⟩]
    rw [if_neg h7]
    by_cases g7 : goodD x.f7
    · have hw : wrap64 (x.f7 - x.f6) = x.f7 - x.f6 := w64 _ (by unfold goodD at *; omega)
      rw [good_t _ g7, Option.bind_some, if_pos rfl, hw, in_f, Option.bind_some]
      by_cases h8 : 1 ≤ x.f7 - x.f6 ∧ x.f7 - x.f6 ≤ 3660
      · rw [decide_eq_true h8, if_pos rfl, if_pos ⟨h6, .inr ⟨g7, by omega, by omega⟩⟩]
      · rw [decide_eq_false h8, if_neg (by decide), if_neg (by omega)]
    · rw [good_n _ g7, Option.bind_some, if_neg (by decide), if_neg (fun h => h.2.elim h7 (fun h => g7 h.1))]
  · rw [good_n _ h6, Option.bind_some, if_neg (by decide), if_neg (fun h => h6 h.1)]
theorem refQ_f (x : S24) : lombardref10_Quote.f 1 x.f0 x.f1 x.f2 x.f3 x.f4 x.f5 x.f6 x.f7 = some (qE x) := by
  have t := rj0_t 0 x
  have f := rj0_f 0 x
  unfold lombardref10_Quote.f qE okA
  rw [am_f, in_f, in_f, am_f, in_f]
  simp only [Option.bind_some]
  by_cases h0 : 1 ≤ x.f0 ∧ x.f0 ≤ 1125899906842624
  · rw [decide_eq_true h0, if_pos rfl]
    by_cases h2 : 1 ≤ x.f2 ∧ x.f2 ≤ 2
    · rw [decide_eq_true h2, if_pos rfl]
      by_cases h3 : 1 ≤ x.f3 ∧ x.f3 ≤ 64
      · rw [decide_eq_true h3, if_pos rfl]
        by_cases h4 : 1 ≤ x.f4 ∧ x.f4 ≤ 1125899906842624
        · rw [decide_eq_true h4, if_pos rfl]
          by_cases h5 : -1000000 ≤ x.f5 ∧ x.f5 ≤ 1000000
          · rw [decide_eq_true h5, if_pos ⟨h0, h2, h3, h4, h5⟩]
            exact f
          · rw [decide_eq_false h5, if_neg (fun h => h5 h.2.2.2.2)]
            exact t
        · rw [decide_eq_false h4, if_neg (by decide), if_neg (fun h => h4 h.2.2.2.1)]
          exact t
      · rw [decide_eq_false h3, if_neg (by decide), if_neg (fun h => h3 h.2.2.1)]
        exact t
    · rw [decide_eq_false h2, if_neg (by decide), if_neg (fun h => h2 h.2.1)]
      exact t
  · rw [decide_eq_false h0, if_neg (by decide), if_neg (fun h => h0 h.1)]
    exact t
theorem mem_f (a : Int) : msg_member.f a = some (decide (1 ≤ a ∧ a ≤ 32)) := by
  unfold msg_member.f
  by_cases h : a ≥ 1
  · rw [if_pos h, decide_eq_decide.2 (show a ≤ 32 ↔ 1 ≤ a ∧ a ≤ 32 by omega)]
  · rw [if_neg h, decide_eq_false (by omega)]
theorem rmem_f (a : Int) : lombardref10_Member.f a = some (decide (1 ≤ a ∧ a ≤ 32)) := mem_f a
theorem msgQ_c (x : S24) (w : World) : Calls Tryz.prog 93 #[qA x] w fun e w' => e = .returned (.int .i64 (qE x)) ∧ Below w.heap.size w w' := msg_quote.calls 3 _ _ _ _ _ _ _ _ _ w (msgQ_f x)
theorem refQ_c (x : S24) (w : World) : Calls Tryz.prog 81 #[qA x] w fun e w' => e = .returned (.int .i64 (qE x)) ∧ Below w.heap.size w w' := lombardref10_Quote.calls 1 _ _ _ _ _ _ _ _ _ w (refQ_f x)
theorem mem_c (a : Int) (w : World) : Calls Tryz.prog 84 #[.int .i64 a] w fun e w' => e = .returned (.bool (decide (1 ≤ a ∧ a ≤ 32))) ∧ Drawn0 w w' := msg_member.calls a _ w (mem_f a)
theorem rmem_c (a : Int) (w : World) : Calls Tryz.prog 80 #[.int .i64 a] w fun e w' => e = .returned (.bool (decide (1 ≤ a ∧ a ≤ 32))) ∧ Drawn0 w w' := lombardref10_Member.calls a _ w (rmem_f a)
end Go.Proofs.YtlhdbcjlmkglkaaGreat.Q

/- msg.Check at an offer; the document's Check of kind 8. -/
set_option linter.unusedSimpArgs false
set_option linter.unusedVariables false
namespace Go.Proofs.YtlhdbcjlmkglkaaGreat.Q
open Go Go.RowKit Go.Proofs Go.Proofs.YtlhdbcjlmkglkaaGreat.PL Go.Proofs.YtlhdbcjlmkglkaaGreatW.PrintWords
theorem bl2 {w v W : World} (h : Below w.heap.size w v) (h2 : Below v.heap.size v W) : Below w.heap.size w W := h.trans (h2.mono h.size)
theorem ta_no {t : TypeId} {fs : Array Field} (hu : Tryz.prog.underlying t = some (.struct fs)) (hz : ((Tryz.prog.info? t).bind fun i => i.zero).isSome = true) (ht : (120 : TypeId) ≠ t) (v : Value) :
    ∃ z, ∀ w, (Instr.typeAssert (.iface 120 v) 138 t true).run Tryz.prog w = .ok (.tuple #[z, .bool false]) w := by
  obtain ⟨z, hz⟩ := Option.isSome_iff_exists.1 hz
  obtain ⟨i, hi, hz⟩ := Option.bind_eq_some_iff.1 hz
  refine ⟨z, fun w => ?_⟩
  simp [Instr.typeAssert, run_underlying hu, zeroValue, typeInfo, hi, hz, ht]
theorem ta_yes (v : Value) (w : World) : (Instr.typeAssert (.iface 120 v) 138 120 true).run Tryz.prog w = .ok (.tuple #[v, .bool true]) w := by
  simp [Instr.typeAssert, run_underlying Tryz.underlying120]
set_option maxHeartbeats 400000 in
set_option maxRecDepth 1000000 in
theorem msgC_walk (x : S24) (w : World) : Calls Tryz.prog 64 #[.iface 120 (qA x)] w fun e w' => e = .returned (.int .i64 (chkE x)) ∧ Below w.heap.size w w' := by
  obtain ⟨z121, ta121⟩ := ta_no (t := 140) Tryz.underlying140 (by kernel_rfl) (by decide) (qA x)
  obtain ⟨z125, ta125⟩ := ta_no (t := 144) Tryz.underlying144 (by kernel_rfl) (by decide) (qA x)
  obtain ⟨z128, ta128⟩ := ta_no (t := 147) Tryz.underlying147 (by kernel_rfl) (by decide) (qA x)
  obtain ⟨z131, ta131⟩ := ta_no (t := 150) Tryz.underlying150 (by kernel_rfl) (by decide) (qA x)
  obtain ⟨z134, ta134⟩ := ta_no (t := 153) Tryz.underlying153 (by kernel_rfl) (by decide) (qA x)
  obtain ⟨z137, ta137⟩ := ta_no (t := 156) Tryz.underlying156 (by kernel_rfl) (by decide) (qA x)
  obtain ⟨z139, ta139⟩ := ta_no (t := 158) Tryz.underlying158 (by kernel_rfl) (by decide) (qA x)
  have hu24 := Tryz.underlying24
  have hu101 := Tryz.underlying120
  have tay := fun w => ta_yes (qA x) w
  have c1 := fun w => mem_c x.f1 w
  have c2 := fun w => msgQ_c x w
  unfold chkE
  unfold qA at *
  by_cases h : 1 ≤ x.f1 ∧ x.f1 ≤ 32
  · rw [if_pos h]
    rw [decide_eq_true h] at c1
    generalize qE x = E at *
    obtain ⟨x0, x1, x2, x3, x4, x5, x6, x7⟩ := x
    simp only at *
    clear h
    go_enter Tryz.func64, Tryz.ntmps64
    go_wp2_with (first
      | (go_at_call 84; refine (c1 _).mono ?_; rintro e W1 ⟨rfl, ⟨nd, rfl⟩⟩)
      | (go_at_call 93; refine (c2 _).mono ?_; rintro e W2 ⟨rfl, b2⟩))
    go_ret
    exact ⟨rfl, bl2 (pw_below_drewN (below_alloc (Below.refl _ _) _) _) b2⟩
  · rw [if_neg h]
    rw [decide_eq_false h] at c1
    obtain ⟨x0, x1, x2, x3, x4, x5, x6, x7⟩ := x
    simp only at *
    clear h
    go_enter Tryz.func64, Tryz.ntmps64
    go_wp2_with (first
      | (go_at_call 84; refine (c1 _).mono ?_; rintro e W1 ⟨rfl, ⟨nd, rfl⟩⟩))
    go_ret
    exact ⟨rfl, pw_below_drewN (below_alloc (Below.refl _ _) _) _⟩
end Go.Proofs.YtlhdbcjlmkglkaaGreat.Q

/- Board.Check; the board's frame. -/
set_option linter.unusedSimpArgs false
set_option linter.unusedVariables false
namespace Go.Proofs.YtlhdbcjlmkglkaaGreat.Q
open Go Go.RowKit Go.Proofs Go.Proofs.YtlhdbcjlmkglkaaGreat.PL Go.Proofs.YtlhdbcjlmkglkaaGreatW.PrintWords
def chkB (x : S24) (xs : List S24) : Int := if chkE x ≠ 0 then chkE x else if findI x.f0 xs ≥ 0 then 7 else if xs.length ≥ 64 then 18 else 0
set_option maxHeartbeats 400000 in
set_option maxRecDepth 1000000 in
theorem check_any (p : Nat) (x : S24) (A : Option Addr) (c : Nat) (xs : List S24) (w : World) (hB : Bd p (.slice A xs.length c) w) (hC : Kd.C k24 w A xs.length xs) (hlen : xs.length ≤ 1000000) :
    Calls Tryz.prog 34 #[.pointer (some ⟨p, 0, none⟩), qA x] w fun e w' => e = .returned (.int .i64 (chkB x xs)) ∧ Below w.heap.size w w' := by
  have hu24 := Tryz.underlying24
  have hu101 := Tryz.underlying120
  have c1 := fun w => msgC_walk x w
  obtain ⟨E, hE⟩ : ∃ E, chkE x = E := ⟨_, rfl⟩
  have h0 := fun o => (hB.below (below_alloc (Below.refl _ w) o)).c0
  have h1 := fun o => (hB.below (below_alloc (Below.refl _ w) o)).c1
  unfold chkB
  rw [hE] at c1 ⊢
  unfold qA at *
  have HB := Lib.hid hB
  have HC := Lib.hid hC
  have HL := Lib.hid hlen
  clear hB hC
  by_cases h : E ≠ 0
  · rw [if_pos h]
    have hne : (E != 0) = true := bne_iff_ne.2 h
    obtain ⟨x0, x1, x2, x3, x4, x5, x6, x7⟩ := x
    simp only at *
    clear h hE hlen
    go_enter Tryz.func34, Tryz.ntmps34
    go_wp2_with (first | (go_at_call 64; refine (c1 _).mono ?_; rintro e W1 ⟨rfl, b1⟩))
    go_ret
    exact ⟨rfl, bl2 (below_alloc (Below.refl _ _) _) b1⟩
  · rw [if_neg h]
    obtain rfl : E = 0 := Classical.not_not.1 h
    obtain ⟨F, hF⟩ : ∃ F, findI x.f0 xs = F := ⟨_, rfl⟩
    rw [hF]
    obtain ⟨x0, x1, x2, x3, x4, x5, x6, x7⟩ := x
    simp only at *
    have HF := Lib.hid hF
    clear h hE hF
    have l0 : ∀ o, xs.length ≤ 1000000 := fun o : Nat => hlen
    have key : ∀ R : Int, (F ≥ 0 → R = 7) → (¬ F ≥ 0 → xs.length ≥ 64 → R = 18) → (¬ F ≥ 0 → ¬ xs.length ≥ 64 → R = 0) → R = (if F ≥ 0 then 7 else if xs.length ≥ 64 then 18 else 0) := by
      intro R r1 r2 r3
      split
      · exact r1 (by assumption)
      split
      · exact r2 (by assumption) (by assumption)
      · exact r3 (by assumption) (by assumption)
    by_cases hf : F ≥ 0
    · rw [if_pos hf]
      have df : decide (0 ≤ F) = true := decide_eq_true hf
      clear key hf l0 hlen
      go_enter Tryz.func34, Tryz.ntmps34
      go_wp2_with (first
        | (have Y := b1; go_at_call 40; refine (at_any p x0 A c xs _ (HB.out.below B1) (Kd.C_below HC.out B1) HL.out).mono ?_; rw [HF.out]; rintro e W2 ⟨rfl, b2⟩; have B2 := bl2 B1 b2; have m0 := (HB.out.below B2).c0)
        | (go_at_call 64; refine (c1 _).mono ?_; rintro e W1 ⟨rfl, b1⟩; have B1 := bl2 (below_alloc (Below.refl _ w) _) b1; have kx := cell_below (cell_new w _ 24 0 (.int .i64 x0) rfl) b1; have k0 := (HB.out.below B1).c0; have k1 := (HB.out.below B1).c1))
      go_ret
      exact ⟨rfl, B2⟩
    · rw [if_neg hf]
      have df : decide (0 ≤ F) = false := decide_eq_false hf
      clear key hf l0
      by_cases hl : xs.length ≥ 64
      · rw [if_pos hl]
        have dl : decide (64 ≤ (xs.length : Int)) = true := decide_eq_true (by omega)
        have dl' : decide (64 ≤ xs.length) = true := decide_eq_true hl
        clear hlen hl
        go_enter Tryz.func34, Tryz.ntmps34
        go_wp2_with (first
          | (have Y := b1; go_at_call 40; refine (at_any p x0 A c xs _ (HB.out.below B1) (Kd.C_below HC.out B1) HL.out).mono ?_; rw [HF.out]; rintro e W2 ⟨rfl, b2⟩; have B2 := bl2 B1 b2; have m0 := (HB.out.below B2).c0)
          | (go_at_call 64; refine (c1 _).mono ?_; rintro e W1 ⟨rfl, b1⟩; have B1 := bl2 (below_alloc (Below.refl _ w) _) b1; have kx := cell_below (cell_new w _ 24 0 (.int .i64 x0) rfl) b1; have k0 := (HB.out.below B1).c0; have k1 := (HB.out.below B1).c1))
        go_ret
        exact ⟨rfl, B2⟩
      · rw [if_neg hl]
        have dl : decide (64 ≤ (xs.length : Int)) = false := decide_eq_false (by omega)
        have dl' : decide (64 ≤ xs.length) = false := decide_eq_false hl
        clear hlen hl
        go_enter Tryz.func34, Tryz.ntmps34
        go_wp2_with (first
          | (have Y := b1; go_at_call 40; refine (at_any p x0 A c xs _ (HB.out.below B1) (Kd.C_below HC.out B1) HL.out).mono ?_; rw [HF.out]; rintro e W2 ⟨rfl, b2⟩; have B2 := bl2 B1 b2; have m0 := (HB.out.below B2).c0)
          | (go_at_call 64; refine (c1 _).mono ?_; rintro e W1 ⟨rfl, b1⟩; have B1 := bl2 (below_alloc (Below.refl _ w) _) b1; have kx := cell_below (cell_new w _ 24 0 (.int .i64 x0) rfl) b1; have k0 := (HB.out.below B1).c0; have k1 := (HB.out.below B1).c1))
        go_ret
        exact ⟨rfl, B2⟩
end Go.Proofs.YtlhdbcjlmkglkaaGreat.Q

/- Board.Add. -/
set_option linter.unusedSimpArgs false
set_option linter.unusedVariables false
attribute [local go_sem] id_eq
namespace Go.Proofs.YtlhdbcjlmkglkaaGreat.Q
open Go Go.RowKit Go.Proofs Go.Proofs.YtlhdbcjlmkglkaaGreat.PL Go.Proofs.YtlhdbcjlmkglkaaGreatW.PrintWords
/-- The board at block p holds xs, in a row of its own above B. -/
structure BO (B p : Nat) (A : Option Addr) (c : Nat) (xs : List S24) (w : World) : Prop where
  le : B ≤ p
  bd : Bd p (.slice A xs.length c) w
  r : Kd.R k24 24 w B (fun k => k ≠ p) (.slice A xs.length c) xs
/-- What a call leaves as it was that writes the board p whose row's block is g. -/
structure Fr (p : Nat) (g g' : Option Nat) (w W : World) : Prop where
  os : W.os = w.os
  tape : W.tape = w.tape
  output : W.output = w.output
  size : w.heap.size ≤ W.heap.size
  block : ∀ k, k < w.heap.size → k ≠ p → some k ≠ g → W.heap[k]? = w.heap[k]?
  own : g' = g ∨ g' = none ∨ ∃ b, g' = some b ∧ w.heap.size ≤ b
theorem Bd.lt {p : Nat} {v : Value} {w : World} (h : Bd p v w) : p < w.heap.size := (Array.getElem?_eq_some_iff.1 h).1
theorem BO.below {B p : Nat} {A : Option Addr} {c : Nat} {xs : List S24} {w W : World} (h : BO B p A c xs w) (hb : Below w.heap.size w W) : BO B p A c xs W :=
  ⟨h.le, h.bd.below hb, Kd.R_below h.r hb⟩
theorem Fr.of_below {p : Nat} {g : Option Nat} {w W : World} (hb : Below w.heap.size w W) : Fr p g g w W :=
  ⟨hb.os, hb.tape, hb.output, hb.size, fun k hk _ _ => hb.block k hk, .inl rfl⟩
theorem BO.C {B p : Nat} {A : Option Addr} {c : Nat} {xs : List S24} {w : World} (h : BO B p A c xs w) : Kd.C k24 w A xs.length xs := (Kd.R_reads' h.r).2.2
theorem Bd.set {p : Nat} {v : Value} {w : World} (h : Bd p v w) (u : Value) : Bd p u (w.setCell ⟨p, 0, none⟩ u) := by
  have := heap_setCell_same w p 0 _ _ u h
  unfold Bd
  rw [this]
  rfl
theorem Bd.frz {p : Nat} {v : Value} {w : World} (h : Bd p v w) (j : Nat) : w.frozen? ⟨p, j, none⟩ = false := by unfold Bd at h; simp [World.frozen?, h]
/-- A row that grew, stored into the board. -/
theorem BO.stored {B p : Nat} {A A' : Option Addr} {c c' : Nat} {xs ys : List S24} {w W wz : World} (h : BO B p A c xs w) (hb : Below w.heap.size w W) (hg : W.grownBy wz (Value.slice A xs.length c).ownBlock)
    (ho : Kd.R k24 24 wz B (fun k => k ≠ p) (.slice A' ys.length c') ys)
    (hat : (Value.slice A' ys.length c').ownBlock = (Value.slice A xs.length c).ownBlock ∨ ∃ b, (Value.slice A' ys.length c').ownBlock = some b ∧ W.heap.size ≤ b) :
    BO B p A' c' ys (wz.setCell ⟨p, 0, none⟩ (.slice A' ys.length c')) ∧ Fr p (Value.slice A xs.length c).ownBlock (Value.slice A' ys.length c').ownBlock w (wz.setCell ⟨p, 0, none⟩ (.slice A' ys.length c')) := by
  have hne : some p ≠ (Value.slice A xs.length c).ownBlock := fun e => h.r.1 p e.symm rfl
  have hlt := (h.bd.below hb).lt
  have hbz : Bd p (.slice A xs.length c) wz := (hg.block p hlt hne).trans (h.bd.below hb)
  refine ⟨⟨h.le, hbz.set _, Kd.R_far ho (p := ⟨p, 0, none⟩) (fun k hk => hk) _⟩, ⟨?_, ?_, ?_, ?_, ?_, ?_⟩⟩
  · show wz.os = _; rw [hg.os, hb.os]
  · show wz.tape = _; rw [hg.tape, hb.tape]
  · show wz.output = _; rw [hg.output, hb.output]
  · rw [World.size_setCell]; exact Nat.le_trans hb.size hg.size
  · intro k hk hkp hkg
    rw [Below.heap_setCell wz ⟨p, 0, none⟩ _ k hkp, hg.block k (Nat.lt_of_lt_of_le hk hb.size) hkg, hb.block k hk]
  · rcases hat with e | ⟨b, e, hb2⟩
    · exact .inl e
    · exact .inr (.inr ⟨b, e, Nat.le_trans hb.size hb2⟩)
theorem BO.cut {B p : Nat} {A : Option Addr} {c : Nat} {xs : List S24} {w wz : World} (h : BO B p A c xs w) (hg : w.grownBy wz (Value.slice A xs.length c).ownBlock) : Bd p (.slice A xs.length c) wz :=
  (hg.block p h.bd.lt (fun e => h.r.1 p e.symm rfl)).trans h.bd
theorem keep_cell {W wz : World} {g : Option Nat} {k j : Nat} {v : Value} (hg : W.grownBy wz g) (h : W.cell? ⟨k, j, none⟩ = some v) (hne : some k ≠ g) : wz.cell? ⟨k, j, none⟩ = some v :=
  (World.cell?_of_block (hg.block k (cell_lt h) hne)).trans h
theorem set_cell {wz : World} {p k i j : Nat} {v : Value} (h : wz.cell? ⟨k, j, none⟩ = some v) (hne : k ≠ p) (u : Value) : (wz.setCell ⟨p, i, none⟩ u).cell? ⟨k, j, none⟩ = some v :=
  (World.cell?_of_block (Below.heap_setCell wz ⟨p, i, none⟩ u k hne)).trans h
theorem Fr.after {p : Nat} {g g' : Option Nat} {w W W' : World} (hb : Below w.heap.size w W) (h : Fr p g g' W W') : Fr p g g' w W' :=
  ⟨h.os.trans hb.os, h.tape.trans hb.tape, h.output.trans hb.output, Nat.le_trans hb.size h.size, fun k hk h1 h2 => (h.block k (Nat.lt_of_lt_of_le hk hb.size) h1 h2).trans (hb.block k hk),
    h.own.imp id (fun h => h.imp id (fun ⟨b, e, hl⟩ => ⟨b, e, Nat.le_trans hb.size hl⟩))⟩
theorem drew_below (w : World) : Below w.heap.size w w.drew := below_drew (Below.refl _ w)
set_option maxHeartbeats 400000 in
set_option maxRecDepth 1000000 in
theorem add_yes (B p : Nat) (x : S24) (A : Option Addr) (c : Nat) (xs : List S24) (w : World) (h : BO B p A c xs w) (hlen : xs.length ≤ 1000000) (hx : chkB x xs = 0) :
    Calls Tryz.prog 26 #[.pointer (some ⟨p, 0, none⟩), qA x] w fun e w' => e = .returned (.int .i64 0) ∧ ∃ A' c', BO B p A' c' (xs ++ [x]) w' ∧ Fr p (Value.slice A xs.length c).ownBlock (Value.slice A' (xs.length + 1) c').ownBlock w w' := by
  have hu24 := Tryz.underlying24
  have h0 := fun o => (h.bd.below (below_alloc (Below.refl _ w) o)).c0
  have HH := Lib.hid h
  have HL := Lib.hid hlen
  have HX := Lib.hid hx
  clear h hlen hx
  have hq : qA x = .agg #[.int .i64 x.f0, .int .i64 x.f1, .int .i64 x.f2, .int .i64 x.f3, .int .i64 x.f4, .int .i64 x.f5, .int .i64 x.f6, .int .i64 x.f7] := rfl
  have hcc := fun w (hh : BO B p A c xs w) => check_any p x A c xs w hh.bd hh.C HL.out
  rw [HX.out, hq] at hcc
  rw [hq]
  clear hq
  obtain ⟨x0, x1, x2, x3, x4, x5, x6, x7⟩ := x
  simp only at *
  have HCC := Lib.hid hcc
  clear hcc
  go_enter Tryz.func26, Tryz.ntmps26
  go_wp2_with (first
    | (go_at_call 34; refine (HCC.out _ (HH.out.below (below_alloc (Below.refl _ _) _))).mono ?_; rintro e W1 ⟨rfl, b1⟩))
  have B1 := bl2 (below_alloc (Below.refl _ w) _) b1
  have HI := Lib.hid (HH.out.below B1)
  have HD := Lib.hid (HI.out.below (drew_below W1))
  have hbx := Lib.hid (show ∀ (w' : World), Below W1.heap.size W1 w' → w'.cell? ⟨w.heap.size, 0, none⟩ = some (.int .i64 x0) ∧ w'.cell? ⟨w.heap.size, 1, none⟩ = some (.int .i64 x1) ∧ w'.cell? ⟨w.heap.size, 2, none⟩ = some (.int .i64 x2) ∧ w'.cell? ⟨w.heap.size, 3, none⟩ = some (.int .i64 x3) ∧ w'.cell? ⟨w.heap.size, 4, none⟩ = some (.int .i64 x4) ∧ w'.cell? ⟨w.heap.size, 5, none⟩ = some (.int .i64 x5) ∧ w'.cell? ⟨w.heap.size, 6, none⟩ = some (.int .i64 x6) ∧ w'.cell? ⟨w.heap.size, 7, none⟩ = some (.int .i64 x7) from fun w' hb => ⟨cell_below (cell_below (cell_new w _ 24 0 (.int .i64 x0) rfl) b1) hb, cell_below (cell_below (cell_new w _ 24 1 (.int .i64 x1) rfl) b1) hb, cell_below (cell_below (cell_new w _ 24 2 (.int .i64 x2) rfl) b1) hb, cell_below (cell_below (cell_new w _ 24 3 (.int .i64 x3) rfl) b1) hb, cell_below (cell_below (cell_new w _ 24 4 (.int .i64 x4) rfl) b1) hb, cell_below (cell_below (cell_new w _ 24 5 (.int .i64 x5) rfl) b1) hb, cell_below (cell_below (cell_new w _ 24 6 (.int .i64 x6) rfl) b1) hb, cell_below (cell_below (cell_new w _ 24 7 (.int .i64 x7) rfl) b1) hb⟩)
  have HSA := Lib.hid (show ∀ (w' : World) (o : Obj), (w'.cell? ⟨w.heap.size, 0, none⟩ = some (.int .i64 x0) ∧ w'.cell? ⟨w.heap.size, 1, none⟩ = some (.int .i64 x1) ∧ w'.cell? ⟨w.heap.size, 2, none⟩ = some (.int .i64 x2) ∧ w'.cell? ⟨w.heap.size, 3, none⟩ = some (.int .i64 x3) ∧ w'.cell? ⟨w.heap.size, 4, none⟩ = some (.int .i64 x4) ∧ w'.cell? ⟨w.heap.size, 5, none⟩ = some (.int .i64 x5) ∧ w'.cell? ⟨w.heap.size, 6, none⟩ = some (.int .i64 x6) ∧ w'.cell? ⟨w.heap.size, 7, none⟩ = some (.int .i64 x7)) → ((w'.alloc o).cell? ⟨w.heap.size, 0, none⟩ = some (.int .i64 x0) ∧ (w'.alloc o).cell? ⟨w.heap.size, 1, none⟩ = some (.int .i64 x1) ∧ (w'.alloc o).cell? ⟨w.heap.size, 2, none⟩ = some (.int .i64 x2) ∧ (w'.alloc o).cell? ⟨w.heap.size, 3, none⟩ = some (.int .i64 x3) ∧ (w'.alloc o).cell? ⟨w.heap.size, 4, none⟩ = some (.int .i64 x4) ∧ (w'.alloc o).cell? ⟨w.heap.size, 5, none⟩ = some (.int .i64 x5) ∧ (w'.alloc o).cell? ⟨w.heap.size, 6, none⟩ = some (.int .i64 x6) ∧ (w'.alloc o).cell? ⟨w.heap.size, 7, none⟩ = some (.int .i64 x7)) from fun w' o h => ⟨cell_alloc h.1 o, cell_alloc h.2.1 o, cell_alloc h.2.2.1 o, cell_alloc h.2.2.2.1 o, cell_alloc h.2.2.2.2.1 o, cell_alloc h.2.2.2.2.2.1 o, cell_alloc h.2.2.2.2.2.2.1 o, cell_alloc h.2.2.2.2.2.2.2 o⟩)
  have HNP := Lib.hid (show w.heap.size ≠ p from fun e => by have := HH.out.bd.lt; omega)
  have HST := Lib.hid (show ∀ (w' : World) (u : Value), (w'.cell? ⟨w.heap.size, 0, none⟩ = some (.int .i64 x0) ∧ w'.cell? ⟨w.heap.size, 1, none⟩ = some (.int .i64 x1) ∧ w'.cell? ⟨w.heap.size, 2, none⟩ = some (.int .i64 x2) ∧ w'.cell? ⟨w.heap.size, 3, none⟩ = some (.int .i64 x3) ∧ w'.cell? ⟨w.heap.size, 4, none⟩ = some (.int .i64 x4) ∧ w'.cell? ⟨w.heap.size, 5, none⟩ = some (.int .i64 x5) ∧ w'.cell? ⟨w.heap.size, 6, none⟩ = some (.int .i64 x6) ∧ w'.cell? ⟨w.heap.size, 7, none⟩ = some (.int .i64 x7)) → ((w'.setCell ⟨p, 0, none⟩ u).cell? ⟨w.heap.size, 0, none⟩ = some (.int .i64 x0) ∧ (w'.setCell ⟨p, 0, none⟩ u).cell? ⟨w.heap.size, 1, none⟩ = some (.int .i64 x1) ∧ (w'.setCell ⟨p, 0, none⟩ u).cell? ⟨w.heap.size, 2, none⟩ = some (.int .i64 x2) ∧ (w'.setCell ⟨p, 0, none⟩ u).cell? ⟨w.heap.size, 3, none⟩ = some (.int .i64 x3) ∧ (w'.setCell ⟨p, 0, none⟩ u).cell? ⟨w.heap.size, 4, none⟩ = some (.int .i64 x4) ∧ (w'.setCell ⟨p, 0, none⟩ u).cell? ⟨w.heap.size, 5, none⟩ = some (.int .i64 x5) ∧ (w'.setCell ⟨p, 0, none⟩ u).cell? ⟨w.heap.size, 6, none⟩ = some (.int .i64 x6) ∧ (w'.setCell ⟨p, 0, none⟩ u).cell? ⟨w.heap.size, 7, none⟩ = some (.int .i64 x7)) from fun w' u h => ⟨set_cell h.1 HNP.out u, set_cell h.2.1 HNP.out u, set_cell h.2.2.1 HNP.out u, set_cell h.2.2.2.1 HNP.out u, set_cell h.2.2.2.2.1 HNP.out u, set_cell h.2.2.2.2.2.1 HNP.out u, set_cell h.2.2.2.2.2.2.1 HNP.out u, set_cell h.2.2.2.2.2.2.2 HNP.out u⟩)
  have hSD := hbx.out _ (drew_below W1)
  have hSDQ := Lib.hid hSD
  have HNB := Lib.hid (show some w.heap.size ≠ (Value.slice A xs.length c).ownBlock from fun e => Nat.lt_irrefl _ (Kd.R_lt HH.out.r _ e.symm))
  have hG : W1.drew.cell? ⟨p, 0, none⟩ = some (.slice A xs.length c) := HD.out.bd.c0
  have hGA := fun o => cell_alloc hG o
  have HSD := Lib.hid (fun o : Obj => hbx.out (W1.alloc o).drew ((below_alloc (Below.refl _ W1) o).drew))
  have hGB := fun o : Obj => (HI.out.bd.below ((below_alloc (Below.refl _ W1) o).drew)).c0
  have k0 := hbx.out _ (Below.refl _ W1)
  have HU := Lib.hid (show (xs.length + 1) * 64 ≤ 140737488355328 by have := HL.out; omega)
  have HFR := Lib.hid (show ∀ k, W1.drew.heap.size ≤ k → k ≠ p from fun k hk e => by subst e; exact absurd HD.out.bd.lt (Nat.not_lt.2 hk))
  have HLE := Lib.hid (show B ≤ W1.drew.heap.size from Nat.le_trans HD.out.le (Nat.le_of_lt HD.out.bd.lt))
  conv => arg 2; arg 2; arg 1; arg 2; arg 2; arg 2; arg 2; arg 1; arg 2; change id _
  go_region_held3 (fun w' : World => w'.cell? ⟨w.heap.size, 0, none⟩ = some (.int .i64 x0) ∧ w'.cell? ⟨w.heap.size, 1, none⟩ = some (.int .i64 x1) ∧ w'.cell? ⟨w.heap.size, 2, none⟩ = some (.int .i64 x2) ∧ w'.cell? ⟨w.heap.size, 3, none⟩ = some (.int .i64 x3) ∧ w'.cell? ⟨w.heap.size, 4, none⟩ = some (.int .i64 x4) ∧ w'.cell? ⟨w.heap.size, 5, none⟩ = some (.int .i64 x5) ∧ w'.cell? ⟨w.heap.size, 6, none⟩ = some (.int .i64 x6) ∧ w'.cell? ⟨w.heap.size, 7, none⟩ = some (.int .i64 x7))
    (first | with_reducible assumption | with_reducible exact HSD.out _ | with_reducible exact HSA.out _ _ (by with_reducible assumption) | with_reducible exact HST.out _ _ (by with_reducible assumption))
    (first | (refine Kd.R_append_step k24 (w0 := W1.drew) (W := W1.drew) B (by rfl) (.tmp 15) (.tmp 17) 27 24 (.agg #[(.int .i64 0), (.int .i64 0), (.int .i64 0), (.int .i64 0), (.int .i64 0), (.int .i64 0), (.int .i64 0), (.int .i64 0)]) 64 rfl Tryz.underlying27 info24 rfl (by decide) (by decide) (.slice A xs.length c) xs ⟨x0, x1, x2, x3, x4, x5, x6, x7⟩ [.int .i64 x0, .int .i64 x1, .int .i64 x2, .int .i64 x3, .int .i64 x4, .int .i64 x5, .int .i64 x6, .int .i64 x7] (fun k => k ≠ p) (fun _ => False) rfl rfl (k24_mkM _ _ _ _) (fun _ h => h.elim) HFR.out HD.out.r (Below.refl _ _) HLE.out HU.out ?_; intro v1 wz ho hb hg hat; obtain ⟨A', c', e⟩ := Kd.R_slice ho; subst e; have HZ := Lib.hid (HI.out.stored (drew_below W1) hg ho hat); have hbz := HD.out.cut hg; have fz := hbz.frz 0; have cz := hbz.c0; have kk := (show _ ∧ _ ∧ _ ∧ _ ∧ _ ∧ _ ∧ _ ∧ _ from ⟨keep_cell hg hSDQ.out.1 HNB.out, keep_cell hg hSDQ.out.2.1 HNB.out, keep_cell hg hSDQ.out.2.2.1 HNB.out, keep_cell hg hSDQ.out.2.2.2.1 HNB.out, keep_cell hg hSDQ.out.2.2.2.2.1 HNB.out, keep_cell hg hSDQ.out.2.2.2.2.2.1 HNB.out, keep_cell hg hSDQ.out.2.2.2.2.2.2.1 HNB.out, keep_cell hg hSDQ.out.2.2.2.2.2.2.2 HNB.out⟩); clear ho hb hg hat hbz))
  all_goals (go_wp2_with (fail); go_ret; have hz := HZ.out; rw [List.length_append, List.length_singleton] at hz; exact ⟨rfl, A', c', hz.1, Fr.after B1 hz.2⟩)
set_option maxHeartbeats 400000 in
set_option maxRecDepth 1000000 in
theorem add_no (B p : Nat) (x : S24) (A : Option Addr) (c : Nat) (xs : List S24) (w : World) (h : BO B p A c xs w) (hlen : xs.length ≤ 1000000) (hx : chkB x xs ≠ 0) :
    Calls Tryz.prog 26 #[.pointer (some ⟨p, 0, none⟩), qA x] w fun e w' => e = .returned (.int .i64 (chkB x xs)) ∧ Below w.heap.size w w' := by
  have hu24 := Tryz.underlying24
  have HH := Lib.hid h
  have HL := Lib.hid hlen
  have hcc := fun w (hh : BO B p A c xs w) => check_any p x A c xs w hh.bd hh.C HL.out
  have he : (chkB x xs == 0) = false := beq_eq_false_iff_ne.2 hx
  generalize chkB x xs = E at *
  clear h hlen hx
  have hq : qA x = .agg #[.int .i64 x.f0, .int .i64 x.f1, .int .i64 x.f2, .int .i64 x.f3, .int .i64 x.f4, .int .i64 x.f5, .int .i64 x.f6, .int .i64 x.f7] := rfl
  rw [hq] at hcc ⊢
  clear hq
  obtain ⟨x0, x1, x2, x3, x4, x5, x6, x7⟩ := x
  simp only at *
  have HCC := Lib.hid hcc
  clear hcc
  go_enter Tryz.func26, Tryz.ntmps26
  go_wp2_with (first
    | (go_at_call 34; refine (HCC.out _ (HH.out.below (below_alloc (Below.refl _ _) _))).mono ?_; rintro e W1 ⟨rfl, b1⟩))
  go_ret
  exact ⟨rfl, bl2 (below_alloc (Below.refl _ w) _) b1⟩
def addL (xs : List S24) (x : S24) : List S24 := if chkB x xs = 0 then xs ++ [x] else xs
theorem add_any (B p : Nat) (x : S24) (A : Option Addr) (c : Nat) (xs : List S24) (w : World) (h : BO B p A c xs w) (hlen : xs.length ≤ 1000000) :
    Calls Tryz.prog 26 #[.pointer (some ⟨p, 0, none⟩), qA x] w fun e w' => e = .returned (.int .i64 (chkB x xs)) ∧ ∃ A' c', BO B p A' c' (addL xs x) w' ∧ Fr p (Value.slice A xs.length c).ownBlock (Value.slice A' (addL xs x).length c').ownBlock w w' := by
  unfold addL
  by_cases hx : chkB x xs = 0
  · rw [if_pos hx, hx, List.length_append, List.length_singleton]
    exact add_yes B p x A c xs w h hlen hx
  · rw [if_neg hx]
    exact (add_no B p x A c xs w h hlen hx).mono fun e w' ⟨he, hb⟩ => ⟨he, A, c, h.below hb, Fr.of_below hb⟩
end Go.Proofs.YtlhdbcjlmkglkaaGreat.Q

/- The document's Check. -/
set_option linter.unusedSimpArgs false
set_option linter.unusedVariables false
namespace Go.Proofs.YtlhdbcjlmkglkaaGreat.Q
open Go Go.RowKit Go.Proofs Go.Proofs.YtlhdbcjlmkglkaaGreat.PL Go.Proofs.YtlhdbcjlmkglkaaGreatW.PrintWords
def msgCells (x : S24) : Array Value := #[.int .i64 8, .int .i64 0, .string ⟨#[]⟩, .string ⟨#[]⟩, .int .i64 0, .int .i64 0, .int .i64 0, .string ⟨#[]⟩, .int .i64 0, .int .i64 0, .string ⟨#[]⟩, .int .i64 0, .int .i64 0, .int .i64 0, .slice none 0 0, .int .i64 0, .int .i64 0, .slice none 0 0, .slice none 0 0, .int .i64 0, .string ⟨#[]⟩, .int .i64 0, .int .i64 x.f0, .int .i64 x.f1, .int .i64 x.f2, .int .i64 x.f3, .int .i64 x.f4, .int .i64 x.f5, .int .i64 x.f6, .int .i64 x.f7, .string ⟨#[]⟩, .int .i64 0, .slice none 0 0, .int .i64 0, .bool false, .int .i64 0]
set_option maxHeartbeats 1000000 in
set_option maxRecDepth 1000000 in
theorem msgR_walk (x : S24) (w : World) : Calls Tryz.prog 63 #[.agg (msgCells x)] w fun e w' => e = .returned (.int .i64 (chkE x)) ∧ Below w.heap.size w w' := by
  have hu24 := Tryz.underlying24
  have c1 := fun w => rmem_c x.f1 w
  have c2 := fun w => refQ_c x w
  unfold chkE
  unfold qA msgCells at *
  by_cases h : 1 ≤ x.f1 ∧ x.f1 ≤ 32
  · rw [if_pos h]
    rw [decide_eq_true h] at c1
    generalize qE x = E at *
    obtain ⟨x0, x1, x2, x3, x4, x5, x6, x7⟩ := x
    simp only at *
    clear h
    go_enter Tryz.func63, Tryz.ntmps63
    go_wp2_with (first
      | (go_at_call 80; refine (c1 _).mono ?_; rintro e W1 ⟨rfl, ⟨nd, rfl⟩⟩)
      | (go_at_call 81; refine (c2 _).mono ?_; rintro e W2 ⟨rfl, b2⟩))
    go_ret
    exact ⟨rfl, bl2 (pw_below_drewN (below_alloc (Below.refl _ _) _) _) b2⟩
  · rw [if_neg h]
    rw [decide_eq_false h] at c1
    obtain ⟨x0, x1, x2, x3, x4, x5, x6, x7⟩ := x
    simp only at *
    clear h
    go_enter Tryz.func63, Tryz.ntmps63
    go_wp2_with (first
      | (go_at_call 80; refine (c1 _).mono ?_; rintro e W1 ⟨rfl, ⟨nd, rfl⟩⟩))
    go_ret
    exact ⟨rfl, pw_below_drewN (below_alloc (Below.refl _ _) _) _⟩
theorem find_l (id : Int) (xs : List S24) (hl : xs.length ≤ 1000000) : ∀ (f k : Nat), xs.length ≤ k + f → lombardref21_Find.l0 (f + 1) xs id (k : Int) = some (idxF (fun x => x.f0 == id) (xs.drop k) (k : Int))
  | 0, k, h => by
    rw [lombardref21_Find.l0, if_neg (by omega), List.drop_eq_nil_of_le (by omega), idxF]
  | f + 1, k, h => by
    by_cases hk : k < xs.length
    · rw [lombardref21_Find.l0, if_pos (by omega), if_pos (by omega), rd_drop xs k hk, idxF]
      have hw : wrap64 ((k : Int) + 1) = ((k + 1 : Nat) : Int) := by rw [w64 _ (by omega)]; rfl
      by_cases he : (rd_T24 xs (k : Int)).f0 = id
      · rw [if_pos he, if_pos (beq_iff_eq.2 he)]
      · rw [if_neg he, if_neg (fun h => he (beq_iff_eq.1 h)), hw, find_l id xs hl f (k + 1) (by omega)]
        rfl
    · rw [lombardref21_Find.l0, if_neg (by omega), List.drop_eq_nil_of_le (by omega), idxF]
theorem find_f (id : Int) (xs : List S24) (hl : xs.length ≤ 1000000) : lombardref21_Find.f (xs.length + 1) xs id = some (findI id xs) := by
  have := find_l id xs hl xs.length 0 (by omega)
  rw [List.drop_zero] at this
  exact this
theorem rfind_c (id : Int) (A : Option Addr) (c : Nat) (xs : List S24) (w : World) (hC : Kd.C k24 w A xs.length xs) (hc : xs.length ≤ c) (hlen : xs.length ≤ 1000000) : Calls Tryz.prog 10 #[.slice A xs.length c, .int .i64 id] w fun e w' => e = .returned (.int .i64 (findI id xs)) ∧ Drawn0 w w' :=
  lombardref21_Find.calls _ A c xs id _ w hC hc (find_f id xs hlen)
set_option maxHeartbeats 400000 in
set_option maxRecDepth 1000000 in
theorem rcheck_any (x : S24) (A : Option Addr) (c : Nat) (xs : List S24) (w : World) (hC : Kd.C k24 w A xs.length xs) (hc : xs.length ≤ c) (hlen : xs.length ≤ 1000000) :
    Calls Tryz.prog 33 #[.slice A xs.length c, qA x] w fun e w' => e = .returned (.int .i64 (chkB x xs)) ∧ Below w.heap.size w w' := by
  have hu24 := Tryz.underlying24
  have c1 := fun w => msgR_walk x w
  obtain ⟨E, hE⟩ : ∃ E, chkE x = E := ⟨_, rfl⟩
  unfold chkB
  rw [hE] at c1 ⊢
  unfold qA msgCells at *
  have HC := Lib.hid hC
  have HL := Lib.hid (And.intro hc hlen)
  clear hC hc
  by_cases h : E ≠ 0
  · rw [if_pos h]
    have hne : (E != 0) = true := bne_iff_ne.2 h
    obtain ⟨x0, x1, x2, x3, x4, x5, x6, x7⟩ := x
    simp only at *
    clear h hE hlen
    go_enter Tryz.func33, Tryz.ntmps33
    go_wp2_with (first | (go_at_call 63; refine (c1 _).mono ?_; rintro e W1 ⟨rfl, b1⟩))
    go_ret
    exact ⟨rfl, bl2 (below_alloc (Below.refl _ _) _) b1⟩
  · rw [if_neg h]
    obtain rfl : E = 0 := Classical.not_not.1 h
    obtain ⟨F, hF⟩ : ∃ F, findI x.f0 xs = F := ⟨_, rfl⟩
    rw [hF]
    obtain ⟨x0, x1, x2, x3, x4, x5, x6, x7⟩ := x
    simp only at *
    have HF := Lib.hid (fun w (hC : Kd.C k24 w A xs.length xs) => rfind_c x0 A c xs w hC HL.out.1 HL.out.2)
    rw [hF] at HF
    clear h hE hF
    by_cases hf : F ≥ 0
    · rw [if_pos hf]
      have df : decide (0 ≤ F) = true := decide_eq_true hf
      clear hf hlen
      go_enter Tryz.func33, Tryz.ntmps33
      go_wp2_with (first
        | (have Y := b1; go_at_call 10; refine (HF.out _ (Kd.C_below HC.out B1)).mono ?_; rintro e W2 ⟨rfl, ⟨nd, rfl⟩⟩)
        | (go_at_call 63; refine (c1 _).mono ?_; rintro e W1 ⟨rfl, b1⟩; have B1 := bl2 (below_alloc (Below.refl _ w) _) b1; have kx := cell_below (cell_new w _ 24 0 (.int .i64 x0) rfl) b1))
      go_ret
      exact ⟨rfl, pw_below_drewN B1 _⟩
    · rw [if_neg hf]
      have df : decide (0 ≤ F) = false := decide_eq_false hf
      clear hf
      by_cases hl : xs.length ≥ 64
      · rw [if_pos hl]
        have dl : decide (64 ≤ (xs.length : Int)) = true := decide_eq_true (by omega)
        have dl' : decide (64 ≤ xs.length) = true := decide_eq_true hl
        clear hlen hl
        go_enter Tryz.func33, Tryz.ntmps33
        go_wp2_with (first
          | (have Y := b1; go_at_call 10; refine (HF.out _ (Kd.C_below HC.out B1)).mono ?_; rintro e W2 ⟨rfl, ⟨nd, rfl⟩⟩)
          | (go_at_call 63; refine (c1 _).mono ?_; rintro e W1 ⟨rfl, b1⟩; have B1 := bl2 (below_alloc (Below.refl _ w) _) b1; have kx := cell_below (cell_new w _ 24 0 (.int .i64 x0) rfl) b1))
        go_ret
        exact ⟨rfl, pw_below_drewN B1 _⟩
      · rw [if_neg hl]
        have dl : decide (64 ≤ (xs.length : Int)) = false := decide_eq_false (by omega)
        have dl' : decide (64 ≤ xs.length) = false := decide_eq_false hl
        clear hlen hl
        go_enter Tryz.func33, Tryz.ntmps33
        go_wp2_with (first
          | (have Y := b1; go_at_call 10; refine (HF.out _ (Kd.C_below HC.out B1)).mono ?_; rintro e W2 ⟨rfl, ⟨nd, rfl⟩⟩)
          | (go_at_call 63; refine (c1 _).mono ?_; rintro e W1 ⟨rfl, b1⟩; have B1 := bl2 (below_alloc (Below.refl _ w) _) b1; have kx := cell_below (cell_new w _ 24 0 (.int .i64 x0) rfl) b1))
        go_ret
        exact ⟨rfl, pw_below_drewN B1 _⟩
end Go.Proofs.YtlhdbcjlmkglkaaGreat.Q
