/- Part 27 of the proof's texts: what the theorem needs of them. -/
import Derived.Test.YtoknlpecbdlbfaaSCOf25
import Derived.Test.YtoknlpecbdlbfaaSCOf26
import Derived.WalkLawsBesides
import Derived.WalkSpells
import Derived.StillTailTactics
import Derived.Deep.RegionHeld3
import Derived.Deep.DrawnRows
import Derived.Lib.Hide
import Derived.OpenShut
import Derived.Sort.AtCall
import Derived.Deep.DeepMust

/- The ledger's own functions, walked: New, made, Balance, put, move: what they answer, and what becomes of the map. -/
namespace Go.Proofs.Ytoknlpecbdlbfaa.PL
open Go.RowKit Go.Proofs.YtoknlpecbdlbfaaW.PrintWords Go.Proofs.YtoknlpecbdlbfaaW.PrintLast
/-- A ledger at block g, its map at block b. -/
structure LG (w : World) (g b : Nat) (M : List (S42 × Int)) : Prop where
  blk : w.heap[g]? = some (.cells #[.map (some b)] 62 (0, 0))
  map : LM w b M
theorem LG.cell {w : World} {g b : Nat} {M : List (S42 × Int)} (h : LG w g b M) : w.cell? ⟨g, 0, none⟩ = some (.map (some b)) := by
  simp [World.cell?, h.blk]
theorem LG.ne {w : World} {g b : Nat} {M : List (S42 × Int)} (h : LG w g b M) : g ≠ b := by
  rintro rfl
  obtain ⟨es, clock, hb, _⟩ := h.map
  rw [h.blk] at hb
  cases hb
theorem LG.glt {w : World} {g b : Nat} {M : List (S42 × Int)} (h : LG w g b M) : g < w.heap.size := (Array.getElem?_eq_some_iff.1 h.blk).1
theorem LG.below {w w' : World} {g b : Nat} {M : List (S42 × Int)} (h : LG w g b M) (hb : Below w.heap.size w w') : LG w' g b M := ⟨(hb.block g h.glt).trans h.blk, h.map.below hb⟩
theorem LG.grown {w w' : World} {g b : Nat} {M : List (S42 × Int)} {row : Option Nat} (h : LG w g b M) (hg : w.grownBy w' row) (h1 : some g ≠ row) (h2 : some b ≠ row) : LG w' g b M := ⟨(hg.block g h.glt h1).trans h.blk, h.map.grown hg h2⟩

set_option maxRecDepth 100000 in
theorem made_any (g b : Nat) (w : World) (hc : w.cell? ⟨g, 0, none⟩ = some (.map (some b))) : Calls Try.prog 58 #[.pointer (some ⟨g, 0, none⟩)] w fun e w' => e = .returned (.bool true) ∧ w = w' := by
  have hm := fun r w => run_neq_map_nil (P := Try.prog) w 60 42 3 r Try.underlying60
  go_enter Try.func58, Try.ntmps58
  go_wp2
  go_ret
  exact ⟨rfl, rfl⟩
set_option maxRecDepth 100000 in
/-- New. -/
theorem new_any (w : World) : Calls Try.prog 17 #[] w fun e w' => e = .returned (.pointer (some ⟨w.heap.size + 1, 0, none⟩)) ∧ LG w' (w.heap.size + 1) w.heap.size [] ∧ Below w.heap.size w w' := by
  have hmm := @run_makeMap Try.prog
  go_enter Try.func17, Try.ntmps17
  go_wp2
  go_ret
  refine ⟨rfl, ⟨?_, ⟨#[], 0, ?_, ⟨by simp, Go.MapKept.stamped_empty 0, by simp⟩, rfl⟩⟩, ((Below.refl _ _).alloc (Nat.le_refl _) _).alloc (by simp) _⟩
  · have h := (Go.MapKept.heap_alloc (w.alloc (.map #[] 0)) (.cells #[.map (some w.heap.size)] 62)).1
    simpa using h
  · rw [(Go.MapKept.heap_alloc (w.alloc (.map #[] 0)) (.cells #[.map (some w.heap.size)] 62)).2 _ (by simp)]
    exact (Go.MapKept.heap_alloc w _).1
set_option maxRecDepth 100000 in
/-- Balance. -/
theorem balance_walk (g b : Nat) (a0 a1 : Int) (a2 : ByteArray) (v : Int) (w : World) (hc : w.cell? ⟨g, 0, none⟩ = some (.map (some b))) (hgl : g < w.heap.size)
    (hl : ∀ n, (Instr.lookup 60 (.map (some b)) (.agg #[.int .i64 a0, .int .i64 a1, .string a2]) false).run Try.prog ((w.alloc (.cells #[.int .i64 a0, .int .i64 a1, .string a2] 42)).drewN n) = .ok (.int .i64 v) ((w.alloc (.cells #[.int .i64 a0, .int .i64 a1, .string a2] 42)).drewN n)) :
    Calls Try.prog 25 #[.pointer (some ⟨g, 0, none⟩), .agg #[.int .i64 a0, .int .i64 a1, .string a2]] w fun e w' => e = .returned (.int .i64 v) ∧ Below w.heap.size w w' := by
  have hc' : (w.alloc (.cells #[.int .i64 a0, .int .i64 a1, .string a2] 42)).cell? ⟨g, 0, none⟩ = some (.map (some b)) := by
    rw [((Below.refl w.heap.size w).alloc (Nat.le_refl _) _).cell (p := ⟨g, 0, none⟩) hgl]; exact hc
  go_enter Try.func25, Try.ntmps25
  go_wp2_with (go_at_call 58; refine (made_any g b _ hc').mono ?_; rintro e w1 ⟨rfl, rfl⟩)
  have k0 : (w.alloc (.cells #[.int .i64 a0, .int .i64 a1, .string a2] 42)).cell? ⟨w.heap.size, 0, none⟩ = some (.int .i64 a0) := by simp
  have k1 : (w.alloc (.cells #[.int .i64 a0, .int .i64 a1, .string a2] 42)).cell? ⟨w.heap.size, 1, none⟩ = some (.int .i64 a1) := by simp
  have k2 : (w.alloc (.cells #[.int .i64 a0, .int .i64 a1, .string a2] 42)).cell? ⟨w.heap.size, 2, none⟩ = some (.string a2) := by simp
  have hb : Below w.heap.size w (w.alloc (.cells #[.int .i64 a0, .int .i64 a1, .string a2] 42)) := (Below.refl _ _).alloc (Nat.le_refl _) _
  clear hc
  have HB := Lib.hid hb
  clear hb hgl
  generalize w.alloc (.cells #[.int .i64 a0, .int .i64 a1, .string a2] 42) = W at hl hc' k0 k1 k2 HB ⊢
  go_quiet (fail)
  go_wp2
  go_ret
  exact ⟨rfl, pw_below_drewN HB.out _⟩
/-- Balance. -/
theorem balance_any {g b : Nat} {M : List (S42 × Int)} {w : World} (h : LG w g b M) {a : S42} (ha : Wfa a) :
    Calls Try.prog 25 #[.pointer (some ⟨g, 0, none⟩), kv a] w fun e w' => e = .returned (.int .i64 (getM M a)) ∧ Below w.heap.size w w' :=
  balance_walk g b a.f0 a.f1 a.f2 (getM M a) w h.cell h.glt (fun n => by
    have h1 : LM ((w.alloc (.cells #[.int .i64 a.f0, .int .i64 a.f1, .string a.f2] 42)).drewN n) b M := (h.map.below ((Below.refl _ _).alloc (Nat.le_refl _) _)).move rfl
    exact h1.lookup ha)
set_option maxRecDepth 100000 in
/-- put, n not 0. -/
theorem put_walk (g b : Nat) (a0 a1 : Int) (a2 : ByteArray) (n : Int) (hn : n ≠ 0) (w : World) (R : World → Prop) (hc : w.cell? ⟨g, 0, none⟩ = some (.map (some b))) (hgl : g < w.heap.size)
    (hl : ∀ k, ∃ w', (Instr.mapUpdate 60 (.map (some b)) (.agg #[.int .i64 a0, .int .i64 a1, .string a2]) (.int .i64 n)).run Try.prog ((w.alloc (.cells #[.int .i64 a0, .int .i64 a1, .string a2] 42)).drewN k) = .ok () w' ∧ R w') :
    Calls Try.prog 60 #[.pointer (some ⟨g, 0, none⟩), .agg #[.int .i64 a0, .int .i64 a1, .string a2], .int .i64 n] w fun e w' => e = .returned (.tuple #[]) ∧ R w' := by
  have hc' : (w.alloc (.cells #[.int .i64 a0, .int .i64 a1, .string a2] 42)).cell? ⟨g, 0, none⟩ = some (.map (some b)) := by
    rw [((Below.refl w.heap.size w).alloc (Nat.le_refl _) _).cell (p := ⟨g, 0, none⟩) hgl]; exact hc
  have k0 : (w.alloc (.cells #[.int .i64 a0, .int .i64 a1, .string a2] 42)).cell? ⟨w.heap.size, 0, none⟩ = some (.int .i64 a0) := by simp
  have k1 : (w.alloc (.cells #[.int .i64 a0, .int .i64 a1, .string a2] 42)).cell? ⟨w.heap.size, 1, none⟩ = some (.int .i64 a1) := by simp
  have k2 : (w.alloc (.cells #[.int .i64 a0, .int .i64 a1, .string a2] 42)).cell? ⟨w.heap.size, 2, none⟩ = some (.string a2) := by simp
  have hn' : (n == 0) = false := by simp [hn]
  clear hc hn
  have HL := Lib.hid hl
  clear hl
  go_enter Try.func60, Try.ntmps60
  go_wp2
  generalize w.alloc (.cells #[.int .i64 a0, .int .i64 a1, .string a2] 42) = W at HL hc' k0 k1 k2 ⊢
  generalize hG : w.heap.size = G at k0 k1 k2 ⊢
  clear hG hgl
  go_still_tail 6, (by kernel_rfl)
  obtain ⟨w1, hrun, hR⟩ := HL.out 1
  clear HL
  have HR := Lib.hid hR
  clear hR
  show wpList _ _ _ _ _ (W.drewN 1)
  go_wp2
  go_end0
  exact ⟨rfl, HR.out⟩
set_option maxRecDepth 100000 in
/-- put, n 0. -/
theorem del_walk (g b : Nat) (a0 a1 : Int) (a2 : ByteArray) (w : World) (R : World → Prop) (hc : w.cell? ⟨g, 0, none⟩ = some (.map (some b))) (hgl : g < w.heap.size)
    (hl : ∀ k, ∃ w', (Builtin.delete_ #[60, 42] 0 #[.map (some b), .agg #[.int .i64 a0, .int .i64 a1, .string a2]]).run Try.prog ((w.alloc (.cells #[.int .i64 a0, .int .i64 a1, .string a2] 42)).drewN k) = .ok (.tuple #[]) w' ∧ R w') :
    Calls Try.prog 60 #[.pointer (some ⟨g, 0, none⟩), .agg #[.int .i64 a0, .int .i64 a1, .string a2], .int .i64 0] w fun e w' => e = .returned (.tuple #[]) ∧ R w' := by
  have hc' : (w.alloc (.cells #[.int .i64 a0, .int .i64 a1, .string a2] 42)).cell? ⟨g, 0, none⟩ = some (.map (some b)) := by
    rw [((Below.refl w.heap.size w).alloc (Nat.le_refl _) _).cell (p := ⟨g, 0, none⟩) hgl]; exact hc
  have k0 : (w.alloc (.cells #[.int .i64 a0, .int .i64 a1, .string a2] 42)).cell? ⟨w.heap.size, 0, none⟩ = some (.int .i64 a0) := by simp
  have k1 : (w.alloc (.cells #[.int .i64 a0, .int .i64 a1, .string a2] 42)).cell? ⟨w.heap.size, 1, none⟩ = some (.int .i64 a1) := by simp
  have k2 : (w.alloc (.cells #[.int .i64 a0, .int .i64 a1, .string a2] 42)).cell? ⟨w.heap.size, 2, none⟩ = some (.string a2) := by simp
  clear hc
  have HL := Lib.hid hl
  clear hl
  go_enter Try.func60, Try.ntmps60
  go_wp2
  generalize w.alloc (.cells #[.int .i64 a0, .int .i64 a1, .string a2] 42) = W at HL hc' k0 k1 k2 ⊢
  generalize hG : w.heap.size = G at k0 k1 k2 ⊢
  clear hG hgl
  go_still_tail 5, (by kernel_rfl)
  obtain ⟨w1, hrun, hR⟩ := HL.out 1
  clear HL
  have HR := Lib.hid hR
  clear hR
  show wpList _ _ _ _ _ (W.drewN 1)
  go_wp2
  exact bodyPost_ret (results_none rfl _ _ _) rfl ⟨rfl, HR.out⟩
/-- What put makes of the map. -/
def putM (M : List (S42 × Int)) (a : S42) (n : Int) : List (S42 × Int) := if n = 0 then delM M a else setM M a n
theorem grown_box {w w1 : World} {b k : Nat} (o : Obj) (h : ((w.alloc o).drewN k).grownBy w1 (some b)) : w.grownBy w1 (some b) := by
  have h0 : w.grownBy ((w.alloc o).drewN k) none := ⟨rfl, rfl, rfl, by simp, fun j hj _ => Below.heap_alloc _ _ _ hj⟩
  exact (World.grownBy.but h0 (some b)).andThen h (fun j hj => .inr hj)
theorem put_any {g b : Nat} {M : List (S42 × Int)} {w : World} (h : LG w g b M) {a : S42} (ha : Wfa a) {n : Int} (hn : (Lit.int .i64 n).wf = true) (hroom : M.length < maxLen) :
    Calls Try.prog 60 #[.pointer (some ⟨g, 0, none⟩), kv a, .int .i64 n] w fun e w' => e = .returned (.tuple #[]) ∧ LG w' g b (putM M a n) ∧ w.grownBy w' (some b) := by
  have h1 : ∀ k, LG ((w.alloc (.cells #[.int .i64 a.f0, .int .i64 a.f1, .string a.f2] 42)).drewN k) g b M := fun k => by
    have := h.below ((Below.refl w.heap.size w).alloc (Nat.le_refl _) (.cells #[.int .i64 a.f0, .int .i64 a.f1, .string a.f2] 42))
    exact ⟨this.blk, this.map.move rfl⟩
  by_cases h0 : n = 0
  · subst h0
    unfold putM
    rw [if_pos rfl]
    refine del_walk g b a.f0 a.f1 a.f2 w (fun w' => LG w' g b (delM M a) ∧ w.grownBy w' (some b)) h.cell h.glt (fun k => ?_)
    obtain ⟨w', hr, hm, hg, hs⟩ := (h1 k).map.drop ha 0
    exact ⟨w', hr, ⟨(hg.block g (h1 k).glt (fun e => h.ne (by cases e; rfl))).trans (h1 k).blk, hm⟩, grown_box _ hg⟩
  · unfold putM
    rw [if_neg h0]
    refine put_walk g b a.f0 a.f1 a.f2 n h0 w (fun w' => LG w' g b (setM M a n) ∧ w.grownBy w' (some b)) h.cell h.glt (fun k => ?_)
    obtain ⟨w', hr, hm, hg, hs⟩ := (h1 k).map.store ha hn hroom
    exact ⟨w', hr, ⟨(hg.block g (h1 k).glt (fun e => h.ne (by cases e; rfl))).trans (h1 k).blk, hm⟩, grown_box _ hg⟩
end Go.Proofs.Ytoknlpecbdlbfaa.PL

/- The ledger's move and Post, walked: every entry, or which can't be done; and the map behind it. -/
namespace Go.Proofs.Ytoknlpecbdlbfaa.PL
open Go.RowKit Go.Proofs.YtoknlpecbdlbfaaW.PrintWords Go.Proofs.YtoknlpecbdlbfaaW.PrintLast

def goodI (a : S42) : Int := if a.f0 < 0 ∨ 64 < a.f0 ∨ a.f1 < 0 ∨ 1125899906842624 < a.f1 then 22 else if a.f2.toList = [] ∨ 40 < a.f2.size then 21 else 0
def checkI (e : S107) : Int := if e.f2 < 1 ∨ 1125899906842624 < e.f2 then 1 else if goodI e.f0 ≠ 0 then goodI e.f0 else if goodI e.f1 ≠ 0 then goodI e.f1 else if e.f0.f2.toList = e.f1.f2.toList then 0 else 21
theorem good_f (a : S42) (k : Nat) : ledger_good.f (k + 1) a.f0 a.f1 a.f2 = some (goodI a) := by
  unfold ledger_good.f goodI
  simp only [ledger_good.j0]
  by_cases h1 : a.f0 < 0
  · rw [if_pos h1, if_pos trivial, if_pos (.inl h1)]
  rw [if_neg h1]
  by_cases h2 : a.f0 > 64
  · rw [if_pos h2, if_pos trivial, if_pos (.inr (.inl h2))]
  rw [if_neg h2]
  by_cases h3 : a.f1 < 0
  · rw [if_pos h3, if_pos trivial, if_pos (.inr (.inr (.inl h3)))]
  rw [if_neg h3]
  by_cases h4 : a.f1 > 1125899906842624
  · have hd : decide (a.f1 > 1125899906842624) = true := by simpa using h4
    rw [if_pos hd, if_pos (.inr (.inr (.inr h4)))]
  have hh : ¬ (a.f0 < 0 ∨ 64 < a.f0 ∨ a.f1 < 0 ∨ 1125899906842624 < a.f1) := by omega
  have hd : ¬ (decide (a.f1 > 1125899906842624) = true) := by simpa using h4
  rw [if_neg hh, if_neg hd]
  by_cases h5 : a.f2.toList = []
  · have h6 : a.f2.toList = [] ∨ 40 < a.f2.size := .inl h5
    rw [if_pos h5, if_pos h6]
  rw [if_neg h5]
  by_cases h6 : (a.f2.size : Int) > 40
  · have h7 : a.f2.toList = [] ∨ 40 < a.f2.size := .inr (by omega)
    rw [if_pos h6, if_pos h7]
  · have h7 : ¬ (a.f2.toList = [] ∨ 40 < a.f2.size) := by
      rintro (h | h)
      · exact h5 h
      · omega
    rw [if_neg h6, if_neg h7]
theorem check_f (e : S107) (k : Nat) : ledger_check.f (k + 2) e.f0.f0 e.f0.f1 e.f0.f2 e.f1.f0 e.f1.f1 e.f1.f2 e.f2 = some (checkI e) := by
  unfold ledger_check.f checkI
  simp only [ledger_check.j0]
  by_cases h1 : e.f2 < 1
  · rw [if_pos h1, if_pos trivial, if_pos (.inl h1)]
  rw [if_neg h1]
  by_cases h2 : e.f2 > 1125899906842624
  · have hd : decide (e.f2 > 1125899906842624) = true := by simpa using h2
    rw [if_pos hd, if_pos (.inr h2)]
  have hh : ¬ (e.f2 < 1 ∨ 1125899906842624 < e.f2) := by omega
  have hd : ¬ (decide (e.f2 > 1125899906842624) = true) := by simpa using h2
  rw [if_neg hh, if_neg hd, good_f e.f0 k, good_f e.f1 k]
  simp only [Option.bind_some]
  by_cases h3 : goodI e.f0 = 0
  · have h3' : ¬ (goodI e.f0 ≠ 0) := fun h => h h3
    rw [if_pos h3, if_neg h3']
    by_cases h4 : goodI e.f1 = 0
    · have h4' : ¬ (goodI e.f1 ≠ 0) := fun h => h h4
      rw [if_pos h4, if_neg h4']
      split <;> rfl
    · rw [if_neg h4, if_pos h4]
  · rw [if_neg h3, if_pos h3]
theorem check_any (e : S107) (w : World) : Calls Try.prog 80 #[.agg #[.int .i64 e.f0.f0, .int .i64 e.f0.f1, .string e.f0.f2, .int .i64 e.f1.f0, .int .i64 e.f1.f1, .string e.f1.f2, .int .i64 e.f2]] w fun o w' => o = .returned (.int .i64 (checkI e)) ∧ Below w.heap.size w w' :=
  ledger_check.calls 2 _ _ _ _ _ _ _ _ w (check_f e 0)
theorem wf_i64 {n : Int} (h1 : -9223372036854775808 ≤ n) (h2 : n ≤ 9223372036854775807) : (Lit.int .i64 n).wf = true := by
  simp [Lit.wf, IntKind.min, IntKind.max, IntKind.bits, IntKind.signed]
  omega
theorem good_wf {a : S42} (h : goodI a = 0) : Wfa a ∧ 0 ≤ a.f0 ∧ a.f0 ≤ 64 ∧ 0 ≤ a.f1 ∧ a.f1 ≤ 1125899906842624 ∧ a.f2.toList ≠ [] ∧ a.f2.size ≤ 40 := by
  unfold goodI at h
  by_cases h1 : a.f0 < 0 ∨ 64 < a.f0 ∨ a.f1 < 0 ∨ 1125899906842624 < a.f1
  · rw [if_pos h1] at h; omega
  · rw [if_neg h1] at h
    by_cases h2 : a.f2.toList = [] ∨ 40 < a.f2.size
    · rw [if_pos h2] at h; omega
    · simp only [not_or] at h1 h2
      refine ⟨⟨wf_i64 (by omega) (by omega), wf_i64 (by omega) (by omega), by unfold maxLen; omega⟩, by omega, by omega, by omega, by omega, h2.1, by omega⟩
/-- What move answers, and what it makes of the map. -/
def moveM (M : List (S42 × Int)) (e : S107) : List (S42 × Int) × Int :=
  if checkI e ≠ 0 then (M, checkI e)
  else if e.f0.f0 ≠ 0 ∧ getM M e.f0 - e.f2 < 0 then (M, 20)
  else if getM M e.f0 - e.f2 < -72057594037927936 then (M, 9)
  else if 72057594037927936 < getM (putM M e.f0 (getM M e.f0 - e.f2)) e.f1 + e.f2 then (putM (putM M e.f0 (getM M e.f0 - e.f2)) e.f0 (getM M e.f0 - e.f2 + e.f2), 9)
  else (putM (putM M e.f0 (getM M e.f0 - e.f2)) e.f1 (getM (putM M e.f0 (getM M e.f0 - e.f2)) e.f1 + e.f2), 0)
end Go.Proofs.Ytoknlpecbdlbfaa.PL

/- The ledger's move, walked. -/
namespace Go.Proofs.Ytoknlpecbdlbfaa.PL
open Go.RowKit Go.Proofs.YtoknlpecbdlbfaaW.PrintWords Go.Proofs.YtoknlpecbdlbfaaW.PrintLast
theorem grown_below {w w' : World} (h : Below w.heap.size w w') (row : Option Nat) : w.grownBy w' row := ⟨h.os, h.tape, h.output, h.size, fun j hj _ => h.block j hj⟩
theorem grown_drewN (w : World) (k : Nat) (row : Option Nat) : w.grownBy (w.drewN k) row := ⟨rfl, rfl, rfl, Nat.le_refl _, fun _ _ _ => rfl⟩
/-- An entry's value. -/
def ev (e : S107) : Value := .agg #[.int .i64 e.f0.f0, .int .i64 e.f0.f1, .string e.f0.f2, .int .i64 e.f1.f0, .int .i64 e.f1.f1, .string e.f1.f2, .int .i64 e.f2]
/-- While move runs: the ledger, the entry's own block, and what became of all else. -/
structure MV (w0 w : World) (g b G : Nat) (M : List (S42 × Int)) (e : S107) : Prop where
  lg : LG w g b M
  box : w.heap[G]? = some (.cells #[.int .i64 e.f0.f0, .int .i64 e.f0.f1, .string e.f0.f2, .int .i64 e.f1.f0, .int .i64 e.f1.f1, .string e.f1.f2, .int .i64 e.f2] 107 (0, 0))
  ge : w0.heap.size ≤ G
  grown : w0.grownBy w (some b)
theorem MV.start {w : World} {g b : Nat} {M : List (S42 × Int)} (e : S107) (h : LG w g b M) : MV w (w.alloc (.cells #[.int .i64 e.f0.f0, .int .i64 e.f0.f1, .string e.f0.f2, .int .i64 e.f1.f0, .int .i64 e.f1.f1, .string e.f1.f2, .int .i64 e.f2] 107)) g b w.heap.size M e := by
  have hb := (Below.refl w.heap.size w).alloc (Nat.le_refl _) (.cells #[.int .i64 e.f0.f0, .int .i64 e.f0.f1, .string e.f0.f2, .int .i64 e.f1.f0, .int .i64 e.f1.f1, .string e.f1.f2, .int .i64 e.f2] 107)
  exact ⟨h.below hb, (Go.MapKept.heap_alloc w _).1, Nat.le_refl _, grown_below hb _⟩
theorem MV.lt {w0 w : World} {g b G : Nat} {M : List (S42 × Int)} {e : S107} (h : MV w0 w g b G M e) : G < w.heap.size := (Array.getElem?_eq_some_iff.1 h.box).1
theorem MV.ne {w0 w : World} {g b G : Nat} {M : List (S42 × Int)} {e : S107} (h : MV w0 w g b G M e) : G ≠ b := by
  rintro rfl
  obtain ⟨es, clock, hb, _⟩ := h.lg.map
  rw [h.box] at hb
  cases hb
theorem MV.drewN {w0 w : World} {g b G : Nat} {M : List (S42 × Int)} {e : S107} (h : MV w0 w g b G M e) (k : Nat) : MV w0 (w.drewN k) g b G M e :=
  ⟨⟨h.lg.blk, h.lg.map.move rfl⟩, h.box, h.ge, h.grown.andThen (grown_drewN _ _ _) (fun _ hj => .inr hj)⟩
theorem MV.below {w0 w w' : World} {g b G : Nat} {M : List (S42 × Int)} {e : S107} (h : MV w0 w g b G M e) (hb : Below w.heap.size w w') : MV w0 w' g b G M e :=
  ⟨h.lg.below hb, (hb.block G h.lt).trans h.box, h.ge, h.grown.andThen (grown_below hb _) (fun _ hj => .inr hj)⟩
theorem MV.grow {w0 w w' : World} {g b G : Nat} {M M' : List (S42 × Int)} {e : S107} (h : MV w0 w g b G M e) (hl : LG w' g b M') (hb : w.grownBy w' (some b)) : MV w0 w' g b G M' e :=
  ⟨hl, (hb.block G h.lt (fun x => h.ne (by cases x; rfl))).trans h.box, h.ge, h.grown.andThen hb (fun _ hj => .inr hj)⟩
theorem MV.cell {w0 w : World} {g b G : Nat} {M : List (S42 × Int)} {e : S107} (h : MV w0 w g b G M e) (i : Nat) : w.cell? ⟨G, i, none⟩ = (#[Value.int .i64 e.f0.f0, .int .i64 e.f0.f1, .string e.f0.f2, .int .i64 e.f1.f0, .int .i64 e.f1.f1, .string e.f1.f2, .int .i64 e.f2])[i]? := by
  simp [World.cell?, h.box]
set_option maxRecDepth 100000 in
theorem move_bad (g : Nat) (a0 a1 : Int) (a2 : ByteArray) (b0 b1 : Int) (b2 : ByteArray) (n c : Int) (hc0 : c ≠ 0) (w : World)
    (hcall : ∀ w, Calls Try.prog 80 #[.agg #[.int .i64 a0, .int .i64 a1, .string a2, .int .i64 b0, .int .i64 b1, .string b2, .int .i64 n]] w fun o w' => o = .returned (.int .i64 c) ∧ Below w.heap.size w w') :
    Calls Try.prog 59 #[.pointer (some ⟨g, 0, none⟩), .agg #[.int .i64 a0, .int .i64 a1, .string a2, .int .i64 b0, .int .i64 b1, .string b2, .int .i64 n]] w fun o w' => o = .returned (.int .i64 c) ∧ Below w.heap.size w w' := by
  have hc1 : (c != 0) = true := by simp [hc0]
  have hc2 : (c == 0) = false := by simp [hc0]
  have HC := Lib.hid hcall
  clear hcall hc0
  go_enter Try.func59, Try.ntmps59
  go_wp2_with (go_at_call 80; refine (HC.out _).mono ?_; rintro e w1 ⟨rfl, hw1⟩)
  go_ret
  refine ⟨rfl, ?_⟩
  exact ((Below.refl w.heap.size w).alloc (Nat.le_refl _) _).trans (hw1.mono (by simp))
theorem moveM_20 {M : List (S42 × Int)} {e : S107} (h0 : checkI e = 0) (h1 : e.f0.f0 ≠ 0) (h2 : getM M e.f0 - e.f2 < 0) : moveM M e = (M, 20) := by
  unfold moveM
  rw [if_neg (fun h => h h0), if_pos ⟨h1, h2⟩]
theorem moveM_9 {M : List (S42 × Int)} {e : S107} (h0 : checkI e = 0) (h1 : ¬ (e.f0.f0 ≠ 0 ∧ getM M e.f0 - e.f2 < 0)) (h2 : getM M e.f0 - e.f2 < -72057594037927936) : moveM M e = (M, 9) := by
  unfold moveM
  rw [if_neg (fun h => h h0), if_neg h1, if_pos h2]
theorem moveM_9b {M : List (S42 × Int)} {e : S107} (h0 : checkI e = 0) (h1 : ¬ (e.f0.f0 ≠ 0 ∧ getM M e.f0 - e.f2 < 0)) (h2 : ¬ (getM M e.f0 - e.f2 < -72057594037927936)) (h3 : 72057594037927936 < getM (putM M e.f0 (getM M e.f0 - e.f2)) e.f1 + e.f2) :
    moveM M e = (putM (putM M e.f0 (getM M e.f0 - e.f2)) e.f0 (getM M e.f0 - e.f2 + e.f2), 9) := by
  unfold moveM
  rw [if_neg (fun h => h h0), if_neg h1, if_neg h2, if_pos h3]
theorem moveM_0 {M : List (S42 × Int)} {e : S107} (h0 : checkI e = 0) (h1 : ¬ (e.f0.f0 ≠ 0 ∧ getM M e.f0 - e.f2 < 0)) (h2 : ¬ (getM M e.f0 - e.f2 < -72057594037927936)) (h3 : ¬ (72057594037927936 < getM (putM M e.f0 (getM M e.f0 - e.f2)) e.f1 + e.f2)) :
    moveM M e = (putM (putM M e.f0 (getM M e.f0 - e.f2)) e.f1 (getM (putM M e.f0 (getM M e.f0 - e.f2)) e.f1 + e.f2), 0) := by
  unfold moveM
  rw [if_neg (fun h => h h0), if_neg h1, if_neg h2, if_neg h3]
theorem wrap_id {x : Int} (h1 : -9223372036854775808 ≤ x) (h2 : x ≤ 9223372036854775807) : wrap64 x = x := by
  unfold wrap64
  omega
theorem wf_wrap64 (x : Int) : (Lit.int .i64 (wrap64 x)).wf = true := wf_i64 (by unfold wrap64; omega) (by unfold wrap64; omega)
set_option maxRecDepth 100000 in
set_option maxHeartbeats 400000 in
theorem move_walk {g b : Nat} {M : List (S42 × Int)} {w : World} (h : LG w g b M) (e : S107) (h0 : checkI e = 0) (hw0 : Wfa e.f0) (hw1 : Wfa e.f1) (R : Int → World → Prop)
    (hd : wrap64 (getM M e.f0 - e.f2) = getM M e.f0 - e.f2) (hd2 : getM M e.f0 - e.f2 ≤ 72057594037927936) (ht : wrap64 (getM (putM M e.f0 (getM M e.f0 - e.f2)) e.f1 + e.f2) = getM (putM M e.f0 (getM M e.f0 - e.f2)) e.f1 + e.f2) (hdn : wrap64 (getM M e.f0 - e.f2 + e.f2) = getM M e.f0 - e.f2 + e.f2)
    (hlen : M.length < maxLen) (hlen1 : (putM M e.f0 (getM M e.f0 - e.f2)).length < maxLen)
    (hR : ∀ (i : Int) (w' : World) (G : Nat), i = (moveM M e).2 → MV w w' g b G (moveM M e).1 e → R i w') :
    Calls Try.prog 59 #[.pointer (some ⟨g, 0, none⟩), ev e] w fun o w' => ∃ i, o = .returned (.int .i64 i) ∧ R i w' := by
  have m20 := moveM_20 (M := M) (e := e) h0
  have m9 := moveM_9 (M := M) (e := e) h0
  have m9b := moveM_9b (M := M) (e := e) h0
  have m0 := moveM_0 (M := M) (e := e) h0
  obtain ⟨⟨a0, a1, a2⟩, ⟨b0, b1, b2⟩, n⟩ := e
  have HS := Lib.hid (MV.start ⟨⟨a0, a1, a2⟩, ⟨b0, b1, b2⟩, n⟩ h)
  have HC := Lib.hid (fun w => check_any ⟨⟨a0, a1, a2⟩, ⟨b0, b1, b2⟩, n⟩ w)
  simp only [h0] at HC
  dsimp only at hd hd2 ht hdn hlen1 m20 m9 m9b m0 hw0 hw1
  have HL1 := Lib.hid (fun (M : List (S42 × Int)) (w : World) (h : LG w g b M) => h.map.lookup hw0)
  have HL2 := Lib.hid (fun (M : List (S42 × Int)) (w : World) (h : LG w g b M) => h.map.lookup hw1)
  have HP1 := Lib.hid (fun (M : List (S42 × Int)) (w : World) (h : LG w g b M) (n : Int) (hn : (Lit.int .i64 n).wf = true) (hr : M.length < maxLen) => put_any h hw0 hn hr)
  have HP2 := Lib.hid (fun (M : List (S42 × Int)) (w : World) (h : LG w g b M) (n : Int) (hn : (Lit.int .i64 n).wf = true) (hr : M.length < maxLen) => put_any h hw1 hn hr)
  simp only [kv] at HL1 HL2 HP1 HP2
  generalize hv : getM M ⟨a0, a1, a2⟩ = v at *
  generalize hM1 : putM M ⟨a0, a1, a2⟩ (v - n) = M1 at *
  generalize ht0 : getM M1 ⟨b0, b1, b2⟩ = t at *
  have hwd : -72057594037927936 ≤ v - n → (Lit.int .i64 (v - n)).wf = true := fun h => wf_i64 (by omega) (by omega)
  have HF := Lib.hid (And.intro hd (And.intro hd2 (And.intro ht (And.intro hdn (And.intro hlen (And.intro hlen1 (And.intro hwd (And.intro hM1 (And.intro ht0 hv)))))))))
  obtain ⟨z, hz⟩ : ∃ z, (a0 != 0) = z := ⟨_, rfl⟩
  have hza : z = true ↔ a0 ≠ 0 := by rw [← hz]; simp
  have F20 := Lib.hid (show z = true → wrap64 (v - n) < 0 → ∀ (w' : World) (G : Nat), MV w w' g b G M ⟨⟨a0, a1, a2⟩, ⟨b0, b1, b2⟩, n⟩ → R 20 w' from fun q1 q2 w' G q3 => by
    rw [hd] at q2
    have q4 := m20 (hza.1 q1) q2
    exact hR 20 w' G (by rw [q4]) (by rw [q4]; exact q3))
  have F9 := Lib.hid (show ¬ (z = true ∧ wrap64 (v - n) < 0) → wrap64 (v - n) < -72057594037927936 → ∀ (w' : World) (G : Nat), MV w w' g b G M ⟨⟨a0, a1, a2⟩, ⟨b0, b1, b2⟩, n⟩ → R 9 w' from fun q1 q2 w' G q3 => by
    rw [hza, hd] at q1
    rw [hd] at q2
    have q4 := m9 q1 q2
    exact hR 9 w' G (by rw [q4]) (by rw [q4]; exact q3))
  have F9b := Lib.hid (show ¬ (z = true ∧ wrap64 (v - n) < 0) → -72057594037927936 ≤ wrap64 (v - n) → 72057594037927936 < wrap64 (t + n) → ∀ (w' : World) (G : Nat), MV w w' g b G (putM M1 ⟨a0, a1, a2⟩ (wrap64 (wrap64 (v - n) + n))) ⟨⟨a0, a1, a2⟩, ⟨b0, b1, b2⟩, n⟩ → R 9 w' from fun q1 q2 q5 w' G q3 => by
    rw [hza, hd] at q1
    rw [hd] at q2
    rw [ht] at q5
    rw [hd, hdn] at q3
    have q4 := m9b q1 (by omega) q5
    exact hR 9 w' G (by rw [q4]) (by rw [q4]; exact q3))
  have F0 := Lib.hid (show ¬ (z = true ∧ wrap64 (v - n) < 0) → -72057594037927936 ≤ wrap64 (v - n) → wrap64 (t + n) ≤ 72057594037927936 → ∀ (w' : World) (G : Nat), MV w w' g b G (putM M1 ⟨b0, b1, b2⟩ (wrap64 (t + n))) ⟨⟨a0, a1, a2⟩, ⟨b0, b1, b2⟩, n⟩ → R 0 w' from fun q1 q2 q5 w' G q3 => by
    rw [hza, hd] at q1
    rw [hd] at q2
    rw [ht] at q5 q3
    have q4 := m0 q1 (by omega) (by omega)
    exact hR 0 w' G (by rw [q4]) (by rw [q4]; exact q3))
  clear hd hd2 ht hdn hlen hlen1 hwd hM1 ht0 m20 m9 m9b m0 hR hw0 hw1 h h0 hv hza
  simp only [ev]
  go_enter Try.func59, Try.ntmps59
  go_wp2_with (go_at_call 80; refine (HC.out _).mono ?_; rintro e w1 ⟨rfl, hw1⟩)
  have H1 := Lib.hid (HS.out.below hw1)
  clear hw1 HS HC
  have hc : w1.cell? ⟨g, 0, none⟩ = some (.map (some b)) := H1.out.lg.cell
  have k0 : w1.cell? ⟨w.heap.size, 0, none⟩ = some (.int .i64 a0) := H1.out.cell 0
  have k1 : w1.cell? ⟨w.heap.size, 1, none⟩ = some (.int .i64 a1) := H1.out.cell 1
  have k2 : w1.cell? ⟨w.heap.size, 2, none⟩ = some (.string a2) := H1.out.cell 2
  have k6 : w1.cell? ⟨w.heap.size, 6, none⟩ = some (.int .i64 n) := H1.out.cell 6
  have hl : ∀ k, (Instr.lookup 60 (.map (some b)) (.agg #[.int .i64 a0, .int .i64 a1, .string a2]) false).run Try.prog (w1.drewN k) = .ok (.int .i64 v) (w1.drewN k) := fun k => by
    have := HL1.out M (w1.drewN k) (H1.out.drewN k).lg
    rw [HF.out.2.2.2.2.2.2.2.2.2] at this
    exact this
  generalize w.heap.size = G at k0 k1 k2 k6 H1 ⊢
  go_quiet (fail)
  have HW : ∀ k, Calls Try.prog 60 #[.pointer (some ⟨g, 0, none⟩), .agg #[.int .i64 a0, .int .i64 a1, .string a2], .int .i64 (wrap64 (v - n))] (w1.drewN k) fun e w' => e = .returned (.tuple #[]) ∧ MV w w' g b G M1 ⟨⟨a0, a1, a2⟩, ⟨b0, b1, b2⟩, n⟩ := fun k =>
    (HP1.out M (w1.drewN k) (H1.out.drewN k).lg (wrap64 (v - n)) (wf_wrap64 _) HF.out.2.2.2.2.1).mono (by
      rintro e w' ⟨he, h1, h2⟩
      rw [HF.out.1, HF.out.2.2.2.2.2.2.2.1] at h1
      exact ⟨he, (H1.out.drewN k).grow h1 h2⟩)
  have H2 := Lib.hid HW
  clear HW
  go_wp2_with (first
    | (go_at_call_has 60 (Value.int IntKind.i64 (wrap64 (v - n))); go_must (refine Calls.mono (H2.out _) ?_); rintro e w2 ⟨rfl, hw2⟩
       have H3 := Lib.hid hw2
       clear hw2))
  any_goals (go_ret; first | exact ⟨_, rfl, F20.out (by assumption) (by assumption) _ _ (H1.out.drewN _)⟩ | exact ⟨_, rfl, F9.out (fun q => absurd q.1 (by assumption)) (by assumption) _ _ (H1.out.drewN _)⟩)
  all_goals (
    have hq : ¬ (z = true ∧ wrap64 (v - n) < 0) := fun q => by first | omega | exact absurd q.1 (by assumption)
    have hq2 : -72057594037927936 ≤ wrap64 (v - n) := by assumption
    have HQ := Lib.hid (And.intro hq hq2)
    clear hq hq2 hc k0 k1 k2 k6 hl
    have hc : w2.cell? ⟨g, 0, none⟩ = some (.map (some b)) := H3.out.lg.cell
    have k0 : w2.cell? ⟨G, 0, none⟩ = some (.int .i64 a0) := H3.out.cell 0
    have k1 : w2.cell? ⟨G, 1, none⟩ = some (.int .i64 a1) := H3.out.cell 1
    have k2 : w2.cell? ⟨G, 2, none⟩ = some (.string a2) := H3.out.cell 2
    have k3 : w2.cell? ⟨G, 3, none⟩ = some (.int .i64 b0) := H3.out.cell 3
    have k4 : w2.cell? ⟨G, 4, none⟩ = some (.int .i64 b1) := H3.out.cell 4
    have k5 : w2.cell? ⟨G, 5, none⟩ = some (.string b2) := H3.out.cell 5
    have k6 : w2.cell? ⟨G, 6, none⟩ = some (.int .i64 n) := H3.out.cell 6
    have hl : ∀ k, (Instr.lookup 60 (.map (some b)) (.agg #[.int .i64 b0, .int .i64 b1, .string b2]) false).run Try.prog (w2.drewN k) = .ok (.int .i64 t) (w2.drewN k) := fun k => by
      have := HL2.out M1 (w2.drewN k) (H3.out.drewN k).lg
      rw [HF.out.2.2.2.2.2.2.2.2.1] at this
      exact this
    have HW1 : ∀ k, Calls Try.prog 60 #[.pointer (some ⟨g, 0, none⟩), .agg #[.int .i64 a0, .int .i64 a1, .string a2], .int .i64 (wrap64 (wrap64 (v - n) + n))] (w2.drewN k) fun e w' => e = .returned (.tuple #[]) ∧ MV w w' g b G (putM M1 ⟨a0, a1, a2⟩ (wrap64 (wrap64 (v - n) + n))) ⟨⟨a0, a1, a2⟩, ⟨b0, b1, b2⟩, n⟩ := fun k =>
      (HP1.out M1 (w2.drewN k) (H3.out.drewN k).lg _ (wf_wrap64 _) HF.out.2.2.2.2.2.1).mono (by
        rintro e w' ⟨he, h1, h2⟩
        exact ⟨he, (H3.out.drewN k).grow h1 h2⟩)
    have H4 := Lib.hid HW1
    clear HW1
    have HW2 : ∀ k, Calls Try.prog 60 #[.pointer (some ⟨g, 0, none⟩), .agg #[.int .i64 b0, .int .i64 b1, .string b2], .int .i64 (wrap64 (t + n))] (w2.drewN k) fun e w' => e = .returned (.tuple #[]) ∧ MV w w' g b G (putM M1 ⟨b0, b1, b2⟩ (wrap64 (t + n))) ⟨⟨a0, a1, a2⟩, ⟨b0, b1, b2⟩, n⟩ := fun k =>
      (HP2.out M1 (w2.drewN k) (H3.out.drewN k).lg _ (wf_wrap64 _) HF.out.2.2.2.2.2.1).mono (by
        rintro e w' ⟨he, h1, h2⟩
        exact ⟨he, (H3.out.drewN k).grow h1 h2⟩)
    have H5 := Lib.hid HW2
    clear HW2 HP1 HP2 HL1 HL2
    go_quiet (fail)
    go_wp2_with (first
      | (go_at_call_has 60 (Value.int IntKind.i64 (wrap64 (wrap64 (v - n) + n))); go_must (refine Calls.mono (H4.out _) ?_); rintro e w3 ⟨rfl, hw3⟩
         have H6 := Lib.hid hw3
         clear hw3)
      | (go_at_call_has 60 (Value.int IntKind.i64 (wrap64 (t + n))); go_must (refine Calls.mono (H5.out _) ?_); rintro e w3 ⟨rfl, hw3⟩
         have H6 := Lib.hid hw3
         clear hw3)))
  all_goals go_ret
  all_goals first | exact ⟨_, rfl, F9b.out HQ.out.1 HQ.out.2 (by assumption) _ _ H6.out⟩ | exact ⟨_, rfl, F0.out HQ.out.1 HQ.out.2 (by assumption) _ _ H6.out⟩
end Go.Proofs.Ytoknlpecbdlbfaa.PL

/- The ledger's Post, walked. -/
namespace Go.Proofs.Ytoknlpecbdlbfaa.PL
open Go.RowKit Go.Proofs.YtoknlpecbdlbfaaW.PrintWords Go.Proofs.YtoknlpecbdlbfaaW.PrintLast
theorem getM_mem {M : List (S42 × Int)} {a : S42} (h : a ∈ M.map Prod.fst) : (a, getM M a) ∈ M := by
  induction M with
  | nil => simp at h
  | cons p r ih =>
    unfold getM
    by_cases e : p.1 = a
    · rw [if_pos e, ← e]; exact List.mem_cons_self
    · rw [if_neg e]
      simp only [List.map_cons, List.mem_cons] at h
      rcases h with h | h
      · exact absurd h.symm e
      · exact List.mem_cons_of_mem _ (ih h)
theorem getM_append {M R : List (S42 × Int)} {a : S42} : getM (M ++ R) a = if a ∈ M.map Prod.fst then getM M a else getM R a := by
  induction M with
  | nil => simp
  | cons p r ih =>
    simp only [List.cons_append, getM, List.map_cons, List.mem_cons]
    by_cases e : p.1 = a
    · rw [if_pos e, if_pos (.inl e.symm), if_pos e]
    · rw [if_neg e, ih, if_neg e]
      by_cases h : a ∈ r.map Prod.fst
      · rw [if_pos h, if_pos (.inr h)]
      · rw [if_neg h, if_neg (fun x => x.elim (fun x => e x.symm) h)]
theorem getM_map_set (M : List (S42 × Int)) (a c : S42) (n : Int) : getM (M.map (fun p => if p.1 = a then (a, n) else p)) c = if c = a ∧ a ∈ M.map Prod.fst then n else getM M c := by
  induction M with
  | nil => simp [getM]
  | cons p r ih =>
    simp only [List.map_cons, getM, List.mem_cons]
    by_cases e : p.1 = a
    · rw [if_pos e]
      by_cases hc : a = c
      · subst hc
        rw [if_pos rfl, if_pos ⟨rfl, .inl e.symm⟩]
      · rw [if_neg hc, ih, if_neg (fun x => hc x.1.symm), if_neg (fun x => hc x.1.symm), if_neg (fun x => hc (e.symm.trans x))]
    · rw [if_neg e]
      by_cases hc : p.1 = c
      · rw [if_pos hc, if_pos hc, if_neg (fun x => e (hc.trans x.1))]
      · rw [if_neg hc, if_neg hc, ih]
        by_cases hm : c = a ∧ a ∈ r.map Prod.fst
        · rw [if_pos hm, if_pos ⟨hm.1, .inr hm.2⟩]
        · rw [if_neg hm, if_neg]
          rintro ⟨h1, h2⟩
          rcases h2 with h2 | h2
          · exact e h2.symm
          · exact hm ⟨h1, h2⟩
theorem getM_setM (M : List (S42 × Int)) (a c : S42) (n : Int) : getM (setM M a n) c = if c = a then n else getM M c := by
  unfold setM
  by_cases h : a ∈ M.map Prod.fst
  · rw [if_pos h, getM_map_set]
    by_cases e : c = a
    · rw [if_pos ⟨e, h⟩, if_pos e]
    · rw [if_neg (fun x => e x.1), if_neg e]
  · rw [if_neg h, getM_append]
    by_cases e : c = a
    · subst e
      rw [if_neg h, if_pos rfl]
      simp [getM]
    · rw [if_neg e]
      by_cases hc : c ∈ M.map Prod.fst
      · rw [if_pos hc]
      · rw [if_neg hc, getM_none hc]
        simp only [getM]
        rw [if_neg (fun x => e x.symm)]
theorem getM_delM (M : List (S42 × Int)) (a c : S42) : getM (delM M a) c = if c = a then 0 else getM M c := by
  unfold delM
  induction M with
  | nil => simp [getM]
  | cons p r ih =>
    by_cases e : p.1 = a
    · have h1 : (!decide (p.1 = a)) = false := by simp [e]
      rw [List.filter_cons, h1]
      simp only [Bool.false_eq_true, if_false]
      rw [ih]
      by_cases hc : c = a
      · rw [if_pos hc, if_pos hc]
      · rw [if_neg hc, if_neg hc]
        simp only [getM]
        rw [if_neg (fun x => hc (x.symm.trans e))]
    · have h1 : (!decide (p.1 = a)) = true := by simp [e]
      rw [List.filter_cons, h1]
      simp only [if_true, getM]
      by_cases hc : p.1 = c
      · rw [if_pos hc, if_neg (fun x => e (hc.trans x)), if_pos hc]
      · rw [if_neg hc, ih, if_neg hc]
theorem getM_putM (M : List (S42 × Int)) (a c : S42) (n : Int) : getM (putM M a n) c = if c = a then n else getM M c := by
  unfold putM
  by_cases h : n = 0
  · rw [if_pos h, getM_delM, h]
  · rw [if_neg h, getM_setM]
theorem length_putM (M : List (S42 × Int)) (a : S42) (n : Int) : (putM M a n).length ≤ M.length + 1 := by
  unfold putM setM delM
  split
  · have := List.length_filter_le (fun p : S42 × Int => !decide (p.1 = a)) M; omega
  · split <;> simp
/-- All amounts are within the bound. -/
def BM (M : List (S42 × Int)) : Prop := ∀ a, -72057594037927936 ≤ getM M a ∧ getM M a ≤ 72057594037927936
theorem BM.put {M : List (S42 × Int)} (h : BM M) (a : S42) {n : Int} (h1 : -72057594037927936 ≤ n) (h2 : n ≤ 72057594037927936) : BM (putM M a n) := by
  intro c
  rw [getM_putM]
  split
  · exact ⟨h1, h2⟩
  · exact h c
theorem BM.move {M : List (S42 × Int)} (h : BM M) (e : S107) : BM (moveM M e).1 := by
  unfold moveM
  split
  · exact h
  · rename_i h0
    have hn : 1 ≤ e.f2 ∧ e.f2 ≤ 1125899906842624 := by
      simp only [checkI, ne_eq, Classical.not_not] at h0
      by_cases q : e.f2 < 1 ∨ 1125899906842624 < e.f2
      · rw [if_pos q] at h0; omega
      · omega
    have h1 := h e.f0
    split
    · exact h
    · split
      · exact h
      · have h2 : BM (putM M e.f0 (getM M e.f0 - e.f2)) := h.put _ (by omega) (by omega)
        have h3 := h2 e.f1
        split
        · exact h2.put _ (by omega) (by omega)
        · exact h2.put _ (by omega) (by omega)
theorem length_moveM (M : List (S42 × Int)) (e : S107) : (moveM M e).1.length ≤ M.length + 2 := by
  unfold moveM
  have h1 := length_putM M e.f0 (getM M e.f0 - e.f2)
  have h2 := fun a n => length_putM (putM M e.f0 (getM M e.f0 - e.f2)) a n
  split
  · simp
  · split
    · simp
    · split
      · simp
      · split
        · have := h2 e.f0 (getM M e.f0 - e.f2 + e.f2); simp only; omega
        · have := h2 e.f1 (getM (putM M e.f0 (getM M e.f0 - e.f2)) e.f1 + e.f2); simp only; omega
theorem check_good {e : S107} (h : checkI e = 0) : 1 ≤ e.f2 ∧ e.f2 ≤ 1125899906842624 ∧ goodI e.f0 = 0 ∧ goodI e.f1 = 0 ∧ e.f0.f2.toList = e.f1.f2.toList := by
  unfold checkI at h
  by_cases q : e.f2 < 1 ∨ 1125899906842624 < e.f2
  · rw [if_pos q] at h; omega
  rw [if_neg q] at h
  by_cases q1 : goodI e.f0 ≠ 0
  · rw [if_pos q1] at h; exact absurd h q1
  rw [if_neg q1] at h
  by_cases q2 : goodI e.f1 ≠ 0
  · rw [if_pos q2] at h; exact absurd h q2
  rw [if_neg q2] at h
  by_cases q3 : e.f0.f2.toList = e.f1.f2.toList
  · exact ⟨by omega, by omega, by omega, by omega, q3⟩
  · rw [if_neg q3] at h; omega
theorem move_any {g b : Nat} {M : List (S42 × Int)} {w : World} (h : LG w g b M) (hB : BM M) (hlen : M.length + 2 < maxLen) (e : S107) :
    Calls Try.prog 59 #[.pointer (some ⟨g, 0, none⟩), ev e] w fun o w' => o = .returned (.int .i64 (moveM M e).2) ∧ LG w' g b (moveM M e).1 ∧ w.grownBy w' (some b) := by
  by_cases h0 : checkI e = 0
  · obtain ⟨h1, h2, h3, h4, h5⟩ := check_good h0
    have hv := hB e.f0
    have ht := hB e.f1
    have hl := length_putM M e.f0 (getM M e.f0 - e.f2)
    have ht' : -9223372036854775808 ≤ getM (putM M e.f0 (getM M e.f0 - e.f2)) e.f1 ∧ getM (putM M e.f0 (getM M e.f0 - e.f2)) e.f1 ≤ 72057594037927936 := by
      rw [getM_putM]
      split <;> omega
    refine (move_walk h e h0 (good_wf h3).1 (good_wf h4).1 (fun i w' => i = (moveM M e).2 ∧ LG w' g b (moveM M e).1 ∧ w.grownBy w' (some b)) (wrap_id (by omega) (by omega)) (by omega) (wrap_id (by omega) (by omega)) (wrap_id (by omega) (by omega)) (by omega) (by omega) (fun i w' G hi hm => ⟨hi, hm.lg, hm.grown⟩)).mono ?_
    rintro o w' ⟨i, rfl, rfl, h6, h7⟩
    exact ⟨rfl, h6, h7⟩
  · have hm : moveM M e = (M, checkI e) := by unfold moveM; rw [if_pos h0]
    rw [hm]
    refine (move_bad g e.f0.f0 e.f0.f1 e.f0.f2 e.f1.f0 e.f1.f1 e.f1.f2 e.f2 (checkI e) h0 w (fun w => check_any e w)).mono ?_
    rintro o w' ⟨rfl, hb⟩
    exact ⟨rfl, h.below hb, grown_below hb _⟩
end Go.Proofs.Ytoknlpecbdlbfaa.PL
