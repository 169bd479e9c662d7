/- Part 35 of the proof's texts: what the theorem needs of them. -/
import Derived.Test.YtlhdbcjlmkglkaaGreatSQG34
import Derived.Test.YtlhdbcjlmkglkaaGreatSQG15
import Derived.Sort.AtCall

set_option linter.unusedVariables false
set_option linter.unusedSimpArgs false
/- QuoteGets, walked. -/
set_option linter.unusedSimpArgs false
set_option linter.unusedVariables false
namespace Go.Proofs.YtlhdbcjlmkglkaaGreat.Q
open Go Go.RowKit Go.Proofs Go.Proofs.YtlhdbcjlmkglkaaGreat.PL Go.Proofs.YtlhdbcjlmkglkaaGreatW.PrintWords Go.Proofs.YtlhdbcjlmkglkaaGreatW.PrintLast
/-- What lies behind the acts: the list's cell, the quote that was got, the quote that came in. -/
def GT (T lp bq : Nat) (u : Value) (x q : S24) (W : World) : Prop := W.cell? ⟨lp, 0, none⟩ = some u ∧ (W.cell? ⟨T, 0, none⟩ = some (.int .i64 x.f0) ∧ W.cell? ⟨T, 1, none⟩ = some (.int .i64 x.f1) ∧ W.cell? ⟨T, 2, none⟩ = some (.int .i64 x.f2) ∧ W.cell? ⟨T, 3, none⟩ = some (.int .i64 x.f3) ∧ W.cell? ⟨T, 4, none⟩ = some (.int .i64 x.f4) ∧ W.cell? ⟨T, 5, none⟩ = some (.int .i64 x.f5) ∧ W.cell? ⟨T, 6, none⟩ = some (.int .i64 x.f6) ∧ W.cell? ⟨T, 7, none⟩ = some (.int .i64 x.f7)) ∧ (W.cell? ⟨bq, 0, none⟩ = some (.int .i64 q.f0) ∧ W.cell? ⟨bq, 1, none⟩ = some (.int .i64 q.f1) ∧ W.cell? ⟨bq, 2, none⟩ = some (.int .i64 q.f2) ∧ W.cell? ⟨bq, 3, none⟩ = some (.int .i64 q.f3) ∧ W.cell? ⟨bq, 4, none⟩ = some (.int .i64 q.f4) ∧ W.cell? ⟨bq, 5, none⟩ = some (.int .i64 q.f5) ∧ W.cell? ⟨bq, 6, none⟩ = some (.int .i64 q.f6) ∧ W.cell? ⟨bq, 7, none⟩ = some (.int .i64 q.f7))
theorem GT.below {T lp bq : Nat} {u : Value} {x q : S24} {w W : World} (h : GT T lp bq u x q w) (b : Below w.heap.size w W) : GT T lp bq u x q W := by
  obtain ⟨h0, ⟨a0, a1, a2, a3, a4, a5, a6, a7⟩, b0, b1, b2, b3, b4, b5, b6, b7⟩ := h
  exact ⟨cell_below h0 b, ⟨cell_below a0 b, cell_below a1 b, cell_below a2 b, cell_below a3 b, cell_below a4 b, cell_below a5 b, cell_below a6 b, cell_below a7 b⟩, cell_below b0 b, cell_below b1 b, cell_below b2 b, cell_below b3 b, cell_below b4 b, cell_below b5 b, cell_below b6 b, cell_below b7 b⟩
theorem box_c {bq : Nat} {q : S24} {W : World} (h : W.heap[bq]? = some (.cells #[.int .i64 q.f0, .int .i64 q.f1, .int .i64 q.f2, .int .i64 q.f3, .int .i64 q.f4, .int .i64 q.f5, .int .i64 q.f6, .int .i64 q.f7] 24 (0, 0))) : W.cell? ⟨bq, 0, none⟩ = some (.int .i64 q.f0) ∧ W.cell? ⟨bq, 1, none⟩ = some (.int .i64 q.f1) ∧ W.cell? ⟨bq, 2, none⟩ = some (.int .i64 q.f2) ∧ W.cell? ⟨bq, 3, none⟩ = some (.int .i64 q.f3) ∧ W.cell? ⟨bq, 4, none⟩ = some (.int .i64 q.f4) ∧ W.cell? ⟨bq, 5, none⟩ = some (.int .i64 q.f5) ∧ W.cell? ⟨bq, 6, none⟩ = some (.int .i64 q.f6) ∧ W.cell? ⟨bq, 7, none⟩ = some (.int .i64 q.f7) := by simp [World.cell?, h]
theorem GT.new {lp bq : Nat} {u : Value} {x q : S24} {W : World} (h0 : W.cell? ⟨lp, 0, none⟩ = some u) (hq : W.heap[bq]? = some (.cells #[.int .i64 q.f0, .int .i64 q.f1, .int .i64 q.f2, .int .i64 q.f3, .int .i64 q.f4, .int .i64 q.f5, .int .i64 q.f6, .int .i64 q.f7] 24 (0, 0))) : GT W.heap.size lp bq u x q (W.alloc (.cells #[.int .i64 x.f0, .int .i64 x.f1, .int .i64 x.f2, .int .i64 x.f3, .int .i64 x.f4, .int .i64 x.f5, .int .i64 x.f6, .int .i64 x.f7] 24)) := by
  obtain ⟨b0, b1, b2, b3, b4, b5, b6, b7⟩ := box_c hq
  exact ⟨cell_alloc h0 _, ⟨cell_new W _ 24 0 _ rfl, cell_new W _ 24 1 _ rfl, cell_new W _ 24 2 _ rfl, cell_new W _ 24 3 _ rfl, cell_new W _ 24 4 _ rfl, cell_new W _ 24 5 _ rfl, cell_new W _ 24 6 _ rfl, cell_new W _ 24 7 _ rfl⟩, cell_alloc b0 _, cell_alloc b1 _, cell_alloc b2 _, cell_alloc b3 _, cell_alloc b4 _, cell_alloc b5 _, cell_alloc b6 _, cell_alloc b7 _⟩
theorem rfind_b (id : Int) (A : Option Addr) (c : Nat) (xs : List S24) (w : World) (hC : Kd.C k24 w A xs.length xs) (hc : xs.length ≤ c) (hlen : xs.length ≤ 1000000) : Calls Tryz.prog 10 #[.slice A xs.length c, .int .i64 id] w fun e w' => e = .returned (.int .i64 (findI id xs)) ∧ Below w.heap.size w w' :=
  (rfind_c id A c xs w hC hc hlen).mono fun e w' ⟨h, hd⟩ => ⟨h, by obtain ⟨nd, rfl⟩ := hd; exact pw_below_drewN (Below.refl _ _) nd⟩
def S13 (bq T : Nat) (q : S24) (W : World) : Prop := W.cell? ⟨bq, 0, none⟩ = some (.int .i64 q.f0) ∧ W.cell? ⟨bq, 1, none⟩ = some (.int .i64 q.f1) ∧ W.cell? ⟨bq, 2, none⟩ = some (.int .i64 q.f2) ∧ W.cell? ⟨bq, 3, none⟩ = some (.int .i64 q.f3) ∧ W.cell? ⟨bq, 4, none⟩ = some (.int .i64 q.f4) ∧ W.cell? ⟨bq, 5, none⟩ = some (.int .i64 q.f5) ∧ W.cell? ⟨bq, 6, none⟩ = some (.int .i64 q.f6) ∧ W.cell? ⟨bq, 7, none⟩ = some (.int .i64 q.f7) ∧ W.cell? ⟨T, 0, none⟩ = some (.int .i64 q.f3) ∧ W.cell? ⟨T, 1, none⟩ = some (.int .i64 q.f6) ∧ W.cell? ⟨T, 2, none⟩ = some (.int .i64 q.f7)
theorem S13.below {bq T : Nat} {q : S24} {w W : World} (h : S13 bq T q w) (b : Below w.heap.size w W) : S13 bq T q W := by
  obtain ⟨b0, b1, b2, b3, b4, b5, b6, b7, v0, v1, v2⟩ := h
  exact ⟨cell_below b0 b, cell_below b1 b, cell_below b2 b, cell_below b3 b, cell_below b4 b, cell_below b5 b, cell_below b6 b, cell_below b7 b, cell_below v0 b, cell_below v1 b, cell_below v2 b⟩
theorem other2 (s : Int) (h : -9223372036854775808 ≤ s ∧ s ≤ 9223372036854775807) : wrap64 (3 - wrap64 (3 - s)) = s := by unfold wrap64; omega
theorem DS.new {w W : World} {p : Nat} (h : BO w.heap.size p none 0 [] W) (hs : p < W.heap.size) : DS w.heap.size p W.heap.size none 0 [] (.slice none 0 0) (W.alloc (.cells #[.slice none 0 0] 27)) :=
  ⟨h.below (below_alloc (Below.refl _ _) _), Nat.le_trans h.le (Nat.le_of_lt hs), by unfold World.alloc; simp, Kd.R_nil _ _ _ _ _⟩
set_option maxHeartbeats 4000000 in
set_option maxRecDepth 1000000 in
theorem gets_walk (A0 : Option Addr) (c0 : Nat) (acts : List Act11) (id side : Int) (q : S24) (w : World) (hC : Kd.C kAct w A0 acts.length acts) (hc : acts.length ≤ c0) (hside : -9223372036854775808 ≤ side ∧ side ≤ 9223372036854775807) :
    Calls Tryz.prog 3 #[.slice A0 acts.length c0, .int .i64 id, qA q, .int .i64 side] w fun e w' => e = .returned (.bool true) ∧ Below w.heap.size w w' := by
  have hu24 := Tryz.underlying24
  have hu27 := Tryz.underlying27
  have hu31 := Tryz.underlying31
  have hu36 := Tryz.underlying36
  have hu38 := Tryz.underlying38
  have HA := Lib.hid hC
  have HS := Lib.hid hside
  obtain ⟨w1, hw1⟩ : ∃ W, w.alloc (.cells #[.int .i64 q.f0, .int .i64 q.f1, .int .i64 q.f2, .int .i64 q.f3, .int .i64 q.f4, .int .i64 q.f5, .int .i64 q.f6, .int .i64 q.f7] 24) = W := ⟨_, rfl⟩
  have hb1 : Below w.heap.size w w1 := by rw [← hw1]; exact below_alloc (Below.refl _ _) _
  have hs1 : w1.heap.size = w.heap.size + 1 := by rw [← hw1]; simp
  have hbox : w1.heap[w.heap.size]? = some (.cells #[.int .i64 q.f0, .int .i64 q.f1, .int .i64 q.f2, .int .i64 q.f3, .int .i64 q.f4, .int .i64 q.f5, .int .i64 q.f6, .int .i64 q.f7] 24 (0, 0)) := by rw [← hw1]; unfold World.alloc; simp
  have HB1 := Lib.hid (And.intro hb1 (And.intro hs1 hbox))
  have hCN := new_any w1
  clear hb1 hs1 hbox hC hc hside
  unfold qA
  go_enter Tryz.func3, Tryz.ntmps3
  go_wp2_with (go_at_call 7; refine hCN.mono ?_; rintro e W1 ⟨rfl, bo1, bl1⟩; have HN := Lib.hid (And.intro bo1 bl1); clear bo1 bl1)
  clear hCN
  have hlp : w1.heap.size < W1.heap.size := HN.out.1.bd.lt
  have HD0 := Lib.hid (DS.new HN.out.1 hlp)
  have HBN := Lib.hid (HN.out.2.trans ((below_alloc (Below.refl _ _) (.cells #[.slice none 0 0] 27)).mono HN.out.2.size))
  clear hlp
  obtain ⟨p, hp⟩ : ∃ p, w1.heap.size = p := ⟨_, rfl⟩
  obtain ⟨lp, hlp⟩ : ∃ p, W1.heap.size = p := ⟨_, rfl⟩
  simp only [hp, hlp] at HD0 HBN
  have HP := Lib.hid hp
  simp only [hp, hlp]
  go_loopg [11] (acts.length + 1) (fun kq v11 w' => ∃ (i : Nat) (A : Option Addr) (c : Nat) (xs : List S24) (u : Value), v11 = .int .i64 (i : Int) ∧ Aside0 (i ≤ acts.length ∧ i ≤ 60 ∧ acts.length - i < kq) ∧ Aside0 (Inv2 xs) ∧ Aside0 (DS p p lp A c xs u w') ∧ Aside0 (Below p w1 w'))
  case atStart => exact ⟨0, none, 0, [], _, rfl, ⟨by omega⟩, ⟨Inv2.nil⟩, ⟨HD0.out⟩, ⟨HBN.out⟩⟩
  case round =>
    obtain ⟨i, A, c, xs, u, rfl, HI, HX, HD, HB⟩ := hrel
    obtain ⟨k0, rfl⟩ : ∃ k0, gk = k0 + 1 := ⟨gk - 1, by have := HI.out; omega⟩
    have HBW := Lib.hid (show Below w.heap.size w wr from HB1.out.1.trans (HB.out.mono (by rw [← HP.out]; exact HB1.out.1.size)))
    by_cases c4 : i < acts.length
    · have c4a : decide ((i : Int) < (acts.length : Int)) = true := decide_eq_true (by omega)
      have c4b : decide (i < acts.length) = true := decide_eq_true c4
      by_cases c5 : i < 60
      · have c5a : decide ((i : Int) < 60) = true := decide_eq_true (by omega)
        have c5b : decide (i < 60) = true := decide_eq_true c5
        have KI : i + 1 ≤ acts.length ∧ i + 1 ≤ 60 ∧ acts.length - (i + 1) < k0 := by have := HI.out; omega
        have g1 : i ≤ 2000000 := by omega
        have pj : (0 ≤ (i : Int)) = True := eq_true (by omega)
        have pjl : ((i : Int) < (acts.length : Int)) = True := eq_true (by omega)
        obtain ⟨ad, rfl, ha0, ha1, ha2, ha3, ha4, ha5, ha6, ha7, ha8, ha9, ha10⟩ := act_at (Kd.C_below HA.out HBW.out) c4
        generalize hact : rdAct acts i = x at *
        have HCC := Lib.hid (show Calls Tryz.prog 8 #[.pointer (some ⟨p, 0, none⟩), .pointer (some ⟨lp, 0, none⟩), actA x] wr fun e w' => e = .returned (.bool true) ∧ ∃ A' c' u', DS p p lp A' c' (stepL x xs) u' w' ∧ Below p wr w' by
          have h := does_any w1 p lp A c xs u x wr
          rw [HP.out] at h
          exact h HD.out HB.out HX.out)
        unfold actA at HCC
        have hw := w1n i g1
        clear c4 c5 g1 hact
        go_wp2_with (go_at_call 8; refine HCC.out.mono ?_; rintro e W2 ⟨rfl, A', c', u', hd2, hb2⟩; have HD2 := Lib.hid hd2; have HB2 := Lib.hid hb2; clear hd2 hb2)
        go_roundg k0
        case measure => omega
        case rel => exact ⟨i + 1, A', c', _, u', (by first | rfl | exact congrArg (Value.int .i64) hw), ⟨KI⟩, ⟨HX.out.step x⟩, ⟨HD2.out⟩, ⟨HB.out.trans HB2.out⟩⟩
      · have c5a : decide ((i : Int) < 60) = false := decide_eq_false (by omega)
        have c5b : decide (i < 60) = false := decide_eq_false c5
        clear c5 c4
        obtain ⟨A2, c2, hu0⟩ := Kd.R_slice HD.out.lr
        subst hu0
        have l0 := lcell HD.out.lc
        have hxl : xs.length ≤ 1000000 := by have := HX.out.len; omega
        have HXL := Lib.hid hxl
        have HG := Lib.hid (get_any p p id A c xs wr HD.out.bo hxl)
        have HBL := Lib.hid (fun (W : World) (hb : Below wr.heap.size wr W) => (lcell (HD.out.below hb).lc : W.cell? ⟨lp, 0, none⟩ = some (.slice A2 xs.length c2)))
        have HBQ := Lib.hid (fun (W : World) (hb : Below wr.heap.size wr W) => ((HB.out.trans (hb.mono (by have := HB.out.size; have := HP.out; omega))).block w.heap.size (by have := HP.out; have := HB1.out.2.1; omega)).trans HB1.out.2.2)
        have HF := Lib.hid (fun (W : World) (hb : Below wr.heap.size wr W) => rfind_b id A2 c2 xs W (Kd.C_below (Kd.R_reads' HD.out.lr).2.2 hb) (Kd.R_reads' HD.out.lr).2.1 hxl)
        clear hxl
        rcases find_cases id xs with hf | ⟨k, hk, hf⟩
        · have hgq : getQ id xs = z24 := by unfold getQ; rw [hf]; rfl
          rw [hgq, hf] at HG
          rw [hf] at HF
          clear hgq hf
          have HG := Lib.hid (show Calls Tryz.prog 9 #[.pointer (some ⟨p, 0, none⟩), .int .i64 id] wr fun e w' => e = .returned (.tuple #[.agg #[.int .i64 0, .int .i64 0, .int .i64 0, .int .i64 0, .int .i64 0, .int .i64 0, .int .i64 0, .int .i64 0], .bool false]) ∧ Below wr.heap.size wr w' from HG.out)
          have HT2 := Lib.hid (fun (W2 : World) (b2 : Below wr.heap.size wr W2) => show GT W2.heap.size lp w.heap.size (.slice A2 xs.length c2) ⟨0, 0, 0, 0, 0, 0, 0, 0⟩ q (W2.alloc (.cells #[.int .i64 0, .int .i64 0, .int .i64 0, .int .i64 0, .int .i64 0, .int .i64 0, .int .i64 0, .int .i64 0] 24)) from GT.new (x := ⟨0, 0, 0, 0, 0, 0, 0, 0⟩) (HBL.out W2 b2) (HBQ.out W2 b2))
          have hOf := fun W => quote_Of.calls q.f0 q.f1 q.f2 q.f3 q.f4 q.f5 q.f6 q.f7 q.f3 q.f6 q.f7 W rfl
          have hROf := fun W => lombardref21_Of.calls q.f0 q.f1 q.f2 q.f3 q.f4 q.f5 q.f6 q.f7 q.f3 q.f6 q.f7 W rfl
          go_wp2_with (first
            | (have Y := HW3; go_at_call 11; refine (hROf _).mono ?_; rintro e W4 ⟨rfl, b4⟩; have HG4 := Lib.hid (HG3.out.below b4); have HW4 := Lib.hid (bl2 HW3.out b4); clear b4)
            | (have Y := HW2; go_at_call 10; refine (HF.out _ (bl2 HB2.out (below_alloc (Below.refl _ _) _))).mono ?_; rintro e W3 ⟨rfl, b3⟩; have HG3 := Lib.hid (HW2.out.below b3); have HW3 := Lib.hid (bl2 (bl2 HB2.out (below_alloc (Below.refl _ _) _)) b3); clear b3; obtain ⟨l3, ⟨t30, t31, t32, t33, t34, t35, t36, t37⟩, b30, b31, b32, b33, b34, b35, b36, b37⟩ := HG3.out)
            | (go_at_call 9; refine HG.out.mono ?_; rintro e W2 ⟨rfl, b2⟩; have HB2 := Lib.hid b2; have HW2 := Lib.hid (HT2.out W2 b2); obtain ⟨l2, _⟩ := HT2.out W2 b2; clear b2))
          have hV4 : ∀ V, W4.alloc (.cells #[.int .i64 q.f3, .int .i64 q.f6, .int .i64 q.f7] 36) = V → GT W2.heap.size lp w.heap.size (.slice A2 xs.length c2) ⟨0, 0, 0, 0, 0, 0, 0, 0⟩ q V ∧ Below wr.heap.size wr V ∧ V.cell? ⟨W4.heap.size, 0, none⟩ = some (.int .i64 q.f3) ∧ V.cell? ⟨W4.heap.size, 1, none⟩ = some (.int .i64 q.f6) ∧ V.cell? ⟨W4.heap.size, 2, none⟩ = some (.int .i64 q.f7) := by
            rintro V rfl
            exact ⟨HG4.out.below (below_alloc (Below.refl _ _) _), bl2 HW4.out (below_alloc (Below.refl _ _) _), cell_new W4 _ 36 0 _ rfl, cell_new W4 _ 36 1 _ rfl, cell_new W4 _ 36 2 _ rfl⟩
          generalize hV : W4.alloc (.cells #[.int .i64 q.f3, .int .i64 q.f6, .int .i64 q.f7] 36) = V4
          obtain ⟨hG, hBV, v0, v1, v2⟩ := hV4 V4 hV
          have HGV := Lib.hid hG
          have HBV := Lib.hid hBV
          have HVV := Lib.hid (And.intro v0 (And.intro v1 v2))
          clear hV4 hV HG4 HW4 HG3 HW3 HW2 HT2 t30 b30 t31 b31 t32 b32 t33 b33 t34 b34 t35 b35 t36 b36 t37 b37 l3 hBV
          obtain ⟨l4, ⟨t40, t41, t42, t43, t44, t45, t46, t47⟩, b40, b41, b42, b43, b44, b45, b46, b47⟩ := hG
          go_wp2_with (fail)
          go_region
          all_goals (
            obtain ⟨o1, ho1⟩ : ∃ o, wrap64 (3 - side) = o := ⟨_, rfl⟩
            have hO1 := fun W => ((quote_Other.calls 1 2 W (by kernel_rfl)).mono fun e w' h => ⟨h.1, h.2.below⟩ : Calls Tryz.prog 13 #[.int .i64 1] W fun e w' => e = .returned (.int .i64 2) ∧ Below W.heap.size W w')
            have hO2 := fun W => ((quote_Other.calls side o1 W (by unfold quote_Other.f; rw [ho1])).mono fun e w' h => ⟨h.1, h.2.below⟩ : Calls Tryz.prog 13 #[.int .i64 side] W fun e w' => e = .returned (.int .i64 o1) ∧ Below W.heap.size W w')
            have hO3 := fun W => ((quote_Other.calls o1 side W (by unfold quote_Other.f; rw [← ho1, other2 side HS.out])).mono fun e w' h => ⟨h.1, h.2.below⟩ : Calls Tryz.prog 13 #[.int .i64 o1] W fun e w' => e = .returned (.int .i64 side) ∧ Below W.heap.size W w')
            have HO := Lib.hid (And.intro hO1 (And.intro hO2 hO3))
            clear hO1 hO2 hO3 ho1
            go_wp2_with (fail)
            have HSB := Lib.hid (show ∀ W W' : World, Below W.heap.size W W' → (W.cell? ⟨w.heap.size, 0, none⟩ = some (.int .i64 q.f0) ∧ W.cell? ⟨w.heap.size, 1, none⟩ = some (.int .i64 q.f1) ∧ W.cell? ⟨w.heap.size, 2, none⟩ = some (.int .i64 q.f2) ∧ W.cell? ⟨w.heap.size, 3, none⟩ = some (.int .i64 q.f3) ∧ W.cell? ⟨w.heap.size, 4, none⟩ = some (.int .i64 q.f4) ∧ W.cell? ⟨w.heap.size, 5, none⟩ = some (.int .i64 q.f5) ∧ W.cell? ⟨w.heap.size, 6, none⟩ = some (.int .i64 q.f6) ∧ W.cell? ⟨w.heap.size, 7, none⟩ = some (.int .i64 q.f7) ∧ W.cell? ⟨W4.heap.size, 0, none⟩ = some (.int .i64 q.f3) ∧ W.cell? ⟨W4.heap.size, 1, none⟩ = some (.int .i64 q.f6) ∧ W.cell? ⟨W4.heap.size, 2, none⟩ = some (.int .i64 q.f7)) → (W'.cell? ⟨w.heap.size, 0, none⟩ = some (.int .i64 q.f0) ∧ W'.cell? ⟨w.heap.size, 1, none⟩ = some (.int .i64 q.f1) ∧ W'.cell? ⟨w.heap.size, 2, none⟩ = some (.int .i64 q.f2) ∧ W'.cell? ⟨w.heap.size, 3, none⟩ = some (.int .i64 q.f3) ∧ W'.cell? ⟨w.heap.size, 4, none⟩ = some (.int .i64 q.f4) ∧ W'.cell? ⟨w.heap.size, 5, none⟩ = some (.int .i64 q.f5) ∧ W'.cell? ⟨w.heap.size, 6, none⟩ = some (.int .i64 q.f6) ∧ W'.cell? ⟨w.heap.size, 7, none⟩ = some (.int .i64 q.f7) ∧ W'.cell? ⟨W4.heap.size, 0, none⟩ = some (.int .i64 q.f3) ∧ W'.cell? ⟨W4.heap.size, 1, none⟩ = some (.int .i64 q.f6) ∧ W'.cell? ⟨W4.heap.size, 2, none⟩ = some (.int .i64 q.f7)) from fun W W' b h => (S13.below h b : S13 w.heap.size W4.heap.size q W'))
            have HSV := Lib.hid (show S13 w.heap.size W4.heap.size q V4.drew from S13.below (by obtain ⟨_, _, d0, d1, d2, d3, d4, d5, d6, d7⟩ := HGV.out; exact ⟨d0, d1, d2, d3, d4, d5, d6, d7, HVV.out⟩) (drew_below _))
            have hSD : V4.drew.drew.cell? ⟨w.heap.size, 0, none⟩ = some (.int .i64 q.f0) ∧ V4.drew.drew.cell? ⟨w.heap.size, 1, none⟩ = some (.int .i64 q.f1) ∧ V4.drew.drew.cell? ⟨w.heap.size, 2, none⟩ = some (.int .i64 q.f2) ∧ V4.drew.drew.cell? ⟨w.heap.size, 3, none⟩ = some (.int .i64 q.f3) ∧ V4.drew.drew.cell? ⟨w.heap.size, 4, none⟩ = some (.int .i64 q.f4) ∧ V4.drew.drew.cell? ⟨w.heap.size, 5, none⟩ = some (.int .i64 q.f5) ∧ V4.drew.drew.cell? ⟨w.heap.size, 6, none⟩ = some (.int .i64 q.f6) ∧ V4.drew.drew.cell? ⟨w.heap.size, 7, none⟩ = some (.int .i64 q.f7) ∧ V4.drew.drew.cell? ⟨W4.heap.size, 0, none⟩ = some (.int .i64 q.f3) ∧ V4.drew.drew.cell? ⟨W4.heap.size, 1, none⟩ = some (.int .i64 q.f6) ∧ V4.drew.drew.cell? ⟨W4.heap.size, 2, none⟩ = some (.int .i64 q.f7) := HSV.out.below (drew_below _)
            go_region_held3 (fun w' : World => w'.cell? ⟨w.heap.size, 0, none⟩ = some (.int .i64 q.f0) ∧ w'.cell? ⟨w.heap.size, 1, none⟩ = some (.int .i64 q.f1) ∧ w'.cell? ⟨w.heap.size, 2, none⟩ = some (.int .i64 q.f2) ∧ w'.cell? ⟨w.heap.size, 3, none⟩ = some (.int .i64 q.f3) ∧ w'.cell? ⟨w.heap.size, 4, none⟩ = some (.int .i64 q.f4) ∧ w'.cell? ⟨w.heap.size, 5, none⟩ = some (.int .i64 q.f5) ∧ w'.cell? ⟨w.heap.size, 6, none⟩ = some (.int .i64 q.f6) ∧ w'.cell? ⟨w.heap.size, 7, none⟩ = some (.int .i64 q.f7) ∧ w'.cell? ⟨W4.heap.size, 0, none⟩ = some (.int .i64 q.f3) ∧ w'.cell? ⟨W4.heap.size, 1, none⟩ = some (.int .i64 q.f6) ∧ w'.cell? ⟨W4.heap.size, 2, none⟩ = some (.int .i64 q.f7)) 
              (first | with_reducible assumption | with_reducible exact HSB.out _ _ (by with_reducible assumption) (by with_reducible assumption))
              (first
                | (go_at_call 14; refine (awake21_walk _).mono ?_; rintro e W9 ⟨rfl, b9⟩)
                | (go_at_call_has 13 (Value.int .i64 o1); refine (HO.out.2.2 _).mono ?_; rintro e W8 ⟨rfl, b8⟩)
                | (go_at_call_has 13 (Value.int .i64 side); refine (HO.out.2.1 _).mono ?_; rintro e W7 ⟨rfl, b7⟩)
                | (go_at_call_has 13 (Value.int .i64 1); refine (HO.out.1 _).mono ?_; rintro e W6 ⟨rfl, b6⟩)
                | (go_at_call 12; refine (hOf _).mono ?_; rintro e W5 ⟨rfl, b5⟩))
            all_goals (
              go_wp2_with (fail)
              go_ret
              exact ⟨rfl, bl2 (bl2 (bl2 (bl2 (bl2 (bl2 (bl2 (bl2 HBW.out HBV.out) (drew_below _)) (drew_below _)) b5) b6) b7) b8) b9⟩))
        · have hgq : getQ id xs = rd_T24 xs (k : Int) := by unfold getQ; rw [hf, if_neg (by omega)]
          rw [hgq, hf] at HG
          rw [hf] at HF
          obtain ⟨g2, rfl⟩ := R_some HD.out.lr (by omega)
          have HROW := Lib.hid (fun (W : World) (hb : Below wr.heap.size wr W) => row_at (Kd.C_below (Kd.R_reads' HD.out.lr).2.2 hb) hk)
          have dk : decide ((0 : Int) ≤ (k : Int)) = true := decide_eq_true (by omega)
          have dk2 : decide ((k : Int) ≥ 0) = true := decide_eq_true (by omega)
          have pk : (0 ≤ (k : Int)) = True := eq_true (by omega)
          have pkl : ((k : Int) < (xs.length : Int)) = True := eq_true (by omega)
          have dkn : decide ((k : Int) < 0) = false := decide_eq_false (by omega)
          rw [dkn] at HG
          generalize hy : rd_T24 xs (k : Int) = x at *
          obtain ⟨x0, x1, x2, x3, x4, x5, x6, x7⟩ := x
          unfold qA at HG
          simp only at *
          clear hgq hf hy hk dkn
          have HG := Lib.hid (show Calls Tryz.prog 9 #[.pointer (some ⟨p, 0, none⟩), .int .i64 id] wr fun e w' => e = .returned (.tuple #[.agg #[.int .i64 x0, .int .i64 x1, .int .i64 x2, .int .i64 x3, .int .i64 x4, .int .i64 x5, .int .i64 x6, .int .i64 x7], .bool true]) ∧ Below wr.heap.size wr w' from HG.out)
          have HT2 := Lib.hid (fun (W2 : World) (b2 : Below wr.heap.size wr W2) => show GT W2.heap.size lp w.heap.size (.slice (some ⟨g2, 0, none⟩) xs.length c2) ⟨x0, x1, x2, x3, x4, x5, x6, x7⟩ q (W2.alloc (.cells #[.int .i64 x0, .int .i64 x1, .int .i64 x2, .int .i64 x3, .int .i64 x4, .int .i64 x5, .int .i64 x6, .int .i64 x7] 24)) from GT.new (x := ⟨x0, x1, x2, x3, x4, x5, x6, x7⟩) (HBL.out W2 b2) (HBQ.out W2 b2))
          have hOf := fun W => quote_Of.calls q.f0 q.f1 q.f2 q.f3 q.f4 q.f5 q.f6 q.f7 q.f3 q.f6 q.f7 W rfl
          have hROf := fun W => lombardref21_Of.calls q.f0 q.f1 q.f2 q.f3 q.f4 q.f5 q.f6 q.f7 q.f3 q.f6 q.f7 W rfl
          go_wp2_with (first
            | (have Y := HW3; go_at_call 11; refine (hROf _).mono ?_; rintro e W4 ⟨rfl, b4⟩; have HG4 := Lib.hid (HG3.out.below b4); have HW4 := Lib.hid (bl2 HW3.out b4); clear b4)
            | (have Y := HW2; go_at_call 10; refine (HF.out _ (bl2 HB2.out (below_alloc (Below.refl _ _) _))).mono ?_; rintro e W3 ⟨rfl, b3⟩; have HG3 := Lib.hid (HW2.out.below b3); have HW3 := Lib.hid (bl2 (bl2 HB2.out (below_alloc (Below.refl _ _) _)) b3); clear b3; obtain ⟨l3, ⟨t30, t31, t32, t33, t34, t35, t36, t37⟩, b30, b31, b32, b33, b34, b35, b36, b37⟩ := HG3.out)
            | (go_at_call 9; refine HG.out.mono ?_; rintro e W2 ⟨rfl, b2⟩; have HB2 := Lib.hid b2; have HW2 := Lib.hid (HT2.out W2 b2); obtain ⟨l2, _⟩ := HT2.out W2 b2; clear b2))
          have hV4 : ∀ V, W4.alloc (.cells #[.int .i64 q.f3, .int .i64 q.f6, .int .i64 q.f7] 36) = V → GT W2.heap.size lp w.heap.size (.slice (some ⟨g2, 0, none⟩) xs.length c2) ⟨x0, x1, x2, x3, x4, x5, x6, x7⟩ q V ∧ Below wr.heap.size wr V ∧ V.cell? ⟨W4.heap.size, 0, none⟩ = some (.int .i64 q.f3) ∧ V.cell? ⟨W4.heap.size, 1, none⟩ = some (.int .i64 q.f6) ∧ V.cell? ⟨W4.heap.size, 2, none⟩ = some (.int .i64 q.f7) := by
            rintro V rfl
            exact ⟨HG4.out.below (below_alloc (Below.refl _ _) _), bl2 HW4.out (below_alloc (Below.refl _ _) _), cell_new W4 _ 36 0 _ rfl, cell_new W4 _ 36 1 _ rfl, cell_new W4 _ 36 2 _ rfl⟩
          generalize hV : W4.alloc (.cells #[.int .i64 q.f3, .int .i64 q.f6, .int .i64 q.f7] 36) = V4
          obtain ⟨hG, hBV, v0, v1, v2⟩ := hV4 V4 hV
          have HGV := Lib.hid hG
          have HBV := Lib.hid hBV
          have HVV := Lib.hid (And.intro v0 (And.intro v1 v2))
          clear hV4 hV HG4 HW4 HG3 HW3 HW2 HT2 t30 b30 t31 b31 t32 b32 t33 b33 t34 b34 t35 b35 t36 b36 t37 b37 l3 hBV
          obtain ⟨l4, ⟨t40, t41, t42, t43, t44, t45, t46, t47⟩, b40, b41, b42, b43, b44, b45, b46, b47⟩ := hG
          obtain ⟨r0, r1, r2, r3, r4, r5, r6, r7⟩ := HROW.out V4 HBV.out
          go_wp2_with (fail)
          go_region
          all_goals (
            obtain ⟨o1, ho1⟩ : ∃ o, wrap64 (3 - side) = o := ⟨_, rfl⟩
            have hO1 := fun W => ((quote_Other.calls 1 2 W (by kernel_rfl)).mono fun e w' h => ⟨h.1, h.2.below⟩ : Calls Tryz.prog 13 #[.int .i64 1] W fun e w' => e = .returned (.int .i64 2) ∧ Below W.heap.size W w')
            have hO2 := fun W => ((quote_Other.calls side o1 W (by unfold quote_Other.f; rw [ho1])).mono fun e w' h => ⟨h.1, h.2.below⟩ : Calls Tryz.prog 13 #[.int .i64 side] W fun e w' => e = .returned (.int .i64 o1) ∧ Below W.heap.size W w')
            have hO3 := fun W => ((quote_Other.calls o1 side W (by unfold quote_Other.f; rw [← ho1, other2 side HS.out])).mono fun e w' h => ⟨h.1, h.2.below⟩ : Calls Tryz.prog 13 #[.int .i64 o1] W fun e w' => e = .returned (.int .i64 side) ∧ Below W.heap.size W w')
            have HO := Lib.hid (And.intro hO1 (And.intro hO2 hO3))
            clear hO1 hO2 hO3 ho1
            go_wp2_with (fail)
            have HSB := Lib.hid (show ∀ W W' : World, Below W.heap.size W W' → (W.cell? ⟨w.heap.size, 0, none⟩ = some (.int .i64 q.f0) ∧ W.cell? ⟨w.heap.size, 1, none⟩ = some (.int .i64 q.f1) ∧ W.cell? ⟨w.heap.size, 2, none⟩ = some (.int .i64 q.f2) ∧ W.cell? ⟨w.heap.size, 3, none⟩ = some (.int .i64 q.f3) ∧ W.cell? ⟨w.heap.size, 4, none⟩ = some (.int .i64 q.f4) ∧ W.cell? ⟨w.heap.size, 5, none⟩ = some (.int .i64 q.f5) ∧ W.cell? ⟨w.heap.size, 6, none⟩ = some (.int .i64 q.f6) ∧ W.cell? ⟨w.heap.size, 7, none⟩ = some (.int .i64 q.f7) ∧ W.cell? ⟨W4.heap.size, 0, none⟩ = some (.int .i64 q.f3) ∧ W.cell? ⟨W4.heap.size, 1, none⟩ = some (.int .i64 q.f6) ∧ W.cell? ⟨W4.heap.size, 2, none⟩ = some (.int .i64 q.f7)) → (W'.cell? ⟨w.heap.size, 0, none⟩ = some (.int .i64 q.f0) ∧ W'.cell? ⟨w.heap.size, 1, none⟩ = some (.int .i64 q.f1) ∧ W'.cell? ⟨w.heap.size, 2, none⟩ = some (.int .i64 q.f2) ∧ W'.cell? ⟨w.heap.size, 3, none⟩ = some (.int .i64 q.f3) ∧ W'.cell? ⟨w.heap.size, 4, none⟩ = some (.int .i64 q.f4) ∧ W'.cell? ⟨w.heap.size, 5, none⟩ = some (.int .i64 q.f5) ∧ W'.cell? ⟨w.heap.size, 6, none⟩ = some (.int .i64 q.f6) ∧ W'.cell? ⟨w.heap.size, 7, none⟩ = some (.int .i64 q.f7) ∧ W'.cell? ⟨W4.heap.size, 0, none⟩ = some (.int .i64 q.f3) ∧ W'.cell? ⟨W4.heap.size, 1, none⟩ = some (.int .i64 q.f6) ∧ W'.cell? ⟨W4.heap.size, 2, none⟩ = some (.int .i64 q.f7)) from fun W W' b h => (S13.below h b : S13 w.heap.size W4.heap.size q W'))
            have HSV := Lib.hid (show S13 w.heap.size W4.heap.size q V4.drew from S13.below (by obtain ⟨_, _, d0, d1, d2, d3, d4, d5, d6, d7⟩ := HGV.out; exact ⟨d0, d1, d2, d3, d4, d5, d6, d7, HVV.out⟩) (drew_below _))
            have hSD : V4.drew.drew.cell? ⟨w.heap.size, 0, none⟩ = some (.int .i64 q.f0) ∧ V4.drew.drew.cell? ⟨w.heap.size, 1, none⟩ = some (.int .i64 q.f1) ∧ V4.drew.drew.cell? ⟨w.heap.size, 2, none⟩ = some (.int .i64 q.f2) ∧ V4.drew.drew.cell? ⟨w.heap.size, 3, none⟩ = some (.int .i64 q.f3) ∧ V4.drew.drew.cell? ⟨w.heap.size, 4, none⟩ = some (.int .i64 q.f4) ∧ V4.drew.drew.cell? ⟨w.heap.size, 5, none⟩ = some (.int .i64 q.f5) ∧ V4.drew.drew.cell? ⟨w.heap.size, 6, none⟩ = some (.int .i64 q.f6) ∧ V4.drew.drew.cell? ⟨w.heap.size, 7, none⟩ = some (.int .i64 q.f7) ∧ V4.drew.drew.cell? ⟨W4.heap.size, 0, none⟩ = some (.int .i64 q.f3) ∧ V4.drew.drew.cell? ⟨W4.heap.size, 1, none⟩ = some (.int .i64 q.f6) ∧ V4.drew.drew.cell? ⟨W4.heap.size, 2, none⟩ = some (.int .i64 q.f7) := HSV.out.below (drew_below _)
            go_region_held3 (fun w' : World => w'.cell? ⟨w.heap.size, 0, none⟩ = some (.int .i64 q.f0) ∧ w'.cell? ⟨w.heap.size, 1, none⟩ = some (.int .i64 q.f1) ∧ w'.cell? ⟨w.heap.size, 2, none⟩ = some (.int .i64 q.f2) ∧ w'.cell? ⟨w.heap.size, 3, none⟩ = some (.int .i64 q.f3) ∧ w'.cell? ⟨w.heap.size, 4, none⟩ = some (.int .i64 q.f4) ∧ w'.cell? ⟨w.heap.size, 5, none⟩ = some (.int .i64 q.f5) ∧ w'.cell? ⟨w.heap.size, 6, none⟩ = some (.int .i64 q.f6) ∧ w'.cell? ⟨w.heap.size, 7, none⟩ = some (.int .i64 q.f7) ∧ w'.cell? ⟨W4.heap.size, 0, none⟩ = some (.int .i64 q.f3) ∧ w'.cell? ⟨W4.heap.size, 1, none⟩ = some (.int .i64 q.f6) ∧ w'.cell? ⟨W4.heap.size, 2, none⟩ = some (.int .i64 q.f7)) 
              (first | with_reducible assumption | with_reducible exact HSB.out _ _ (by with_reducible assumption) (by with_reducible assumption))
              (first
                | (go_at_call 14; refine (awake21_walk _).mono ?_; rintro e W9 ⟨rfl, b9⟩)
                | (go_at_call_has 13 (Value.int .i64 o1); refine (HO.out.2.2 _).mono ?_; rintro e W8 ⟨rfl, b8⟩)
                | (go_at_call_has 13 (Value.int .i64 side); refine (HO.out.2.1 _).mono ?_; rintro e W7 ⟨rfl, b7⟩)
                | (go_at_call_has 13 (Value.int .i64 1); refine (HO.out.1 _).mono ?_; rintro e W6 ⟨rfl, b6⟩)
                | (go_at_call 12; refine (hOf _).mono ?_; rintro e W5 ⟨rfl, b5⟩))
            all_goals (
              go_wp2_with (fail)
              go_ret
              exact ⟨rfl, bl2 (bl2 (bl2 (bl2 (bl2 (bl2 (bl2 (bl2 HBW.out HBV.out) (drew_below _)) (drew_below _)) b5) b6) b7) b8) b9⟩))
    · have c4a : decide ((i : Int) < (acts.length : Int)) = false := decide_eq_false (by omega)
      have c4b : decide (i < acts.length) = false := decide_eq_false c4
      clear c4
      obtain ⟨A2, c2, hu0⟩ := Kd.R_slice HD.out.lr
      subst hu0
      have l0 := lcell HD.out.lc
      have hxl : xs.length ≤ 1000000 := by have := HX.out.len; omega
      have HXL := Lib.hid hxl
      have HG := Lib.hid (get_any p p id A c xs wr HD.out.bo hxl)
      have HBL := Lib.hid (fun (W : World) (hb : Below wr.heap.size wr W) => (lcell (HD.out.below hb).lc : W.cell? ⟨lp, 0, none⟩ = some (.slice A2 xs.length c2)))
      have HBQ := Lib.hid (fun (W : World) (hb : Below wr.heap.size wr W) => ((HB.out.trans (hb.mono (by have := HB.out.size; have := HP.out; omega))).block w.heap.size (by have := HP.out; have := HB1.out.2.1; omega)).trans HB1.out.2.2)
      have HF := Lib.hid (fun (W : World) (hb : Below wr.heap.size wr W) => rfind_b id A2 c2 xs W (Kd.C_below (Kd.R_reads' HD.out.lr).2.2 hb) (Kd.R_reads' HD.out.lr).2.1 hxl)
      clear hxl
      rcases find_cases id xs with hf | ⟨k, hk, hf⟩
      · have hgq : getQ id xs = z24 := by unfold getQ; rw [hf]; rfl
        rw [hgq, hf] at HG
        rw [hf] at HF
        clear hgq hf
        have HG := Lib.hid (show Calls Tryz.prog 9 #[.pointer (some ⟨p, 0, none⟩), .int .i64 id] wr fun e w' => e = .returned (.tuple #[.agg #[.int .i64 0, .int .i64 0, .int .i64 0, .int .i64 0, .int .i64 0, .int .i64 0, .int .i64 0, .int .i64 0], .bool false]) ∧ Below wr.heap.size wr w' from HG.out)
        have HT2 := Lib.hid (fun (W2 : World) (b2 : Below wr.heap.size wr W2) => show GT W2.heap.size lp w.heap.size (.slice A2 xs.length c2) ⟨0, 0, 0, 0, 0, 0, 0, 0⟩ q (W2.alloc (.cells #[.int .i64 0, .int .i64 0, .int .i64 0, .int .i64 0, .int .i64 0, .int .i64 0, .int .i64 0, .int .i64 0] 24)) from GT.new (x := ⟨0, 0, 0, 0, 0, 0, 0, 0⟩) (HBL.out W2 b2) (HBQ.out W2 b2))
        have hOf := fun W => quote_Of.calls q.f0 q.f1 q.f2 q.f3 q.f4 q.f5 q.f6 q.f7 q.f3 q.f6 q.f7 W rfl
        have hROf := fun W => lombardref21_Of.calls q.f0 q.f1 q.f2 q.f3 q.f4 q.f5 q.f6 q.f7 q.f3 q.f6 q.f7 W rfl
        go_wp2_with (first
          | (have Y := HW3; go_at_call 11; refine (hROf _).mono ?_; rintro e W4 ⟨rfl, b4⟩; have HG4 := Lib.hid (HG3.out.below b4); have HW4 := Lib.hid (bl2 HW3.out b4); clear b4)
          | (have Y := HW2; go_at_call 10; refine (HF.out _ (bl2 HB2.out (below_alloc (Below.refl _ _) _))).mono ?_; rintro e W3 ⟨rfl, b3⟩; have HG3 := Lib.hid (HW2.out.below b3); have HW3 := Lib.hid (bl2 (bl2 HB2.out (below_alloc (Below.refl _ _) _)) b3); clear b3; obtain ⟨l3, ⟨t30, t31, t32, t33, t34, t35, t36, t37⟩, b30, b31, b32, b33, b34, b35, b36, b37⟩ := HG3.out)
          | (go_at_call 9; refine HG.out.mono ?_; rintro e W2 ⟨rfl, b2⟩; have HB2 := Lib.hid b2; have HW2 := Lib.hid (HT2.out W2 b2); obtain ⟨l2, _⟩ := HT2.out W2 b2; clear b2))
        have hV4 : ∀ V, W4.alloc (.cells #[.int .i64 q.f3, .int .i64 q.f6, .int .i64 q.f7] 36) = V → GT W2.heap.size lp w.heap.size (.slice A2 xs.length c2) ⟨0, 0, 0, 0, 0, 0, 0, 0⟩ q V ∧ Below wr.heap.size wr V ∧ V.cell? ⟨W4.heap.size, 0, none⟩ = some (.int .i64 q.f3) ∧ V.cell? ⟨W4.heap.size, 1, none⟩ = some (.int .i64 q.f6) ∧ V.cell? ⟨W4.heap.size, 2, none⟩ = some (.int .i64 q.f7) := by
          rintro V rfl
          exact ⟨HG4.out.below (below_alloc (Below.refl _ _) _), bl2 HW4.out (below_alloc (Below.refl _ _) _), cell_new W4 _ 36 0 _ rfl, cell_new W4 _ 36 1 _ rfl, cell_new W4 _ 36 2 _ rfl⟩
        generalize hV : W4.alloc (.cells #[.int .i64 q.f3, .int .i64 q.f6, .int .i64 q.f7] 36) = V4
        obtain ⟨hG, hBV, v0, v1, v2⟩ := hV4 V4 hV
        have HGV := Lib.hid hG
        have HBV := Lib.hid hBV
        have HVV := Lib.hid (And.intro v0 (And.intro v1 v2))
        clear hV4 hV HG4 HW4 HG3 HW3 HW2 HT2 t30 b30 t31 b31 t32 b32 t33 b33 t34 b34 t35 b35 t36 b36 t37 b37 l3 hBV
        obtain ⟨l4, ⟨t40, t41, t42, t43, t44, t45, t46, t47⟩, b40, b41, b42, b43, b44, b45, b46, b47⟩ := hG
        go_wp2_with (fail)
        go_region
        all_goals (
          obtain ⟨o1, ho1⟩ : ∃ o, wrap64 (3 - side) = o := ⟨_, rfl⟩
          have hO1 := fun W => ((quote_Other.calls 1 2 W (by kernel_rfl)).mono fun e w' h => ⟨h.1, h.2.below⟩ : Calls Tryz.prog 13 #[.int .i64 1] W fun e w' => e = .returned (.int .i64 2) ∧ Below W.heap.size W w')
          have hO2 := fun W => ((quote_Other.calls side o1 W (by unfold quote_Other.f; rw [ho1])).mono fun e w' h => ⟨h.1, h.2.below⟩ : Calls Tryz.prog 13 #[.int .i64 side] W fun e w' => e = .returned (.int .i64 o1) ∧ Below W.heap.size W w')
          have hO3 := fun W => ((quote_Other.calls o1 side W (by unfold quote_Other.f; rw [← ho1, other2 side HS.out])).mono fun e w' h => ⟨h.1, h.2.below⟩ : Calls Tryz.prog 13 #[.int .i64 o1] W fun e w' => e = .returned (.int .i64 side) ∧ Below W.heap.size W w')
          have HO := Lib.hid (And.intro hO1 (And.intro hO2 hO3))
          clear hO1 hO2 hO3 ho1
          go_wp2_with (fail)
          have HSB := Lib.hid (show ∀ W W' : World, Below W.heap.size W W' → (W.cell? ⟨w.heap.size, 0, none⟩ = some (.int .i64 q.f0) ∧ W.cell? ⟨w.heap.size, 1, none⟩ = some (.int .i64 q.f1) ∧ W.cell? ⟨w.heap.size, 2, none⟩ = some (.int .i64 q.f2) ∧ W.cell? ⟨w.heap.size, 3, none⟩ = some (.int .i64 q.f3) ∧ W.cell? ⟨w.heap.size, 4, none⟩ = some (.int .i64 q.f4) ∧ W.cell? ⟨w.heap.size, 5, none⟩ = some (.int .i64 q.f5) ∧ W.cell? ⟨w.heap.size, 6, none⟩ = some (.int .i64 q.f6) ∧ W.cell? ⟨w.heap.size, 7, none⟩ = some (.int .i64 q.f7) ∧ W.cell? ⟨W4.heap.size, 0, none⟩ = some (.int .i64 q.f3) ∧ W.cell? ⟨W4.heap.size, 1, none⟩ = some (.int .i64 q.f6) ∧ W.cell? ⟨W4.heap.size, 2, none⟩ = some (.int .i64 q.f7)) → (W'.cell? ⟨w.heap.size, 0, none⟩ = some (.int .i64 q.f0) ∧ W'.cell? ⟨w.heap.size, 1, none⟩ = some (.int .i64 q.f1) ∧ W'.cell? ⟨w.heap.size, 2, none⟩ = some (.int .i64 q.f2) ∧ W'.cell? ⟨w.heap.size, 3, none⟩ = some (.int .i64 q.f3) ∧ W'.cell? ⟨w.heap.size, 4, none⟩ = some (.int .i64 q.f4) ∧ W'.cell? ⟨w.heap.size, 5, none⟩ = some (.int .i64 q.f5) ∧ W'.cell? ⟨w.heap.size, 6, none⟩ = some (.int .i64 q.f6) ∧ W'.cell? ⟨w.heap.size, 7, none⟩ = some (.int .i64 q.f7) ∧ W'.cell? ⟨W4.heap.size, 0, none⟩ = some (.int .i64 q.f3) ∧ W'.cell? ⟨W4.heap.size, 1, none⟩ = some (.int .i64 q.f6) ∧ W'.cell? ⟨W4.heap.size, 2, none⟩ = some (.int .i64 q.f7)) from fun W W' b h => (S13.below h b : S13 w.heap.size W4.heap.size q W'))
          have HSV := Lib.hid (show S13 w.heap.size W4.heap.size q V4.drew from S13.below (by obtain ⟨_, _, d0, d1, d2, d3, d4, d5, d6, d7⟩ := HGV.out; exact ⟨d0, d1, d2, d3, d4, d5, d6, d7, HVV.out⟩) (drew_below _))
          have hSD : V4.drew.drew.cell? ⟨w.heap.size, 0, none⟩ = some (.int .i64 q.f0) ∧ V4.drew.drew.cell? ⟨w.heap.size, 1, none⟩ = some (.int .i64 q.f1) ∧ V4.drew.drew.cell? ⟨w.heap.size, 2, none⟩ = some (.int .i64 q.f2) ∧ V4.drew.drew.cell? ⟨w.heap.size, 3, none⟩ = some (.int .i64 q.f3) ∧ V4.drew.drew.cell? ⟨w.heap.size, 4, none⟩ = some (.int .i64 q.f4) ∧ V4.drew.drew.cell? ⟨w.heap.size, 5, none⟩ = some (.int .i64 q.f5) ∧ V4.drew.drew.cell? ⟨w.heap.size, 6, none⟩ = some (.int .i64 q.f6) ∧ V4.drew.drew.cell? ⟨w.heap.size, 7, none⟩ = some (.int .i64 q.f7) ∧ V4.drew.drew.cell? ⟨W4.heap.size, 0, none⟩ = some (.int .i64 q.f3) ∧ V4.drew.drew.cell? ⟨W4.heap.size, 1, none⟩ = some (.int .i64 q.f6) ∧ V4.drew.drew.cell? ⟨W4.heap.size, 2, none⟩ = some (.int .i64 q.f7) := HSV.out.below (drew_below _)
          go_region_held3 (fun w' : World => w'.cell? ⟨w.heap.size, 0, none⟩ = some (.int .i64 q.f0) ∧ w'.cell? ⟨w.heap.size, 1, none⟩ = some (.int .i64 q.f1) ∧ w'.cell? ⟨w.heap.size, 2, none⟩ = some (.int .i64 q.f2) ∧ w'.cell? ⟨w.heap.size, 3, none⟩ = some (.int .i64 q.f3) ∧ w'.cell? ⟨w.heap.size, 4, none⟩ = some (.int .i64 q.f4) ∧ w'.cell? ⟨w.heap.size, 5, none⟩ = some (.int .i64 q.f5) ∧ w'.cell? ⟨w.heap.size, 6, none⟩ = some (.int .i64 q.f6) ∧ w'.cell? ⟨w.heap.size, 7, none⟩ = some (.int .i64 q.f7) ∧ w'.cell? ⟨W4.heap.size, 0, none⟩ = some (.int .i64 q.f3) ∧ w'.cell? ⟨W4.heap.size, 1, none⟩ = some (.int .i64 q.f6) ∧ w'.cell? ⟨W4.heap.size, 2, none⟩ = some (.int .i64 q.f7)) 
            (first | with_reducible assumption | with_reducible exact HSB.out _ _ (by with_reducible assumption) (by with_reducible assumption))
            (first
              | (go_at_call 14; refine (awake21_walk _).mono ?_; rintro e W9 ⟨rfl, b9⟩)
              | (go_at_call_has 13 (Value.int .i64 o1); refine (HO.out.2.2 _).mono ?_; rintro e W8 ⟨rfl, b8⟩)
              | (go_at_call_has 13 (Value.int .i64 side); refine (HO.out.2.1 _).mono ?_; rintro e W7 ⟨rfl, b7⟩)
              | (go_at_call_has 13 (Value.int .i64 1); refine (HO.out.1 _).mono ?_; rintro e W6 ⟨rfl, b6⟩)
              | (go_at_call 12; refine (hOf _).mono ?_; rintro e W5 ⟨rfl, b5⟩))
          all_goals (
            go_wp2_with (fail)
            go_ret
            exact ⟨rfl, bl2 (bl2 (bl2 (bl2 (bl2 (bl2 (bl2 (bl2 HBW.out HBV.out) (drew_below _)) (drew_below _)) b5) b6) b7) b8) b9⟩))
      · have hgq : getQ id xs = rd_T24 xs (k : Int) := by unfold getQ; rw [hf, if_neg (by omega)]
        rw [hgq, hf] at HG
        rw [hf] at HF
        obtain ⟨g2, rfl⟩ := R_some HD.out.lr (by omega)
        have HROW := Lib.hid (fun (W : World) (hb : Below wr.heap.size wr W) => row_at (Kd.C_below (Kd.R_reads' HD.out.lr).2.2 hb) hk)
        have dk : decide ((0 : Int) ≤ (k : Int)) = true := decide_eq_true (by omega)
        have dk2 : decide ((k : Int) ≥ 0) = true := decide_eq_true (by omega)
        have pk : (0 ≤ (k : Int)) = True := eq_true (by omega)
        have pkl : ((k : Int) < (xs.length : Int)) = True := eq_true (by omega)
        have dkn : decide ((k : Int) < 0) = false := decide_eq_false (by omega)
        rw [dkn] at HG
        generalize hy : rd_T24 xs (k : Int) = x at *
        obtain ⟨x0, x1, x2, x3, x4, x5, x6, x7⟩ := x
        unfold qA at HG
        simp only at *
        clear hgq hf hy hk dkn
        have HG := Lib.hid (show Calls Tryz.prog 9 #[.pointer (some ⟨p, 0, none⟩), .int .i64 id] wr fun e w' => e = .returned (.tuple #[.agg #[.int .i64 x0, .int .i64 x1, .int .i64 x2, .int .i64 x3, .int .i64 x4, .int .i64 x5, .int .i64 x6, .int .i64 x7], .bool true]) ∧ Below wr.heap.size wr w' from HG.out)
        have HT2 := Lib.hid (fun (W2 : World) (b2 : Below wr.heap.size wr W2) => show GT W2.heap.size lp w.heap.size (.slice (some ⟨g2, 0, none⟩) xs.length c2) ⟨x0, x1, x2, x3, x4, x5, x6, x7⟩ q (W2.alloc (.cells #[.int .i64 x0, .int .i64 x1, .int .i64 x2, .int .i64 x3, .int .i64 x4, .int .i64 x5, .int .i64 x6, .int .i64 x7] 24)) from GT.new (x := ⟨x0, x1, x2, x3, x4, x5, x6, x7⟩) (HBL.out W2 b2) (HBQ.out W2 b2))
        have hOf := fun W => quote_Of.calls q.f0 q.f1 q.f2 q.f3 q.f4 q.f5 q.f6 q.f7 q.f3 q.f6 q.f7 W rfl
        have hROf := fun W => lombardref21_Of.calls q.f0 q.f1 q.f2 q.f3 q.f4 q.f5 q.f6 q.f7 q.f3 q.f6 q.f7 W rfl
        go_wp2_with (first
          | (have Y := HW3; go_at_call 11; refine (hROf _).mono ?_; rintro e W4 ⟨rfl, b4⟩; have HG4 := Lib.hid (HG3.out.below b4); have HW4 := Lib.hid (bl2 HW3.out b4); clear b4)
          | (have Y := HW2; go_at_call 10; refine (HF.out _ (bl2 HB2.out (below_alloc (Below.refl _ _) _))).mono ?_; rintro e W3 ⟨rfl, b3⟩; have HG3 := Lib.hid (HW2.out.below b3); have HW3 := Lib.hid (bl2 (bl2 HB2.out (below_alloc (Below.refl _ _) _)) b3); clear b3; obtain ⟨l3, ⟨t30, t31, t32, t33, t34, t35, t36, t37⟩, b30, b31, b32, b33, b34, b35, b36, b37⟩ := HG3.out)
          | (go_at_call 9; refine HG.out.mono ?_; rintro e W2 ⟨rfl, b2⟩; have HB2 := Lib.hid b2; have HW2 := Lib.hid (HT2.out W2 b2); obtain ⟨l2, _⟩ := HT2.out W2 b2; clear b2))
        have hV4 : ∀ V, W4.alloc (.cells #[.int .i64 q.f3, .int .i64 q.f6, .int .i64 q.f7] 36) = V → GT W2.heap.size lp w.heap.size (.slice (some ⟨g2, 0, none⟩) xs.length c2) ⟨x0, x1, x2, x3, x4, x5, x6, x7⟩ q V ∧ Below wr.heap.size wr V ∧ V.cell? ⟨W4.heap.size, 0, none⟩ = some (.int .i64 q.f3) ∧ V.cell? ⟨W4.heap.size, 1, none⟩ = some (.int .i64 q.f6) ∧ V.cell? ⟨W4.heap.size, 2, none⟩ = some (.int .i64 q.f7) := by
          rintro V rfl
          exact ⟨HG4.out.below (below_alloc (Below.refl _ _) _), bl2 HW4.out (below_alloc (Below.refl _ _) _), cell_new W4 _ 36 0 _ rfl, cell_new W4 _ 36 1 _ rfl, cell_new W4 _ 36 2 _ rfl⟩
        generalize hV : W4.alloc (.cells #[.int .i64 q.f3, .int .i64 q.f6, .int .i64 q.f7] 36) = V4
        obtain ⟨hG, hBV, v0, v1, v2⟩ := hV4 V4 hV
        have HGV := Lib.hid hG
        have HBV := Lib.hid hBV
        have HVV := Lib.hid (And.intro v0 (And.intro v1 v2))
        clear hV4 hV HG4 HW4 HG3 HW3 HW2 HT2 t30 b30 t31 b31 t32 b32 t33 b33 t34 b34 t35 b35 t36 b36 t37 b37 l3 hBV
        obtain ⟨l4, ⟨t40, t41, t42, t43, t44, t45, t46, t47⟩, b40, b41, b42, b43, b44, b45, b46, b47⟩ := hG
        obtain ⟨r0, r1, r2, r3, r4, r5, r6, r7⟩ := HROW.out V4 HBV.out
        go_wp2_with (fail)
        go_region
        all_goals (
          obtain ⟨o1, ho1⟩ : ∃ o, wrap64 (3 - side) = o := ⟨_, rfl⟩
          have hO1 := fun W => ((quote_Other.calls 1 2 W (by kernel_rfl)).mono fun e w' h => ⟨h.1, h.2.below⟩ : Calls Tryz.prog 13 #[.int .i64 1] W fun e w' => e = .returned (.int .i64 2) ∧ Below W.heap.size W w')
          have hO2 := fun W => ((quote_Other.calls side o1 W (by unfold quote_Other.f; rw [ho1])).mono fun e w' h => ⟨h.1, h.2.below⟩ : Calls Tryz.prog 13 #[.int .i64 side] W fun e w' => e = .returned (.int .i64 o1) ∧ Below W.heap.size W w')
          have hO3 := fun W => ((quote_Other.calls o1 side W (by unfold quote_Other.f; rw [← ho1, other2 side HS.out])).mono fun e w' h => ⟨h.1, h.2.below⟩ : Calls Tryz.prog 13 #[.int .i64 o1] W fun e w' => e = .returned (.int .i64 side) ∧ Below W.heap.size W w')
          have HO := Lib.hid (And.intro hO1 (And.intro hO2 hO3))
          clear hO1 hO2 hO3 ho1
          go_wp2_with (fail)
          have HSB := Lib.hid (show ∀ W W' : World, Below W.heap.size W W' → (W.cell? ⟨w.heap.size, 0, none⟩ = some (.int .i64 q.f0) ∧ W.cell? ⟨w.heap.size, 1, none⟩ = some (.int .i64 q.f1) ∧ W.cell? ⟨w.heap.size, 2, none⟩ = some (.int .i64 q.f2) ∧ W.cell? ⟨w.heap.size, 3, none⟩ = some (.int .i64 q.f3) ∧ W.cell? ⟨w.heap.size, 4, none⟩ = some (.int .i64 q.f4) ∧ W.cell? ⟨w.heap.size, 5, none⟩ = some (.int .i64 q.f5) ∧ W.cell? ⟨w.heap.size, 6, none⟩ = some (.int .i64 q.f6) ∧ W.cell? ⟨w.heap.size, 7, none⟩ = some (.int .i64 q.f7) ∧ W.cell? ⟨W4.heap.size, 0, none⟩ = some (.int .i64 q.f3) ∧ W.cell? ⟨W4.heap.size, 1, none⟩ = some (.int .i64 q.f6) ∧ W.cell? ⟨W4.heap.size, 2, none⟩ = some (.int .i64 q.f7)) → (W'.cell? ⟨w.heap.size, 0, none⟩ = some (.int .i64 q.f0) ∧ W'.cell? ⟨w.heap.size, 1, none⟩ = some (.int .i64 q.f1) ∧ W'.cell? ⟨w.heap.size, 2, none⟩ = some (.int .i64 q.f2) ∧ W'.cell? ⟨w.heap.size, 3, none⟩ = some (.int .i64 q.f3) ∧ W'.cell? ⟨w.heap.size, 4, none⟩ = some (.int .i64 q.f4) ∧ W'.cell? ⟨w.heap.size, 5, none⟩ = some (.int .i64 q.f5) ∧ W'.cell? ⟨w.heap.size, 6, none⟩ = some (.int .i64 q.f6) ∧ W'.cell? ⟨w.heap.size, 7, none⟩ = some (.int .i64 q.f7) ∧ W'.cell? ⟨W4.heap.size, 0, none⟩ = some (.int .i64 q.f3) ∧ W'.cell? ⟨W4.heap.size, 1, none⟩ = some (.int .i64 q.f6) ∧ W'.cell? ⟨W4.heap.size, 2, none⟩ = some (.int .i64 q.f7)) from fun W W' b h => (S13.below h b : S13 w.heap.size W4.heap.size q W'))
          have HSV := Lib.hid (show S13 w.heap.size W4.heap.size q V4.drew from S13.below (by obtain ⟨_, _, d0, d1, d2, d3, d4, d5, d6, d7⟩ := HGV.out; exact ⟨d0, d1, d2, d3, d4, d5, d6, d7, HVV.out⟩) (drew_below _))
          have hSD : V4.drew.drew.cell? ⟨w.heap.size, 0, none⟩ = some (.int .i64 q.f0) ∧ V4.drew.drew.cell? ⟨w.heap.size, 1, none⟩ = some (.int .i64 q.f1) ∧ V4.drew.drew.cell? ⟨w.heap.size, 2, none⟩ = some (.int .i64 q.f2) ∧ V4.drew.drew.cell? ⟨w.heap.size, 3, none⟩ = some (.int .i64 q.f3) ∧ V4.drew.drew.cell? ⟨w.heap.size, 4, none⟩ = some (.int .i64 q.f4) ∧ V4.drew.drew.cell? ⟨w.heap.size, 5, none⟩ = some (.int .i64 q.f5) ∧ V4.drew.drew.cell? ⟨w.heap.size, 6, none⟩ = some (.int .i64 q.f6) ∧ V4.drew.drew.cell? ⟨w.heap.size, 7, none⟩ = some (.int .i64 q.f7) ∧ V4.drew.drew.cell? ⟨W4.heap.size, 0, none⟩ = some (.int .i64 q.f3) ∧ V4.drew.drew.cell? ⟨W4.heap.size, 1, none⟩ = some (.int .i64 q.f6) ∧ V4.drew.drew.cell? ⟨W4.heap.size, 2, none⟩ = some (.int .i64 q.f7) := HSV.out.below (drew_below _)
          go_region_held3 (fun w' : World => w'.cell? ⟨w.heap.size, 0, none⟩ = some (.int .i64 q.f0) ∧ w'.cell? ⟨w.heap.size, 1, none⟩ = some (.int .i64 q.f1) ∧ w'.cell? ⟨w.heap.size, 2, none⟩ = some (.int .i64 q.f2) ∧ w'.cell? ⟨w.heap.size, 3, none⟩ = some (.int .i64 q.f3) ∧ w'.cell? ⟨w.heap.size, 4, none⟩ = some (.int .i64 q.f4) ∧ w'.cell? ⟨w.heap.size, 5, none⟩ = some (.int .i64 q.f5) ∧ w'.cell? ⟨w.heap.size, 6, none⟩ = some (.int .i64 q.f6) ∧ w'.cell? ⟨w.heap.size, 7, none⟩ = some (.int .i64 q.f7) ∧ w'.cell? ⟨W4.heap.size, 0, none⟩ = some (.int .i64 q.f3) ∧ w'.cell? ⟨W4.heap.size, 1, none⟩ = some (.int .i64 q.f6) ∧ w'.cell? ⟨W4.heap.size, 2, none⟩ = some (.int .i64 q.f7)) 
            (first | with_reducible assumption | with_reducible exact HSB.out _ _ (by with_reducible assumption) (by with_reducible assumption))
            (first
              | (go_at_call 14; refine (awake21_walk _).mono ?_; rintro e W9 ⟨rfl, b9⟩)
              | (go_at_call_has 13 (Value.int .i64 o1); refine (HO.out.2.2 _).mono ?_; rintro e W8 ⟨rfl, b8⟩)
              | (go_at_call_has 13 (Value.int .i64 side); refine (HO.out.2.1 _).mono ?_; rintro e W7 ⟨rfl, b7⟩)
              | (go_at_call_has 13 (Value.int .i64 1); refine (HO.out.1 _).mono ?_; rintro e W6 ⟨rfl, b6⟩)
              | (go_at_call 12; refine (hOf _).mono ?_; rintro e W5 ⟨rfl, b5⟩))
          all_goals (
            go_wp2_with (fail)
            go_ret
            exact ⟨rfl, bl2 (bl2 (bl2 (bl2 (bl2 (bl2 (bl2 (bl2 HBW.out HBV.out) (drew_below _)) (drew_below _)) b5) b6) b7) b8) b9⟩))
end Go.Proofs.YtlhdbcjlmkglkaaGreat.Q

/- QuoteGets, as its row wants it. -/
set_option linter.unusedSimpArgs false
set_option linter.unusedVariables false
namespace Go.Proofs.YtlhdbcjlmkglkaaGreat.Q
open Go Go.RowKit Go.Proofs Go.Proofs.YtlhdbcjlmkglkaaGreat.PL Go.Proofs.YtlhdbcjlmkglkaaGreatW.PrintWords
theorem wf_in {n : Int} (h : (Lit.int .i64 n).wf = true) : -9223372036854775808 ≤ n ∧ n ≤ 9223372036854775807 := by
  simp [Lit.wf, IntKind.min, IntKind.max, IntKind.bits, IntKind.signed] at h
  omega
theorem laidOut : laidOutB Tryz.prog = true := by kernel_rfl
theorem gets_row (A0 : Option Addr) (c0 : Nat) (acts : List Act11) (id : Int) (q : S24) (side : Int) (w : World) (hq : QS 88 Any_ acts) (hC : Kd.C kAct w A0 acts.length acts) (hc : acts.length ≤ c0) (h1 : (Lit.int .i64 id).wf = true) (h3 : (Lit.int .i64 side).wf = true) :
    Calls Tryz.prog 3 #[.slice A0 acts.length c0, .int .i64 id, qA q, .int .i64 side] w fun e w' => e = .returned (.bool true) ∧ Below w.heap.size w w' :=
  gets_walk A0 c0 acts id side q w hC hc (wf_in h3)
end Go.Proofs.YtlhdbcjlmkglkaaGreat.Q
