/- Part 20 of the proof's texts: what the theorem needs of them. -/
import Derived.Test.YtbdcnfbidbffcaaDoorSNC12
import Derived.Test.YtbdcnfbidbffcaaDoorSNC16

set_option linter.unusedVariables false
set_option linter.unusedSimpArgs false
/- R.joint and R.Check: the first part of the printed PLx3 (its later part, not needed here, does not build). -/
namespace Go.Proofs.YtbdcnfbidbffcaaDoor.PL
open Go.RowKit Go.Proofs.YtbdcnfbidbffcaaDoorW.PrintWords Go.Proofs.YtbdcnfbidbffcaaDoorW.PrintLast Go.Proofs.YtbdcnfbidbffcaaDoorW.PrintMore
attribute [local go_sem] max2_int min2_int max_two min_two max_three min_three max_four min_four   -- for this text's walks alone
set_option linter.unusedVariables false
set_option linter.unusedSimpArgs false

/-! ### lombardref04_joint: function 29 -/
def lombardref04_joint.f (a0 : Int) : Option (Bool) := if a0 = 32 then (some true) else (if a0 = 45 then (some true) else (if a0 = 46 then (some true) else (if a0 = 38 then (some true) else (some (a0 == 39)))))
set_option maxHeartbeats 8000000 in
set_option maxRecDepth 100000 in
theorem lombardref04_joint.calls (a0 : Int) (r : Bool) (w : World) (h : lombardref04_joint.f a0 = some r) :
    Calls Tryd.prog 29 #[.int .i64 a0] w fun e w' => e = .returned (.bool r) ∧ Drawn0 w w' := by
  have H : (if a0 = 32 then (some true) else (if a0 = 45 then (some true) else (if a0 = 46 then (some true) else (if a0 = 38 then (some true) else (some (a0 == 39)))))) = some r := h
  clear h
  by_cases c2 : a0 = 32
  · rw [if_pos c2] at H
    have c2b0 : (a0 == 32) = true := beq_iff_eq.mpr c2
    have c2b1 : (a0 != 32) = false := bne_eq_false_iff_eq.mpr c2
    clear c2
    obtain rfl := Option.some.inj H
    go_enter Tryd.func29, Tryd.ntmps29
    go_wp2
    go_ret
    exact ⟨by first | rfl | (simp; done) | (simp [*]; done), by repeat (first | exact Drawn0.refl _ | apply Drawn0.step)⟩
  · rw [if_neg c2] at H
    have c2b0 : (a0 == 32) = false := beq_eq_false_iff_ne.mpr c2
    have c2b1 : (a0 != 32) = true := bne_iff_ne.mpr c2
    by_cases c3 : a0 = 45
    · rw [if_pos c3] at H
      have c3b0 : (a0 == 45) = true := beq_iff_eq.mpr c3
      have c3b1 : (a0 != 45) = false := bne_eq_false_iff_eq.mpr c3
      clear c3
      obtain rfl := Option.some.inj H
      go_enter Tryd.func29, Tryd.ntmps29
      go_wp2
      go_ret
      exact ⟨by first | rfl | (simp; done) | (simp [*]; done), by repeat (first | exact Drawn0.refl _ | apply Drawn0.step)⟩
    · rw [if_neg c3] at H
      have c3b0 : (a0 == 45) = false := beq_eq_false_iff_ne.mpr c3
      have c3b1 : (a0 != 45) = true := bne_iff_ne.mpr c3
      by_cases c4 : a0 = 46
      · rw [if_pos c4] at H
        have c4b0 : (a0 == 46) = true := beq_iff_eq.mpr c4
        have c4b1 : (a0 != 46) = false := bne_eq_false_iff_eq.mpr c4
        clear c4
        obtain rfl := Option.some.inj H
        go_enter Tryd.func29, Tryd.ntmps29
        go_wp2
        go_ret
        exact ⟨by first | rfl | (simp; done) | (simp [*]; done), by repeat (first | exact Drawn0.refl _ | apply Drawn0.step)⟩
      · rw [if_neg c4] at H
        have c4b0 : (a0 == 46) = false := beq_eq_false_iff_ne.mpr c4
        have c4b1 : (a0 != 46) = true := bne_iff_ne.mpr c4
        by_cases c5 : a0 = 38
        · rw [if_pos c5] at H
          have c5b0 : (a0 == 38) = true := beq_iff_eq.mpr c5
          have c5b1 : (a0 != 38) = false := bne_eq_false_iff_eq.mpr c5
          clear c5
          obtain rfl := Option.some.inj H
          go_enter Tryd.func29, Tryd.ntmps29
          go_wp2
          go_ret
          exact ⟨by first | rfl | (simp; done) | (simp [*]; done), by repeat (first | exact Drawn0.refl _ | apply Drawn0.step)⟩
        · rw [if_neg c5] at H
          have c5b0 : (a0 == 38) = false := beq_eq_false_iff_ne.mpr c5
          have c5b1 : (a0 != 38) = true := bne_iff_ne.mpr c5
          obtain rfl := Option.some.inj H
          go_enter Tryd.func29, Tryd.ntmps29
          go_wp2
          go_ret
          exact ⟨by first | rfl | (simp; done) | (simp [*]; done), by repeat (first | exact Drawn0.refl _ | apply Drawn0.step)⟩

/-! ### lombardref04_Check: function 10 -/
mutual
def lombardref04_Check.l0 : Nat → ByteArray → List Int → List Int → Int → Option (Int × Int)
  | 0, _, _, _, _ => none
  | k + 1, x0, x4, x5, x7 => if x7 < (x4.length : Int) then (if 0 ≤ x7 then (if x7 = 40 then (if x7 < (x5.length : Int) then (some (rd x5 x7, 2)) else (none)) else ((lombardref04_letter.f (rd x4 x7)).bind fun t131 => (if t131 = true then (lombardref04_Check.j1 k x0 x4 x5 x7 (rd x4 x7) false) else (if x7 = 0 then (lombardref04_Check.j1 k x0 x4 x5 x7 (rd x4 x7) true) else ((lombardref04_digit.f (rd x4 x7)).bind fun t132 => (if t132 = true then (lombardref04_Check.j1 k x0 x4 x5 x7 (rd x4 x7) false) else ((lombardref04_joint.f (rd x4 x7)).bind fun t133 => (lombardref04_Check.j1 k x0 x4 x5 x7 (rd x4 x7) (!t133))))))))) else (none)) else (if (x4.length : Int) = 0 then (some ((x0.size : Int), 11)) else (if 0 ≤ (wrap64 ((x4.length : Int) - 1)) then (if (wrap64 ((x4.length : Int) - 1)) < (x4.length : Int) then (if (rd x4 (wrap64 ((x4.length : Int) - 1))) = 32 then (some ((x0.size : Int), 11)) else (some ((x0.size : Int), 0))) else (none)) else (none)))
def lombardref04_Check.j1 : Nat → ByteArray → List Int → List Int → Int → Int → Bool → Option (Int × Int)
  | 0, _, _, _, _, _, _ => none
  | k + 1, x0, x4, x5, x7, x8, x50 => if x50 = true then (if 0 ≤ x7 then (if x7 < (x5.length : Int) then (some (rd x5 x7, 11)) else (none)) else (none)) else (if x7 > 0 then (if x8 = 32 then (if 0 ≤ (wrap64 (x7 - 1)) then (if (wrap64 (x7 - 1)) < (x4.length : Int) then ((lombardref04_joint.f (rd x4 (wrap64 (x7 - 1)))).bind fun t136 => (if t136 = true then (if (rd x4 (wrap64 (x7 - 1))) = 46 then (lombardref04_Check.l0 k x0 x4 x5 (wrap64 (x7 + 1))) else (if (rd x4 (wrap64 (x7 - 1))) = 38 then (lombardref04_Check.l0 k x0 x4 x5 (wrap64 (x7 + 1))) else (if 0 ≤ x7 then (if x7 < (x5.length : Int) then (some (rd x5 x7, 11)) else (none)) else (none)))) else (lombardref04_Check.l0 k x0 x4 x5 (wrap64 (x7 + 1))))) else (none)) else (none)) else (lombardref04_Check.l0 k x0 x4 x5 (wrap64 (x7 + 1)))) else (lombardref04_Check.l0 k x0 x4 x5 (wrap64 (x7 + 1))))
end
def lombardref04_Check.f (k : Nat) (a0 : ByteArray) : Option (Int × Int) := if (a0.size : Int) > 160 then (some (0, 2)) else ((lombardref04_Signs.f k a0).bind fun bt121 => (lombardref04_Check.l0 k a0 bt121.1 bt121.2.1 0))
set_option maxHeartbeats 8000000 in
set_option maxRecDepth 100000 in
theorem lombardref04_Check.calls (k : Nat) (a0 : ByteArray) (r1 : Int) (r2 : Int) (w : World) (h : lombardref04_Check.f k a0 = some (r1, r2)) :
    Calls Tryd.prog 10 #[.string a0] w fun e w' => e = .returned (.tuple #[.int .i64 r1, .int .i64 r2]) ∧ Below w.heap.size w w' := by
  have HB := Aside0.mk (Below.refl w.heap.size w)
  have H : (if (a0.size : Int) > 160 then (some (0, 2)) else ((lombardref04_Signs.f k a0).bind fun bt121 => (lombardref04_Check.l0 k a0 bt121.1 bt121.2.1 0))) = some (r1, r2) := h
  clear h
  by_cases c2 : (a0.size : Int) > 160
  · rw [if_pos c2] at H
    have c2b0 : decide (160 < (a0.size : Int)) = true := decide_eq_true c2
    have c2b1 : decide (160 < a0.size) = true := decide_eq_true (by omega)
    clear c2
    simp only [Option.some.injEq, Prod.mk.injEq] at H
    obtain ⟨rfl, rfl⟩ := H
    go_enter Tryd.func10, Tryd.ntmps10
    go_wp2
    go_ret2
    exact ⟨by first | rfl | (simp [errW_none, errW_some] <;> rfl) | (simp [*, errW_none, errW_some] <;> rfl), by repeat (first | (with_reducible first | exact HB.out | apply below_alloc | apply pw_below_drewN | apply below_drew1) | exact HB.out)⟩
  · rw [if_neg c2] at H
    have c2b0 : decide (160 < (a0.size : Int)) = false := decide_eq_false c2
    have c2b1 : decide (160 < a0.size) = false := decide_eq_false (by omega)
    clear c2
    replace H := Option.bind_eq_some_iff.mp H
    obtain ⟨⟨t121, t122, t123⟩, A30, H⟩ := H
    replace H : (lombardref04_Check.l0 k a0 t121 t122 0) = some (r1, r2) := H
    have A3 := Aside0.mk A30
    clear A30
    have H' := Aside0.mk H
    clear H
    go_enter Tryd.func10, Tryd.ntmps10
    go_wp2_with (first | ((with_reducible refine gate_callee (f := 23) rfl ?_); refine goesL_ (some 14) rfl rfl Tryd.func23 (by kernel_rfl) rfl #[.string a0] rfl (by (try simp only [List.map_toArray, List.map_cons, List.map_nil]); first | done | rfl | (simp only [List.length_drop, List.length_take]; rfl)) ?_; (with_reducible refine (lombardref04_Signs.calls k a0 t121 t122 t123 _ A3.out).mono ?_); rintro e w4 ⟨v124, v126, rfl, ho0, ho1, hb⟩; refine ⟨_, rfl, ?_⟩; have n0_ := Aside0.mk (Kd.R_lower ho0 (below_size (by repeat (first | (with_reducible first | exact HB.out | apply below_alloc | apply pw_below_drewN | apply below_drew1) | exact HB.out)))); have n1_ := Aside0.mk (Kd.R_lower ho1 (below_size (by repeat (first | (with_reducible first | exact HB.out | apply below_alloc | apply pw_below_drewN | apply below_drew1) | exact HB.out)))); have n2_ := Aside0.mk (below_step (by repeat (first | (with_reducible first | exact HB.out | apply below_alloc | apply pw_below_drewN | apply below_drew1) | exact HB.out)) hb); clear HB; have HO125 := n0_; have HO127 := n1_; have HB := n2_; clear n0_ n1_ n2_; (try clear hb); (try clear hb2); (try clear hk); (try clear hi); (try clear ho0); (try clear ho1)))
    go_loopg [7] k (fun kq v7 w' => ∃ (x7_1 : Int), v7 = .int .i64 x7_1 ∧ Aside0 (lombardref04_Check.l0 kq a0 t121 t122 x7_1 = some (r1, r2)) ∧ Aside0 (kq ≤ k) ∧ Aside0 (Kd.R (Kd.int .i64) 3 w' w.heap.size (fun k_ => some k_ ≠ (v126 : Value).ownBlock) v124 t121) ∧ Aside0 (Kd.R (Kd.int .i64) 3 w' w.heap.size (fun k_ => some k_ ≠ (v124 : Value).ownBlock) v126 t122) ∧ Aside0 (Below w.heap.size w w'))
    case atStart => exact ⟨(0), (by first | rfl | (simp; done) | (simp [*]; done)), H', ⟨Nat.le_refl _⟩, ⟨by (with_reducible repeat (first | apply Kd.R_alloc | apply Kd.R_drewN | apply Kd.R_drew)); exact HO125.out⟩, ⟨by (with_reducible repeat (first | apply Kd.R_alloc | apply Kd.R_drewN | apply Kd.R_drew)); exact HO127.out⟩, ⟨by repeat (first | (with_reducible first | exact HB.out | apply below_alloc | apply pw_below_drewN | apply below_drew1) | exact HB.out)⟩⟩
    case round =>
      clear H'
      try clear c1
      try clear c2
      try clear c2b0
      try clear c2b1
      try clear p2
      obtain ⟨x7_1, rfl, HA, HK1, HO_4, HO_5, HB⟩ := hrel
      cases gk with
      | zero => exact absurd HA.out (by simp [lombardref04_Check.l0])
      | succ k1 =>
        have H := HA.out
        clear HA
        simp only [lombardref04_Check.l0] at H
        by_cases c5 : x7_1 < (t121.length : Int)
        · rw [if_pos c5] at H
          have c5b0 : decide (x7_1 < (t121.length : Int)) = true := decide_eq_true c5
          clear c5
          by_cases c6 : 0 ≤ x7_1
          · rw [if_pos c6] at H
            have c6b0 : decide (0 ≤ x7_1) = true := decide_eq_true c6
            clear c6
            by_cases c7 : x7_1 = 40
            · rw [if_pos c7] at H
              have c7b0 : (x7_1 == 40) = true := beq_iff_eq.mpr c7
              have c7b1 : (x7_1 != 40) = false := bne_eq_false_iff_eq.mpr c7
              clear c7
              by_cases c8 : x7_1 < (t122.length : Int)
              · rw [if_pos c8] at H
                have c8b0 : decide (x7_1 < (t122.length : Int)) = true := decide_eq_true c8
                clear c8
                simp only [Option.some.injEq, Prod.mk.injEq] at H
                obtain ⟨rfl, rfl⟩ := H
                obtain ⟨Ao9, co9, eo9⟩ := Kd.R_slice HO_4.out
                subst eo9
                have p129 : 0 ≤ (x7_1 : Int) := of_decide_eq_true (by first | (with_reducible assumption) | assumption)
                have q129 : x7_1 < (t121.length : Int) := of_decide_eq_true (by first | (with_reducible assumption) | assumption)
                obtain ⟨ad129, e129, hx129_0⟩ := Kd.at_int (Kd.R_reads' HO_4.out).2.2 x7_1 p129 q129
                cases e129
                replace p129 := eq_true p129
                replace q129 := eq_true q129
                obtain ⟨Ao10, co10, eo10⟩ := Kd.R_slice HO_5.out
                subst eo10
                have p130 : 0 ≤ (x7_1 : Int) := of_decide_eq_true (by first | (with_reducible assumption) | assumption)
                have q130 : x7_1 < (t122.length : Int) := of_decide_eq_true (by first | (with_reducible assumption) | assumption)
                obtain ⟨ad130, e130, hx130_0⟩ := Kd.at_int (Kd.R_reads' HO_5.out).2.2 x7_1 p130 q130
                cases e130
                replace p130 := eq_true p130
                replace q130 := eq_true q130
                go_wp2
                go_ret2
                exact ⟨by first | rfl | (simp [errW_none, errW_some] <;> rfl) | (simp [*, errW_none, errW_some] <;> rfl), by repeat (first | (with_reducible first | exact HB.out | apply below_alloc | apply pw_below_drewN | apply below_drew1) | exact HB.out)⟩
              · rw [if_neg c8] at H
                exact absurd H (by simp)
            · rw [if_neg c7] at H
              have c7b0 : (x7_1 == 40) = false := beq_eq_false_iff_ne.mpr c7
              have c7b1 : (x7_1 != 40) = true := bne_iff_ne.mpr c7
              have HC11 := Aside0.mk H
              clear H
              obtain ⟨Ao12, co12, eo12⟩ := Kd.R_slice HO_4.out
              subst eo12
              have p129 : 0 ≤ (x7_1 : Int) := of_decide_eq_true (by first | (with_reducible assumption) | assumption)
              have q129 : x7_1 < (t121.length : Int) := of_decide_eq_true (by first | (with_reducible assumption) | assumption)
              obtain ⟨ad129, e129, hx129_0⟩ := Kd.at_int (Kd.R_reads' HO_4.out).2.2 x7_1 p129 q129
              cases e129
              replace p129 := eq_true p129
              replace q129 := eq_true q129
              go_upto_region 10 with (fail)
              go_cut [50] (fun v50 wc => ∃ (kq : Nat) (x50_10 : Bool), v50 = .bool x50_10 ∧ Aside0 (lombardref04_Check.j1 kq a0 t121 t122 x7_1 (rd t121 x7_1) x50_10 = some (r1, r2)) ∧ Aside0 (kq ≤ k1) ∧ Aside0 (Kd.R (Kd.int .i64) 3 wc w.heap.size (fun k_ => some k_ ≠ (v126 : Value).ownBlock) (.slice (some ad129) t121.length co12) t121) ∧ Aside0 (Kd.R (Kd.int .i64) 3 wc w.heap.size (fun k_ => some k_ ≠ ((.slice (some ad129) t121.length co12) : Value).ownBlock) v126 t122) ∧ Aside0 (Below w.heap.size w wc))
              case first =>
                have H := HC11.out
                clear HC11
                replace H := Option.bind_eq_some_iff.mp H
                obtain ⟨t131, A130, H⟩ := H
                replace H : (if t131 = true then (lombardref04_Check.j1 k1 a0 t121 t122 x7_1 (rd t121 x7_1) false) else (if x7_1 = 0 then (lombardref04_Check.j1 k1 a0 t121 t122 x7_1 (rd t121 x7_1) true) else ((lombardref04_digit.f (rd t121 x7_1)).bind fun t132 => (if t132 = true then (lombardref04_Check.j1 k1 a0 t121 t122 x7_1 (rd t121 x7_1) false) else ((lombardref04_joint.f (rd t121 x7_1)).bind fun t133 => (lombardref04_Check.j1 k1 a0 t121 t122 x7_1 (rd t121 x7_1) (!t133))))))) = some (r1, r2) := H
                have A13 := Aside0.mk A130
                clear A130
                by_cases c14 : t131 = true
                · subst c14
                  have H1 : (lombardref04_Check.j1 k1 a0 t121 t122 x7_1 (rd t121 x7_1) false) = some (r1, r2) := by rw [if_pos rfl] at H; exact H
                  clear H
                  have H := H1
                  clear H1
                  have H' := Aside0.mk H
                  clear H
                  go_wp2_with (first | ((with_reducible refine gate_callee (f := 27) rfl ?_); refine goesL_ (some 35) rfl rfl Tryd.func27 (by kernel_rfl) rfl #[.int .i64 (rd t121 x7_1)] rfl (by (try simp only [List.map_toArray, List.map_cons, List.map_nil]); first | done | rfl | (simp only [List.length_drop, List.length_take]; rfl)) ?_; (with_reducible refine (lombardref04_letter.calls (rd t121 x7_1) true _ A13.out).mono ?_); rintro e w' ⟨rfl, ⟨nd, rfl⟩⟩; refine ⟨_, rfl, ?_⟩))
                  go_meet
                  case rel => exact ⟨_, (false), (by first | rfl | (simp; done) | (simp [*]; done)), H', ⟨by have := HK1.out; first | omega | exact Nat.le_refl _⟩, ⟨by (with_reducible repeat (first | apply Kd.R_alloc | apply Kd.R_drewN | apply Kd.R_drew)); exact HO_4.out⟩, ⟨by (with_reducible repeat (first | apply Kd.R_alloc | apply Kd.R_drewN | apply Kd.R_drew)); exact HO_5.out⟩, ⟨by repeat (first | (with_reducible first | exact HB.out | apply below_alloc | apply pw_below_drewN | apply below_drew1) | exact HB.out)⟩⟩
                · replace c14 := Bool.eq_false_iff.mpr c14
                  subst c14
                  have H1 : (if x7_1 = 0 then (lombardref04_Check.j1 k1 a0 t121 t122 x7_1 (rd t121 x7_1) true) else ((lombardref04_digit.f (rd t121 x7_1)).bind fun t132 => (if t132 = true then (lombardref04_Check.j1 k1 a0 t121 t122 x7_1 (rd t121 x7_1) false) else ((lombardref04_joint.f (rd t121 x7_1)).bind fun t133 => (lombardref04_Check.j1 k1 a0 t121 t122 x7_1 (rd t121 x7_1) (!t133)))))) = some (r1, r2) := by rw [if_neg (show ¬ (false = true) by decide)] at H; exact H
                  clear H
                  have H := H1
                  clear H1
                  by_cases c15 : x7_1 = 0
                  · rw [if_pos c15] at H
                    have c15b0 : (x7_1 == 0) = true := beq_iff_eq.mpr c15
                    have c15b1 : (x7_1 != 0) = false := bne_eq_false_iff_eq.mpr c15
                    clear c15
                    (first | rw [c15b0] | (simp only [i64_w, i32_w]; rw [c15b0]) | skip)
                    have H' := Aside0.mk H
                    clear H
                    go_wp2_with (first | ((with_reducible refine gate_callee (f := 27) rfl ?_); refine goesL_ (some 35) rfl rfl Tryd.func27 (by kernel_rfl) rfl #[.int .i64 (rd t121 x7_1)] rfl (by (try simp only [List.map_toArray, List.map_cons, List.map_nil]); first | done | rfl | (simp only [List.length_drop, List.length_take]; rfl)) ?_; (with_reducible refine (lombardref04_letter.calls (rd t121 x7_1) false _ A13.out).mono ?_); rintro e w' ⟨rfl, ⟨nd, rfl⟩⟩; refine ⟨_, rfl, ?_⟩))
                    go_meet
                    case rel => exact ⟨_, (true), (by first | rfl | (simp; done) | (simp [*]; done)), H', ⟨by have := HK1.out; first | omega | exact Nat.le_refl _⟩, ⟨by (with_reducible repeat (first | apply Kd.R_alloc | apply Kd.R_drewN | apply Kd.R_drew)); exact HO_4.out⟩, ⟨by (with_reducible repeat (first | apply Kd.R_alloc | apply Kd.R_drewN | apply Kd.R_drew)); exact HO_5.out⟩, ⟨by repeat (first | (with_reducible first | exact HB.out | apply below_alloc | apply pw_below_drewN | apply below_drew1) | exact HB.out)⟩⟩
                  · rw [if_neg c15] at H
                    have c15b0 : (x7_1 == 0) = false := beq_eq_false_iff_ne.mpr c15
                    have c15b1 : (x7_1 != 0) = true := bne_iff_ne.mpr c15
                    (first | rw [c15b0] | (simp only [i64_w, i32_w]; rw [c15b0]) | skip)
                    replace H := Option.bind_eq_some_iff.mp H
                    obtain ⟨t132, A160, H⟩ := H
                    replace H : (if t132 = true then (lombardref04_Check.j1 k1 a0 t121 t122 x7_1 (rd t121 x7_1) false) else ((lombardref04_joint.f (rd t121 x7_1)).bind fun t133 => (lombardref04_Check.j1 k1 a0 t121 t122 x7_1 (rd t121 x7_1) (!t133)))) = some (r1, r2) := H
                    have A16 := Aside0.mk A160
                    clear A160
                    by_cases c17 : t132 = true
                    · subst c17
                      have H1 : (lombardref04_Check.j1 k1 a0 t121 t122 x7_1 (rd t121 x7_1) false) = some (r1, r2) := by rw [if_pos rfl] at H; exact H
                      clear H
                      have H := H1
                      clear H1
                      have H' := Aside0.mk H
                      clear H
                      go_wp2_with (first | ((with_reducible refine gate_callee (f := 27) rfl ?_); refine goesL_ (some 35) rfl rfl Tryd.func27 (by kernel_rfl) rfl #[.int .i64 (rd t121 x7_1)] rfl (by (try simp only [List.map_toArray, List.map_cons, List.map_nil]); first | done | rfl | (simp only [List.length_drop, List.length_take]; rfl)) ?_; (with_reducible refine (lombardref04_letter.calls (rd t121 x7_1) false _ A13.out).mono ?_); rintro e w' ⟨rfl, ⟨nd, rfl⟩⟩; refine ⟨_, rfl, ?_⟩) | (go_at_call 28; (with_reducible refine (lombardref04_digit.calls (rd t121 x7_1) true _ A16.out).mono ?_); rintro e w' ⟨rfl, ⟨nd, rfl⟩⟩))
                      go_meet
                      case rel => exact ⟨_, (false), (by first | rfl | (simp; done) | (simp [*]; done)), H', ⟨by have := HK1.out; first | omega | exact Nat.le_refl _⟩, ⟨by (with_reducible repeat (first | apply Kd.R_alloc | apply Kd.R_drewN | apply Kd.R_drew)); exact HO_4.out⟩, ⟨by (with_reducible repeat (first | apply Kd.R_alloc | apply Kd.R_drewN | apply Kd.R_drew)); exact HO_5.out⟩, ⟨by repeat (first | (with_reducible first | exact HB.out | apply below_alloc | apply pw_below_drewN | apply below_drew1) | exact HB.out)⟩⟩
                    · replace c17 := Bool.eq_false_iff.mpr c17
                      subst c17
                      have H1 : ((lombardref04_joint.f (rd t121 x7_1)).bind fun t133 => (lombardref04_Check.j1 k1 a0 t121 t122 x7_1 (rd t121 x7_1) (!t133))) = some (r1, r2) := by rw [if_neg (show ¬ (false = true) by decide)] at H; exact H
                      clear H
                      have H := H1
                      clear H1
                      replace H := Option.bind_eq_some_iff.mp H
                      obtain ⟨t133, A180, H⟩ := H
                      replace H : (lombardref04_Check.j1 k1 a0 t121 t122 x7_1 (rd t121 x7_1) (!t133)) = some (r1, r2) := H
                      have A18 := Aside0.mk A180
                      clear A180
                      have H' := Aside0.mk H
                      clear H
                      go_wp2_with (first | ((with_reducible refine gate_callee (f := 27) rfl ?_); refine goesL_ (some 35) rfl rfl Tryd.func27 (by kernel_rfl) rfl #[.int .i64 (rd t121 x7_1)] rfl (by (try simp only [List.map_toArray, List.map_cons, List.map_nil]); first | done | rfl | (simp only [List.length_drop, List.length_take]; rfl)) ?_; (with_reducible refine (lombardref04_letter.calls (rd t121 x7_1) false _ A13.out).mono ?_); rintro e w' ⟨rfl, ⟨nd, rfl⟩⟩; refine ⟨_, rfl, ?_⟩) | (go_at_call 28; (with_reducible refine (lombardref04_digit.calls (rd t121 x7_1) false _ A16.out).mono ?_); rintro e w' ⟨rfl, ⟨nd, rfl⟩⟩) | (go_at_call 29; (with_reducible refine (lombardref04_joint.calls (rd t121 x7_1) t133 _ A18.out).mono ?_); rintro e w' ⟨rfl, ⟨nd, rfl⟩⟩))
                      go_meet
                      case rel => exact ⟨_, (!t133), (by first | rfl | (simp; done) | (simp [*]; done)), H', ⟨by have := HK1.out; first | omega | exact Nat.le_refl _⟩, ⟨by (with_reducible repeat (first | apply Kd.R_alloc | apply Kd.R_drewN | apply Kd.R_drew)); exact HO_4.out⟩, ⟨by (with_reducible repeat (first | apply Kd.R_alloc | apply Kd.R_drewN | apply Kd.R_drew)); exact HO_5.out⟩, ⟨by repeat (first | (with_reducible first | exact HB.out | apply below_alloc | apply pw_below_drewN | apply below_drew1) | exact HB.out)⟩⟩
              case rest =>
                clear HC11
                try clear c1
                try clear p1
                try clear q1
                try clear hx1
                try clear c2
                try clear c2b0
                try clear c2b1
                try clear p2
                try clear c5
                try clear c5b0
                try clear c6
                try clear c6b0
                try clear c7
                try clear c7b0
                try clear c7b1
                try clear c8
                try clear c8b0
                try clear c10
                try clear p12
                try clear q12
                try clear hx12
                try clear p13
                try clear q13
                try clear hx13
                try clear c14
                try clear c15
                try clear c15b0
                try clear c15b1
                try clear c17
                try clear hx129_0
                try clear hx130_0
                try clear p129
                try clear p130
                try clear p2
                try clear q129
                try clear q130
                obtain ⟨kq, x50_10, rfl, HA, HJ10, HO_4, HO_5, HB⟩ := hcut
                cases kq with
                | zero => exact absurd HA.out (by simp [lombardref04_Check.j1])
                | succ kj10 =>
                  have H := HA.out
                  clear HA
                  simp only [lombardref04_Check.j1] at H
                  by_cases c19 : x50_10 = true
                  · subst c19
                    have H1 : (if 0 ≤ x7_1 then (if x7_1 < (t122.length : Int) then (some (rd t122 x7_1, 11)) else (none)) else (none)) = some (r1, r2) := by rw [if_pos rfl] at H; exact H
                    clear H
                    have H := H1
                    clear H1
                    by_cases c20 : 0 ≤ x7_1
                    · rw [if_pos c20] at H
                      have c20b0 : decide (0 ≤ x7_1) = true := decide_eq_true c20
                      clear c20
                      by_cases c21 : x7_1 < (t122.length : Int)
                      · rw [if_pos c21] at H
                        have c21b0 : decide (x7_1 < (t122.length : Int)) = true := decide_eq_true c21
                        clear c21
                        simp only [Option.some.injEq, Prod.mk.injEq] at H
                        obtain ⟨rfl, rfl⟩ := H
                        obtain ⟨Ao22, co22, eo22⟩ := Kd.R_slice HO_5.out
                        subst eo22
                        have p134 : 0 ≤ (x7_1 : Int) := of_decide_eq_true (by first | (with_reducible assumption) | assumption)
                        have q134 : x7_1 < (t122.length : Int) := of_decide_eq_true (by first | (with_reducible assumption) | assumption)
                        obtain ⟨ad134, e134, hx134_0⟩ := Kd.at_int (Kd.R_reads' HO_5.out).2.2 x7_1 p134 q134
                        cases e134
                        replace p134 := eq_true p134
                        replace q134 := eq_true q134
                        go_wp2
                        go_ret2
                        exact ⟨by first | rfl | (simp [errW_none, errW_some] <;> rfl) | (simp [*, errW_none, errW_some] <;> rfl), by repeat (first | (with_reducible first | exact HB.out | apply below_alloc | apply pw_below_drewN | apply below_drew1) | exact HB.out)⟩
                      · rw [if_neg c21] at H
                        exact absurd H (by simp)
                    · rw [if_neg c20] at H
                      exact absurd H (by simp)
                  · replace c19 := Bool.eq_false_iff.mpr c19
                    subst c19
                    have H1 : (if x7_1 > 0 then (if (rd t121 x7_1) = 32 then (if 0 ≤ (wrap64 (x7_1 - 1)) then (if (wrap64 (x7_1 - 1)) < (t121.length : Int) then ((lombardref04_joint.f (rd t121 (wrap64 (x7_1 - 1)))).bind fun t136 => (if t136 = true then (if (rd t121 (wrap64 (x7_1 - 1))) = 46 then (lombardref04_Check.l0 kj10 a0 t121 t122 (wrap64 (x7_1 + 1))) else (if (rd t121 (wrap64 (x7_1 - 1))) = 38 then (lombardref04_Check.l0 kj10 a0 t121 t122 (wrap64 (x7_1 + 1))) else (if 0 ≤ x7_1 then (if x7_1 < (t122.length : Int) then (some (rd t122 x7_1, 11)) else (none)) else (none)))) else (lombardref04_Check.l0 kj10 a0 t121 t122 (wrap64 (x7_1 + 1))))) else (none)) else (none)) else (lombardref04_Check.l0 kj10 a0 t121 t122 (wrap64 (x7_1 + 1)))) else (lombardref04_Check.l0 kj10 a0 t121 t122 (wrap64 (x7_1 + 1)))) = some (r1, r2) := by rw [if_neg (show ¬ (false = true) by decide)] at H; exact H
                    clear H
                    have H := H1
                    clear H1
                    by_cases c23 : x7_1 > 0
                    · rw [if_pos c23] at H
                      have c23b0 : decide (0 < x7_1) = true := decide_eq_true c23
                      clear c23
                      by_cases c24 : (rd t121 x7_1) = 32
                      · rw [if_pos c24] at H
                        have c24b0 : ((rd t121 x7_1) == 32) = true := beq_iff_eq.mpr c24
                        have c24b1 : ((rd t121 x7_1) != 32) = false := bne_eq_false_iff_eq.mpr c24
                        clear c24
                        obtain ⟨ji25, hji25⟩ : ∃ j_ : Int, (wrap64 (x7_1 - 1)) = j_ := ⟨_, rfl⟩
                        replace H : (if 0 ≤ (ji25) then (if (ji25) < (t121.length : Int) then ((lombardref04_joint.f (rd t121 (ji25))).bind fun t136 => (if t136 = true then (if (rd t121 (ji25)) = 46 then (lombardref04_Check.l0 kj10 a0 t121 t122 (wrap64 (x7_1 + 1))) else (if (rd t121 (ji25)) = 38 then (lombardref04_Check.l0 kj10 a0 t121 t122 (wrap64 (x7_1 + 1))) else (if 0 ≤ x7_1 then (if x7_1 < (t122.length : Int) then (some (rd t122 x7_1, 11)) else (none)) else (none)))) else (lombardref04_Check.l0 kj10 a0 t121 t122 (wrap64 (x7_1 + 1))))) else (none)) else (none)) = some (r1, r2) := by first | (rw [hji25] at H; exact H) | (simp only [hji25] at H ⊢; exact H)
                        have hji25w : (IntKind.i64.wrap (x7_1 - 1)) = ji25 := (i64_w _).trans hji25
                        by_cases c26 : 0 ≤ (ji25)
                        · rw [if_pos c26] at H
                          have c26b0 : decide (0 ≤ (ji25)) = true := decide_eq_true c26
                          clear c26
                          by_cases c27 : (ji25) < (t121.length : Int)
                          · rw [if_pos c27] at H
                            have c27b0 : decide ((ji25) < (t121.length : Int)) = true := decide_eq_true c27
                            clear c27
                            replace H := Option.bind_eq_some_iff.mp H
                            obtain ⟨t136, A280, H⟩ := H
                            replace H : (if t136 = true then (if (rd t121 (ji25)) = 46 then (lombardref04_Check.l0 kj10 a0 t121 t122 (wrap64 (x7_1 + 1))) else (if (rd t121 (ji25)) = 38 then (lombardref04_Check.l0 kj10 a0 t121 t122 (wrap64 (x7_1 + 1))) else (if 0 ≤ x7_1 then (if x7_1 < (t122.length : Int) then (some (rd t122 x7_1, 11)) else (none)) else (none)))) else (lombardref04_Check.l0 kj10 a0 t121 t122 (wrap64 (x7_1 + 1)))) = some (r1, r2) := H
                            have A28 := Aside0.mk A280
                            clear A280
                            by_cases c29 : t136 = true
                            · subst c29
                              have H1 : (if (rd t121 (ji25)) = 46 then (lombardref04_Check.l0 kj10 a0 t121 t122 (wrap64 (x7_1 + 1))) else (if (rd t121 (ji25)) = 38 then (lombardref04_Check.l0 kj10 a0 t121 t122 (wrap64 (x7_1 + 1))) else (if 0 ≤ x7_1 then (if x7_1 < (t122.length : Int) then (some (rd t122 x7_1, 11)) else (none)) else (none)))) = some (r1, r2) := by rw [if_pos rfl] at H; exact H
                              clear H
                              have H := H1
                              clear H1
                              by_cases c30 : (rd t121 (ji25)) = 46
                              · rw [if_pos c30] at H
                                have c30b0 : ((rd t121 (ji25)) == 46) = true := beq_iff_eq.mpr c30
                                have c30b1 : ((rd t121 (ji25)) != 46) = false := bne_eq_false_iff_eq.mpr c30
                                clear c30
                                have H' := Aside0.mk H
                                clear H
                                have p135 : 0 ≤ ((ji25) : Int) := of_decide_eq_true (by first | (with_reducible assumption) | assumption)
                                have q135 : (ji25) < (t121.length : Int) := of_decide_eq_true (by first | (with_reducible assumption) | assumption)
                                obtain ⟨ad135, e135, hx135_0⟩ := Kd.at_int (Kd.R_reads' HO_4.out).2.2 (ji25) p135 q135
                                obtain rfl : ad129 = ad135 := (by injection e135)
                                replace p135 := eq_true p135
                                replace q135 := eq_true q135
                                go_wp2_with (first | (go_at_call 29; (with_reducible refine (lombardref04_joint.calls (rd t121 (ji25)) true _ A28.out).mono ?_); rintro e w' ⟨rfl, ⟨nd, rfl⟩⟩; have p137 : 0 ≤ ((ji25) : Int) := of_decide_eq_true (by first | (with_reducible assumption) | assumption); have q137 : (ji25) < (t121.length : Int) := of_decide_eq_true (by first | (with_reducible assumption) | assumption); obtain ⟨ad137, e137, hx137_0⟩ := Kd.at_int (Kd.R_reads' HO_4.out).2.2 (ji25) p137 q137; obtain rfl : ad129 = ad137 := (by injection e137); replace p137 := eq_true p137; replace q137 := eq_true q137))
                                go_roundg kj10
                                case measure => have := HK1.out; have := HJ10.out; omega
                                case rel => exact ⟨(wrap64 (x7_1 + 1)), (by first | rfl | (simp; done) | (simp [*]; done)), H', ⟨by have := HK1.out; have := HJ10.out; omega⟩, ⟨by (with_reducible repeat (first | apply Kd.R_alloc | apply Kd.R_drewN | apply Kd.R_drew)); exact HO_4.out⟩, ⟨by (with_reducible repeat (first | apply Kd.R_alloc | apply Kd.R_drewN | apply Kd.R_drew)); exact HO_5.out⟩, ⟨by repeat (first | (with_reducible first | exact HB.out | apply below_alloc | apply pw_below_drewN | apply below_drew1) | exact HB.out)⟩⟩
                              · rw [if_neg c30] at H
                                have c30b0 : ((rd t121 (ji25)) == 46) = false := beq_eq_false_iff_ne.mpr c30
                                have c30b1 : ((rd t121 (ji25)) != 46) = true := bne_iff_ne.mpr c30
                                by_cases c31 : (rd t121 (ji25)) = 38
                                · rw [if_pos c31] at H
                                  have c31b0 : ((rd t121 (ji25)) == 38) = true := beq_iff_eq.mpr c31
                                  have c31b1 : ((rd t121 (ji25)) != 38) = false := bne_eq_false_iff_eq.mpr c31
                                  clear c31
                                  have H' := Aside0.mk H
                                  clear H
                                  have p135 : 0 ≤ ((ji25) : Int) := of_decide_eq_true (by first | (with_reducible assumption) | assumption)
                                  have q135 : (ji25) < (t121.length : Int) := of_decide_eq_true (by first | (with_reducible assumption) | assumption)
                                  obtain ⟨ad135, e135, hx135_0⟩ := Kd.at_int (Kd.R_reads' HO_4.out).2.2 (ji25) p135 q135
                                  obtain rfl : ad129 = ad135 := (by injection e135)
                                  replace p135 := eq_true p135
                                  replace q135 := eq_true q135
                                  go_wp2_with (first | (go_at_call 29; (with_reducible refine (lombardref04_joint.calls (rd t121 (ji25)) true _ A28.out).mono ?_); rintro e w' ⟨rfl, ⟨nd, rfl⟩⟩; have p137 : 0 ≤ ((ji25) : Int) := of_decide_eq_true (by first | (with_reducible assumption) | assumption); have q137 : (ji25) < (t121.length : Int) := of_decide_eq_true (by first | (with_reducible assumption) | assumption); obtain ⟨ad137, e137, hx137_0⟩ := Kd.at_int (Kd.R_reads' HO_4.out).2.2 (ji25) p137 q137; obtain rfl : ad129 = ad137 := (by injection e137); replace p137 := eq_true p137; replace q137 := eq_true q137; have p138 : 0 ≤ ((ji25) : Int) := of_decide_eq_true (by first | (with_reducible assumption) | assumption); have q138 : (ji25) < (t121.length : Int) := of_decide_eq_true (by first | (with_reducible assumption) | assumption); obtain ⟨ad138, e138, hx138_0⟩ := Kd.at_int (Kd.R_reads' HO_4.out).2.2 (ji25) p138 q138; obtain rfl : ad129 = ad138 := (by injection e138); replace p138 := eq_true p138; replace q138 := eq_true q138))
                                  go_roundg kj10
                                  case measure => have := HK1.out; have := HJ10.out; omega
                                  case rel => exact ⟨(wrap64 (x7_1 + 1)), (by first | rfl | (simp; done) | (simp [*]; done)), H', ⟨by have := HK1.out; have := HJ10.out; omega⟩, ⟨by (with_reducible repeat (first | apply Kd.R_alloc | apply Kd.R_drewN | apply Kd.R_drew)); exact HO_4.out⟩, ⟨by (with_reducible repeat (first | apply Kd.R_alloc | apply Kd.R_drewN | apply Kd.R_drew)); exact HO_5.out⟩, ⟨by repeat (first | (with_reducible first | exact HB.out | apply below_alloc | apply pw_below_drewN | apply below_drew1) | exact HB.out)⟩⟩
                                · rw [if_neg c31] at H
                                  have c31b0 : ((rd t121 (ji25)) == 38) = false := beq_eq_false_iff_ne.mpr c31
                                  have c31b1 : ((rd t121 (ji25)) != 38) = true := bne_iff_ne.mpr c31
                                  by_cases c32 : 0 ≤ x7_1
                                  · rw [if_pos c32] at H
                                    have c32b0 : decide (0 ≤ x7_1) = true := decide_eq_true c32
                                    clear c32
                                    by_cases c33 : x7_1 < (t122.length : Int)
                                    · rw [if_pos c33] at H
                                      have c33b0 : decide (x7_1 < (t122.length : Int)) = true := decide_eq_true c33
                                      clear c33
                                      simp only [Option.some.injEq, Prod.mk.injEq] at H
                                      obtain ⟨rfl, rfl⟩ := H
                                      have p135 : 0 ≤ ((ji25) : Int) := of_decide_eq_true (by first | (with_reducible assumption) | assumption)
                                      have q135 : (ji25) < (t121.length : Int) := of_decide_eq_true (by first | (with_reducible assumption) | assumption)
                                      obtain ⟨ad135, e135, hx135_0⟩ := Kd.at_int (Kd.R_reads' HO_4.out).2.2 (ji25) p135 q135
                                      obtain rfl : ad129 = ad135 := (by injection e135)
                                      replace p135 := eq_true p135
                                      replace q135 := eq_true q135
                                      go_wp2_with (first | (go_at_call 29; (with_reducible refine (lombardref04_joint.calls (rd t121 (ji25)) true _ A28.out).mono ?_); rintro e w' ⟨rfl, ⟨nd, rfl⟩⟩; have p137 : 0 ≤ ((ji25) : Int) := of_decide_eq_true (by first | (with_reducible assumption) | assumption); have q137 : (ji25) < (t121.length : Int) := of_decide_eq_true (by first | (with_reducible assumption) | assumption); obtain ⟨ad137, e137, hx137_0⟩ := Kd.at_int (Kd.R_reads' HO_4.out).2.2 (ji25) p137 q137; obtain rfl : ad129 = ad137 := (by injection e137); replace p137 := eq_true p137; replace q137 := eq_true q137; have p138 : 0 ≤ ((ji25) : Int) := of_decide_eq_true (by first | (with_reducible assumption) | assumption); have q138 : (ji25) < (t121.length : Int) := of_decide_eq_true (by first | (with_reducible assumption) | assumption); obtain ⟨ad138, e138, hx138_0⟩ := Kd.at_int (Kd.R_reads' HO_4.out).2.2 (ji25) p138 q138; obtain rfl : ad129 = ad138 := (by injection e138); replace p138 := eq_true p138; replace q138 := eq_true q138; obtain ⟨Ao34, co34, eo34⟩ := Kd.R_slice HO_5.out; subst eo34; have p139 : 0 ≤ (x7_1 : Int) := of_decide_eq_true (by first | (with_reducible assumption) | assumption); have q139 : x7_1 < (t122.length : Int) := of_decide_eq_true (by first | (with_reducible assumption) | assumption); obtain ⟨ad139, e139, hx139_0⟩ := Kd.at_int (Kd.R_reads' HO_5.out).2.2 x7_1 p139 q139; cases e139; replace p139 := eq_true p139; replace q139 := eq_true q139))
                                      go_ret2
                                      exact ⟨by first | rfl | (simp [errW_none, errW_some] <;> rfl) | (simp only [← hji25]; first | rfl | (simp [errW_none, errW_some] <;> rfl)) | (simp [*, errW_none, errW_some] <;> rfl), by repeat (first | (with_reducible first | exact HB.out | apply below_alloc | apply pw_below_drewN | apply below_drew1) | exact HB.out)⟩
                                    · rw [if_neg c33] at H
                                      exact absurd H (by simp)
                                  · rw [if_neg c32] at H
                                    exact absurd H (by simp)
                            · replace c29 := Bool.eq_false_iff.mpr c29
                              subst c29
                              have H1 : (lombardref04_Check.l0 kj10 a0 t121 t122 (wrap64 (x7_1 + 1))) = some (r1, r2) := by rw [if_neg (show ¬ (false = true) by decide)] at H; exact H
                              clear H
                              have H := H1
                              clear H1
                              have H' := Aside0.mk H
                              clear H
                              have p135 : 0 ≤ ((ji25) : Int) := of_decide_eq_true (by first | (with_reducible assumption) | assumption)
                              have q135 : (ji25) < (t121.length : Int) := of_decide_eq_true (by first | (with_reducible assumption) | assumption)
                              obtain ⟨ad135, e135, hx135_0⟩ := Kd.at_int (Kd.R_reads' HO_4.out).2.2 (ji25) p135 q135
                              obtain rfl : ad129 = ad135 := (by injection e135)
                              replace p135 := eq_true p135
                              replace q135 := eq_true q135
                              go_wp2_with (first | (go_at_call 29; (with_reducible refine (lombardref04_joint.calls (rd t121 (ji25)) false _ A28.out).mono ?_); rintro e w' ⟨rfl, ⟨nd, rfl⟩⟩))
                              go_roundg kj10
                              case measure => have := HK1.out; have := HJ10.out; omega
                              case rel => exact ⟨(wrap64 (x7_1 + 1)), (by first | rfl | (simp; done) | (simp [*]; done)), H', ⟨by have := HK1.out; have := HJ10.out; omega⟩, ⟨by (with_reducible repeat (first | apply Kd.R_alloc | apply Kd.R_drewN | apply Kd.R_drew)); exact HO_4.out⟩, ⟨by (with_reducible repeat (first | apply Kd.R_alloc | apply Kd.R_drewN | apply Kd.R_drew)); exact HO_5.out⟩, ⟨by repeat (first | (with_reducible first | exact HB.out | apply below_alloc | apply pw_below_drewN | apply below_drew1) | exact HB.out)⟩⟩
                          · rw [if_neg c27] at H
                            exact absurd H (by simp)
                        · rw [if_neg c26] at H
                          exact absurd H (by simp)
                      · rw [if_neg c24] at H
                        have c24b0 : ((rd t121 x7_1) == 32) = false := beq_eq_false_iff_ne.mpr c24
                        have c24b1 : ((rd t121 x7_1) != 32) = true := bne_iff_ne.mpr c24
                        have H' := Aside0.mk H
                        clear H
                        go_wp2
                        go_roundg kj10
                        case measure => have := HK1.out; have := HJ10.out; omega
                        case rel => exact ⟨(wrap64 (x7_1 + 1)), (by first | rfl | (simp; done) | (simp [*]; done)), H', ⟨by have := HK1.out; have := HJ10.out; omega⟩, ⟨by (with_reducible repeat (first | apply Kd.R_alloc | apply Kd.R_drewN | apply Kd.R_drew)); exact HO_4.out⟩, ⟨by (with_reducible repeat (first | apply Kd.R_alloc | apply Kd.R_drewN | apply Kd.R_drew)); exact HO_5.out⟩, ⟨by repeat (first | (with_reducible first | exact HB.out | apply below_alloc | apply pw_below_drewN | apply below_drew1) | exact HB.out)⟩⟩
                    · rw [if_neg c23] at H
                      have c23b0 : decide (0 < x7_1) = false := decide_eq_false c23
                      clear c23
                      have H' := Aside0.mk H
                      clear H
                      go_wp2
                      go_roundg kj10
                      case measure => have := HK1.out; have := HJ10.out; omega
                      case rel => exact ⟨(wrap64 (x7_1 + 1)), (by first | rfl | (simp; done) | (simp [*]; done)), H', ⟨by have := HK1.out; have := HJ10.out; omega⟩, ⟨by (with_reducible repeat (first | apply Kd.R_alloc | apply Kd.R_drewN | apply Kd.R_drew)); exact HO_4.out⟩, ⟨by (with_reducible repeat (first | apply Kd.R_alloc | apply Kd.R_drewN | apply Kd.R_drew)); exact HO_5.out⟩, ⟨by repeat (first | (with_reducible first | exact HB.out | apply below_alloc | apply pw_below_drewN | apply below_drew1) | exact HB.out)⟩⟩
          · rw [if_neg c6] at H
            exact absurd H (by simp)
        · rw [if_neg c5] at H
          have c5b0 : decide (x7_1 < (t121.length : Int)) = false := decide_eq_false c5
          clear c5
          by_cases c35 : (t121.length : Int) = 0
          · rw [if_pos c35] at H
            have c35b0 : ((t121.length : Int) == 0) = true := beq_iff_eq.mpr c35
            have c35b1 : ((t121.length : Int) != 0) = false := bne_eq_false_iff_eq.mpr c35
            clear c35
            simp only [Option.some.injEq, Prod.mk.injEq] at H
            obtain ⟨rfl, rfl⟩ := H
            obtain ⟨Ao36, co36, eo36⟩ := Kd.R_slice HO_4.out
            subst eo36
            go_wp2
            go_ret2
            exact ⟨by first | rfl | (simp [errW_none, errW_some] <;> rfl) | (simp [*, errW_none, errW_some] <;> rfl), by repeat (first | (with_reducible first | exact HB.out | apply below_alloc | apply pw_below_drewN | apply below_drew1) | exact HB.out)⟩
          · rw [if_neg c35] at H
            have c35b0 : ((t121.length : Int) == 0) = false := beq_eq_false_iff_ne.mpr c35
            have c35b1 : ((t121.length : Int) != 0) = true := bne_iff_ne.mpr c35
            have c35b2 : ¬ (t121 = []) := fun h_ => c35 (by rw [h_]; rfl)
            obtain ⟨ji37, hji37⟩ : ∃ j_ : Int, (wrap64 ((t121.length : Int) - 1)) = j_ := ⟨_, rfl⟩
            replace H : (if 0 ≤ (ji37) then (if (ji37) < (t121.length : Int) then (if (rd t121 (ji37)) = 32 then (some ((a0.size : Int), 11)) else (some ((a0.size : Int), 0))) else (none)) else (none)) = some (r1, r2) := by first | (rw [hji37] at H; exact H) | (simp only [hji37] at H ⊢; exact H)
            have hji37w : (IntKind.i64.wrap ((t121.length : Int) - 1)) = ji37 := (i64_w _).trans hji37
            by_cases c38 : 0 ≤ (ji37)
            · rw [if_pos c38] at H
              have c38b0 : decide (0 ≤ (ji37)) = true := decide_eq_true c38
              clear c38
              by_cases c39 : (ji37) < (t121.length : Int)
              · rw [if_pos c39] at H
                have c39b0 : decide ((ji37) < (t121.length : Int)) = true := decide_eq_true c39
                clear c39
                by_cases c40 : (rd t121 (ji37)) = 32
                · rw [if_pos c40] at H
                  have c40b0 : ((rd t121 (ji37)) == 32) = true := beq_iff_eq.mpr c40
                  have c40b1 : ((rd t121 (ji37)) != 32) = false := bne_eq_false_iff_eq.mpr c40
                  clear c40
                  simp only [Option.some.injEq, Prod.mk.injEq] at H
                  obtain ⟨rfl, rfl⟩ := H
                  obtain ⟨Ao41, co41, eo41⟩ := Kd.R_slice HO_4.out
                  subst eo41
                  have p128 : 0 ≤ ((ji37) : Int) := of_decide_eq_true (by first | (with_reducible assumption) | assumption)
                  have q128 : (ji37) < (t121.length : Int) := of_decide_eq_true (by first | (with_reducible assumption) | assumption)
                  obtain ⟨ad128, e128, hx128_0⟩ := Kd.at_int (Kd.R_reads' HO_4.out).2.2 (ji37) p128 q128
                  cases e128
                  replace p128 := eq_true p128
                  replace q128 := eq_true q128
                  go_wp2
                  go_ret2
                  exact ⟨by first | rfl | (simp [errW_none, errW_some] <;> rfl) | (simp only [← hji37]; first | rfl | (simp [errW_none, errW_some] <;> rfl)) | (simp [*, errW_none, errW_some] <;> rfl), by repeat (first | (with_reducible first | exact HB.out | apply below_alloc | apply pw_below_drewN | apply below_drew1) | exact HB.out)⟩
                · rw [if_neg c40] at H
                  have c40b0 : ((rd t121 (ji37)) == 32) = false := beq_eq_false_iff_ne.mpr c40
                  have c40b1 : ((rd t121 (ji37)) != 32) = true := bne_iff_ne.mpr c40
                  simp only [Option.some.injEq, Prod.mk.injEq] at H
                  obtain ⟨rfl, rfl⟩ := H
                  obtain ⟨Ao42, co42, eo42⟩ := Kd.R_slice HO_4.out
                  subst eo42
                  have p128 : 0 ≤ ((ji37) : Int) := of_decide_eq_true (by first | (with_reducible assumption) | assumption)
                  have q128 : (ji37) < (t121.length : Int) := of_decide_eq_true (by first | (with_reducible assumption) | assumption)
                  obtain ⟨ad128, e128, hx128_0⟩ := Kd.at_int (Kd.R_reads' HO_4.out).2.2 (ji37) p128 q128
                  cases e128
                  replace p128 := eq_true p128
                  replace q128 := eq_true q128
                  go_wp2
                  go_ret2
                  exact ⟨by first | rfl | (simp [errW_none, errW_some] <;> rfl) | (simp only [← hji37]; first | rfl | (simp [errW_none, errW_some] <;> rfl)) | (simp [*, errW_none, errW_some] <;> rfl), by repeat (first | (with_reducible first | exact HB.out | apply below_alloc | apply pw_below_drewN | apply below_drew1) | exact HB.out)⟩
              · rw [if_neg c39] at H
                exact absurd H (by simp)
            · rw [if_neg c38] at H
              exact absurd H (by simp)

-- NOT PRINTED: function 56 (abi_NoEscape)

-- NOT PRINTED: function 46 (strings_Builder_copyCheck)

end Go.Proofs.YtbdcnfbidbffcaaDoor.PL
