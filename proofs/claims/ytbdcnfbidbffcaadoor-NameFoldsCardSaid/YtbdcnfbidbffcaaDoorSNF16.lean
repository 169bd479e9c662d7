/- Part 16 of the proof's texts: what the theorem needs of them. -/
import Derived.Test.YtbdcnfbidbffcaaDoorSNF12

-- printed for this claim by print.py
namespace Go.Proofs.YtbdcnfbidbffcaaDoor.PL
open Go.RowKit Go.Proofs.YtbdcnfbidbffcaaDoorW.PrintWords Go.Proofs.YtbdcnfbidbffcaaDoorW.PrintLast Go.Proofs.YtbdcnfbidbffcaaDoorW.PrintMore
attribute [local go_sem] max2_int min2_int max_two min_two max_three min_three max_four min_four   -- for this text's walks alone
set_option linter.unusedVariables false
set_option linter.unusedSimpArgs false

/-! ### lombardref04_low: function 35 -/
mutual
def lombardref04_low.j0 : Nat → Int → Bool → Option (Int)
  | 0, _, _ => none
  | k + 1, x0, x20 => if x20 = true then (some (wrap64 (x0 + 32))) else (if x0 = 376 then (some 255) else (if x0 ≥ 256 then (if x0 ≤ 311 then (lombardref04_low.j1 k x0 true) else (if x0 ≥ 330 then (lombardref04_low.j1 k x0 (decide (x0 ≤ 375))) else (lombardref04_low.j1 k x0 false))) else (if x0 ≥ 330 then (lombardref04_low.j1 k x0 (decide (x0 ≤ 375))) else (lombardref04_low.j1 k x0 false))))
def lombardref04_low.j1 : Nat → Int → Bool → Option (Int)
  | 0, _, _ => none
  | k + 1, x0, x38 => if x38 = true then (some (wrap64 ((wrap64 ((wrap64 (Int.tdiv x0 2)) * 2)) + 1))) else (if x0 ≥ 313 then (if x0 ≤ 328 then (if (Int.tmod x0 2) = 1 then (some (wrap64 (x0 + 1))) else (some x0)) else (if x0 ≥ 377 then (if x0 ≤ 382 then (if (Int.tmod x0 2) = 1 then (some (wrap64 (x0 + 1))) else (some x0)) else (some x0)) else (some x0))) else (if x0 ≥ 377 then (if x0 ≤ 382 then (if (Int.tmod x0 2) = 1 then (some (wrap64 (x0 + 1))) else (some x0)) else (some x0)) else (some x0)))
end
def lombardref04_low.f (k : Nat) (a0 : Int) : Option (Int) := if a0 ≥ 65 then (if a0 ≤ 90 then (lombardref04_low.j0 k a0 true) else (if a0 ≥ 192 then (if a0 ≤ 222 then (lombardref04_low.j0 k a0 (a0 != 215)) else (lombardref04_low.j0 k a0 false)) else (lombardref04_low.j0 k a0 false))) else (if a0 ≥ 192 then (if a0 ≤ 222 then (lombardref04_low.j0 k a0 (a0 != 215)) else (lombardref04_low.j0 k a0 false)) else (lombardref04_low.j0 k a0 false))
theorem lombardref04_low.mono_l : ∀ k, (∀ y0 y1, LeO (lombardref04_low.j0 k y0 y1) (lombardref04_low.j0 (k + 1) y0 y1)) ∧ (∀ y0 y1, LeO (lombardref04_low.j1 k y0 y1) (lombardref04_low.j1 (k + 1) y0 y1))
  | 0 => ⟨fun _ _ r h => by simp [lombardref04_low.j0] at h, fun _ _ r h => by simp [lombardref04_low.j1] at h⟩
  | k + 1 => by
    obtain ⟨ih0, ih1⟩ := lombardref04_low.mono_l k
    refine ⟨?_, ?_⟩
    · intro y0 y1
      unfold lombardref04_low.j0
      repeat' first
      | (with_reducible exact ih0 _ _)
      | (with_reducible exact ih1 _ _)
      | (with_reducible exact LeO.refl _)
      | (with_reducible exact LeO.none _)
      | (with_reducible refine LeO.ite ?_ ?_)
      | (with_reducible refine LeO.bind ?_ (fun _ => ?_))
      | exact ih0 _ _
      | exact ih1 _ _
      | exact LeO.none _
      | refine LeO.ite ?_ ?_
      | refine LeO.bind ?_ (fun _ => ?_)
    · intro y0 y1
      unfold lombardref04_low.j1
      repeat' first
      | (with_reducible exact ih0 _ _)
      | (with_reducible exact ih1 _ _)
      | (with_reducible exact LeO.refl _)
      | (with_reducible exact LeO.none _)
      | (with_reducible refine LeO.ite ?_ ?_)
      | (with_reducible refine LeO.bind ?_ (fun _ => ?_))
      | exact ih0 _ _
      | exact ih1 _ _
      | exact LeO.none _
      | refine LeO.ite ?_ ?_
      | refine LeO.bind ?_ (fun _ => ?_)
theorem lombardref04_low.mono : ∀ a0 k, LeO (lombardref04_low.f k a0) (lombardref04_low.f (k + 1) a0) := by
  intro a0 k
  obtain ⟨ih0, ih1⟩ := lombardref04_low.mono_l k
  unfold lombardref04_low.f
  repeat' first
      | (with_reducible exact ih0 _ _)
      | (with_reducible exact ih1 _ _)
      | (with_reducible exact LeO.refl _)
      | (with_reducible exact LeO.none _)
      | (with_reducible refine LeO.ite ?_ ?_)
      | (with_reducible refine LeO.bind ?_ (fun _ => ?_))
      | exact ih0 _ _
      | exact ih1 _ _
      | exact LeO.none _
      | refine LeO.ite ?_ ?_
      | refine LeO.bind ?_ (fun _ => ?_)
set_option maxHeartbeats 8000000 in
set_option maxRecDepth 100000 in
theorem lombardref04_low.calls (k : Nat) (a0 : Int) (r : Int) (w : World) (h : lombardref04_low.f k a0 = some r) :
    Calls Tryd.prog 35 #[.int .i64 a0] w fun e w' => e = .returned (.int .i64 r) ∧ Drawn0 w w' := by
  have H : (if a0 ≥ 65 then (if a0 ≤ 90 then (lombardref04_low.j0 k a0 true) else (if a0 ≥ 192 then (if a0 ≤ 222 then (lombardref04_low.j0 k a0 (a0 != 215)) else (lombardref04_low.j0 k a0 false)) else (lombardref04_low.j0 k a0 false))) else (if a0 ≥ 192 then (if a0 ≤ 222 then (lombardref04_low.j0 k a0 (a0 != 215)) else (lombardref04_low.j0 k a0 false)) else (lombardref04_low.j0 k a0 false))) = some r := h
  clear h
  have HC2 := Aside0.mk H
  clear H
  go_enter Tryd.func35, Tryd.ntmps35
  go_upto_region 1 with (fail)
  go_cut [20] (fun v20 wc => ∃ (kq : Nat) (x20_1 : Bool), v20 = .bool x20_1 ∧ Aside0 (lombardref04_low.j0 kq a0 x20_1 = some r) ∧ Aside0 (kq ≤ k) ∧ Drawn0 w wc)
  case first =>
    have H := HC2.out
    clear HC2
    by_cases c3 : a0 ≥ 65
    · rw [if_pos c3] at H
      have c3b0 : decide (65 ≤ a0) = true := decide_eq_true c3
      clear c3
      (first | rw [c3b0] | (simp only [i64_w, i32_w]; rw [c3b0]) | skip)
      by_cases c4 : a0 ≤ 90
      · rw [if_pos c4] at H
        have c4b0 : decide (a0 ≤ 90) = true := decide_eq_true c4
        clear c4
        have H' := Aside0.mk H
        clear H
        go_wp2
        go_meet
        case rel => exact ⟨_, (true), (by first | rfl | (simp; done) | (simp [*]; done)), H', ⟨by first | omega | exact Nat.le_refl _⟩, by repeat (first | exact Drawn0.refl _ | apply Drawn0.step)⟩
      · rw [if_neg c4] at H
        have c4b0 : decide (a0 ≤ 90) = false := decide_eq_false c4
        clear c4
        by_cases c5 : a0 ≥ 192
        · rw [if_pos c5] at H
          have c5b0 : decide (192 ≤ a0) = true := decide_eq_true c5
          clear c5
          by_cases c6 : a0 ≤ 222
          · rw [if_pos c6] at H
            have c6b0 : decide (a0 ≤ 222) = true := decide_eq_true c6
            clear c6
            have H' := Aside0.mk H
            clear H
            go_wp2
            go_meet
            case rel => exact ⟨_, ((a0 != 215)), (by first | rfl | (simp; done) | (simp [*]; done)), H', ⟨by first | omega | exact Nat.le_refl _⟩, by repeat (first | exact Drawn0.refl _ | apply Drawn0.step)⟩
          · rw [if_neg c6] at H
            have c6b0 : decide (a0 ≤ 222) = false := decide_eq_false c6
            clear c6
            have H' := Aside0.mk H
            clear H
            go_wp2
            go_meet
            case rel => exact ⟨_, (false), (by first | rfl | (simp; done) | (simp [*]; done)), H', ⟨by first | omega | exact Nat.le_refl _⟩, by repeat (first | exact Drawn0.refl _ | apply Drawn0.step)⟩
        · rw [if_neg c5] at H
          have c5b0 : decide (192 ≤ a0) = false := decide_eq_false c5
          clear c5
          have H' := Aside0.mk H
          clear H
          go_wp2
          go_meet
          case rel => exact ⟨_, (false), (by first | rfl | (simp; done) | (simp [*]; done)), H', ⟨by first | omega | exact Nat.le_refl _⟩, by repeat (first | exact Drawn0.refl _ | apply Drawn0.step)⟩
    · rw [if_neg c3] at H
      have c3b0 : decide (65 ≤ a0) = false := decide_eq_false c3
      clear c3
      (first | rw [c3b0] | (simp only [i64_w, i32_w]; rw [c3b0]) | skip)
      by_cases c7 : a0 ≥ 192
      · rw [if_pos c7] at H
        have c7b0 : decide (192 ≤ a0) = true := decide_eq_true c7
        clear c7
        by_cases c8 : a0 ≤ 222
        · rw [if_pos c8] at H
          have c8b0 : decide (a0 ≤ 222) = true := decide_eq_true c8
          clear c8
          have H' := Aside0.mk H
          clear H
          go_wp2
          go_meet
          case rel => exact ⟨_, ((a0 != 215)), (by first | rfl | (simp; done) | (simp [*]; done)), H', ⟨by first | omega | exact Nat.le_refl _⟩, by repeat (first | exact Drawn0.refl _ | apply Drawn0.step)⟩
        · rw [if_neg c8] at H
          have c8b0 : decide (a0 ≤ 222) = false := decide_eq_false c8
          clear c8
          have H' := Aside0.mk H
          clear H
          go_wp2
          go_meet
          case rel => exact ⟨_, (false), (by first | rfl | (simp; done) | (simp [*]; done)), H', ⟨by first | omega | exact Nat.le_refl _⟩, by repeat (first | exact Drawn0.refl _ | apply Drawn0.step)⟩
      · rw [if_neg c7] at H
        have c7b0 : decide (192 ≤ a0) = false := decide_eq_false c7
        clear c7
        have H' := Aside0.mk H
        clear H
        go_wp2
        go_meet
        case rel => exact ⟨_, (false), (by first | rfl | (simp; done) | (simp [*]; done)), H', ⟨by first | omega | exact Nat.le_refl _⟩, by repeat (first | exact Drawn0.refl _ | apply Drawn0.step)⟩
  case rest =>
    clear HC2
    try clear p2
    try clear c3
    try clear c3b0
    try clear c4
    try clear c4b0
    try clear c5
    try clear c5b0
    try clear c6
    try clear c6b0
    try clear c7
    try clear c7b0
    try clear c8
    try clear c8b0
    obtain ⟨kq, x20_1, rfl, HA, HJ1, ⟨mc1, rfl⟩⟩ := hcut
    cases kq with
    | zero => exact absurd HA.out (by simp [lombardref04_low.j0])
    | succ kj1 =>
      have H := HA.out
      clear HA
      simp only [lombardref04_low.j0] at H
      by_cases c9 : x20_1 = true
      · subst c9
        have H1 : (some (wrap64 (a0 + 32))) = some r := by rw [if_pos rfl] at H; exact H
        clear H
        have H := H1
        clear H1
        obtain rfl := Option.some.inj H
        go_wp2
        go_ret
        exact ⟨by first | rfl | (simp; done) | (simp [*]; done), by repeat (first | exact Drawn0.refl _ | apply Drawn0.step)⟩
      · replace c9 := Bool.eq_false_iff.mpr c9
        subst c9
        have H1 : (if a0 = 376 then (some 255) else (if a0 ≥ 256 then (if a0 ≤ 311 then (lombardref04_low.j1 kj1 a0 true) else (if a0 ≥ 330 then (lombardref04_low.j1 kj1 a0 (decide (a0 ≤ 375))) else (lombardref04_low.j1 kj1 a0 false))) else (if a0 ≥ 330 then (lombardref04_low.j1 kj1 a0 (decide (a0 ≤ 375))) else (lombardref04_low.j1 kj1 a0 false)))) = some r := by rw [if_neg (show ¬ (false = true) by decide)] at H; exact H
        clear H
        have H := H1
        clear H1
        by_cases c10 : a0 = 376
        · rw [if_pos c10] at H
          have c10b0 : (a0 == 376) = true := beq_iff_eq.mpr c10
          have c10b1 : (a0 != 376) = false := bne_eq_false_iff_eq.mpr c10
          clear c10
          obtain rfl := Option.some.inj H
          go_wp2
          go_ret
          exact ⟨by first | rfl | (simp; done) | (simp [*]; done), by repeat (first | exact Drawn0.refl _ | apply Drawn0.step)⟩
        · rw [if_neg c10] at H
          have c10b0 : (a0 == 376) = false := beq_eq_false_iff_ne.mpr c10
          have c10b1 : (a0 != 376) = true := bne_iff_ne.mpr c10
          have HC11 := Aside0.mk H
          clear H
          go_upto_region 5 with (fail)
          go_cut [38] (fun v38 wc => ∃ (kq : Nat) (x38_10 : Bool), v38 = .bool x38_10 ∧ Aside0 (lombardref04_low.j1 kq a0 x38_10 = some r) ∧ Aside0 (kq ≤ kj1) ∧ Drawn0 w wc)
          case first =>
            have H := HC11.out
            clear HC11
            by_cases c12 : a0 ≥ 256
            · rw [if_pos c12] at H
              have c12b0 : decide (256 ≤ a0) = true := decide_eq_true c12
              clear c12
              (first | rw [c12b0] | (simp only [i64_w, i32_w]; rw [c12b0]) | skip)
              by_cases c13 : a0 ≤ 311
              · rw [if_pos c13] at H
                have c13b0 : decide (a0 ≤ 311) = true := decide_eq_true c13
                clear c13
                have H' := Aside0.mk H
                clear H
                go_wp2
                go_meet
                case rel => exact ⟨_, (true), (by first | rfl | (simp; done) | (simp [*]; done)), H', ⟨by have := HJ1.out; first | omega | exact Nat.le_refl _⟩, by repeat (first | exact Drawn0.refl _ | apply Drawn0.step)⟩
              · rw [if_neg c13] at H
                have c13b0 : decide (a0 ≤ 311) = false := decide_eq_false c13
                clear c13
                by_cases c14 : a0 ≥ 330
                · rw [if_pos c14] at H
                  have c14b0 : decide (330 ≤ a0) = true := decide_eq_true c14
                  clear c14
                  have H' := Aside0.mk H
                  clear H
                  go_wp2
                  go_meet
                  case rel => exact ⟨_, (decide (a0 ≤ 375)), (by first | rfl | (simp; done) | (simp [*]; done)), H', ⟨by have := HJ1.out; first | omega | exact Nat.le_refl _⟩, by repeat (first | exact Drawn0.refl _ | apply Drawn0.step)⟩
                · rw [if_neg c14] at H
                  have c14b0 : decide (330 ≤ a0) = false := decide_eq_false c14
                  clear c14
                  have H' := Aside0.mk H
                  clear H
                  go_wp2
                  go_meet
                  case rel => exact ⟨_, (false), (by first | rfl | (simp; done) | (simp [*]; done)), H', ⟨by have := HJ1.out; first | omega | exact Nat.le_refl _⟩, by repeat (first | exact Drawn0.refl _ | apply Drawn0.step)⟩
            · rw [if_neg c12] at H
              have c12b0 : decide (256 ≤ a0) = false := decide_eq_false c12
              clear c12
              (first | rw [c12b0] | (simp only [i64_w, i32_w]; rw [c12b0]) | skip)
              by_cases c15 : a0 ≥ 330
              · rw [if_pos c15] at H
                have c15b0 : decide (330 ≤ a0) = true := decide_eq_true c15
                clear c15
                have H' := Aside0.mk H
                clear H
                go_wp2
                go_meet
                case rel => exact ⟨_, (decide (a0 ≤ 375)), (by first | rfl | (simp; done) | (simp [*]; done)), H', ⟨by have := HJ1.out; first | omega | exact Nat.le_refl _⟩, by repeat (first | exact Drawn0.refl _ | apply Drawn0.step)⟩
              · rw [if_neg c15] at H
                have c15b0 : decide (330 ≤ a0) = false := decide_eq_false c15
                clear c15
                have H' := Aside0.mk H
                clear H
                go_wp2
                go_meet
                case rel => exact ⟨_, (false), (by first | rfl | (simp; done) | (simp [*]; done)), H', ⟨by have := HJ1.out; first | omega | exact Nat.le_refl _⟩, by repeat (first | exact Drawn0.refl _ | apply Drawn0.step)⟩
          case rest =>
            clear HC11
            try clear c1
            try clear p2
            try clear c3
            try clear c3b0
            try clear c4
            try clear c4b0
            try clear c5
            try clear c5b0
            try clear c6
            try clear c6b0
            try clear p6
            try clear c7
            try clear c7b0
            try clear c8
            try clear c8b0
            try clear c9
            try clear c10
            try clear c10b0
            try clear c10b1
            try clear c12
            try clear c12b0
            try clear c13
            try clear c13b0
            try clear c14
            try clear c14b0
            try clear c15
            try clear c15b0
            try clear p2
            obtain ⟨kq, x38_10, rfl, HA, HJ10, ⟨mc10, rfl⟩⟩ := hcut
            cases kq with
            | zero => exact absurd HA.out (by simp [lombardref04_low.j1])
            | succ kj10 =>
              have H := HA.out
              clear HA
              simp only [lombardref04_low.j1] at H
              by_cases c16 : x38_10 = true
              · subst c16
                have H1 : (some (wrap64 ((wrap64 ((wrap64 (Int.tdiv a0 2)) * 2)) + 1))) = some r := by rw [if_pos rfl] at H; exact H
                clear H
                have H := H1
                clear H1
                obtain rfl := Option.some.inj H
                go_wp2
                go_ret
                exact ⟨by first | rfl | (simp; done) | (simp [*]; done), by repeat (first | exact Drawn0.refl _ | apply Drawn0.step)⟩
              · replace c16 := Bool.eq_false_iff.mpr c16
                subst c16
                have H1 : (if a0 ≥ 313 then (if a0 ≤ 328 then (if (Int.tmod a0 2) = 1 then (some (wrap64 (a0 + 1))) else (some a0)) else (if a0 ≥ 377 then (if a0 ≤ 382 then (if (Int.tmod a0 2) = 1 then (some (wrap64 (a0 + 1))) else (some a0)) else (some a0)) else (some a0))) else (if a0 ≥ 377 then (if a0 ≤ 382 then (if (Int.tmod a0 2) = 1 then (some (wrap64 (a0 + 1))) else (some a0)) else (some a0)) else (some a0))) = some r := by rw [if_neg (show ¬ (false = true) by decide)] at H; exact H
                clear H
                have H := H1
                clear H1
                by_cases c17 : a0 ≥ 313
                · rw [if_pos c17] at H
                  have c17b0 : decide (313 ≤ a0) = true := decide_eq_true c17
                  clear c17
                  by_cases c18 : a0 ≤ 328
                  · rw [if_pos c18] at H
                    have c18b0 : decide (a0 ≤ 328) = true := decide_eq_true c18
                    clear c18
                    by_cases c19 : (Int.tmod a0 2) = 1
                    · rw [if_pos c19] at H
                      have c19b0 : ((Int.tmod a0 2) == 1) = true := beq_iff_eq.mpr c19
                      have c19b1 : ((Int.tmod a0 2) != 1) = false := bne_eq_false_iff_eq.mpr c19
                      clear c19
                      obtain rfl := Option.some.inj H
                      go_wp2
                      go_ret
                      exact ⟨by first | rfl | (simp; done) | (simp [*]; done), by repeat (first | exact Drawn0.refl _ | apply Drawn0.step)⟩
                    · rw [if_neg c19] at H
                      have c19b0 : ((Int.tmod a0 2) == 1) = false := beq_eq_false_iff_ne.mpr c19
                      have c19b1 : ((Int.tmod a0 2) != 1) = true := bne_iff_ne.mpr c19
                      obtain rfl := Option.some.inj H
                      go_wp2
                      go_ret
                      exact ⟨by first | rfl | (simp; done) | (simp [*]; done), by repeat (first | exact Drawn0.refl _ | apply Drawn0.step)⟩
                  · rw [if_neg c18] at H
                    have c18b0 : decide (a0 ≤ 328) = false := decide_eq_false c18
                    clear c18
                    by_cases c20 : a0 ≥ 377
                    · rw [if_pos c20] at H
                      have c20b0 : decide (377 ≤ a0) = true := decide_eq_true c20
                      clear c20
                      by_cases c21 : a0 ≤ 382
                      · rw [if_pos c21] at H
                        have c21b0 : decide (a0 ≤ 382) = true := decide_eq_true c21
                        clear c21
                        by_cases c22 : (Int.tmod a0 2) = 1
                        · rw [if_pos c22] at H
                          have c22b0 : ((Int.tmod a0 2) == 1) = true := beq_iff_eq.mpr c22
                          have c22b1 : ((Int.tmod a0 2) != 1) = false := bne_eq_false_iff_eq.mpr c22
                          clear c22
                          obtain rfl := Option.some.inj H
                          go_wp2
                          go_ret
                          exact ⟨by first | rfl | (simp; done) | (simp [*]; done), by repeat (first | exact Drawn0.refl _ | apply Drawn0.step)⟩
                        · rw [if_neg c22] at H
                          have c22b0 : ((Int.tmod a0 2) == 1) = false := beq_eq_false_iff_ne.mpr c22
                          have c22b1 : ((Int.tmod a0 2) != 1) = true := bne_iff_ne.mpr c22
                          obtain rfl := Option.some.inj H
                          go_wp2
                          go_ret
                          exact ⟨by first | rfl | (simp; done) | (simp [*]; done), by repeat (first | exact Drawn0.refl _ | apply Drawn0.step)⟩
                      · rw [if_neg c21] at H
                        have c21b0 : decide (a0 ≤ 382) = false := decide_eq_false c21
                        clear c21
                        obtain rfl := Option.some.inj H
                        go_wp2
                        go_ret
                        exact ⟨by first | rfl | (simp; done) | (simp [*]; done), by repeat (first | exact Drawn0.refl _ | apply Drawn0.step)⟩
                    · rw [if_neg c20] at H
                      have c20b0 : decide (377 ≤ a0) = false := decide_eq_false c20
                      clear c20
                      obtain rfl := Option.some.inj H
                      go_wp2
                      go_ret
                      exact ⟨by first | rfl | (simp; done) | (simp [*]; done), by repeat (first | exact Drawn0.refl _ | apply Drawn0.step)⟩
                · rw [if_neg c17] at H
                  have c17b0 : decide (313 ≤ a0) = false := decide_eq_false c17
                  clear c17
                  by_cases c23 : a0 ≥ 377
                  · rw [if_pos c23] at H
                    have c23b0 : decide (377 ≤ a0) = true := decide_eq_true c23
                    clear c23
                    by_cases c24 : a0 ≤ 382
                    · rw [if_pos c24] at H
                      have c24b0 : decide (a0 ≤ 382) = true := decide_eq_true c24
                      clear c24
                      by_cases c25 : (Int.tmod a0 2) = 1
                      · rw [if_pos c25] at H
                        have c25b0 : ((Int.tmod a0 2) == 1) = true := beq_iff_eq.mpr c25
                        have c25b1 : ((Int.tmod a0 2) != 1) = false := bne_eq_false_iff_eq.mpr c25
                        clear c25
                        obtain rfl := Option.some.inj H
                        go_wp2
                        go_ret
                        exact ⟨by first | rfl | (simp; done) | (simp [*]; done), by repeat (first | exact Drawn0.refl _ | apply Drawn0.step)⟩
                      · rw [if_neg c25] at H
                        have c25b0 : ((Int.tmod a0 2) == 1) = false := beq_eq_false_iff_ne.mpr c25
                        have c25b1 : ((Int.tmod a0 2) != 1) = true := bne_iff_ne.mpr c25
                        obtain rfl := Option.some.inj H
                        go_wp2
                        go_ret
                        exact ⟨by first | rfl | (simp; done) | (simp [*]; done), by repeat (first | exact Drawn0.refl _ | apply Drawn0.step)⟩
                    · rw [if_neg c24] at H
                      have c24b0 : decide (a0 ≤ 382) = false := decide_eq_false c24
                      clear c24
                      obtain rfl := Option.some.inj H
                      go_wp2
                      go_ret
                      exact ⟨by first | rfl | (simp; done) | (simp [*]; done), by repeat (first | exact Drawn0.refl _ | apply Drawn0.step)⟩
                  · rw [if_neg c23] at H
                    have c23b0 : decide (377 ≤ a0) = false := decide_eq_false c23
                    clear c23
                    obtain rfl := Option.some.inj H
                    go_wp2
                    go_ret
                    exact ⟨by first | rfl | (simp; done) | (simp [*]; done), by repeat (first | exact Drawn0.refl _ | apply Drawn0.step)⟩

/-! ### lombardref04_great: function 36 -/
/-! ### lombardref04_plain: function 37 -/
end Go.Proofs.YtbdcnfbidbffcaaDoor.PL
