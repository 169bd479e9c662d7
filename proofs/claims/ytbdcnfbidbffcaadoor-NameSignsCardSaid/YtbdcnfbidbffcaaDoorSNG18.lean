/- Part 18 of the proof's texts: what the theorem needs of them. -/
import Derived.Test.YtbdcnfbidbffcaaDoorSNG12
import Derived.Test.YtbdcnfbidbffcaaDoorSNG13
import Derived.WalkKit
import Derived.BigCall
import Derived.Lib.OthersKept
import Derived.Test.YtbdcnfbidbffcaaDoorSNG14
import Derived.Test.YtbdcnfbidbffcaaDoorSNG15
import Derived.Test.YtbdcnfbidbffcaaDoorSNG17

set_option linter.unusedVariables false
set_option linter.unusedSimpArgs false
/- name.letter, digit, joint, and name.Check's walk. -/
namespace Go.Proofs.YtbdcnfbidbffcaaDoor.NM
set_option linter.unusedSimpArgs false
set_option linter.unusedVariables false
open Go Go.RowKit Go.Proofs Go.Proofs.YtbdcnfbidbffcaaDoor.PL Go.Proofs.YtbdcnfbidbffcaaDoorW.PrintWords
def ltB (c : Int) : Bool := decide ((97 ≤ c ∧ c ≤ 122) ∨ (65 ≤ c ∧ c ≤ 90) ∨ (192 ≤ c ∧ c ≤ 383 ∧ c ≠ 215 ∧ c ≠ 247))
def dgB (c : Int) : Bool := decide (48 ≤ c ∧ c ≤ 57)
def jtB (c : Int) : Bool := decide (c = 32 ∨ c = 45 ∨ c = 46 ∨ c = 38 ∨ c = 39)
theorem letter_f (c : Int) : name_letter.f 3 c = some (ltB c) := by
  unfold name_letter.f ltB
  simp only [name_letter.j0, name_letter.j1]
  repeat' split
  all_goals apply congrArg some
  all_goals rw [Bool.eq_iff_iff]
  all_goals simp only [decide_eq_true_eq, reduceCtorEq, false_iff, true_iff, iff_true, iff_false, Bool.false_eq_true] at *
  all_goals omega
theorem digit_f (c : Int) : name_digit.f c = some (dgB c) := by
  unfold name_digit.f dgB
  split
  all_goals apply congrArg some
  all_goals rw [Bool.eq_iff_iff]
  all_goals simp only [decide_eq_true_eq, reduceCtorEq, false_iff, true_iff, iff_true, iff_false, Bool.false_eq_true] at *
  all_goals omega
theorem joint_f (c : Int) : name_joint.f c = some (jtB c) := by
  unfold name_joint.f jtB
  repeat' split
  all_goals simp_all
theorem letter_c (c : Int) (w : World) : Calls Tryd.prog 24 #[.int .i32 c] w fun e w' => e = .returned (.bool (ltB c)) ∧ Drawn0 w w' := name_letter.calls 3 c _ w (letter_f c)
theorem digit_c (c : Int) (w : World) : Calls Tryd.prog 25 #[.int .i32 c] w fun e w' => e = .returned (.bool (dgB c)) ∧ Drawn0 w w' := name_digit.calls c _ w (digit_f c)
theorem joint_c (c : Int) (w : World) : Calls Tryd.prog 26 #[.int .i32 c] w fun e w' => e = .returned (.bool (jtB c)) ∧ Drawn0 w w' := name_joint.calls c _ w (joint_f c)
theorem Drawn0.below' {B : Nat} {w w' : World} (h : Drawn0 w w') : Below B w w' := by
  obtain ⟨n, rfl⟩ := h
  exact ⟨rfl, rfl, rfl, Nat.le_refl _, fun i _ => rfl⟩
theorem width_pos (s : ByteArray) (pos : Nat) (h : pos < s.size) : 1 ≤ (Utf8.decode s pos).2 := by
  by_cases ha : (s[pos]'h).toNat < 128
  · rw [decode_ascii s pos h ha]
    exact Nat.le_refl _
  · exact (decode_high s pos h (by omega)).2
/-- name.Check from a place on: n signs went by, the last was l. -/
def chkFrom (s : ByteArray) : Nat → Nat → Int → Int → Int × Int
  | 0, _, _, _ => (0, 0)
  | f + 1, pos, n, l =>
    if pos < s.size then
      (if n = 40 then ((pos : Int), 2)
       else if ltB (Utf8.decode s pos).1 = false ∧ (n = 0 ∨ dgB (Utf8.decode s pos).1 = false ∧ jtB (Utf8.decode s pos).1 = false) then ((pos : Int), 11)
       else if ((Utf8.decode s pos).1 : Int) = 32 ∧ jtB l = true ∧ l ≠ 46 ∧ l ≠ 38 then ((pos : Int), 11)
       else chkFrom s f (pos + (Utf8.decode s pos).2) (n + 1) (Utf8.decode s pos).1)
    else if n = 0 ∨ l = 32 then ((s.size : Int), 11) else ((s.size : Int), 0)
def chk (s : ByteArray) : Int × Int := if s.size > 160 then (0, 2) else chkFrom s (s.size + 1) 0 0 32
set_option maxHeartbeats 4000000 in
set_option maxRecDepth 1000000 in
theorem check_walk (s : ByteArray) (w : World) :
    Calls Tryd.prog 9 #[.string s] w fun e w' => e = .returned (.tuple #[.int .i64 (chk s).1, .int .i64 (chk s).2]) ∧ Below w.heap.size w w' := by
  unfold chk
  by_cases hs : s.size > 160
  · rw [if_pos hs]
    have hb : decide (160 < s.size) = true := decide_eq_true hs
    go_enter Tryd.func9, Tryd.ntmps9
    go_wp2
    go_ret2
    exact ⟨rfl, Below.refl _ _⟩
  rw [if_neg hs]
  have hb : decide (160 < s.size) = false := decide_eq_false hs
  generalize hv : chkFrom s (s.size + 1) 0 0 32 = v
  go_enter Tryd.func9, Tryd.ntmps9
  go_wp2
  go_loopw [4, 5] (fun v4 v5 wr => ∃ (pos fuel : Nat) (n l : Int), v4 = .int .i64 n ∧ v5 = .int .i32 l ∧ wr.heap[w.heap.size]? = some (.stringIter s pos) ∧ Below w.heap.size w wr ∧ chkFrom s fuel pos n l = v ∧ 1 ≤ fuel ∧ s.size < pos + fuel ∧ 0 ≤ n ∧ n ≤ 40) (fun _ _ wr => s.size - wr.iterPos w.heap.size)
  case atStart =>
    refine ⟨0, s.size + 1, 0, 32, rfl, rfl, ?_, (Below.refl _ w).alloc (Nat.le_refl _) _, hv, by omega, by omega, by omega, by omega⟩
    have := World.iter_heap w s 0
    simpa using this
  case round =>
    obtain ⟨pos, fuel, n, l, rfl, rfl, hit, hbw, hacc, hfu1, hfu, hn0, hn1⟩ := hrel
    have hsz : w.heap.size < wr.heap.size := (Array.getElem?_eq_some_iff.1 hit).1
    obtain ⟨f, rfl⟩ : ∃ f, fuel = f + 1 := ⟨fuel - 1, by omega⟩
    unfold chkFrom at hacc
    by_cases hp : pos < s.size
    · rw [if_pos hp] at hacc
      have hnx : ∀ ty, (Instr.next (.pointer (some ⟨w.heap.size, 0, none⟩)) true ty).run Tryd.prog wr = _ := fun ty => Lib.run_next_any_at wr w.heap.size s pos ty hit hp
      have hwd := width_pos s pos hp
      have hd1 := decode_le s pos
      have hit2 := Lib.iterAt_heap wr w.heap.size s pos (pos + (Utf8.decode s pos).2) hit
      have hbw2 := Lib.below_iterAt hbw (k := w.heap.size) (by omega) s (pos + (Utf8.decode s pos).2)
      generalize hc : Utf8.decode s pos = cw at *
      obtain ⟨c, wd⟩ := cw
      simp only at *
      generalize hw1 : wr.iterAt w.heap.size s (pos + wd) = w1 at *
      have hbd : ∀ k, Below w.heap.size w (w1.drewN k) := fun k => hbw2.trans (Drawn0.below' ⟨⟨k, rfl⟩⟩)
      by_cases h40 : n = 40
      · subst h40
        rw [if_pos rfl] at hacc
        go_wp2_with (first | (go_at_call 24; refine (letter_c _ _).mono ?_; rintro e W1 ⟨rfl, ⟨nd, rfl⟩⟩) | (go_at_call 25; refine (digit_c _ _).mono ?_; rintro e W1 ⟨rfl, ⟨nd, rfl⟩⟩) | (go_at_call 26; refine (joint_c _ _).mono ?_; rintro e W1 ⟨rfl, ⟨nd, rfl⟩⟩))
        go_ret2
        subst hacc
        exact ⟨rfl, by first | exact hbw2 | exact hbd _⟩
      rw [if_neg h40] at hacc
      have h40b : (n == 40) = false := beq_eq_false_iff_ne.mpr h40
      have hN : n = 0 ∨ (n == 0) = false := by by_cases h : n = 0; exact .inl h; exact .inr (beq_eq_false_iff_ne.mpr h)
      by_cases hL : ltB c = true
      · have h32 : ((c : Int) == 32) = false := by
          rw [beq_eq_false_iff_ne]
          rintro h
          rw [h] at hL
          exact absurd hL (by decide)
        rw [if_neg (by rw [hL]; simp), if_neg (by rw [beq_eq_false_iff_ne] at h32; exact fun h => h32 h.1)] at hacc
        rcases hN with rfl | hN
        · rw [show (0 : Int) + 1 = 1 from rfl] at hacc
          go_wp2_with (first | (go_at_call 24; refine (letter_c _ _).mono ?_; rintro e W1 ⟨rfl, ⟨nd, rfl⟩⟩) | (go_at_call 25; refine (digit_c _ _).mono ?_; rintro e W1 ⟨rfl, ⟨nd, rfl⟩⟩) | (go_at_call 26; refine (joint_c _ _).mono ?_; rintro e W1 ⟨rfl, ⟨nd, rfl⟩⟩))
          go_roundw
          case rel => exact ⟨pos + wd, f, 1, c, rfl, by first | rfl, hit2, by first | exact hbw2 | exact hbd _, hacc, by omega, by omega, by omega, by omega⟩
          case measure =>
            simp only [World.iterPos, World.heap_drewN, hit2, hit]
            omega
        · skip
          go_wp2_with (first | (go_at_call 24; refine (letter_c _ _).mono ?_; rintro e W1 ⟨rfl, ⟨nd, rfl⟩⟩) | (go_at_call 25; refine (digit_c _ _).mono ?_; rintro e W1 ⟨rfl, ⟨nd, rfl⟩⟩) | (go_at_call 26; refine (joint_c _ _).mono ?_; rintro e W1 ⟨rfl, ⟨nd, rfl⟩⟩))
          go_roundw
          case rel => exact ⟨pos + wd, f, n + 1, c, rfl, by first | rfl | rw [h32'], hit2, by first | exact hbw2 | exact hbd _, hacc, by omega, by omega, by omega, by omega⟩
          case measure =>
            simp only [World.iterPos, World.heap_drewN, hit2, hit]
            omega
      replace hL := Bool.eq_false_iff.mpr hL
      rcases hN with rfl | hN
      · rw [if_pos ⟨hL, .inl rfl⟩] at hacc
        by_cases hD : dgB c = true
        · skip
          go_wp2_with (first | (go_at_call 24; refine (letter_c _ _).mono ?_; rintro e W1 ⟨rfl, ⟨nd, rfl⟩⟩) | (go_at_call 25; refine (digit_c _ _).mono ?_; rintro e W1 ⟨rfl, ⟨nd, rfl⟩⟩) | (go_at_call 26; refine (joint_c _ _).mono ?_; rintro e W1 ⟨rfl, ⟨nd, rfl⟩⟩))
          go_ret2
          subst hacc
          exact ⟨rfl, by first | exact hbw2 | exact hbd _⟩
        replace hD := Bool.eq_false_iff.mpr hD
        by_cases hJ : jtB c = true
        · skip
          go_wp2_with (first | (go_at_call 24; refine (letter_c _ _).mono ?_; rintro e W1 ⟨rfl, ⟨nd, rfl⟩⟩) | (go_at_call 25; refine (digit_c _ _).mono ?_; rintro e W1 ⟨rfl, ⟨nd, rfl⟩⟩) | (go_at_call 26; refine (joint_c _ _).mono ?_; rintro e W1 ⟨rfl, ⟨nd, rfl⟩⟩))
          go_ret2
          subst hacc
          exact ⟨rfl, by first | exact hbw2 | exact hbd _⟩
        replace hJ := Bool.eq_false_iff.mpr hJ
        go_wp2_with (first | (go_at_call 24; refine (letter_c _ _).mono ?_; rintro e W1 ⟨rfl, ⟨nd, rfl⟩⟩) | (go_at_call 25; refine (digit_c _ _).mono ?_; rintro e W1 ⟨rfl, ⟨nd, rfl⟩⟩) | (go_at_call 26; refine (joint_c _ _).mono ?_; rintro e W1 ⟨rfl, ⟨nd, rfl⟩⟩))
        go_ret2
        subst hacc
        exact ⟨rfl, by first | exact hbw2 | exact hbd _⟩
      have hN' : n ≠ 0 := by simpa using hN
      by_cases hD : dgB c = true
      · have h32 : ((c : Int) == 32) = false := by
          rw [beq_eq_false_iff_ne]
          rintro h
          rw [h] at hD
          exact absurd hD (by decide)
        rw [if_neg (by rw [hD]; simp [hN']), if_neg (by rw [beq_eq_false_iff_ne] at h32; exact fun h => h32 h.1)] at hacc
        go_wp2_with (first | (go_at_call 24; refine (letter_c _ _).mono ?_; rintro e W1 ⟨rfl, ⟨nd, rfl⟩⟩) | (go_at_call 25; refine (digit_c _ _).mono ?_; rintro e W1 ⟨rfl, ⟨nd, rfl⟩⟩) | (go_at_call 26; refine (joint_c _ _).mono ?_; rintro e W1 ⟨rfl, ⟨nd, rfl⟩⟩))
        go_roundw
        case rel => exact ⟨pos + wd, f, n + 1, c, rfl, by first | rfl | rw [h32'], hit2, by first | exact hbw2 | exact hbd _, hacc, by omega, by omega, by omega, by omega⟩
        case measure =>
          simp only [World.iterPos, World.heap_drewN, hit2, hit]
          omega
      replace hD := Bool.eq_false_iff.mpr hD
      by_cases hJ : jtB c = true
      · rw [if_neg (by rw [hJ]; simp [hN'])] at hacc
        by_cases h32' : (c : Int) = 32
        · have h32 : ((c : Int) == 32) = true := beq_iff_eq.mpr h32'
          by_cases hK : jtB l = true
          · by_cases h46 : l = 46
            · subst h46
              rw [if_neg (by simp)] at hacc
              go_wp2_with (first | (go_at_call 24; refine (letter_c _ _).mono ?_; rintro e W1 ⟨rfl, ⟨nd, rfl⟩⟩) | (go_at_call 25; refine (digit_c _ _).mono ?_; rintro e W1 ⟨rfl, ⟨nd, rfl⟩⟩) | (go_at_call 26; refine (joint_c _ _).mono ?_; rintro e W1 ⟨rfl, ⟨nd, rfl⟩⟩))
              go_roundw
              case rel => exact ⟨pos + wd, f, n + 1, c, rfl, by first | rfl | rw [h32'], hit2, by first | exact hbw2 | exact hbd _, hacc, by omega, by omega, by omega, by omega⟩
              case measure =>
                simp only [World.iterPos, World.heap_drewN, hit2, hit]
                omega
            have h46b : (l != 46) = true := bne_iff_ne.mpr h46
            by_cases h38 : l = 38
            · subst h38
              rw [if_neg (by simp)] at hacc
              go_wp2_with (first | (go_at_call 24; refine (letter_c _ _).mono ?_; rintro e W1 ⟨rfl, ⟨nd, rfl⟩⟩) | (go_at_call 25; refine (digit_c _ _).mono ?_; rintro e W1 ⟨rfl, ⟨nd, rfl⟩⟩) | (go_at_call 26; refine (joint_c _ _).mono ?_; rintro e W1 ⟨rfl, ⟨nd, rfl⟩⟩))
              go_roundw
              case rel => exact ⟨pos + wd, f, n + 1, c, rfl, by first | rfl | rw [h32'], hit2, by first | exact hbw2 | exact hbd _, hacc, by omega, by omega, by omega, by omega⟩
              case measure =>
                simp only [World.iterPos, World.heap_drewN, hit2, hit]
                omega
            have h38b : (l != 38) = true := bne_iff_ne.mpr h38
            rw [if_pos ⟨h32', hK, h46, h38⟩] at hacc
            go_wp2_with (first | (go_at_call 24; refine (letter_c _ _).mono ?_; rintro e W1 ⟨rfl, ⟨nd, rfl⟩⟩) | (go_at_call 25; refine (digit_c _ _).mono ?_; rintro e W1 ⟨rfl, ⟨nd, rfl⟩⟩) | (go_at_call 26; refine (joint_c _ _).mono ?_; rintro e W1 ⟨rfl, ⟨nd, rfl⟩⟩))
            go_ret2
            subst hacc
            exact ⟨rfl, by first | exact hbw2 | exact hbd _⟩
          rw [if_neg (fun h => hK h.2.1)] at hacc
          replace hK := Bool.eq_false_iff.mpr hK
          go_wp2_with (first | (go_at_call 24; refine (letter_c _ _).mono ?_; rintro e W1 ⟨rfl, ⟨nd, rfl⟩⟩) | (go_at_call 25; refine (digit_c _ _).mono ?_; rintro e W1 ⟨rfl, ⟨nd, rfl⟩⟩) | (go_at_call 26; refine (joint_c _ _).mono ?_; rintro e W1 ⟨rfl, ⟨nd, rfl⟩⟩))
          go_roundw
          case rel => exact ⟨pos + wd, f, n + 1, c, rfl, by first | rfl | rw [h32'], hit2, by first | exact hbw2 | exact hbd _, hacc, by omega, by omega, by omega, by omega⟩
          case measure =>
            simp only [World.iterPos, World.heap_drewN, hit2, hit]
            omega
        have h32 : ((c : Int) == 32) = false := beq_eq_false_iff_ne.mpr h32'
        rw [if_neg (fun h => h32' h.1)] at hacc
        go_wp2_with (first | (go_at_call 24; refine (letter_c _ _).mono ?_; rintro e W1 ⟨rfl, ⟨nd, rfl⟩⟩) | (go_at_call 25; refine (digit_c _ _).mono ?_; rintro e W1 ⟨rfl, ⟨nd, rfl⟩⟩) | (go_at_call 26; refine (joint_c _ _).mono ?_; rintro e W1 ⟨rfl, ⟨nd, rfl⟩⟩))
        go_roundw
        case rel => exact ⟨pos + wd, f, n + 1, c, rfl, by first | rfl | rw [h32'], hit2, by first | exact hbw2 | exact hbd _, hacc, by omega, by omega, by omega, by omega⟩
        case measure =>
          simp only [World.iterPos, World.heap_drewN, hit2, hit]
          omega
      replace hJ := Bool.eq_false_iff.mpr hJ
      rw [if_pos ⟨hL, .inr ⟨hD, hJ⟩⟩] at hacc
      go_wp2_with (first | (go_at_call 24; refine (letter_c _ _).mono ?_; rintro e W1 ⟨rfl, ⟨nd, rfl⟩⟩) | (go_at_call 25; refine (digit_c _ _).mono ?_; rintro e W1 ⟨rfl, ⟨nd, rfl⟩⟩) | (go_at_call 26; refine (joint_c _ _).mono ?_; rintro e W1 ⟨rfl, ⟨nd, rfl⟩⟩))
      go_ret2
      subst hacc
      exact ⟨rfl, by first | exact hbw2 | exact hbd _⟩
    · rw [if_neg hp] at hacc
      have hnx : ∀ ty, (Instr.next (.pointer (some ⟨w.heap.size, 0, none⟩)) true ty).run Tryd.prog wr = _ := fun ty => Lib.run_next_end_at wr w.heap.size s pos ty hit hp
      by_cases h0 : n = 0
      · subst h0
        rw [if_pos (.inl rfl)] at hacc
        go_wp2
        go_ret2
        subst hacc
        exact ⟨rfl, hbw⟩
      · have h0b : (n == 0) = false := beq_eq_false_iff_ne.mpr h0
        by_cases h1 : l = 32
        · subst h1
          rw [if_pos (.inr rfl)] at hacc
          go_wp2
          go_ret2
          subst hacc
          exact ⟨rfl, hbw⟩
        · have h1b : (l == 32) = false := beq_eq_false_iff_ne.mpr h1
          rw [if_neg (by omega)] at hacc
          go_wp2
          go_ret2
          subst hacc
          exact ⟨rfl, hbw⟩
end Go.Proofs.YtbdcnfbidbffcaaDoor.NM

/- A text's signs as a list; wide, low as plain numbers; name.Width's and name.Count's walks. -/
set_option linter.unusedSimpArgs false
set_option linter.unusedVariables false
namespace Go.Proofs.YtbdcnfbidbffcaaDoor.NM
open Go Go.RowKit Go.Proofs Go.Proofs.YtbdcnfbidbffcaaDoor.PL Go.Proofs.YtbdcnfbidbffcaaDoorW.PrintWords
/-- The signs from a place on, each with its place. -/
def sg (s : ByteArray) : Nat → Nat → List (Nat × Nat)
  | 0, _ => []
  | f + 1, pos => if pos < s.size then ((Utf8.decode s pos).1, pos) :: sg s f (pos + (Utf8.decode s pos).2) else []
def signs (s : ByteArray) : List (Nat × Nat) := sg s s.size 0
theorem sg_end (s : ByteArray) (f pos : Nat) (h : ¬ pos < s.size) : sg s f pos = [] := by
  cases f with
  | zero => rfl
  | succ f => simp [sg, h]
theorem sg_step (s : ByteArray) (f pos : Nat) (h : pos < s.size) : sg s (f + 1) pos = ((Utf8.decode s pos).1, pos) :: sg s f (pos + (Utf8.decode s pos).2) := by simp [sg, h]
def w5 (c : Int) : Int := if 127744 ≤ c ∧ c < 128592 then 2 else (1 : Int)
theorem L5 (k : Nat) (c : Int) (b : Bool) : name_wide.j5 (k+1) c b = some (if b = true then 2 else w5 c) := by
  unfold name_wide.j5 w5
  cases b
  · by_cases h1 : c ≥ 127744
    · by_cases h2 : c < 128592
      · simp [h1, h2]
      · simp [h1, h2]
    · simp [h1]
  · simp
def w4 (c : Int) : Int := if 65281 ≤ c ∧ c < 65377 then 2 else w5 c
theorem L4 (k : Nat) (c : Int) (b : Bool) : name_wide.j4 (k+2) c b = some (if b = true then 2 else w4 c) := by
  unfold name_wide.j4 w4
  simp only [show k+2 - 1 = k + 1 from rfl, L5]
  cases b
  · by_cases h1 : c ≥ 65281
    · by_cases h2 : c < 65377
      · simp [h1, h2]
      · simp [h1, h2]
    · simp [h1]
  · simp
def w3 (c : Int) : Int := if 63744 ≤ c ∧ c < 64256 then 2 else w4 c
theorem L3 (k : Nat) (c : Int) (b : Bool) : name_wide.j3 (k+3) c b = some (if b = true then 2 else w3 c) := by
  unfold name_wide.j3 w3
  simp only [show k+3 - 1 = k + 2 from rfl, L4]
  cases b
  · by_cases h1 : c ≥ 63744
    · by_cases h2 : c < 64256
      · simp [h1, h2]
      · simp [h1, h2]
    · simp [h1]
  · simp
def w2 (c : Int) : Int := if 44032 ≤ c ∧ c < 55204 then 2 else w3 c
theorem L2 (k : Nat) (c : Int) (b : Bool) : name_wide.j2 (k+4) c b = some (if b = true then 2 else w2 c) := by
  unfold name_wide.j2 w2
  simp only [show k+4 - 1 = k + 3 from rfl, L3]
  cases b
  · by_cases h1 : c ≥ 44032
    · by_cases h2 : c < 55204
      · simp [h1, h2]
      · simp [h1, h2]
    · simp [h1]
  · simp
def w1 (c : Int) : Int := if 11904 ≤ c ∧ c < 42192 then 2 else w2 c
theorem L1 (k : Nat) (c : Int) (b : Bool) : name_wide.j1 (k+5) c b = some (if b = true then 2 else w1 c) := by
  unfold name_wide.j1 w1
  simp only [show k+5 - 1 = k + 4 from rfl, L2]
  cases b
  · by_cases h1 : c ≥ 11904
    · by_cases h2 : c < 42192
      · simp [h1, h2]
      · simp [h1, h2]
    · simp [h1]
  · simp
def w0 (c : Int) : Int := if 4352 ≤ c ∧ c < 4448 then 2 else w1 c
theorem L0 (k : Nat) (c : Int) (b : Bool) : name_wide.j0 (k+6) c b = some (if b = true then 0 else w0 c) := by
  unfold name_wide.j0 w0
  simp only [show k+6 - 1 = k + 5 from rfl, L1]
  cases b
  · by_cases h1 : c ≥ 4352
    · by_cases h2 : c < 4448
      · simp [h1, h2]
      · simp [h1, h2]
    · simp [h1]
  · simp
def wdN (c : Int) : Int := if c < 32 ∨ (127 ≤ c ∧ c < 160) ∨ (768 ≤ c ∧ c < 880) then 0 else w0 c
theorem wdN_le (c : Int) : 0 ≤ wdN c ∧ wdN c ≤ 2 := by
  unfold wdN w0 w1 w2 w3 w4 w5
  repeat' split
  all_goals omega
theorem wide_f (c : Int) : name_wide.f 6 c = some (wdN c) := by
  unfold name_wide.f wdN
  have L := L0 0 c
  simp only [Nat.zero_add] at L
  simp only [L]
  repeat' split
  all_goals first | rfl | (exfalso; omega) | contradiction | (exfalso; exact absurd trivial ‹¬True›) | (exfalso; simp only [decide_eq_true_eq, Bool.false_eq_true, not_true_eq_false, reduceCtorEq] at *; omega)
def loN (c : Int) : Int :=
  if (65 ≤ c ∧ c ≤ 90) ∨ (192 ≤ c ∧ c ≤ 222 ∧ c ≠ 215) then c + 32
  else if c = 376 then 255
  else if (256 ≤ c ∧ c ≤ 311) ∨ (330 ≤ c ∧ c ≤ 375) then c / 2 * 2 + 1
  else if ((313 ≤ c ∧ c ≤ 328) ∨ (377 ≤ c ∧ c ≤ 382)) ∧ c % 2 = 1 then c + 1
  else c
theorem low_small : ∀ n, n < 384 → name_low.f 7 (n : Nat) = some (loN (n : Nat)) := by decide +kernel
theorem loN_big (c : Int) (h : 384 ≤ c) : loN c = c := by unfold loN; rw [if_neg (by omega), if_neg (by omega), if_neg (by omega), if_neg (by omega)]
theorem low_f (c : Nat) : name_low.f 7 (c : Int) = some (loN c) := by
  by_cases h : c < 384
  · exact low_small c h
  rw [loN_big c (by omega)]
  unfold name_low.f
  simp [name_low.j0, name_low.j1, name_low.j2, name_low.j3, name_low.j4, show ¬ ((c : Int) ≤ 90) by omega, show ¬ ((c : Int) ≤ 222) by omega, show ¬ ((c : Int) = 376) by omega, show ¬ ((c : Int) ≤ 311) by omega, show ¬ ((c : Int) ≤ 375) by omega, show ¬ ((c : Int) ≤ 328) by omega, show ¬ ((c : Int) ≤ 382) by omega]
theorem loN_nat (c : Nat) : 0 ≤ loN c := by unfold loN; repeat' split; all_goals omega
theorem loN_le (c : Nat) (h : c ≤ 2147483647) : loN c ≤ 2147483647 := by unfold loN; repeat' split; all_goals omega
theorem wide_c (c : Int) (w : World) : Calls Tryd.prog 40 #[.int .i32 c] w fun e w' => e = .returned (.int .i64 (wdN c)) ∧ Drawn0 w w' := name_wide.calls 6 c _ w (wide_f c)
theorem low_c (c : Nat) (w : World) : Calls Tryd.prog 41 #[.int .i32 c] w fun e w' => e = .returned (.int .i32 (loN c)) ∧ Drawn0 w w' := name_low.calls 7 c _ w (low_f c)
def sumW : List (Nat × Nat) → Int
  | [] => 0
  | (c, _) :: l => wdN c + sumW l
def widthS (s : ByteArray) : Int := sumW (signs s)
set_option maxHeartbeats 4000000 in
set_option maxRecDepth 1000000 in
theorem width_walk (s : ByteArray) (w : World) (hs : s.size ≤ 4611686018427387903) :
    Calls Tryd.prog 17 #[.string s] w fun e w' => e = .returned (.int .i64 (widthS s)) ∧ Below w.heap.size w w' := by
  unfold widthS
  generalize hv : sumW (signs s) = v
  go_enter Tryd.func17, Tryd.ntmps17
  go_wp2
  go_loopw [3] (fun v3 wr => ∃ (pos fuel : Nat) (n : Int), v3 = .int .i64 n ∧ wr.heap[w.heap.size]? = some (.stringIter s pos) ∧ Below w.heap.size w wr ∧ n + sumW (sg s fuel pos) = v ∧ s.size ≤ pos + fuel ∧ 0 ≤ n ∧ n ≤ 2 * (min pos s.size)) (fun _ wr => s.size - wr.iterPos w.heap.size)
  case atStart =>
    refine ⟨0, s.size, 0, rfl, ?_, (Below.refl _ w).alloc (Nat.le_refl _) _, by rw [← hv]; unfold signs; omega, by omega, by omega, by omega⟩
    have := World.iter_heap w s 0
    simpa using this
  case round =>
    obtain ⟨pos, fuel, n, rfl, hit, hbw, hacc, hfu, hn0, hn1⟩ := hrel
    have hsz : w.heap.size < wr.heap.size := (Array.getElem?_eq_some_iff.1 hit).1
    by_cases hp : pos < s.size
    · have hnx : ∀ ty, (Instr.next (.pointer (some ⟨w.heap.size, 0, none⟩)) true ty).run Tryd.prog wr = _ := fun ty => Lib.run_next_any_at wr w.heap.size s pos ty hit hp
      obtain ⟨f, rfl⟩ : ∃ f, fuel = f + 1 := ⟨fuel - 1, by omega⟩
      rw [sg_step s f pos hp, sumW] at hacc
      have hwd := width_pos s pos hp
      have hit2 := Lib.iterAt_heap wr w.heap.size s pos (pos + (Utf8.decode s pos).2) hit
      have hbw2 := Lib.below_iterAt hbw (k := w.heap.size) (by omega) s (pos + (Utf8.decode s pos).2)
      generalize hc : Utf8.decode s pos = cw at *
      obtain ⟨c, wd⟩ := cw
      simp only at *
      generalize hw1 : wr.iterAt w.heap.size s (pos + wd) = w1 at *
      have hbd : ∀ k, Below w.heap.size w (w1.drewN k) := fun k => hbw2.trans (Drawn0.below' ⟨⟨k, rfl⟩⟩)
      have hle := wdN_le c
      have hwr : wrap64 (n + wdN c) = n + wdN c := by unfold wrap64; omega
      go_wp2_with (go_at_call 40; refine (wide_c _ _).mono ?_; rintro e W1 ⟨rfl, ⟨nd, rfl⟩⟩)
      go_roundw
      case rel => exact ⟨pos + wd, f, n + wdN c, rfl, hit2, by first | exact hbw2 | exact hbd _, by rw [← hacc]; omega, by omega, by omega, by omega⟩
      case measure =>
        simp only [World.iterPos, World.heap_drewN, hit2, hit]
        omega
    · have hnx : ∀ ty, (Instr.next (.pointer (some ⟨w.heap.size, 0, none⟩)) true ty).run Tryd.prog wr = _ := fun ty => Lib.run_next_end_at wr w.heap.size s pos ty hit hp
      rw [sg_end s fuel pos hp, sumW] at hacc
      go_wp2
      go_ret
      rw [Int.add_zero] at hacc
      subst hacc
      exact ⟨rfl, hbw⟩
def countS (s : ByteArray) : Int := (signs s).length
set_option maxHeartbeats 4000000 in
set_option maxRecDepth 1000000 in
theorem count_walk (s : ByteArray) (w : World) (hs : s.size ≤ 4611686018427387903) :
    Calls Tryd.prog 21 #[.string s] w fun e w' => e = .returned (.int .i64 (countS s)) ∧ Below w.heap.size w w' := by
  unfold countS
  generalize hv : ((signs s).length : Int) = v
  go_enter Tryd.func21, Tryd.ntmps21
  go_wp2
  go_loopw [3] (fun v3 wr => ∃ (pos fuel : Nat) (n : Int), v3 = .int .i64 n ∧ wr.heap[w.heap.size]? = some (.stringIter s pos) ∧ Below w.heap.size w wr ∧ n + ((sg s fuel pos).length : Int) = v ∧ s.size ≤ pos + fuel ∧ 0 ≤ n ∧ n ≤ 2 * (min pos s.size)) (fun _ wr => s.size - wr.iterPos w.heap.size)
  case atStart =>
    refine ⟨0, s.size, 0, rfl, ?_, (Below.refl _ w).alloc (Nat.le_refl _) _, by rw [← hv]; unfold signs; omega, by omega, by omega, by omega⟩
    have := World.iter_heap w s 0
    simpa using this
  case round =>
    obtain ⟨pos, fuel, n, rfl, hit, hbw, hacc, hfu, hn0, hn1⟩ := hrel
    have hsz : w.heap.size < wr.heap.size := (Array.getElem?_eq_some_iff.1 hit).1
    by_cases hp : pos < s.size
    · have hnx : ∀ ty, (Instr.next (.pointer (some ⟨w.heap.size, 0, none⟩)) true ty).run Tryd.prog wr = _ := fun ty => Lib.run_next_any_at wr w.heap.size s pos ty hit hp
      obtain ⟨f, rfl⟩ : ∃ f, fuel = f + 1 := ⟨fuel - 1, by omega⟩
      rw [sg_step s f pos hp, List.length_cons] at hacc
      have hwd := width_pos s pos hp
      have hit2 := Lib.iterAt_heap wr w.heap.size s pos (pos + (Utf8.decode s pos).2) hit
      have hbw2 := Lib.below_iterAt hbw (k := w.heap.size) (by omega) s (pos + (Utf8.decode s pos).2)
      generalize hc : Utf8.decode s pos = cw at *
      obtain ⟨c, wd⟩ := cw
      simp only at *
      generalize hw1 : wr.iterAt w.heap.size s (pos + wd) = w1 at *
      have hbd : ∀ k, Below w.heap.size w (w1.drewN k) := fun k => hbw2.trans (Drawn0.below' ⟨⟨k, rfl⟩⟩)
      have hwr : wrap64 (n + 1) = n + 1 := by unfold wrap64; omega
      go_wp2
      go_roundw
      case rel => exact ⟨pos + wd, f, n + 1, rfl, hit2, by first | exact hbw2 | exact hbd _, by rw [← hacc]; omega, by omega, by omega, by omega⟩
      case measure =>
        simp only [World.iterPos, World.heap_drewN, hit2, hit]
        omega
    · have hnx : ∀ ty, (Instr.next (.pointer (some ⟨w.heap.size, 0, none⟩)) true ty).run Tryd.prog wr = _ := fun ty => Lib.run_next_end_at wr w.heap.size s pos ty hit hp
      rw [sg_end s fuel pos hp] at hacc
      go_wp2
      go_ret
      rw [List.length_nil, Int.natCast_zero, Int.add_zero] at hacc
      subst hacc
      exact ⟨rfl, hbw⟩
end Go.Proofs.YtbdcnfbidbffcaaDoor.NM

/- WriteString; a builder beside an iterator; name.Fold's walk. -/
set_option linter.unusedSimpArgs false
set_option linter.unusedVariables false
namespace Go.Proofs.YtbdcnfbidbffcaaDoor.NM
open Go Go.RowKit Go.Proofs Go.Proofs.YtbdcnfbidbffcaaDoor.PL Go.Proofs.YtbdcnfbidbffcaaDoorW.PrintWords
theorem buAt_iter {B b : Nat} {p : Value} {bs : List Value} {w : World} (h : Lib.BuilderAt 45 5 B b p bs w) {k : Nat} {s : ByteArray} {pos : Nat} (hk : w.heap[k]? = some (.stringIter s pos)) (pos' : Nat) :
    Lib.BuilderAt 45 5 B b p bs (w.iterAt k s pos') := by
  obtain ⟨hB, v, hb, hown, hne⟩ := h
  have hkb : b ≠ k := by
    intro e1
    rw [e1, hk] at hb
    cases hb
  refine ⟨hB, v, (Lib.iterAt_other w k b s pos' hkb).trans hb, ⟨hown.1, ?_⟩, hne⟩
  rcases hown.2 with hn | ⟨g, cap, cur, hv, hbg, hg, rest⟩
  · exact .inl hn
  · have hkg : g ≠ k := by
      intro e1
      rw [e1, hk] at hg
      cases hg
    exact .inr ⟨g, cap, cur, hv, hbg, (Lib.iterAt_other w k g s pos' hkg).trans hg, rest⟩
theorem bu_iter {B b : Nat} {l : Bs} {w : World} (h : Bu B b l w) {k : Nat} {s : ByteArray} {pos : Nat} (hk : w.heap[k]? = some (.stringIter s pos)) (pos' : Nat) : Bu B b l (w.iterAt k s pos') :=
  h.elim (fun x => .inl (buAt_iter x hk pos')) (fun x => .inr (buAt_iter x hk pos'))
theorem buAt_alloc {B b : Nat} {p : Value} {bs : List Value} {w : World} (h : Lib.BuilderAt 45 5 B b p bs w) (o : Obj) : Lib.BuilderAt 45 5 B b p bs (w.alloc o) := by
  obtain ⟨hB, v, hb, hown, hne⟩ := h
  exact ⟨hB, v, (Lib.alloc_old w o b (bu_lt hb)).trans hb, hown.alloc o, hne⟩
theorem bu_alloc {B b : Nat} {l : Bs} {w : World} (h : Bu B b l w) (o : Obj) : Bu B b l (w.alloc o) :=
  h.elim (fun x => .inl (buAt_alloc x o)) (fun x => .inr (buAt_alloc x o))
theorem bu_heap {B b : Nat} {l : Bs} {w w' : World} (h : Bu B b l w) (e : w'.heap = w.heap) : Bu B b l w' := by
  rcases h with ⟨hB, v, hb, ⟨h1, h2⟩, hne⟩ | ⟨hB, v, hb, ⟨h1, h2⟩, hne⟩
  · exact .inl ⟨hB, v, by rw [e]; exact hb, ⟨h1, by rw [e]; exact h2⟩, hne⟩
  · exact .inr ⟨hB, v, by rw [e]; exact hb, ⟨h1, by rw [e]; exact h2⟩, hne⟩
theorem bu_drew {B b : Nat} {l : Bs} {w : World} (h : Bu B b l w) (n : Nat) : Bu B b l (w.drewN n) := bu_heap h rfl
set_option maxRecDepth 100000 in
set_option maxHeartbeats 1000000 in
/-- WriteString. -/
theorem ws_any {B b : Nat} {l : Bs} {s : ByteArray} {w : World} (h : Bu B b l w) (hlen : l.length + s.size ≤ 140737488355328) (hBw : B ≤ w.heap.size) :
    Calls Tryd.prog 32 #[.pointer (some ⟨b, 0, none⟩), .string s] w fun e w' => (∃ n : Int, e = .returned (.tuple #[.int .i64 n, .nilIface])) ∧ (BuU B b (l ++ s.data.toList) w' ∧ Below B w w' ∧ Lib.OthersKept 5 (some b) w w') := by
  obtain ⟨i0, hi, hz0, hz1, hz2⟩ := info_parts info5'
  go_enter Tryd.func32, Tryd.ntmps32
  go_wp2_with (go_at_call 46; refine (cc_any h).mono ?_)
  rintro e w1 ⟨rfl, h1, hb1, hk1⟩
  obtain ⟨hB, v, hbk, hown, hne⟩ := h1
  rw [bcells_len] at hown
  have c0 : w1.cell? ⟨b, 0, none⟩ = some (.pointer (some ⟨b, 0, none⟩)) := by rw [Lib.cell_of_heap hbk]; rfl
  have c1 : w1.cell? ⟨b, 1, none⟩ = some v := by rw [Lib.cell_of_heap hbk]; rfl
  go_wp2_with (at_builtin; refine Lib.wpList_append_own_string _ rfl _ _ 43 9 rfl B 5 i0 Tryd.underlying43 Tryd.underlying9 hi hz0 hz1 hz2 _ _ _ rfl hown s rfl ?c1 ?c2 ?c3 ?_)
  case c1 => unfold maxLen; omega
  case c2 => omega
  case c3 => exact Nat.le_trans hBw hb1.size
  intro v' w2 hown' hgrow _
  have hlt := bu_lt hbk
  have hb2 : w2.heap[b]? = some (.cells #[.pointer (some ⟨b, 0, none⟩), v] 45 (0, 0)) := by
    rw [hgrow.block b hlt (fun e => hne e.symm)]
    exact hbk
  have d0 : w2.cell? ⟨b, 0, none⟩ = some (.pointer (some ⟨b, 0, none⟩)) := by rw [Lib.cell_of_heap hb2]; rfl
  have d1 : w2.cell? ⟨b, 1, none⟩ = some v := by rw [Lib.cell_of_heap hb2]; rfl
  have f1 : w2.frozen? ⟨b, 1, none⟩ = false := Lib.frozen_of_heap hb2 1
  obtain ⟨ao, n', cap, rfl⟩ : ∃ ao n' cap, v' = .slice ao n' cap := by
    rcases hown'.2 with ⟨hv, _⟩ | ⟨g, cap, cur, hv, _⟩
    · exact ⟨_, _, _, hv⟩
    · exact ⟨_, _, _, hv⟩
  go_wp2
  go_ret2
  refine ⟨⟨_, rfl⟩, ?_, ?_, (hk1.grown hgrow (Lib.ownsRowF_kind (World.ownsRowF_of hown))).setCell ⟨b, 1, none⟩ rfl _⟩
  · show Lib.BuilderAt 45 5 B b _ (Lib.byteCells (l ++ s.data.toList)) _
    rw [Lib.byteCells_append]
    exact Lib.BuilderAt.put hB hb2 (bs' := Lib.byteCells l ++ Lib.byteCells s.data.toList) (by rw [List.length_append, bcells_len, bcells_len, Array.length_toList]; exact hown') (by decide)
  · exact (hb1.grown hgrow (by have := hb1.size; omega) (fun k hk => (hown.lt k hk).1)).setCell (p := ⟨b, 1, none⟩) hB _
/-- name.Fold, of a text's signs. -/
def foldL : List (Nat × Nat) → Bs
  | [] => []
  | (c, _) :: l => Lib.encodeRune (loN c) ++ foldL l
def foldS (s : ByteArray) : Bs := foldL (signs s)
theorem encode_le (r : Int) : (Lib.encodeRune r).length ≤ 4 := by
  have := Lib.runeCells_le r
  rw [Lib.runeCells_length] at this
  exact this.2
set_option maxHeartbeats 4000000 in
set_option maxRecDepth 1000000 in
theorem fold_walk (s : ByteArray) (w : World) (hs : s.size ≤ 35184372088000) :
    Calls Tryd.prog 18 #[.string s] w fun e w' => e = .returned (.string ⟨(foldS s).toArray⟩) ∧ Below w.heap.size w w' := by
  unfold foldS
  generalize hv : foldL (signs s) = v
  go_enter Tryd.func18, Tryd.ntmps18
  go_wp2
  go_loopw [] (fun wr => ∃ (pos fuel : Nat) (acc : Bs), Bu w.heap.size w.heap.size acc wr ∧ wr.heap[w.heap.size + 1]? = some (.stringIter s pos) ∧ Below w.heap.size w wr ∧ acc ++ foldL (sg s fuel pos) = v ∧ s.size ≤ pos + fuel ∧ acc.length ≤ 4 * (min pos s.size)) (fun wr => s.size - wr.iterPos (w.heap.size + 1))
  case atStart =>
    refine ⟨0, s.size, [], bu_alloc (Lib.fresh_isBuilder 45 5 w) _, ?_, ((Below.refl _ w).alloc (Nat.le_refl _) _).alloc (by simp) _, by rw [← hv]; rfl, by omega, by simp⟩
    have := World.iter_heap (w.alloc (.cells #[.pointer none, .slice none 0 0] 45)) s 0
    simpa using this
  case round =>
    obtain ⟨pos, fuel, acc, hI, hit, hbw, hacc, hfu, hal⟩ := hrel
    have hsz : w.heap.size + 1 < wr.heap.size := (Array.getElem?_eq_some_iff.1 hit).1
    by_cases hp : pos < s.size
    · have hnx : ∀ ty, (Instr.next (.pointer (some ⟨w.heap.size + 1, 0, none⟩)) true ty).run Tryd.prog wr = _ := fun ty => Lib.run_next_any_at wr (w.heap.size + 1) s pos ty hit hp
      obtain ⟨f, rfl⟩ : ∃ f, fuel = f + 1 := ⟨fuel - 1, by omega⟩
      rw [sg_step s f pos hp, foldL] at hacc
      have hwd := width_pos s pos hp
      have hd1 := decode_le s pos
      have hI2 := bu_iter hI hit (pos + (Utf8.decode s pos).2)
      have hit2 := Lib.iterAt_heap wr (w.heap.size + 1) s pos (pos + (Utf8.decode s pos).2) hit
      have hbw2 := Lib.below_iterAt hbw (k := w.heap.size + 1) (by omega) s (pos + (Utf8.decode s pos).2)
      have hsz2 : w.heap.size ≤ (wr.iterAt (w.heap.size + 1) s (pos + (Utf8.decode s pos).2)).heap.size := by rw [Lib.iterAt_size]; omega
      generalize hc : Utf8.decode s pos = cw at *
      obtain ⟨c, wd⟩ := cw
      simp only at *
      generalize hw1 : wr.iterAt (w.heap.size + 1) s (pos + wd) = w1 at *
      have hlo := loN_nat c
      have hlo2 := loN_le c hd1
      have hel := encode_le (loN c)
      go_wp2_with (first | (go_at_call 41; refine (low_c _ _).mono ?_; rintro e W1 ⟨rfl, ⟨nd, rfl⟩⟩) | (go_at_call 30; refine (wr_any (l := acc) (by omega) (by omega) (bu_drew hI2 _) (by omega) hsz2).mono ?_; rintro e W2 ⟨⟨nn, rfl⟩, h1, b1, k1⟩))
      go_roundw
      case rel => exact ⟨pos + wd, f, acc ++ Lib.encodeRune (loN c), .inr h1, k1.iter (w := w1.drewN _) hit2 (by omega), (hbw2.trans (Drawn0.below' ⟨⟨_, rfl⟩⟩)).trans b1, by rw [← hacc, List.append_assoc], by omega, by rw [List.length_append]; omega⟩
      case measure =>
        simp only [World.iterPos, World.heap_drewN, k1.iter (w := w1.drewN _) hit2 (by omega), hit]
        omega
    · have hnx : ∀ ty, (Instr.next (.pointer (some ⟨w.heap.size + 1, 0, none⟩)) true ty).run Tryd.prog wr = _ := fun ty => Lib.run_next_end_at wr (w.heap.size + 1) s pos ty hit hp
      rw [sg_end s fuel pos hp, foldL, List.append_nil] at hacc
      go_wp2_with (go_at_call 34; refine (Tryd.Builder_String_any_k w.heap.size w.heap.size acc _ (Lib.IsBuilderF.of hI) (by omega)).mono ?_)
      rintro e W1 ⟨rfl, _, b1, _⟩
      go_wp2
      go_ret
      subst hacc
      exact ⟨rfl, hbw.trans b1⟩
end Go.Proofs.YtbdcnfbidbffcaaDoor.NM

/- name.plain's walk. -/
set_option linter.unusedSimpArgs false
set_option linter.unusedVariables false
namespace Go.Proofs.YtbdcnfbidbffcaaDoor.NM
open Go Go.RowKit Go.Proofs Go.Proofs.YtbdcnfbidbffcaaDoor.PL Go.Proofs.YtbdcnfbidbffcaaDoorW.PrintWords
/-- What the library's functions ask of the package variables. -/
structure Env (w : World) : Prop where
  tab : Lib.TabIs Tryd.prog w "strings.asciiSpace" .u8 Lib.asciiSpaceTab
  len : ∃ m, w.cell? ⟨2, 0, none⟩ = some (.int .i64 m)
theorem tabIs_below {n : String} {g : Nat} {k : IntKind} {zs : List Int} {w w' : World} (hg : Tryd.prog.globalNamed n = some g) (h : Lib.TabIs Tryd.prog w n k zs) (hb : Below w.heap.size w w') : Lib.TabIs Tryd.prog w' n k zs := by
  unfold Lib.TabIs World.var? at h ⊢
  rw [hg] at h ⊢
  simp only [Option.bind_some] at h ⊢
  have hlt : g < w.heap.size := by
    rcases Nat.lt_or_ge g w.heap.size with h' | h'
    · exact h'
    · rw [Array.getElem?_eq_none h'] at h; cases h
  rw [hb.block g hlt]
  exact h
theorem spaceAt : ∃ g, Tryd.prog.globalNamed "strings.asciiSpace" = some g := Option.isSome_iff_exists.1 (by kernel_rfl)
theorem cell_lt {w : World} {a : Addr} {v : Value} (h : w.cell? a = some v) : a.block < w.heap.size := by
  unfold World.cell? at h
  split at h <;> first | exact bu_lt ‹_› | simp at h
theorem cell_below {w w' : World} {a : Addr} {v : Value} (h : w.cell? a = some v) (hb : Below w.heap.size w w') : w'.cell? a = some v := by
  have hl := cell_lt h
  rw [← h]
  unfold World.cell?
  rw [hb.block _ hl]
theorem Env.below {w w' : World} (h : Env w) (hb : Below w.heap.size w w') : Env w' := by
  obtain ⟨g, hg⟩ := spaceAt
  refine ⟨tabIs_below hg h.tab hb, ?_⟩
  obtain ⟨m, hm⟩ := h.len
  exact ⟨m, cell_below hm hb⟩
def rowB : Bs := [97, 97, 97, 97, 97, 97, 97, 99, 101, 101, 101, 101, 105, 105, 105, 105, 100, 110, 111, 111, 111, 111, 111, 32, 111, 117, 117, 117, 117, 121, 116, 121]
def moreB : Bs := [97, 97, 97, 97, 97, 97, 99, 99, 99, 99, 99, 99, 99, 99, 100, 100, 100, 100, 101, 101, 101, 101, 101, 101, 101, 101, 101, 101, 103, 103, 103, 103, 103, 103, 103, 103, 104, 104, 104, 104, 105, 105, 105, 105, 105, 105, 105, 105, 105, 105, 32, 32, 106, 106, 107, 107, 107, 108, 108, 108, 108, 108, 108, 108].append [108, 108, 108, 110, 110, 110, 110, 110, 110, 110, 110, 110, 111, 111, 111, 111, 111, 111, 32, 32, 114, 114, 114, 114, 114, 114, 115, 115, 115, 115, 115, 115, 115, 115, 116, 116, 116, 116, 116, 116, 117, 117, 117, 117, 117, 117, 117, 117, 117, 117, 117, 117, 119, 119, 121, 121, 121, 122, 122, 122, 122, 122, 122, 115]
def trim1 (b : UInt8) : Bs := if b = 32 then [] else [b]
def plN (c : Nat) : Bs :=
  if c = 228 ∨ c = 230 then [97, 101]
  else if c = 246 ∨ c = 248 ∨ c = 339 then [111, 101]
  else if c = 252 then [117, 101]
  else if c = 223 then [115, 115]
  else if c = 254 then [116, 104]
  else if c = 229 then [97, 97]
  else if 224 ≤ c ∧ c ≤ 255 then trim1 (rowB.getD (c - 224) 32)
  else if 256 ≤ c ∧ c ≤ 383 then trim1 (moreB.getD (c - 256) 32)
  else []
theorem ext1 (l : Bs) (i : Nat) (h : i < l.length) : ((⟨l.toArray⟩ : ByteArray).extract i (i + 1)).data.toList = [l.getD i 32] := by
  rw [ByteArray.data_extract]
  rw [Array.toList_extract]
  simp only [List.extract_eq_take_drop]
  rw [show i + 1 - i = 1 by omega]
  rw [List.getD_eq_getElem?_getD, List.getElem?_eq_getElem h]
  rw [List.drop_eq_getElem_cons h]
  rfl
theorem rowB_ascii : ∀ i, (rowB.getD i 32).toNat < 128 ∧ (rowB.getD i 32 = 32 ∨ 97 ≤ (rowB.getD i 32).toNat) := by
  intro i
  by_cases h : i < 32
  · exact (by decide +kernel : ∀ i, i < 32 → (rowB.getD i 32).toNat < 128 ∧ (rowB.getD i 32 = 32 ∨ 97 ≤ (rowB.getD i 32).toNat)) i h
  · rw [List.getD_eq_getElem?_getD, List.getElem?_eq_none (show rowB.length ≤ i by show 32 ≤ i; omega)]; decide
theorem moreB_ascii : ∀ i, (moreB.getD i 32).toNat < 128 ∧ (moreB.getD i 32 = 32 ∨ 97 ≤ (moreB.getD i 32).toNat) := by
  intro i
  by_cases h : i < 128
  · exact (by decide +kernel : ∀ i, i < 128 → (moreB.getD i 32).toNat < 128 ∧ (moreB.getD i 32 = 32 ∨ 97 ≤ (moreB.getD i 32).toNat)) i h
  · rw [List.getD_eq_getElem?_getD, List.getElem?_eq_none (show moreB.length ≤ i by show 128 ≤ i; omega)]; decide
theorem size_of {t : ByteArray} {x : UInt8} (h : t.data.toList = [x]) : t.size = 1 := by
  show t.data.size = 1
  rw [← Array.length_toList, h]
  rfl
theorem one_ascii {x : UInt8} (h : x.toNat < 128) : ∀ (j : Nat) b, [x][j]? = some b → b.toNat < 128 := by
  intro j b hb
  match j, hb with
  | 0, hb => simp at hb; subst hb; exact h
theorem trim_one (x : UInt8) (h : x.toNat < 128 ∧ (x = 32 ∨ 97 ≤ x.toNat)) : Lib.trimSpace [x] = trim1 x := by
  unfold trim1
  rcases h.2 with rfl | h2
  · rfl
  have hn : x ≠ 32 := by rintro rfl; exact absurd h2 (by decide)
  have hs : Lib.isSp x = false := by
    unfold Lib.isSp
    have : ∀ y : UInt8, y.toNat < 97 → (x == y) = false := by
      intro y hy
      rw [beq_eq_false_iff_ne]
      rintro rfl
      omega
    simp [this 9 (by decide), this 10 (by decide), this 11 (by decide), this 12 (by decide), this 13 (by decide), this 32 (by decide)]
  rw [if_neg hn]
  simp [Lib.trimSpace, List.dropWhile, hs]
theorem bytesWorld_below (w : World) (e : TypeId) (s : ByteArray) : Below w.heap.size w (Lib.bytesWorld w e s) :=
  Lib.below_freeze ((Below.drew (Below.refl _ w)).alloc (Nat.le_refl _) _) (p := ⟨w.heap.size, _, none⟩) (Nat.le_refl _) 1
set_option maxHeartbeats 4000000 in
set_option maxRecDepth 1000000 in
theorem plain_walk (c : Nat) (w : World) (hE : Env w) :
    Calls Tryd.prog 33 #[.int .i32 c] w fun e w' => e = .returned (.string ⟨(plN c).toArray⟩) ∧ Below w.heap.size w w' := by
  unfold plN
  by_cases h1 : c = 228 ∨ c = 230
  · rw [if_pos h1]
    rcases h1 with rfl | rfl
    · go_enter Tryd.func33, Tryd.ntmps33
      go_wp2
      go_ret
      exact ⟨rfl, Below.refl _ _⟩
    · go_enter Tryd.func33, Tryd.ntmps33
      go_wp2
      go_ret
      exact ⟨rfl, Below.refl _ _⟩
  rw [if_neg h1]
  by_cases h2 : c = 246 ∨ c = 248 ∨ c = 339
  · rw [if_pos h2]
    rcases h2 with rfl | rfl | rfl
    all_goals
      go_enter Tryd.func33, Tryd.ntmps33
      go_wp2
      go_ret
      exact ⟨rfl, Below.refl _ _⟩
  rw [if_neg h2]
  by_cases h3 : c = 252
  · rw [if_pos h3]
    subst h3
    go_enter Tryd.func33, Tryd.ntmps33
    go_wp2
    go_ret
    exact ⟨rfl, Below.refl _ _⟩
  rw [if_neg h3]
  by_cases h4 : c = 223
  · rw [if_pos h4]
    subst h4
    go_enter Tryd.func33, Tryd.ntmps33
    go_wp2
    go_ret
    exact ⟨rfl, Below.refl _ _⟩
  rw [if_neg h4]
  by_cases h5 : c = 254
  · rw [if_pos h5]
    subst h5
    go_enter Tryd.func33, Tryd.ntmps33
    go_wp2
    go_ret
    exact ⟨rfl, Below.refl _ _⟩
  rw [if_neg h5]
  by_cases h6 : c = 229
  · rw [if_pos h6]
    subst h6
    go_enter Tryd.func33, Tryd.ntmps33
    go_wp2
    go_ret
    exact ⟨rfl, Below.refl _ _⟩
  rw [if_neg h6]
  have g0 : ((c : Int) == 228) = false := beq_eq_false_iff_ne.mpr (by omega)
  have g1 : ((c : Int) == 230) = false := beq_eq_false_iff_ne.mpr (by omega)
  have g2 : ((c : Int) == 246) = false := beq_eq_false_iff_ne.mpr (by omega)
  have g3 : ((c : Int) == 248) = false := beq_eq_false_iff_ne.mpr (by omega)
  have g4 : ((c : Int) == 339) = false := beq_eq_false_iff_ne.mpr (by omega)
  have g5 : ((c : Int) == 252) = false := beq_eq_false_iff_ne.mpr (by omega)
  have g6 : ((c : Int) == 223) = false := beq_eq_false_iff_ne.mpr (by omega)
  have g7 : ((c : Int) == 254) = false := beq_eq_false_iff_ne.mpr (by omega)
  have g8 : ((c : Int) == 229) = false := beq_eq_false_iff_ne.mpr (by omega)
  clear h1 h2 h3 h4 h5 h6
  by_cases h7 : 224 ≤ c ∧ c ≤ 255
  · rw [if_pos h7]
    have k1 : decide (224 ≤ (c : Int)) = true := decide_eq_true (by omega)
    have k2 : decide ((c : Int) ≤ 255) = true := decide_eq_true (by omega)
    go_enter Tryd.func33, Tryd.ntmps33
    go_wp2
    rw [run_slice_string w 9 _ .i32 .i32 _ _ Tryd.underlying9 (by omega) (by omega) (show ((c : Int) - 224 + 1 ≤ ((32 : Nat) : Int)) by omega)]
    simp only [Result.andThen]
    rw [Oper.upon_value]
    generalize ht : ByteArray.extract _ ((c : Int) - 224).toNat ((c : Int) - 224 + 1).toNat = t
    have ht2 : t.data.toList = [rowB.getD (c - 224) 32] := by
      rw [← ht, show ((c : Int) - 224).toNat = c - 224 by omega, show ((c : Int) - 224 + 1).toNat = c - 224 + 1 by omega]
      exact ext1 rowB _ (by show c - 224 < 32; omega)
    have hb := rowB_ascii (c - 224)
    clear ht
    generalize hx : rowB.getD (c - 224) 32 = x at *
    go_wp2_with (go_at_call 48; refine (Tryd.strings_TrimSpace t _ (by rw [size_of ht2]; simp) (by rw [ht2]; exact one_ascii hb.1) hE.tab).mono ?_)
    rintro e W1 ⟨rfl, rfl⟩
    rw [ht2, trim_one x hb]
    go_wp2
    go_ret
    subst hx
    exact ⟨rfl, bytesWorld_below _ _ _⟩
  rw [if_neg h7]
  by_cases h8 : 256 ≤ c ∧ c ≤ 383
  · rw [if_pos h8]
    have k1 : decide (224 ≤ (c : Int)) = true := decide_eq_true (by omega)
    have k2 : decide ((c : Int) ≤ 255) = false := decide_eq_false (by omega)
    have k3 : decide (256 ≤ (c : Int)) = true := decide_eq_true (by omega)
    have k4 : decide ((c : Int) ≤ 383) = true := decide_eq_true (by omega)
    go_enter Tryd.func33, Tryd.ntmps33
    go_wp2
    rw [run_slice_string w 9 _ .i32 .i32 _ _ Tryd.underlying9 (by omega) (by omega) (show ((c : Int) - 256 + 1 ≤ ((128 : Nat) : Int)) by omega)]
    simp only [Result.andThen]
    rw [Oper.upon_value]
    generalize ht : ByteArray.extract _ ((c : Int) - 256).toNat ((c : Int) - 256 + 1).toNat = t
    have ht2 : t.data.toList = [moreB.getD (c - 256) 32] := by
      rw [← ht, show ((c : Int) - 256).toNat = c - 256 by omega, show ((c : Int) - 256 + 1).toNat = c - 256 + 1 by omega]
      exact ext1 moreB _ (by show c - 256 < 128; omega)
    have hb := moreB_ascii (c - 256)
    clear ht
    generalize hx : moreB.getD (c - 256) 32 = x at *
    go_wp2_with (go_at_call 48; refine (Tryd.strings_TrimSpace t _ (by rw [size_of ht2]; simp) (by rw [ht2]; exact one_ascii hb.1) hE.tab).mono ?_)
    rintro e W1 ⟨rfl, rfl⟩
    rw [ht2, trim_one x hb]
    go_wp2
    go_ret
    subst hx
    exact ⟨rfl, bytesWorld_below _ _ _⟩
  rw [if_neg h8]
  by_cases h9 : c < 224
  · have k1 : decide (224 ≤ (c : Int)) = false := decide_eq_false (by omega)
    have k2 : decide (256 ≤ (c : Int)) = false := decide_eq_false (by omega)
    go_enter Tryd.func33, Tryd.ntmps33
    go_wp2
    go_ret
    exact ⟨rfl, Below.refl _ _⟩
  · have k1 : decide (224 ≤ (c : Int)) = true := decide_eq_true (by omega)
    have k2 : decide (256 ≤ (c : Int)) = true := decide_eq_true (by omega)
    have k3 : decide ((c : Int) ≤ 255) = false := decide_eq_false (by omega)
    have k4 : decide ((c : Int) ≤ 383) = false := decide_eq_false (by omega)
    go_enter Tryd.func33, Tryd.ntmps33
    go_wp2
    go_ret
    exact ⟨rfl, Below.refl _ _⟩
end Go.Proofs.YtbdcnfbidbffcaaDoor.NM
