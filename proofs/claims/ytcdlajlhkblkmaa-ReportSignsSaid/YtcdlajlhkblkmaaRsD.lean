/- ReportSigns, its law: every number in its columns and every day's date is told as the document tells it, for every number, width and day. -/
import Derived.Test.YtcdlajlhkblkmaaRsC
import Derived.Test.YtcdlajlhkblkmaaRows
import Derived.WalkKit
import Derived.Lib.Hide
import Derived.ProofKit
import Derived.OpenShut
import Derived.ShutString
import Derived.ChangeOld
import Derived.Below
import Derived.SizedLaws
namespace Go.Proofs.Ytcdlajlhkblkmaa.PReportSigns
open Go.RowKit Go.Proofs.YtcdlajlhkblkmaaW.PrintWords Go.Proofs.YtcdlajlhkblkmaaW.PrintLast Go.Proofs.YtcdlajlhkblkmaaW.PrintMore

/-! ### the document's answers -/
theorem spaces_snoc (c : Nat) : spaces (c + 1) = spaces c ++ ⟨#[32]⟩ := by
  unfold spaces
  rw [Lib.repeatL_add, Lib.repeatL_one]
  apply ByteArray.ext
  rw [ByteArray.data_append]
  simp
theorem blanks_loop (x0 : Int) (h : x0 ≤ 100000) (d : Nat) : ∀ (i : Nat), x0 = (i : Int) + (d : Int) → ∀ k, d < k → lombardref35_blanks.l0 k x0 (spaces i) (i : Int) = some (spaces (i + d)) := by
  induction d with
  | zero =>
    intro i hi k hk
    obtain ⟨k, rfl⟩ : ∃ j, k = j + 1 := ⟨k - 1, by omega⟩
    simp only [lombardref35_blanks.l0]
    rw [if_neg (by omega)]; rfl
  | succ d ih =>
    intro i hi k hk
    obtain ⟨k, rfl⟩ : ∃ j, k = j + 1 := ⟨k - 1, by omega⟩
    simp only [lombardref35_blanks.l0]
    rw [if_pos (by omega), if_pos (by rw [spaces_size]; omega), w64_id (by omega) (by omega), ← spaces_snoc]
    have := ih (i + 1) (by omega) k (by omega)
    rw [show ((i : Int) + 1) = ((i + 1 : Nat) : Int) from by omega, this]
    congr 2; omega
theorem blanks_none (x0 : Int) (h : ¬ 0 < x0) (k : Nat) : lombardref35_blanks.l0 (k + 1) x0 ⟨#[]⟩ 0 = some (spaces 0) := by
  simp only [lombardref35_blanks.l0]
  rw [if_neg (by omega)]; rfl
theorem blanks_any (x0 : Int) (h : x0 ≤ 100000) : lombardref35_blanks.f 200000 x0 = some (spaces x0.toNat) := by
  unfold lombardref35_blanks.f
  by_cases hx : 0 ≤ x0
  · have := blanks_loop x0 h x0.toNat 0 (by omega) 200000 (by omega)
    rw [Nat.zero_add] at this
    exact this
  · have : x0.toNat = 0 := by omega
    rw [this]
    exact blanks_none x0 (by omega) 199999
theorem ref_number (n wd : Int) (h : -9223372036854775808 ≤ n) (h2 : n < 9223372036854775808) : ∃ k, lombardref35_Number.f k n wd = some (spaces (gap n wd) ++ num n) := by
  obtain ⟨k0, hk0⟩ := ref_digits_num n h h2
  have hd : lombardref35_Digits.f (k0 + 200000) n = some (num n) := at_rounds (lombardref35_Digits.mono n) (by omega) hk0
  have hb : ∀ x : Int, x ≤ 100000 → lombardref35_blanks.f (k0 + 200000) x = some (spaces x.toNat) := fun x hx => at_rounds (lombardref35_blanks.mono x) (by omega) (blanks_any x hx)
  have hs := num_size h h2
  refine ⟨k0 + 200001, ?_⟩
  unfold lombardref35_Number.f gap
  by_cases c1 : wd > 4096
  · rw [if_pos c1, if_pos (show 4096 < wd from c1)]
    simp only [lombardref35_Number.j0]
    rw [if_neg (by omega), hd]; simp only [Option.bind_some]
    rw [w64_id (by omega) (by omega), hb _ (by omega)]; simp only [Option.bind_some]
    rw [if_pos (by rw [spaces_size]; omega)]
  · rw [if_neg c1, if_neg (show ¬ 4096 < wd from c1)]
    simp only [lombardref35_Number.j0]
    by_cases c2 : wd < 0
    · rw [if_pos c2, hd]; simp only [Option.bind_some]
      rw [w64_id (by omega) (by omega), hb _ (by omega)]; simp only [Option.bind_some]
      rw [if_pos (by rw [spaces_size]; omega), if_neg (by omega)]
      congr 3; omega
    · rw [if_neg c2, hd]; simp only [Option.bind_some]
      rw [w64_id (by omega) (by omega), hb _ (by omega)]; simp only [Option.bind_some]
      rw [if_pos (by rw [spaces_size]; omega)]
      congr 3
      by_cases c3 : 0 < wd
      · rw [if_pos c3]
        by_cases c4 : ((num n).size : Int) < wd
        · rw [if_pos c4]
        · rw [if_neg c4]; omega
      · rw [if_neg c3]; omega
theorem num_nat (m : Nat) : num (m : Int) = dec m := by
  unfold num sgn
  rw [if_neg (by omega)]; rfl
theorem ref_date (n : Int) : ∃ k, lombardref35_Date.f k n = some (dateS n) := by
  by_cases hd : 0 ≤ n ∧ n ≤ 200000
  · obtain ⟨y, m, d, y1, y2, m1, m2, d1, d2, c1, c2⟩ := dates n hd.1 hd.2
    have dg : ∀ x : Int, 0 ≤ x → x < 10000 → ∃ k, lombardref35_Digits.f k x = some (num x) := fun x h0 h1 => ref_digits_num x (by omega) (by omega)
    have one : ∀ x : Int, 0 ≤ x → x < 10 → num x = Go.Proofs.Ytcdlajlhkblkmaa.PReportSigns.d1 x.toNat := by
      intro x h0 h1
      obtain ⟨q, rfl⟩ : ∃ q : Nat, x = q := ⟨x.toNat, by omega⟩
      rw [num_nat, dec_lt (by omega)]; rfl
    have hy := num_size (n := y) (by omega) (by omega)
    obtain ⟨ky, hky⟩ := dg y (by omega) (by omega)
    obtain ⟨ka, hka⟩ := dg (m / 10) (by omega) (by omega)
    obtain ⟨kb, hkb⟩ := dg (m % 10) (by omega) (by omega)
    obtain ⟨kc, hkc⟩ := dg (d / 10) (by omega) (by omega)
    obtain ⟨ke, hke⟩ := dg (d % 10) (by omega) (by omega)
    refine ⟨5000 + ky + ka + kb + kc + ke, ?_⟩
    have up : ∀ (x : Int) (j : Nat) (r : ByteArray), lombardref35_Digits.f j x = some r → j ≤ 5000 + ky + ka + kb + kc + ke → lombardref35_Digits.f (5000 + ky + ka + kb + kc + ke) x = some r := fun x j r hj hle => at_rounds (lombardref35_Digits.mono x) hle hj
    have e45 : (⟨#[45]⟩ : ByteArray).size = 1 := rfl
    unfold lombardref35_Date.f dateS ymd
    rw [if_pos hd, c1, at_rounds (lombardref02_Of.mono n) (show 5000 ≤ _ by omega) c2]
    simp only [Option.bind_some, if_true, Option.getD_some]
    rw [Int.tdiv_eq_ediv_of_nonneg (by omega), Int.tmod_eq_emod_of_nonneg (by omega), Int.tdiv_eq_ediv_of_nonneg (by omega), Int.tmod_eq_emod_of_nonneg (by omega), w64_id (x := m / 10) (by omega) (by omega), w64_id (x := d / 10) (by omega) (by omega)]
    rw [up _ _ _ hky (by omega), up _ _ _ hka (by omega), up _ _ _ hkb (by omega), up _ _ _ hkc (by omega), up _ _ _ hke (by omega)]
    simp only [Option.bind_some]
    rw [one (m / 10) (by omega) (by omega), one (m % 10) (by omega) (by omega), one (d / 10) (by omega) (by omega), one (d % 10) (by omega) (by omega)]
    simp only [ByteArray.size_append, d1_size, e45]
    rw [if_pos (by omega), if_pos (by omega), if_pos (by omega), if_pos (by omega), if_pos (by omega), if_pos (by omega)]
    unfold two
    simp only [ByteArray.append_assoc]
  · refine ⟨1, ?_⟩
    unfold lombardref35_Date.f dateS lombardref02_Of.f
    rw [good_ref, decide_eq_false hd, if_neg hd]
    rfl

/-! ### the walks that are left -/
set_option maxRecDepth 100000 in
theorem date_no (n : Int) (h : ¬ (0 ≤ n ∧ n ≤ 200000)) (w : World) :
    Calls Try.prog 17 #[.int .i64 n] w fun e w' => e = .returned (.string (dateS n)) ∧ Below w.heap.size w w' := by
  have HS : Hid (dateS n = ⟨#[45, 45, 45, 45, 45, 45, 45, 45, 45, 45]⟩) := by
    show dateS n = _
    unfold dateS
    rw [if_neg h]
  have c1 : calendar_Of.f 1 n = some (0, 0, 0, 10) := by
    unfold calendar_Of.f
    rw [good_day, decide_eq_false h]; rfl
  clear h
  go_enter Try.func17, Try.ntmps17
  go_wp2_with (go_at_call 56; refine (calendar_Of.calls 1 n 0 0 0 10 _ c1).mono ?_; rintro e w1 ⟨rfl, hb⟩)
  go_ret
  exact ⟨by rw [HS.out]; rfl, hb.alloc hb.size _⟩
theorem date_any (n : Int) (w : World) :
    Calls Try.prog 17 #[.int .i64 n] w fun e w' => e = .returned (.string (dateS n)) ∧ Below w.heap.size w w' := by
  by_cases h : 0 ≤ n ∧ n ≤ 200000
  · exact date_yes n h.1 h.2 w
  · exact date_no n h w
theorem dec_1970 : dec 1970 = ⟨#[49, 57, 55, 48]⟩ := by
  rw [dec_ge (by decide), dec_ge (by decide), dec_ge (by decide), dec_lt (by decide)]; rfl
theorem date_zero : dateS 0 = ⟨#[49, 57, 55, 48, 45, 48, 49, 45, 48, 49]⟩ := by
  have c : calendar_Of.f 5000 0 = some (1970, 1, 1, 0) := by
    have : calendar_Of.f 10 0 = some (1970, 1, 1, 0) := by decide +kernel
    exact at_rounds (calendar_Of.mono 0) (by omega) this
  unfold dateS ymd
  rw [if_pos (by omega), c]
  show num ((1970 : Nat) : Int) ++ _ ++ _ ++ _ ++ _ = _
  rw [num_nat, dec_1970]; rfl
theorem num_m7 : num (-7) = ⟨#[45, 55]⟩ := by
  unfold num sgn
  rw [if_pos (by omega)]
  show (⟨#[45]⟩ : ByteArray) ++ dec 7 = _
  rw [dec_lt (by decide)]; rfl
theorem number_m7 : spaces (gap (-7) 4) ++ num (-7) = ⟨#[32, 32, 45, 55]⟩ := by
  unfold gap
  rw [num_m7]; rfl
set_option maxRecDepth 100000 in
theorem awake_any (w : World) : Calls Try.prog 14 #[] w fun e w' => e = .returned (.bool true) ∧ Below w.heap.size w w' := by
  have hD : ∀ w : World, Calls Try.prog 17 #[.int .i64 0] w fun e w' => e = .returned (.string ⟨#[49, 57, 55, 48, 45, 48, 49, 45, 48, 49]⟩) ∧ Below w.heap.size w w' := by
    intro w
    rw [← date_zero]; exact date_any 0 w
  have hN : ∀ w : World, Calls Try.prog 15 #[.int .i64 (-7), .int .i64 4] w fun e w' => e = .returned (.string ⟨#[32, 32, 45, 55]⟩) ∧ Below w.heap.size w w' := by
    intro w
    rw [← number_m7]; exact number_any (-7) 4 (by omega) (by omega) (by omega) (by omega) w
  have HD := Lib.hid hD
  have HN := Lib.hid hN
  clear hD hN
  go_enter Try.func14, Try.ntmps14
  go_wp2_with (first | (go_at_call 17; refine (HD.out _).mono ?_; rintro e w1 ⟨rfl, hb1⟩) | (go_at_call 15; refine (HN.out _).mono ?_; rintro e w2 ⟨rfl, hb2⟩))
  go_ret
  exact ⟨rfl, hb1.trans (hb2.mono hb1.size)⟩
end Go.Proofs.Ytcdlajlhkblkmaa.PReportSigns
