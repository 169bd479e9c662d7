/- ReportSigns, the plain law: the digits, the columns and the dates that the program writes are the document's, for every number, width and day. -/
import Derived.Test.YtcdlajlhkblkmaaRsB
namespace Go.Proofs.Ytcdlajlhkblkmaa.PReportSigns
open Go.RowKit Go.Proofs.YtcdlajlhkblkmaaW.PrintWords Go.Proofs.YtcdlajlhkblkmaaW.PrintLast

/-- One digit. -/
def d1 (n : Nat) : ByteArray := strOfNums [((48 + n : Nat) : Int) % 256]
theorem d1_size (n : Nat) : (d1 n).size = 1 := rfl
theorem size_one (x : Int) : (strOfNums [x]).size = 1 := rfl
/-- A number's digits. -/
def dec (n : Nat) : ByteArray := if n < 10 then d1 n else dec (n / 10) ++ d1 (n % 10)
termination_by n
decreasing_by omega
theorem dec_lt {n : Nat} (h : n < 10) : dec n = d1 n := by rw [dec, if_pos h]
theorem dec_ge {n : Nat} (h : 10 ≤ n) : dec n = dec (n / 10) ++ d1 (n % 10) := by rw [dec, if_neg (by omega)]
theorem dec_size (m : Nat) : ∀ n, n < 10 ^ (m + 1) → (dec n).size ≤ m + 1 := by
  induction m with
  | zero => intro n h; rw [dec_lt (by simpa using h), d1_size]; omega
  | succ m ih =>
    intro n h
    by_cases hn : n < 10
    · rw [dec_lt hn, d1_size]; omega
    · rw [dec_ge (by omega), ByteArray.size_append, d1_size]
      have h2 : n / 10 < 10 ^ (m + 1) := by
        rw [Nat.pow_succ] at h
        exact Nat.div_lt_of_lt_mul (by omega)
      have := ih _ h2
      omega
theorem dec_size64 {n : Nat} (h : n < 18446744073709551616) : (dec n).size ≤ 20 := dec_size 19 n (by omega)
def sgn (n : Int) (s : ByteArray) : ByteArray := if n < 0 then (⟨#[45]⟩ : ByteArray) ++ s else s
/-- A number, with its sign. -/
def num (n : Int) : ByteArray := sgn n (dec n.natAbs)
theorem num_size {n : Int} (h : -9223372036854775808 ≤ n) (h2 : n < 9223372036854775808) : (num n).size ≤ 21 := by
  have := dec_size64 (n := n.natAbs) (by omega)
  unfold num sgn
  split
  · rw [ByteArray.size_append]; show 1 + _ ≤ _; omega
  · omega
theorem u64_id {x : Int} (h0 : 0 ≤ x) (h : x < 18446744073709551616) : IntKind.u64.wrap x = x := by
  rw [IntKind.wrap_u64]; omega
theorem w64_id {x : Int} (h0 : -9223372036854775808 ≤ x) (h : x < 9223372036854775808) : wrap64 x = x := by
  unfold wrap64; omega
theorem tdiv_nat (m : Nat) : Int.tdiv (m : Int) 10 = ((m / 10 : Nat) : Int) := by
  rw [Int.tdiv_eq_ediv_of_nonneg (by omega)]; omega
theorem tmod_nat (m : Nat) : Int.tmod (m : Int) 10 = ((m % 10 : Nat) : Int) := by
  rw [Int.tmod_eq_emod_of_nonneg (by omega)]; omega
/-- The program's loop. -/
theorem digits_loop (x0 : Int) (d : Nat) : ∀ (m : Nat), m < 18446744073709551616 → m ≤ d → ∀ (x4 : ByteArray), x4.size ≤ 1000 → x4.size + (dec m).size ≤ 1000 → ∀ k, d < k → report_digits.l0 k x0 (m : Int) x4 = some (sgn x0 (dec m ++ x4)) := by
  induction d with
  | zero =>
    intro m hm hd x4 hx hs k hk
    obtain ⟨k, rfl⟩ : ∃ j, k = j + 1 := ⟨k - 1, by omega⟩
    obtain rfl : m = 0 := by omega
    simp only [report_digits.l0, Option.bind_some]
    rw [tmod_nat, tdiv_nat, u64_id (by omega) (by omega), u64_id (by omega) (by omega)]
    rw [if_pos (by rw [size_one]; omega), if_pos (by simp)]
    rw [dec_lt (by omega)]
    show (if x0 < 0 then (if 1 + (d1 0 ++ x4).size ≤ _ then some ((⟨#[45]⟩ : ByteArray) ++ (d1 0 ++ x4)) else none) else some (d1 0 ++ x4)) = _
    unfold sgn
    split
    · rw [if_pos (by rw [ByteArray.size_append, d1_size]; omega)]
    · rfl
  | succ d ih =>
    intro m hm hd x4 hx hs k hk
    obtain ⟨k, rfl⟩ : ∃ j, k = j + 1 := ⟨k - 1, by omega⟩
    simp only [report_digits.l0, Option.bind_some]
    rw [tmod_nat, tdiv_nat, u64_id (by omega) (by omega), u64_id (by omega) (by omega)]
    rw [if_pos (by rw [size_one]; omega)]
    have e1 : strOfNums [((48 : Int) + ((m % 10 : Nat) : Int)) % 256] = d1 (m % 10) := by
      unfold d1; congr 2
    rw [e1]
    by_cases h10 : m < 10
    · rw [if_pos (by omega), dec_lt h10]
      have e2 : m % 10 = m := by omega
      rw [e2]
      unfold sgn
      split
      · rw [if_pos (by rw [ByteArray.size_append, d1_size]; omega)]
      · rfl
    · rw [if_neg (by omega)]
      have hsz := dec_ge (n := m) (by omega)
      have hs2 : (dec m).size = (dec (m / 10)).size + 1 := by rw [hsz, ByteArray.size_append, d1_size]
      rw [ih (m / 10) (by omega) (by omega) (d1 (m % 10) ++ x4) (by rw [ByteArray.size_append, d1_size]; omega) (by rw [ByteArray.size_append, d1_size]; omega) k (by omega)]
      rw [hsz, ByteArray.append_assoc]
theorem report_digits_num (n : Int) (h : -9223372036854775808 ≤ n) (h2 : n < 9223372036854775808) : ∃ k, report_digits.f k n = some (num n) := by
  have hsz := dec_size64 (n := n.natAbs) (by omega)
  refine ⟨n.natAbs + 2, ?_⟩
  have hl := digits_loop n n.natAbs n.natAbs (by omega) (Nat.le_refl _) ⟨#[]⟩ (by show 0 ≤ _; omega) (by show 0 + _ ≤ _; omega) (n.natAbs + 1) (by omega)
  have e : dec n.natAbs ++ (⟨#[]⟩ : ByteArray) = dec n.natAbs := ByteArray.append_empty
  rw [e] at hl
  unfold report_digits.f
  by_cases hn : n < 0
  · rw [if_pos hn]
    have e2 : IntKind.u64.wrap (-(IntKind.u64.wrap n)) = ((n.natAbs : Nat) : Int) := by
      rw [IntKind.wrap_u64, IntKind.wrap_u64]; omega
    rw [e2]; simp only [report_digits.j0]; exact hl
  · rw [if_neg hn]
    have e2 : IntKind.u64.wrap n = ((n.natAbs : Nat) : Int) := by
      rw [IntKind.wrap_u64]; omega
    rw [e2]; simp only [report_digits.j0]; exact hl

/-- The document's digits of a number that is not below 0. -/
theorem ref_digits_nat (d : Nat) : ∀ m : Nat, m < 9223372036854775808 → m ≤ d → ∀ k, d < k → lombardref35_Digits.f k (m : Int) = some (dec m) := by
  induction d with
  | zero =>
    intro m hm hd k hk
    obtain ⟨k, rfl⟩ : ∃ j, k = j + 1 := ⟨k - 1, by omega⟩
    obtain rfl : m = 0 := by omega
    simp only [lombardref35_Digits.f]
    rw [if_neg (by omega), if_neg (by omega), dec_lt (by omega), w64_id (by omega) (by omega)]
    rfl
  | succ d ih =>
    intro m hm hd k hk
    obtain ⟨k, rfl⟩ : ∃ j, k = j + 1 := ⟨k - 1, by omega⟩
    simp only [lombardref35_Digits.f]
    rw [if_neg (by omega)]
    by_cases h10 : m < 10
    · rw [if_neg (by omega), dec_lt h10, w64_id (by omega) (by omega)]
      unfold d1; congr 4
    · rw [if_pos (by omega), tdiv_nat, tmod_nat, w64_id (by omega) (by omega), ih (m / 10) (by omega) (by omega) k (by omega), ih (m % 10) (by omega) (by omega) k (by omega)]
      simp only [Option.bind_some]
      have hsz := dec_size64 (n := m / 10) (by omega)
      rw [dec_lt (n := m % 10) (by omega), if_pos (by rw [d1_size]; omega), ← dec_ge (by omega)]
theorem neg_tdiv (m : Nat) : Int.tdiv (-(m : Int)) 10 = -((m / 10 : Nat) : Int) := by
  rw [Int.neg_tdiv, tdiv_nat]
theorem neg_tmod (m : Nat) : Int.tmod (-(m : Int)) 10 = -((m % 10 : Nat) : Int) := by
  rw [Int.neg_tmod, tmod_nat]
theorem ref_digits_neg (d : Nat) : ∀ m : Nat, 0 < m → m ≤ 9223372036854775808 → m ≤ d → ∀ k, d + 2 < k → lombardref35_Digits.f k (-(m : Int)) = some ((⟨#[45]⟩ : ByteArray) ++ dec m) := by
  induction d with
  | zero => intro m h0 hm hd; omega
  | succ d ih =>
    intro m h0 hm hd k hk
    obtain ⟨k, rfl⟩ : ∃ j, k = j + 1 := ⟨k - 1, by omega⟩
    simp only [lombardref35_Digits.f]
    rw [if_pos (by omega)]
    by_cases h10 : m < 10
    · rw [if_neg (by omega), Int.neg_neg, w64_id (by omega) (by omega), ref_digits_nat (d + 1) m (by omega) hd k (by omega)]
      simp only [Option.bind_some]
      have hsz := dec_size64 (n := m) (by omega)
      rw [if_pos (by omega)]
    · rw [if_pos (by omega), neg_tdiv, neg_tmod, Int.neg_neg, w64_id (by omega) (by omega), w64_id (by omega) (by omega), ih (m / 10) (by omega) (by omega) (by omega) k (by omega), ref_digits_nat (d + 1) (m % 10) (by omega) (by omega) k (by omega)]
      simp only [Option.bind_some]
      have hsz := dec_size64 (n := m / 10) (by omega)
      have e45 : (⟨#[45]⟩ : ByteArray).size = 1 := rfl
      rw [dec_lt (n := m % 10) (by omega), if_pos (by rw [ByteArray.size_append, d1_size, e45]; omega), ByteArray.append_assoc, ← dec_ge (by omega)]
theorem ref_digits_num (n : Int) (h : -9223372036854775808 ≤ n) (h2 : n < 9223372036854775808) : ∃ k, lombardref35_Digits.f k n = some (num n) := by
  unfold num sgn
  by_cases hn : n < 0
  · rw [if_pos hn]
    have := ref_digits_neg n.natAbs n.natAbs (by omega) (by omega) (Nat.le_refl _) (n.natAbs + 3) (by omega)
    have e : -((n.natAbs : Nat) : Int) = n := by omega
    rw [e] at this
    exact ⟨_, this⟩
  · rw [if_neg hn]
    have := ref_digits_nat n.natAbs n.natAbs (by omega) (Nat.le_refl _) (n.natAbs + 1) (by omega)
    have e : ((n.natAbs : Nat) : Int) = n := by omega
    rw [e] at this
    exact ⟨_, this⟩
end Go.Proofs.Ytcdlajlhkblkmaa.PReportSigns

/-! ### dates -/
namespace Go.Proofs.Ytcdlajlhkblkmaa.PReportSigns
open Go.RowKit Go.Proofs.YtcdlajlhkblkmaaW.PrintWords Go.Proofs.YtcdlajlhkblkmaaW.PrintLast

/-- How many days lie ahead of a year. -/
def bf (y : Int) : Int := 365 * (y - 1) + (y - 1) / 4 - (y - 1) / 100 + (y - 1) / 400
def lp (y : Int) : Int := if y % 4 = 0 ∧ (y % 100 ≠ 0 ∨ y % 400 = 0) then 1 else 0
theorem bf_succ (y : Int) : bf (y + 1) = bf y + 365 + lp y := by
  unfold bf lp
  split
  · rename_i h
    rcases h with ⟨h, h2 | h2⟩ <;> omega
  · rename_i h
    have : ¬ y % 4 = 0 ∨ (y % 100 = 0 ∧ ¬ y % 400 = 0) := by omega
    rcases this with h | ⟨h, h2⟩ <;> omega
theorem lp_01 (y : Int) : 0 ≤ lp y ∧ lp y ≤ 1 := by unfold lp; split <;> omega
theorem before_bf (y : Int) (h : 1 ≤ y) (h2 : y ≤ 100000) : calendar_before.f y = some (bf y) := by
  unfold calendar_before.f bf
  rw [w64_id (x := y - 1) (by omega) (by omega)]
  rw [Int.tdiv_eq_ediv_of_nonneg (by omega), Int.tdiv_eq_ediv_of_nonneg (by omega), Int.tdiv_eq_ediv_of_nonneg (by omega)]
  congr 1
  unfold wrap64
  omega
theorem leap_lp (y : Int) (h : 1 ≤ y) : calendar_leap.f y = some (decide (lp y = 1)) := by
  unfold calendar_leap.f lp
  rw [Int.tmod_eq_emod_of_nonneg (by omega), Int.tmod_eq_emod_of_nonneg (by omega), Int.tmod_eq_emod_of_nonneg (by omega)]
  by_cases h4 : y % 4 = 0
  · rw [if_pos h4]
    by_cases h1 : y % 100 = 0
    · rw [if_pos h1]
      by_cases h40 : y % 400 = 0
      · rw [if_pos ⟨h4, .inr h40⟩, h40]; rfl
      · rw [if_neg (by omega)]
        have : (y % 400 == 0) = false := beq_eq_false_iff_ne.2 h40
        rw [this]; rfl
    · rw [if_neg h1, if_pos ⟨h4, .inl h1⟩]; rfl
  · rw [if_neg h4, if_neg (by omega)]; rfl
/-- A month's days. -/
def len (y m : Int) : Int := if m = 2 then 28 + lp y else if m = 4 ∨ m = 6 ∨ m = 9 ∨ m = 11 then 30 else 31
theorem length_len (y m : Int) (h : 1 ≤ y) : calendar_length.f y m = some (len y m) := by
  unfold calendar_length.f len
  by_cases h2 : m = 2
  · rw [if_pos h2, if_pos h2, leap_lp y h]
    simp only [Option.bind_some]
    have := lp_01 y
    by_cases hl : lp y = 1
    · rw [if_pos (by simp [hl]), hl]; rfl
    · have h0 : lp y = 0 := by omega
      rw [if_neg (by simp [h0]), h0]; rfl
  · rw [if_neg h2, if_neg h2]
    by_cases h4 : m = 4
    · rw [if_pos h4, if_pos (by omega)]
    rw [if_neg h4]
    by_cases h6 : m = 6
    · rw [if_pos h6, if_pos (by omega)]
    rw [if_neg h6]
    by_cases h9 : m = 9
    · rw [if_pos h9, if_pos (by omega)]
    rw [if_neg h9]
    by_cases h11 : m = 11
    · rw [if_pos h11, if_pos (by omega)]
    rw [if_neg h11, if_neg (by omega)]
theorem days_len (y m : Int) (h : 1 ≤ y) (h1 : 1 ≤ m) (h12 : m ≤ 12) : lombardref02_Days.f y m = some (len y m) := by
  unfold lombardref02_Days.f len lp
  simp only [Option.bind_some]
  rw [Int.tmod_eq_emod_of_nonneg (by omega), Int.tmod_eq_emod_of_nonneg (by omega), Int.tmod_eq_emod_of_nonneg (by omega), w64_id (x := m - 1) (by omega) (by omega)]
  by_cases h2 : m = 2
  · subst h2
    rw [if_pos rfl, if_pos rfl]
    by_cases h40 : y % 400 = 0
    · rw [if_pos h40, if_pos ⟨by omega, .inr h40⟩]; rfl
    · rw [if_neg h40]
      by_cases h4 : y % 4 = 0
      · rw [if_pos h4]
        by_cases h10 : y % 100 = 0
        · rw [if_pos h10]
          show some (28 : Int) = _
          rw [if_neg (by omega)]; rfl
        · rw [if_neg h10, if_pos ⟨h4, .inl h10⟩]; rfl
      · rw [if_neg h4]
        show some (28 : Int) = _
        rw [if_neg (by omega)]; rfl
  · rw [if_neg h2, if_neg h2]
    have : m = 1 ∨ m = 3 ∨ m = 4 ∨ m = 5 ∨ m = 6 ∨ m = 7 ∨ m = 8 ∨ m = 9 ∨ m = 10 ∨ m = 11 ∨ m = 12 := by omega
    rcases this with h | h | h | h | h | h | h | h | h | h | h <;> subst h <;> rfl
def rest (y : Int) : Nat → Int → Int
  | 0, m => len y m
  | d + 1, m => len y m + rest y d (m + 1)
theorem rest_year (y : Int) : rest y 11 1 = 365 + lp y := by
  simp [rest, len]; omega
theorem len_bd (y m : Int) : 28 ≤ len y m ∧ len y m ≤ 31 := by
  have := lp_01 y
  unfold len
  split
  · omega
  · split <;> omega
/-- The months: both come to the same. -/
theorem months (y : Int) (hy : 1 ≤ y) (d : Nat) : ∀ (m r : Int), 1 ≤ m → m + (d : Int) = 12 → 0 ≤ r → r < rest y d m → ∃ m' d' : Int, 1 ≤ m' ∧ m' ≤ 12 ∧ 1 ≤ d' ∧ d' ≤ 31 ∧
    (∀ k, d < k → calendar_Of.l1 k r y m = some (y, m', d', 0)) ∧ (∀ k, d < k → lombardref02_Of.l1 k r y m = some (y, m', d', 0)) := by
  induction d with
  | zero =>
    intro m r hm hd h0 hr
    have hr' : r < len y m := hr
    have hb := len_bd y m
    refine ⟨m, r + 1, hm, by omega, by omega, by omega, ?_, ?_⟩
    · intro k hk
      obtain ⟨k, rfl⟩ : ∃ j, k = j + 1 := ⟨k - 1, by omega⟩
      simp only [calendar_Of.l1]
      rw [length_len y m hy]; simp only [Option.bind_some]
      rw [if_neg (by omega), w64_id (by omega) (by omega)]
    · intro k hk
      obtain ⟨k, rfl⟩ : ∃ j, k = j + 1 := ⟨k - 1, by omega⟩
      simp only [lombardref02_Of.l1]
      rw [days_len y m hy hm (by omega)]; simp only [Option.bind_some]
      rw [if_neg (by omega), w64_id (by omega) (by omega)]
  | succ d ih =>
    intro m r hm hd h0 hr
    have hb := len_bd y m
    by_cases hlt : r < len y m
    · refine ⟨m, r + 1, hm, by omega, by omega, by omega, ?_, ?_⟩
      · intro k hk
        obtain ⟨k, rfl⟩ : ∃ j, k = j + 1 := ⟨k - 1, by omega⟩
        simp only [calendar_Of.l1]
        rw [length_len y m hy]; simp only [Option.bind_some]
        rw [if_neg (by omega), w64_id (by omega) (by omega)]
      · intro k hk
        obtain ⟨k, rfl⟩ : ∃ j, k = j + 1 := ⟨k - 1, by omega⟩
        simp only [lombardref02_Of.l1]
        rw [days_len y m hy hm (by omega)]; simp only [Option.bind_some]
        rw [if_neg (by omega), w64_id (by omega) (by omega)]
    · have hr' : r < len y m + rest y d (m + 1) := hr
      have hrb : rest y d (m + 1) ≤ 31 * (d + 1) := by
        clear ih hr hr' hlt hb
        have : ∀ (d : Nat) (m : Int), rest y d m ≤ 31 * (d + 1) := by
          intro d
          induction d with
          | zero => intro m; have := len_bd y m; show len y m ≤ _; omega
          | succ d ih => intro m; have := len_bd y m; have := ih (m + 1); show len y m + rest y d (m + 1) ≤ _; omega
        exact this d (m + 1)
      obtain ⟨m', d', a, b, c, e, h1, h2⟩ := ih (m + 1) (r - len y m) (by omega) (by omega) (by omega) (by omega)
      refine ⟨m', d', a, b, c, e, ?_, ?_⟩
      · intro k hk
        obtain ⟨k, rfl⟩ : ∃ j, k = j + 1 := ⟨k - 1, by omega⟩
        simp only [calendar_Of.l1]
        rw [length_len y m hy]; simp only [Option.bind_some]
        rw [if_pos (by omega), w64_id (by omega) (by omega), w64_id (by omega) (by omega)]
        exact h1 k (by omega)
      · intro k hk
        obtain ⟨k, rfl⟩ : ∃ j, k = j + 1 := ⟨k - 1, by omega⟩
        simp only [lombardref02_Of.l1]
        rw [days_len y m hy hm (by omega)]; simp only [Option.bind_some]
        rw [if_pos (by omega), w64_id (by omega) (by omega), w64_id (by omega) (by omega)]
        exact h2 k (by omega)
/-- The program's years. -/
theorem years_prog (n Y : Int) (h1 : bf Y ≤ n) (h2 : n < bf (Y + 1)) (hY : Y ≤ 3000) (hn : n ≤ 1000000) (d : Nat) : ∀ (y : Int) (k : Nat), 1 ≤ y → y ≤ Y → Y - y = (d : Int) → d + 1 < k →
    calendar_Of.l0 k n y = calendar_Of.l1 (k - 1 - d) (n - bf Y) Y 1 := by
  induction d with
  | zero =>
    intro y k hy hyY hd hk
    obtain ⟨k, rfl⟩ : ∃ j, k = j + 1 := ⟨k - 1, by omega⟩
    obtain rfl : y = Y := by omega
    have hb : 0 ≤ bf y := by unfold bf; omega
    have hb2 : bf y ≤ 2000000 := by unfold bf; omega
    simp only [calendar_Of.l0]
    rw [w64_id (x := y + 1) (by omega) (by omega), before_bf (y + 1) (by omega) (by omega)]
    simp only [Option.bind_some]
    rw [if_neg (by omega), before_bf y (by omega) (by omega)]
    simp only [Option.bind_some]
    rw [w64_id (by omega) (by omega)]
    rfl
  | succ d ih =>
    intro y k hy hyY hd hk
    obtain ⟨k, rfl⟩ : ∃ j, k = j + 1 := ⟨k - 1, by omega⟩
    have hmono : bf (y + 1) ≤ bf Y := by unfold bf; omega
    have he := ih (y + 1) k (by omega) (by omega) (by omega) (by omega)
    simp only [calendar_Of.l0]
    rw [w64_id (x := y + 1) (by omega) (by omega), before_bf (y + 1) (by omega) (by omega)]
    simp only [Option.bind_some]
    rw [if_pos (by omega), he]
    congr 1
    omega
/-- The document's years. -/
theorem years_ref (Y x5 : Int) (hY : Y ≤ 3000) (r : Int) (hr0 : 0 ≤ r) (hr : r < 365 + lp Y) (d : Nat) : ∀ (y x : Int) (k : Nat), 1970 ≤ y → Y - y = (d : Int) → x = r + (bf Y - bf y) → x ≤ 1000000 → d + 1 < k →
    lombardref02_Of.l0 k x y x5 = lombardref02_Of.l1 (k - 1 - d) r Y x5 := by
  induction d with
  | zero =>
    intro y x k hy hd hx hx2 hk
    obtain ⟨k, rfl⟩ : ∃ j, k = j + 1 := ⟨k - 1, by omega⟩
    obtain rfl : y = Y := by omega
    have hl := lp_01 y
    have e : len y 2 = 28 + lp y := by simp [len]
    simp only [lombardref02_Of.l0]
    rw [days_len y 2 (by omega) (by omega) (by omega), e]
    simp only [Option.bind_some]
    rw [w64_id (by omega) (by omega), if_neg (by omega)]
    congr 1
    omega
  | succ d ih =>
    intro y x k hy hd hx hx2 hk
    obtain ⟨k, rfl⟩ : ∃ j, k = j + 1 := ⟨k - 1, by omega⟩
    have hl := lp_01 y
    have hs := bf_succ y
    have hmono : bf (y + 1) ≤ bf Y := by unfold bf; omega
    have e : len y 2 = 28 + lp y := by simp [len]
    simp only [lombardref02_Of.l0]
    rw [days_len y 2 (by omega) (by omega) (by omega), e]
    simp only [Option.bind_some]
    rw [w64_id (x := 337 + (28 + lp y)) (by omega) (by omega), if_pos (by omega), w64_id (x := x - 337) (by omega) (by omega), w64_id (x := x - 337 - (28 + lp y)) (by omega) (by omega), w64_id (x := y + 1) (by omega) (by omega)]
    rw [ih (y + 1) _ k (by omega) (by omega) (by omega) (by omega) (by omega)]
    congr 1
    omega
/-- The year of a day. -/
theorem the_year (n : Int) (h : bf 1970 ≤ n) (d : Nat) : n < bf (1970 + (d : Int)) → ∃ Y : Int, 1970 ≤ Y ∧ Y < 1970 + (d : Int) ∧ bf Y ≤ n ∧ n < bf (Y + 1) := by
  induction d with
  | zero => intro h2; exact absurd h2 (by simpa using h)
  | succ d ih =>
    intro h2
    by_cases hlt : n < bf (1970 + (d : Int))
    · obtain ⟨Y, a, b, c, e⟩ := ih hlt
      exact ⟨Y, a, by omega, c, e⟩
    · refine ⟨1970 + (d : Int), by omega, by omega, by omega, ?_⟩
      have e : (1970 : Int) + (d : Int) + 1 = 1970 + ((d + 1 : Nat) : Int) := by omega
      rw [e]; exact h2
theorem good_day (n : Int) : calendar_Good.f n = some (decide (0 ≤ n ∧ n ≤ 200000)) := by
  unfold calendar_Good.f
  by_cases h : n ≥ 0
  · rw [if_pos h]; simp [show (0 : Int) ≤ n from h]
  · rw [if_neg h]; simp [show ¬ (0 : Int) ≤ n from h]
theorem good_ref (n : Int) : lombardref02_Good.f n = some (decide (0 ≤ n ∧ n ≤ 200000)) := by
  unfold lombardref02_Good.f
  by_cases h : n ≥ 0
  · rw [if_pos h]; simp [show (0 : Int) ≤ n from h]
  · rw [if_neg h]; simp [show ¬ (0 : Int) ≤ n from h]
/-- Both tell one date of a day. -/
theorem dates (n : Int) (h0 : 0 ≤ n) (h2 : n ≤ 200000) : ∃ y m d : Int, 1970 ≤ y ∧ y ≤ 2600 ∧ 1 ≤ m ∧ m ≤ 12 ∧ 1 ≤ d ∧ d ≤ 31 ∧ calendar_Of.f 5000 n = some (y, m, d, 0) ∧ lombardref02_Of.f 5000 n = some (y, m, d, 0) := by
  have hb : bf 1970 = 719162 := by decide
  have he : bf 2570 = 938308 := by decide
  obtain ⟨Y, y1, y2, y3, y4⟩ := the_year (n + 719162) (by omega) 600 (by show _ < bf 2570; omega)
  have hs := bf_succ Y
  obtain ⟨m, d, m1, m2, d1, d2, c1, c2⟩ := months Y (by omega) 11 1 (n + 719162 - bf Y) (by omega) (by omega) (by omega) (by rw [rest_year]; omega)
  refine ⟨Y, m, d, y1, by omega, m1, m2, d1, d2, ?_, ?_⟩
  · unfold calendar_Of.f
    rw [good_day, decide_eq_true ⟨h0, h2⟩]
    simp only [Option.bind_some, if_true]
    rw [before_bf 1970 (by omega) (by omega), hb]
    simp only [Option.bind_some]
    rw [w64_id (x := n + 719162) (by omega) (by omega), Int.tdiv_eq_ediv_of_nonneg (by omega), w64_id (x := (n + 719162) / 366) (by omega) (by omega), w64_id (by omega) (by omega)]
    have hg : bf ((n + 719162) / 366 + 1) ≤ n + 719162 := by unfold bf; omega
    have hle : (n + 719162) / 366 + 1 ≤ Y := by
      apply Int.not_lt.1
      intro hlt
      have : bf (Y + 1) ≤ bf ((n + 719162) / 366 + 1) := by
        generalize (n + 719162) / 366 + 1 = q at *
        unfold bf; omega
      omega
    obtain ⟨j, hj⟩ : ∃ j : Nat, Y - ((n + 719162) / 366 + 1) = (j : Int) := ⟨(Y - ((n + 719162) / 366 + 1)).toNat, by omega⟩
    rw [years_prog (n + 719162) Y y3 y4 (by omega) (by omega) j _ 5000 (by omega) hle hj (by omega)]
    exact c1 _ (by omega)
  · unfold lombardref02_Of.f
    rw [good_ref, decide_eq_true ⟨h0, h2⟩]
    simp only [Option.bind_some, if_true]
    obtain ⟨j, hj⟩ : ∃ j : Nat, Y - 1970 = (j : Int) := ⟨(Y - 1970).toNat, by omega⟩
    rw [years_ref Y 1 (by omega) (n + 719162 - bf Y) (by omega) (by omega) j 1970 n 5000 (by omega) hj (by omega) (by omega) (by omega)]
    exact c2 _ (by omega)
end Go.Proofs.Ytcdlajlhkblkmaa.PReportSigns
