/- ReportSigns, the walks: what report.Number, report.Date and the law's own functions compute. -/
import Derived.Test.YtcdlajlhkblkmaaRsPure
import Derived.Test.YtcdlajlhkblkmaaShelf
import Derived.Deep.RegionHeld3
namespace Go.Proofs.Ytcdlajlhkblkmaa.PReportSigns
open Go.RowKit Go.Proofs.YtcdlajlhkblkmaaW.PrintWords Go.Proofs.YtcdlajlhkblkmaaW.PrintLast Go.Proofs.YtcdlajlhkblkmaaW.PrintMore
attribute [local go_sem] max2_int min2_int max_two min_two max_three min_three max_four min_four

/-- So many blanks. -/
def spaces (n : Nat) : ByteArray := ⟨(Lib.repeatL [32] n).toArray⟩
/-- How many stand ahead of a number. -/
def gap (n wd : Int) : Nat := if 4096 < wd then ((4096 : Int) - ((num n).size : Int)).toNat else if 0 < wd then (if ((num n).size : Int) < wd then (wd - ((num n).size : Int)).toNat else (0 : Int).toNat) else (0 : Int).toNat

theorem digits_any (n : Int) (h : -9223372036854775808 ≤ n) (h2 : n < 9223372036854775808) (w : World) :
    Calls Try.prog 52 #[.int .i64 n] w fun e w' => e = .returned (.string (num n)) ∧ Below w.heap.size w w' := by
  obtain ⟨k, hk⟩ := report_digits_num n h h2
  exact report_digits.calls k n _ w hk

theorem spaces_size (c : Nat) : (spaces c).size = c := by
  unfold spaces
  rw [ByteArray.size, List.size_toArray, Lib.repeatL_length]; simp
theorem repeat_any (c : Int) (h : 0 ≤ c) (h2 : c ≤ 4096) (w : World) :
    Calls Try.prog 53 #[.string ⟨#[32]⟩, .int .i64 c] w fun e w' => ∃ s : ByteArray, e = .returned (.string s) ∧ Hid (s = spaces c.toNat) ∧ s.size ≤ 4096 ∧ Below w.heap.size w w' := by
  have e1 : (⟨#[32]⟩ : ByteArray).size = 1 := rfl
  obtain ⟨m, rfl⟩ : ∃ m : Nat, c = (m : Int) := ⟨c.toNat, by omega⟩
  refine (Try.strings_Repeat ⟨#[32]⟩ m w (by omega) (by rw [e1]; omega)).mono ?_
  rintro e w' ⟨rfl, hb⟩
  exact ⟨_, rfl, rfl, by have := spaces_size m; unfold spaces at this; show (⟨(Lib.repeatL [32] m).toArray⟩ : ByteArray).size ≤ _; omega, hb⟩

set_option maxRecDepth 100000 in
theorem number_any (n wd : Int) (h : -9223372036854775808 ≤ n) (h2 : n < 9223372036854775808) (g : -9223372036854775808 ≤ wd) (g2 : wd < 9223372036854775808) (w : World) :
    Calls Try.prog 15 #[.int .i64 n, .int .i64 wd] w fun e w' => e = .returned (.string (spaces (gap n wd) ++ num n)) ∧ Below w.heap.size w w' := by
  have hs := num_size h h2
  have hc : (4096 < wd ∧ (0 : Int) < 4096 ∧ ((num n).size : Int) < 4096) ∨ (¬ 4096 < wd ∧ 0 < wd ∧ ((num n).size : Int) < wd) ∨ (¬ 4096 < wd ∧ 0 < wd ∧ ¬ ((num n).size : Int) < wd) ∨ (¬ 4096 < wd ∧ ¬ 0 < wd ∧ ¬ ((num n).size : Int) < 0) := by omega
  rcases hc with ⟨c1, c2, c3⟩ | ⟨c1, c2, c3⟩ | ⟨c1, c2, c3⟩ | ⟨c1, c2, c3⟩
  · have H : Hid (gap n wd = ((4096 : Int) - ((num n).size : Int)).toNat) := by show gap n wd = _; unfold gap; rw [if_pos c1]
    go_enter Try.func15, Try.ntmps15
    go_wp2_with (first | (go_at_call 52; refine (digits_any n h h2 _).mono ?_; rintro e w1 ⟨rfl, hb⟩) | (go_at_call 53; refine (repeat_any _ (by omega) (by omega) _).mono ?_; rintro e w2 ⟨s, rfl, hs1, hs2, hb2⟩))
    go_ret
    refine ⟨?_, hb.trans (hb2.mono hb.size)⟩
    rw [hs1.out, H.out]; rfl
  · have H : Hid (gap n wd = (wd - ((num n).size : Int)).toNat) := by show gap n wd = _; unfold gap; rw [if_neg c1, if_pos c2, if_pos c3]
    go_enter Try.func15, Try.ntmps15
    go_wp2_with (first | (go_at_call 52; refine (digits_any n h h2 _).mono ?_; rintro e w1 ⟨rfl, hb⟩) | (go_at_call 53; refine (repeat_any _ (by omega) (by omega) _).mono ?_; rintro e w2 ⟨s, rfl, hs1, hs2, hb2⟩))
    go_ret
    refine ⟨?_, hb.trans (hb2.mono hb.size)⟩
    rw [hs1.out, H.out]; rfl
  · have H : Hid (gap n wd = (0 : Int).toNat) := by show gap n wd = _; unfold gap; rw [if_neg c1, if_pos c2, if_neg c3]
    go_enter Try.func15, Try.ntmps15
    go_wp2_with (first | (go_at_call 52; refine (digits_any n h h2 _).mono ?_; rintro e w1 ⟨rfl, hb⟩) | (go_at_call 53; refine (repeat_any _ (by omega) (by omega) _).mono ?_; rintro e w2 ⟨s, rfl, hs1, hs2, hb2⟩))
    go_ret
    refine ⟨?_, hb.trans (hb2.mono hb.size)⟩
    rw [hs1.out, H.out]; rfl
  · have H : Hid (gap n wd = (0 : Int).toNat) := by show gap n wd = _; unfold gap; rw [if_neg c1, if_neg c2]
    go_enter Try.func15, Try.ntmps15
    go_wp2_with (first | (go_at_call 52; refine (digits_any n h h2 _).mono ?_; rintro e w1 ⟨rfl, hb⟩) | (go_at_call 53; refine (repeat_any _ (by omega) (by omega) _).mono ?_; rintro e w2 ⟨s, rfl, hs1, hs2, hb2⟩))
    go_ret
    refine ⟨?_, hb.trans (hb2.mono hb.size)⟩
    rw [hs1.out, H.out]; rfl

theorem conv_two (w : World) (x y : Int) : (convert 123 9 (.slice (some ⟨w.heap.size, 0, none⟩) 2 2)).run Try.prog (w.alloc (.cells #[.int .u8 x, .int .u8 y] 5)) = .ok (.string (strOfNums [x, y])) (w.alloc (.cells #[.int .u8 x, .int .u8 y] 5)) := by
  refine run_convert_bytes_arg _ 123 5 Try.underlying123 Try.underlying5 w.heap.size 0 2 2 [x, y] rfl (fun i hi => ?_) 9 Try.underlying9
  match i, hi with
  | 0, _ => simp
  | 1, _ => simp
set_option maxRecDepth 100000 in
theorem two_any (n : Int) (h : 0 ≤ n) (h2 : n < 100) (w : World) :
    Calls Try.prog 57 #[.int .i64 n] w fun e w' => e = .returned (.string (d1 (n / 10).toNat ++ d1 (n % 10).toNat)) ∧ Below w.heap.size w w' := by
  have hcv := conv_two w (48 + n / 10) (48 + n % 10)
  go_enter Try.func57, Try.ntmps57
  go_wp2
  go_ret
  refine ⟨?_, (Below.refl _ _).alloc (Nat.le_refl _) _⟩
  clear hcv
  obtain ⟨q, hq⟩ : ∃ q : Nat, n / 10 = q := ⟨(n / 10).toNat, by omega⟩
  obtain ⟨r, hr⟩ : ∃ r : Nat, n % 10 = r := ⟨(n % 10).toNat, by omega⟩
  rw [hq, hr]
  have e1 : strOfNums [48 + (q : Int), 48 + (r : Int)] = d1 (q : Int).toNat ++ d1 (r : Int).toNat := by
    have eq1 : ((48 + q : Nat) : Int) % 256 = 48 + (q : Int) := by omega
    have er1 : ((48 + r : Nat) : Int) % 256 = 48 + (r : Int) := by omega
    unfold d1
    rw [Int.toNat_natCast, Int.toNat_natCast, eq1, er1]
    rfl
  rw [← e1]; rfl

/-- A day's date. -/
def ymd (n : Int) : Int × Int × Int × Int := (calendar_Of.f 5000 n).getD (0, 0, 0, 0)
def two (n : Int) : ByteArray := d1 (n / 10).toNat ++ d1 (n % 10).toNat
def dateS (n : Int) : ByteArray :=
  if 0 ≤ n ∧ n ≤ 200000 then num (ymd n).1 ++ ⟨#[45]⟩ ++ two (ymd n).2.1 ++ ⟨#[45]⟩ ++ two (ymd n).2.2.1 else ⟨#[45, 45, 45, 45, 45, 45, 45, 45, 45, 45]⟩
theorem keep3 {w0 w w' : World} {g : Nat} {x y z : Value} (hg : g < w.heap.size) (h0 : w.cell? ⟨g, 0, none⟩ = some x) (h1 : w.cell? ⟨g, 1, none⟩ = some y) (h2 : w.cell? ⟨g, 2, none⟩ = some z) (hB : Below w0.heap.size w0 w) (hb : Below w.heap.size w w') :
    w'.cell? ⟨g, 0, none⟩ = some x ∧ w'.cell? ⟨g, 1, none⟩ = some y ∧ w'.cell? ⟨g, 2, none⟩ = some z ∧ g < w'.heap.size ∧ Below w0.heap.size w0 w' :=
  ⟨(hb.cell (p := ⟨g, 0, none⟩) hg).trans h0, (hb.cell (p := ⟨g, 1, none⟩) hg).trans h1, (hb.cell (p := ⟨g, 2, none⟩) hg).trans h2, Nat.lt_of_lt_of_le hg hb.size, hB.trans (hb.mono hB.size)⟩
theorem digits_keep {w0 w : World} {g : Nat} {x y z : Value} (n : Int) (h : -9223372036854775808 ≤ n) (h2 : n < 9223372036854775808) (k : w.cell? ⟨g, 0, none⟩ = some x ∧ w.cell? ⟨g, 1, none⟩ = some y ∧ w.cell? ⟨g, 2, none⟩ = some z ∧ g < w.heap.size ∧ Below w0.heap.size w0 w) :
    Calls Try.prog 52 #[.int .i64 n] w fun e w' => ∃ s : ByteArray, e = .returned (.string s) ∧ Hid (s = num n) ∧ s.size ≤ 21 ∧ w'.cell? ⟨g, 0, none⟩ = some x ∧ w'.cell? ⟨g, 1, none⟩ = some y ∧ w'.cell? ⟨g, 2, none⟩ = some z ∧ g < w'.heap.size ∧ Below w0.heap.size w0 w' := by
  refine (digits_any n h h2 w).mono ?_
  rintro e w' ⟨rfl, hb⟩
  exact ⟨_, rfl, rfl, num_size h h2, keep3 k.2.2.2.1 k.1 k.2.1 k.2.2.1 k.2.2.2.2 hb⟩
theorem two_keep {w0 w : World} {g : Nat} {x y z : Value} (n : Int) (h : 0 ≤ n) (h2 : n < 100) (k : w.cell? ⟨g, 0, none⟩ = some x ∧ w.cell? ⟨g, 1, none⟩ = some y ∧ w.cell? ⟨g, 2, none⟩ = some z ∧ g < w.heap.size ∧ Below w0.heap.size w0 w) :
    Calls Try.prog 57 #[.int .i64 n] w fun e w' => ∃ s : ByteArray, e = .returned (.string s) ∧ Hid (s = two n) ∧ s.size ≤ 2 ∧ w'.cell? ⟨g, 0, none⟩ = some x ∧ w'.cell? ⟨g, 1, none⟩ = some y ∧ w'.cell? ⟨g, 2, none⟩ = some z ∧ g < w'.heap.size ∧ Below w0.heap.size w0 w' := by
  refine (two_any n h h2 w).mono ?_
  rintro e w' ⟨rfl, hb⟩
  exact ⟨_, rfl, rfl, by rw [ByteArray.size_append, d1_size, d1_size]; omega, keep3 k.2.2.2.1 k.1 k.2.1 k.2.2.1 k.2.2.2.2 hb⟩
set_option maxHeartbeats 1000000 in
set_option maxRecDepth 100000 in
theorem date_yes (n : Int) (h : 0 ≤ n) (h2 : n ≤ 200000) (w : World) :
    Calls Try.prog 17 #[.int .i64 n] w fun e w' => e = .returned (.string (dateS n)) ∧ Below w.heap.size w w' := by
  obtain ⟨y, m, d, y1, y2, m1, m2, d1, d2, c1, c2⟩ := dates n h h2
  have HS : Hid (dateS n = num y ++ ⟨#[45]⟩ ++ two m ++ ⟨#[45]⟩ ++ two d) := by
    show dateS n = _
    unfold dateS ymd
    rw [if_pos ⟨h, h2⟩, c1]; rfl
  clear c2
  have yb1 : -9223372036854775808 ≤ y := by omega
  have yb2 : y < 9223372036854775808 := by omega
  have mb1 : 0 ≤ m := by omega
  have mb2 : m < 100 := by omega
  have db1 : 0 ≤ d := by omega
  have db2 : d < 100 := by omega
  clear y1 y2 m1 m2 d1 d2 h h2
  go_enter Try.func17, Try.ntmps17
  go_wp2_with (go_at_call 56; refine (calendar_Of.calls 5000 n y m d 0 _ c1).mono ?_; rintro e w1 ⟨rfl, hb⟩)
  clear c1
  have k0 : (w1.alloc (.cells #[.int .i64 y, .int .i64 m, .int .i64 d] 120)).cell? ⟨w1.heap.size, 0, none⟩ = some (.int .i64 y) := by simp
  have k1 : (w1.alloc (.cells #[.int .i64 y, .int .i64 m, .int .i64 d] 120)).cell? ⟨w1.heap.size, 1, none⟩ = some (.int .i64 m) := by simp
  have k2 : (w1.alloc (.cells #[.int .i64 y, .int .i64 m, .int .i64 d] 120)).cell? ⟨w1.heap.size, 2, none⟩ = some (.int .i64 d) := by simp
  have k3 : w1.heap.size < (w1.alloc (.cells #[.int .i64 y, .int .i64 m, .int .i64 d] 120)).heap.size := by simp
  have k4 : Below w.heap.size w (w1.alloc (.cells #[.int .i64 y, .int .i64 m, .int .i64 d] 120)) := hb.alloc hb.size _
  generalize w1.alloc (.cells #[.int .i64 y, .int .i64 m, .int .i64 d] 120) = w2 at k0 k1 k2 k3 k4 ⊢
  generalize w1.heap.size = g at k0 k1 k2 k3 ⊢
  clear hb
  go_region_held3 (fun w' => w'.cell? ⟨g, 0, none⟩ = some (.int .i64 y) ∧ w'.cell? ⟨g, 1, none⟩ = some (.int .i64 m) ∧ w'.cell? ⟨g, 2, none⟩ = some (.int .i64 d) ∧ g < w'.heap.size ∧ Below w.heap.size w w')
    (first | assumption | (refine ⟨?_, ?_, ?_, ?_, ?_⟩ <;> first | assumption | exact Below.drew (by assumption)))
    (first | (go_at_call 52; refine (digits_keep (w0 := w) (g := g) (x := .int .i64 y) (y := .int .i64 m) (z := .int .i64 d) y yb1 yb2 ?_).mono ?_; assumption; rintro e w' ⟨s, rfl, hs, hsz, kk1⟩; have z1 : ¬ 9223372036854775807 < s.size + 1 := by omega) | (go_at_call_of 57 (Value.int IntKind.i64 m); refine (two_keep (w0 := w) (g := g) (x := .int .i64 y) (y := .int .i64 m) (z := .int .i64 d) m mb1 mb2 ?_).mono ?_; assumption; rintro e w' ⟨sm, rfl, hsm, hszm, kk2⟩; have z2 : ¬ 9223372036854775807 < s.size + 1 + sm.size := (by omega); have z3 : ¬ 9223372036854775807 < s.size + 1 + sm.size + 1 := (by omega)) | (go_at_call_of 57 (Value.int IntKind.i64 d); refine (two_keep (w0 := w) (g := g) (x := .int .i64 y) (y := .int .i64 m) (z := .int .i64 d) d db1 db2 ?_).mono ?_; assumption; rintro e w' ⟨sd, rfl, hsd, hszd, kk3⟩; have z4 : ¬ 9223372036854775807 < s.size + 1 + sm.size + 1 + sd.size := (by omega)))
  all_goals
    go_wp2
    go_ret
    refine ⟨?_, kk3.2.2.2.2⟩
    rw [HS.out, hs.out, hsm.out, hsd.out]; rfl
end Go.Proofs.Ytcdlajlhkblkmaa.PReportSigns
