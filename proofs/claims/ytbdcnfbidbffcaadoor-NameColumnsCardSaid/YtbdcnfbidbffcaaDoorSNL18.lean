/- NameColumns holds (the tied card): whatever text and number of columns come in, what is fitted takes just so many columns, and begins as the text does. Conditions: the library's listed tables start as the program's text lays them. -/
import Derived.Test.YtbdcnfbidbffcaaDoorSNL17
import Derived.Lib.DecodeN
import Derived.Lib.RuneBytes
import Derived.Lib.TrimUEq
import Derived.Lib.SlicesS
import Derived.OpenShut
import Derived.Test.YtbdcnfbidbffcaaDoorSNL16
import Derived.Test.YtbdcnfbidbffcaaDoorRows
import Derived.ProofKit
import Derived.LaidMore
import Derived.ShutString
import Derived.SizedLaws
import Derived.Lib.LaidU8
import Derived.Deep.DeepLaidRun
import Derived.Test.YtbdcnfbidbffcaaDoorTie
import Derived.Test.YtbdcnfbidbffcaaDoorCards

set_option linter.unusedVariables false
set_option linter.unusedSimpArgs false
/- How wide a text is behind name.Fit (plain). -/
set_option linter.unusedSimpArgs false
set_option linter.unusedVariables false
namespace Go.Proofs.YtbdcnfbidbffcaaDoor.NM
open Go Go.RowKit Go.NM Go.Proofs
/-- A sign whose bytes lie ahead of a place is read alike where a text ends there, or goes on with a byte below 128. -/
theorem dec_pre (n n' m b0 b1 b2 b3 c1 c2 c3 : Nat) (h1 : 1 ≤ m) (hn : m ≤ n) (hn' : m ≤ n') (e1 : 1 < m → c1 = b1) (e2 : 2 < m → c2 = b2) (e3 : 3 < m → c3 = b3)
    (z1 : m = 1 → n' = 1 ∨ c1 < 128) (z2 : m = 2 → n' = 2 ∨ c2 < 128) (z3 : m = 3 → n' = 3 ∨ c3 < 128) (hw : (Lib.decodeN n b0 b1 b2 b3).2 ≤ m) :
    Lib.decodeN n' b0 c1 c2 c3 = Lib.decodeN n b0 b1 b2 b3 := by
  unfold Lib.decodeN at *
  by_cases r0 : b0 < 128
  · rw [if_pos r0, if_pos r0]
  rw [if_neg r0] at hw
  rw [if_neg r0, if_neg r0]
  have hm : m = 1 ∨ m = 2 ∨ m = 3 ∨ 4 ≤ m := by omega
  rcases hm with rfl | rfl | rfl | hm
  · have k1 : ¬ (1 < n' ∧ c1 / 64 = 2) := by have := z1 rfl; omega
    rw [if_neg (fun h => k1 h.2), if_neg (fun h => k1 h.2.1), if_neg (fun h => k1 h.2.1)]
    by_cases r1 : b0 / 32 = 6 ∧ (1 < n ∧ b1 / 64 = 2)
    · rw [if_pos r1] at hw ⊢
      by_cases r2 : b0 % 32 * 64 + b1 % 64 ≥ 128
      · rw [if_pos r2] at hw; exact absurd (show 2 ≤ 1 from hw) (by decide)
      · rw [if_neg r2]
    rw [if_neg r1] at hw ⊢
    by_cases r3 : b0 / 16 = 14 ∧ (1 < n ∧ b1 / 64 = 2) ∧ (2 < n ∧ b2 / 64 = 2)
    · rw [if_pos r3] at hw ⊢
      split at hw
      · exact absurd (show 3 ≤ 1 from hw) (by decide)
      · rename_i r4; rw [if_neg r4]
    rw [if_neg r3] at hw ⊢
    by_cases r5 : b0 / 8 = 30 ∧ (1 < n ∧ b1 / 64 = 2) ∧ (2 < n ∧ b2 / 64 = 2) ∧ (3 < n ∧ b3 / 64 = 2)
    · rw [if_pos r5] at hw ⊢
      split at hw
      · exact absurd (show 4 ≤ 1 from hw) (by decide)
      · rename_i r6; rw [if_neg r6]
    rw [if_neg r5]
  · have k1 : (1 < n' ∧ c1 / 64 = 2) = (1 < n ∧ b1 / 64 = 2) := by rw [e1 (by omega)]; exact propext ⟨fun h => ⟨by omega, h.2⟩, fun h => ⟨by omega, h.2⟩⟩
    have k2 : ¬ (2 < n' ∧ c2 / 64 = 2) := by have := z2 rfl; omega
    simp only [k1]
    rw [e1 (by omega), if_neg (fun h : b0 / 16 = 14 ∧ _ => k2 h.2.2), if_neg (fun h : b0 / 8 = 30 ∧ _ => k2 h.2.2.1)]
    by_cases r1 : b0 / 32 = 6 ∧ (1 < n ∧ b1 / 64 = 2)
    · rw [if_pos r1, if_pos r1]
    rw [if_neg r1] at hw
    rw [if_neg r1, if_neg r1]
    by_cases r3 : b0 / 16 = 14 ∧ (1 < n ∧ b1 / 64 = 2) ∧ (2 < n ∧ b2 / 64 = 2)
    · rw [if_pos r3] at hw ⊢
      split at hw
      · exact absurd (show 3 ≤ 2 from hw) (by decide)
      · rename_i r4; rw [if_neg r4]
    rw [if_neg r3] at hw ⊢
    by_cases r5 : b0 / 8 = 30 ∧ (1 < n ∧ b1 / 64 = 2) ∧ (2 < n ∧ b2 / 64 = 2) ∧ (3 < n ∧ b3 / 64 = 2)
    · rw [if_pos r5] at hw ⊢
      split at hw
      · exact absurd (show 4 ≤ 2 from hw) (by decide)
      · rename_i r6; rw [if_neg r6]
    rw [if_neg r5]
  · have k1 : (1 < n' ∧ c1 / 64 = 2) = (1 < n ∧ b1 / 64 = 2) := by rw [e1 (by omega)]; exact propext ⟨fun h => ⟨by omega, h.2⟩, fun h => ⟨by omega, h.2⟩⟩
    have k2 : (2 < n' ∧ c2 / 64 = 2) = (2 < n ∧ b2 / 64 = 2) := by rw [e2 (by omega)]; exact propext ⟨fun h => ⟨by omega, h.2⟩, fun h => ⟨by omega, h.2⟩⟩
    have k3 : ¬ (3 < n' ∧ c3 / 64 = 2) := by have := z3 rfl; omega
    simp only [k1, k2]
    rw [e1 (by omega), e2 (by omega), if_neg (fun h : b0 / 8 = 30 ∧ _ => k3 h.2.2.2)]
    by_cases r1 : b0 / 32 = 6 ∧ (1 < n ∧ b1 / 64 = 2)
    · rw [if_pos r1, if_pos r1]
    rw [if_neg r1] at hw
    rw [if_neg r1, if_neg r1]
    by_cases r3 : b0 / 16 = 14 ∧ (1 < n ∧ b1 / 64 = 2) ∧ (2 < n ∧ b2 / 64 = 2)
    · rw [if_pos r3, if_pos r3]
    rw [if_neg r3] at hw
    rw [if_neg r3, if_neg r3]
    by_cases r5 : b0 / 8 = 30 ∧ (1 < n ∧ b1 / 64 = 2) ∧ (2 < n ∧ b2 / 64 = 2) ∧ (3 < n ∧ b3 / 64 = 2)
    · rw [if_pos r5] at hw ⊢
      split at hw
      · exact absurd (show 4 ≤ 3 from hw) (by decide)
      · rename_i r6; rw [if_neg r6]
    rw [if_neg r5]
  · have k1 : (1 < n' ∧ c1 / 64 = 2) = (1 < n ∧ b1 / 64 = 2) := by rw [e1 (by omega)]; exact propext ⟨fun h => ⟨by omega, h.2⟩, fun h => ⟨by omega, h.2⟩⟩
    have k2 : (2 < n' ∧ c2 / 64 = 2) = (2 < n ∧ b2 / 64 = 2) := by rw [e2 (by omega)]; exact propext ⟨fun h => ⟨by omega, h.2⟩, fun h => ⟨by omega, h.2⟩⟩
    have k3 : (3 < n' ∧ c3 / 64 = 2) = (3 < n ∧ b3 / 64 = 2) := by rw [e3 (by omega)]; exact propext ⟨fun h => ⟨by omega, h.2⟩, fun h => ⟨by omega, h.2⟩⟩
    simp only [k1, k2, k3]
    rw [e1 (by omega), e2 (by omega), e3 (by omega)]
theorem dec_same (s t : ByteArray) (q pos : Nat) (hs : q ≤ s.size) (ht : q ≤ t.size) (hb : ∀ i, i < q → t.get! i = s.get! i) (he : t.size = q ∨ (t.get! q).toNat < 128) (hp : pos < q) (hw : pos + (Utf8.decode s pos).2 ≤ q) :
    Utf8.decode t pos = Utf8.decode s pos := by
  rw [Lib.decode_at] at hw
  rw [Lib.decode_at, Lib.decode_at, hb pos hp]
  refine dec_pre (s.size - pos) (t.size - pos) (q - pos) _ _ _ _ _ _ _ (by omega) (by omega) (by omega) (fun h => by rw [hb (pos + 1) (by omega)]) (fun h => by rw [hb (pos + 2) (by omega)]) (fun h => by rw [hb (pos + 3) (by omega)]) ?_ ?_ ?_ (by omega)
  · intro h
    have e : pos + 1 = q := by omega
    rw [e]; exact he.imp (fun h => by omega) id
  · intro h
    have e : pos + 2 = q := by omega
    rw [e]; exact he.imp (fun h => by omega) id
  · intro h
    have e : pos + 3 = q := by omega
    rw [e]; exact he.imp (fun h => by omega) id
theorem sg_fuel (s : ByteArray) : ∀ (f g pos : Nat), s.size ≤ pos + f → s.size ≤ pos + g → sg s f pos = sg s g pos
  | 0, g, pos, h, _ => by rw [sg_end s 0 pos (by omega), sg_end s g pos (by omega)]
  | f + 1, g, pos, h, h2 => by
    by_cases hp : pos < s.size
    · obtain ⟨g, rfl⟩ : ∃ g', g = g' + 1 := ⟨g - 1, by omega⟩
      have := width_pos s pos hp
      rw [sg_step s f pos hp, sg_step s g pos hp, sg_fuel s f g _ (by omega) (by omega)]
    · rw [sg_end s _ pos hp, sg_end s _ pos hp]
/-- The columns from a place on. -/
def Wt (s : ByteArray) (pos : Nat) : Int := sumW (sg s (s.size - pos) pos)
theorem Wt_fuel (s : ByteArray) (f pos : Nat) (h : s.size ≤ pos + f) : sumW (sg s f pos) = Wt s pos := by
  unfold Wt
  rw [sg_fuel s f (s.size - pos) pos h (by omega)]
theorem Wt_step (s : ByteArray) (pos : Nat) (h : pos < s.size) : Wt s pos = wdN (Utf8.decode s pos).1 + Wt s (pos + (Utf8.decode s pos).2) := by
  have hw := width_pos s pos h
  rw [← Wt_fuel s (s.size - pos) pos (by omega), ← Wt_fuel s (s.size - pos - 1) (pos + (Utf8.decode s pos).2) (by omega)]
  obtain ⟨f, hf⟩ : ∃ f, s.size - pos = f + 1 := ⟨s.size - pos - 1, by omega⟩
  rw [hf, sg_step s f pos h, sumW, Nat.add_sub_cancel]
theorem Wt_end (s : ByteArray) (pos : Nat) (h : ¬ pos < s.size) : Wt s pos = 0 := by
  unfold Wt
  rw [sg_end s _ pos h, sumW]
theorem width_Wt (s : ByteArray) : widthS s = Wt s 0 := Wt_fuel s s.size 0 (by omega)
theorem decode_in (s : ByteArray) (pos : Nat) (h : pos < s.size) : pos + (Utf8.decode s pos).2 ≤ s.size := by
  rw [Lib.decode_at]
  have : (Lib.decodeN (s.size - pos) (s.get! pos).toNat (s.get! (pos + 1)).toNat (s.get! (pos + 2)).toNat (s.get! (pos + 3)).toNat).2 ≤ s.size - pos := by
    have h1 : 1 ≤ s.size - pos := by omega
    generalize s.size - pos = n at *
    unfold Lib.decodeN
    repeat' split
    all_goals (simp only; omega)
  omega
/-- A whole text, and what stands behind it. -/
theorem Wt_all (s t : ByteArray) (ht : s.size ≤ t.size) (hb : ∀ i, i < s.size → t.get! i = s.get! i) (he : t.size = s.size ∨ (t.get! s.size).toNat < 128) :
    ∀ (f pos : Nat), pos ≤ s.size → s.size ≤ pos + f → Wt t pos = Wt s pos + Wt t s.size
  | 0, pos, h, hf => by
    have e : pos = s.size := by omega
    subst e
    rw [Wt_end s s.size (by omega)]; omega
  | f + 1, pos, h, hf => by
    by_cases hp : pos < s.size
    · have hi := decode_in s pos hp
      have hw := width_pos s pos hp
      rw [Wt_step t pos (by omega), Wt_step s pos hp, dec_same s t s.size pos (Nat.le_refl _) ht hb he hp hi, Wt_all s t ht hb he f _ hi (by omega)]
      omega
    · have e : pos = s.size := by omega
      subst e
      rw [Wt_end s s.size (by omega)]; omega
/-- The first signs of a text that fit, and what stands behind them. -/
theorem Wt_cut (s : ByteArray) (m : Int) : ∀ (f pos : Nat) (n : Int), s.size ≤ pos + f → n ≤ m → m < n + Wt s pos →
    n ≤ (cutW m (sg s f pos) n).1 ∧ (cutW m (sg s f pos) n).1 ≤ m ∧ pos ≤ (cutW m (sg s f pos) n).2 ∧ (cutW m (sg s f pos) n).2 < s.size ∧
    ∀ t : ByteArray, (cutW m (sg s f pos) n).2 ≤ t.size → (∀ i, i < (cutW m (sg s f pos) n).2 → t.get! i = s.get! i) → (t.size = (cutW m (sg s f pos) n).2 ∨ (t.get! (cutW m (sg s f pos) n).2).toNat < 128) →
      Wt t pos = ((cutW m (sg s f pos) n).1 - n) + Wt t (cutW m (sg s f pos) n).2
  | 0, pos, n, hf, hn, hm => by rw [Wt_end s pos (by omega)] at hm; omega
  | f + 1, pos, n, hf, hn, hm => by
    by_cases hp : pos < s.size
    · rw [sg_step s f pos hp, cutW]
      by_cases hc : m < n + wdN (Utf8.decode s pos).1
      · rw [if_pos hc]
        exact ⟨Int.le_refl _, hn, Nat.le_refl _, hp, fun t _ _ _ => by show Wt t pos = (n - n) + Wt t pos; omega⟩
      · rw [if_neg hc]
        have hw := width_pos s pos hp
        have hst := Wt_step s pos hp
        have hle := wdN_le (Utf8.decode s pos).1
        obtain ⟨i1, i2, i3, i4, i5⟩ := Wt_cut s m f (pos + (Utf8.decode s pos).2) (n + wdN (Utf8.decode s pos).1) (by omega) (by omega) (by omega)
        refine ⟨by omega, i2, by omega, i4, fun t h1 h2 h3 => ?_⟩
        have hd := dec_same s t _ pos (Nat.le_of_lt i4) h1 h2 h3 (by omega) (by omega)
        rw [Wt_step t pos (by omega), hd, i5 t h1 h2 h3]
        omega
    · rw [Wt_end s pos hp] at hm; omega
theorem wd_ascii (c : Nat) (h : 32 ≤ c) (h2 : c < 127) : wdN c = 1 := by
  unfold wdN w0 w1 w2 w3 w4 w5
  rw [if_neg (by omega), if_neg (by omega), if_neg (by omega), if_neg (by omega), if_neg (by omega), if_neg (by omega), if_neg (by omega)]
theorem Wt_ascii (t : ByteArray) : ∀ (f pos : Nat), pos ≤ t.size → t.size ≤ pos + f → (∀ i, pos ≤ i → i < t.size → 32 ≤ (t.get! i).toNat ∧ (t.get! i).toNat < 127) → Wt t pos = (t.size : Int) - pos
  | 0, pos, h, hf, _ => by rw [Wt_end t pos (by omega)]; omega
  | f + 1, pos, h, hf, ha => by
    by_cases hp : pos < t.size
    · obtain ⟨a1, a2⟩ := ha pos (Nat.le_refl _) hp
      have hd : Utf8.decode t pos = ((t.get! pos).toNat, 1) := by
        rw [Lib.decode_at]
        unfold Lib.decodeN
        rw [if_pos (by omega)]
      rw [Wt_step t pos hp, hd]
      show wdN ((t.get! pos).toNat : Nat) + Wt t (pos + 1) = _
      rw [wd_ascii _ a1 a2, Wt_ascii t f (pos + 1) (by omega) (by omega) (fun i h1 h2 => ha i (by omega) h2)]
      omega
    · rw [Wt_end t pos hp]; omega
theorem get_of (s : ByteArray) (i : Nat) : s.get! i = s.data.toList.getD i 0 := (Lib.getD_get!' s i).symm
theorem rep_get : ∀ (k i : Nat), i < k → (Lib.repeatL [32] k).getD i 0 = 32
  | 0, i, h => by omega
  | k + 1, 0, h => rfl
  | k + 1, i + 1, h => by
    show (Lib.repeatL [32] k).getD i 0 = 32
    exact rep_get k i (by omega)
theorem bl_list (k : Nat) : (blanksT k).data.toList = Lib.repeatL [32] k := by
  show (Lib.repeatL [32] k).toArray.toList = _
  rw [List.toList_toArray]
theorem app_list (a b : ByteArray) : (a ++ b).data.toList = a.data.toList ++ b.data.toList := by simp
theorem app_size (a b : ByteArray) : (a ++ b).size = a.size + b.size := by
  rw [Lib.size_eq, app_list, List.length_append, ← Lib.size_eq, ← Lib.size_eq]
theorem app_get (a b : ByteArray) (i : Nat) (h : i < a.size) : (a ++ b).get! i = a.get! i := by
  rw [get_of, get_of, app_list, List.getD_eq_getElem?_getD, List.getD_eq_getElem?_getD, List.getElem?_append_left (by rw [← Lib.size_eq]; exact h)]
theorem app_get2 (a b : ByteArray) (i : Nat) (h : a.size ≤ i) : (a ++ b).get! i = b.get! (i - a.size) := by
  have hs := Lib.size_eq a
  rw [get_of, get_of, app_list, List.getD_eq_getElem?_getD, List.getD_eq_getElem?_getD, List.getElem?_append_right (by omega), hs]
theorem bl_get (k i : Nat) (h : i < k) : ((blanksT k).get! i).toNat = 32 := by
  rw [get_of, bl_list, rep_get k i h]; rfl
set_option maxHeartbeats 2000000 in
/-- What is fitted takes just so many columns. -/
theorem fit_width (s : ByteArray) (wd : Int) (h0 : 0 ≤ wd) (h1 : wd ≤ 4096) : widthS (fitS s wd) = wd := by
  have hnn := sumW_nn (signs s)
  change 0 ≤ widthS s at hnn
  unfold fitS
  rw [if_neg (by omega)]
  by_cases h2 : widthS s ≤ wd
  · rw [if_pos h2]
    obtain ⟨k, hk⟩ : ∃ k : Nat, wd - widthS s = (k : Int) := ⟨(wd - widthS s).toNat, by omega⟩
    rw [hk, show ((k : Nat) : Int).toNat = k from rfl]
    have hz : (s ++ blanksT k).size = s.size + k := by rw [app_size, blanks_size]
    have ha := Wt_all s (s ++ blanksT k) (by omega) (fun i h => app_get s _ i h) (by
      by_cases hk0 : k = 0
      · left; omega
      · right
        rw [app_get2 s _ s.size (Nat.le_refl _), Nat.sub_self, bl_get k 0 (by omega)]
        decide) s.size 0 (Nat.zero_le _) (by omega)
    have hb := Wt_ascii (s ++ blanksT k) k s.size (by omega) (by omega) (fun i g1 g2 => by
      rw [app_get2 s _ i g1, bl_get k _ (by omega)]; decide)
    rw [width_Wt, ha, hb, ← width_Wt, hz]
    omega
  rw [if_neg h2]
  by_cases h3 : wd = 0
  · rw [if_pos h3, h3]; rfl
  rw [if_neg h3]
  obtain ⟨c1, c2, c3, c4, c5⟩ := Wt_cut s (wd - 1) s.size 0 0 (by omega) (by omega) (by rw [← width_Wt]; omega)
  change _ ≤ (cutW (wd - 1) (signs s) 0).1 at c1
  change (cutW (wd - 1) (signs s) 0).1 ≤ _ at c2
  change (cutW (wd - 1) (signs s) 0).2 < _ at c4
  generalize hq : cutW (wd - 1) (signs s) 0 = v at *
  have hq' : cutW (wd - 1) (sg s s.size 0) 0 = v := hq
  rw [hq'] at c5
  obtain ⟨n, q⟩ := v
  simp only at *
  obtain ⟨k, hk⟩ : ∃ k : Nat, wd - 1 - n = (k : Int) := ⟨(wd - 1 - n).toNat, by omega⟩
  rw [hk, show ((k : Nat) : Int).toNat = k from rfl]
  have hes : (s.extract 0 q).size = q := by rw [ByteArray.size_extract]; omega
  have hds : (⟨#[46]⟩ : ByteArray).size = 1 := rfl
  have hz1 : (s.extract 0 q ++ ⟨#[46]⟩).size = q + 1 := by rw [app_size, hes, hds]
  have hz : (s.extract 0 q ++ ⟨#[46]⟩ ++ blanksT k).size = q + 1 + k := by rw [app_size, hz1, blanks_size]
  have g0 : ∀ i, i < q → (s.extract 0 q ++ ⟨#[46]⟩ ++ blanksT k).get! i = s.get! i := by
    intro i hi
    rw [app_get _ _ i (by omega), app_get _ _ i (by omega), get_of, get_of, ByteArray.data_extract, Array.toList_extract]
    simp [List.getD_eq_getElem?_getD, List.getElem?_take, hi]
  have g1 : ((s.extract 0 q ++ ⟨#[46]⟩ ++ blanksT k).get! q).toNat = 46 := by
    rw [app_get _ _ q (by omega), app_get2 _ _ q (by omega), hes, Nat.sub_self]
    rfl
  have ha := c5 (s.extract 0 q ++ ⟨#[46]⟩ ++ blanksT k) (by omega) g0 (.inr (by rw [g1]; decide))
  have hb := Wt_ascii (s.extract 0 q ++ ⟨#[46]⟩ ++ blanksT k) (k + 1) q (by omega) (by omega) (fun i h1 h2 => by
    by_cases e : i = q
    · subst e; rw [g1]; decide
    · rw [app_get2 _ _ i (by omega), hz1, bl_get k _ (by omega)]; decide)
  rw [width_Wt, ha, hb, hz]
  omega
/-- A text that fits stands ahead of what is fitted. -/
theorem fit_pre (s : ByteArray) (wd : Int) (h1 : wd ≤ 4096) (h2 : widthS s ≤ wd) : s.size ≤ (fitS s wd).size ∧ ∀ i, i < s.size → (fitS s wd).get! i = s.get! i := by
  have hnn := sumW_nn (signs s)
  change 0 ≤ widthS s at hnn
  unfold fitS
  rw [if_neg (by omega), if_pos h2]
  exact ⟨by rw [app_size]; omega, fun i h => app_get s _ i h⟩
end Go.Proofs.YtbdcnfbidbffcaaDoor.NM

/- The law NameColumns walked. -/
set_option linter.unusedSimpArgs false
set_option linter.unusedVariables false
namespace Go.Proofs.YtbdcnfbidbffcaaDoor.NM
open Go Go.RowKit Go.NM Go.Proofs Go.Proofs.YtbdcnfbidbffcaaDoor.PL Go.Proofs.YtbdcnfbidbffcaaDoorW.PrintWords
theorem bt_eq (s : ByteArray) (x : Int) (h : x.toNat < s.size) : bt s x = ((s.get! x.toNat).toNat : Int) := by
  unfold bt
  rw [dif_pos h]
  cases s with
  | mk d =>
    show (((d[x.toNat]'h).toNat : Nat) : Int) = ((d[x.toNat]!).toNat : Nat)
    rw [getElem!_pos d x.toNat h]
theorem fit_size (s : ByteArray) (wd : Int) (h0 : 0 ≤ wd) (h1 : wd ≤ 4096) (hs : s.size ≤ 100000) : (fitS s wd).size ≤ 200000 := by
  have hnn := sumW_nn (signs s)
  change 0 ≤ widthS s at hnn
  unfold fitS
  split
  · exact Nat.zero_le _
  split
  · rw [app_size, blanks_size]; omega
  split
  · exact Nat.zero_le _
  · have hm : ∀ (l : List (Nat × Nat)) (n m : Int), n ≤ m + 1 → 0 ≤ n → 0 ≤ (cutW m l n).1 := by
      intro l
      induction l with
      | nil => intro n m _ h; exact h
      | cons a l ih =>
        intro n m h1 h2
        obtain ⟨c, p⟩ := a
        rw [cutW]
        have := wdN_le c
        split
        · exact h2
        · exact ih _ _ (by omega) (by omega)
    have hc := hm (signs s) 0 (wd - 1) (by omega) (by omega)
    have he := extract_le s 0 (cutW (wd - 1) (signs s) 0).2
    have hd : (⟨#[46]⟩ : ByteArray).size = 1 := rfl
    rw [app_size, app_size, blanks_size, hd]
    omega
theorem below_trans4 {w wr W : World} (h : Below w.heap.size w wr) (h2 : Below wr.drew.heap.size wr.drew W) : Below w.heap.size w W := h.drew.trans (h2.mono h.drew.size)
set_option maxHeartbeats 1000000 in
set_option maxRecDepth 1000000 in
theorem columns_walk (s : ByteArray) (n : Int) (w : World) (hn : (Lit.int .u8 n).wf = true) (hE : Env w) : Calls Tryd.prog 5 #[.string s, .int .u8 n] w fun e w' => e = .returned (.bool true) ∧ Below w.heap.size w w' := by
  obtain ⟨n0, n1⟩ := bounds_u8 hn
  by_cases h1 : s.size > 1000
  · have d1 : decide (1000 < s.size) = true := decide_eq_true h1
    have d1' : decide ((1000 : Int) < (s.size : Int)) = true := decide_eq_true (by omega)
    go_enter Tryd.func5, Tryd.ntmps5
    go_wp2_with (first | (go_at_call 11; refine (awake_walk _ (by exact hE)).mono ?_; rintro e W3 ⟨rfl, b3⟩))
    go_ret
    exact ⟨rfl, b3⟩
  have d1 : decide (1000 < s.size) = false := decide_eq_false h1
  have d1' : decide ((1000 : Int) < (s.size : Int)) = false := decide_eq_false (by omega)
  have fw := fit_width s n n0 (by omega)
  have fp := fit_pre s n (by omega)
  have fz := fit_size s n n0 (by omega) (by omega)
  have c1 : ∀ w, Calls Tryd.prog 16 #[.string s, .int .i64 n] w fun e w' => e = .returned (.string (fitS s n)) ∧ Below w.heap.size w w' := fun w => Fit_walk s n w (by omega)
  have c2 : ∀ w, Calls Tryd.prog 17 #[.string (fitS s n)] w fun e w' => e = .returned (.int .i64 n) ∧ Below w.heap.size w w' := fun w => by
    have h := width_walk (fitS s n) w (by omega)
    rw [fw] at h
    exact h
  have c3 := fun w => width_walk s w (by omega)
  clear fw
  generalize fitS s n = t at *
  have nn : (n != n) = false := bne_eq_false_iff_eq.2 rfl
  have nw : wrap64 n = n := w64 n (by omega)
  have hkey : n < widthS s ∨ (s.size ≤ t.size ∧ ∀ i, i < s.size → t.get! i = s.get! i) := by
    by_cases h : widthS s ≤ n
    · exact .inr (fp h)
    · exact .inl (by omega)
  clear fp
  generalize widthS s = W at *
  have hst : s.size ≤ 1000 := by omega
  have HK := Aside0.mk hkey
  have HZ := Aside0.mk (And.intro hst fz)
  clear hkey hst fz n0 n1
  go_enter Tryd.func5, Tryd.ntmps5
  go_wp2_with (first
    | (have Y := b1; go_at_call 17; refine (c2 _).mono ?_; rintro e W2 ⟨rfl, b2⟩; have B2 := b1.trans (b2.mono b1.size))
    | (go_at_call 16; refine (c1 _).mono ?_; rintro e W1 ⟨rfl, b1⟩))
  go_loopg [6] (s.size + 1) (fun kq v6 w' => ∃ x : Int, v6 = .int .i64 x ∧ Aside0 (0 ≤ x ∧ x ≤ (s.size : Int) ∧ (s.size : Int) + 1 ≤ x + kq) ∧ Aside0 (Below w.heap.size w w'))
  case atStart => exact ⟨0, rfl, ⟨by omega⟩, ⟨B2⟩⟩
  case round =>
    obtain ⟨x, rfl, HX, HB⟩ := hrel
    obtain ⟨x0, x1, x2⟩ := HX.out
    cases gk with
    | zero => omega
    | succ k1 =>
      have p6 : (0 ≤ x) = True := eq_true x0
      have d0 : decide (0 ≤ x) = true := decide_eq_true x0
      have fin : ∀ (P : Prop), (¬ x < (s.size : Int) ∨ ¬ x < (t.size : Int) ∨ (x < (s.size : Int) ∧ x < (t.size : Int) ∧ bt s x ≠ bt t x)) → ((decide (n < W) = true ∨ (decide (n < W) = false ∧ (x == (s.size : Int)) = true)) → P) → P := by
        intro P h hP
        refine hP ?_
        by_cases hW : n < W
        · exact .inl (decide_eq_true hW)
        · obtain ⟨g1, g2⟩ := HK.out.resolve_left hW
          refine .inr ⟨decide_eq_false hW, beq_iff_eq.2 ?_⟩
          rcases h with h | h | ⟨h, h', h''⟩
          · omega
          · omega
          · have e := g2 x.toNat (by omega)
            rw [bt_eq s x (by omega), bt_eq t x (by omega), e] at h''
            exact absurd rfl h''
      by_cases a1 : x < (s.size : Int)
      · have q1 : decide (x < (s.size : Int)) = true := decide_eq_true a1
        have hx6 := bt_at s x
        by_cases a2 : x < (t.size : Int)
        · have q2 : decide (x < (t.size : Int)) = true := decide_eq_true a2
          have hy6 := bt_at t x
          have r1 : (x < (s.size : Int)) = True := eq_true a1
          have r2 : (x < (t.size : Int)) = True := eq_true a2
          by_cases a3 : bt s x = bt t x
          · have q3 : (bt s x == bt t x) = true := beq_iff_eq.2 a3
            have hwr : wrap64 (x + 1) = x + 1 := w64 _ (by omega)
            have KX : 0 ≤ x + 1 ∧ x + 1 ≤ (s.size : Int) ∧ (s.size : Int) + 1 ≤ x + 1 + (k1 : Int) := by omega
            clear fin a1 a2 a3 x0 x1 x2 HX
            go_wp2
            go_region
            go_wp2
            go_roundg k1
            case measure => omega
            case rel => exact ⟨x + 1, rfl, ⟨KX⟩, ⟨by repeat (first | (with_reducible first | exact HB.out | apply below_alloc | apply pw_below_drewN | apply below_drew1) | exact HB.out)⟩⟩
          · have q3 : (bt s x == bt t x) = false := beq_eq_false_iff_ne.2 a3
            refine fin _ (.inr (.inr ⟨a1, a2, a3⟩)) ?_
            clear fin a1 a2 a3 x0 x1 x2 HX
            rintro (d3 | ⟨d3, d4⟩)
            all_goals (
              go_wp2
              go_region
              go_wp2_with (first
                | (have Y := B3; go_at_call 11; refine (awake_walk _ (hE.below B3)).mono ?_; rintro e W4 ⟨rfl, b4⟩; have B4 := B3.trans (b4.mono B3.size))
                | (go_at_call 17; refine (c3 _).mono ?_; rintro e W3 ⟨rfl, b3⟩; have B3 := (below_trans4 HB.out b3)))
              go_ret
              exact ⟨rfl, B4⟩)
        · have q2 : decide (x < (t.size : Int)) = false := decide_eq_false a2
          have r1 : (x < (s.size : Int)) = True := eq_true a1
          refine fin _ (.inr (.inl a2)) ?_
          clear fin a1 a2 x0 x1 x2 HX
          rintro (d3 | ⟨d3, d4⟩)
          all_goals (
              go_wp2
              go_region
              go_wp2_with (first
                | (have Y := B3; go_at_call 11; refine (awake_walk _ (hE.below B3)).mono ?_; rintro e W4 ⟨rfl, b4⟩; have B4 := B3.trans (b4.mono B3.size))
                | (go_at_call 17; refine (c3 _).mono ?_; rintro e W3 ⟨rfl, b3⟩; have B3 := (below_trans4 HB.out b3)))
              go_ret
              exact ⟨rfl, B4⟩)
      · have q1 : decide (x < (s.size : Int)) = false := decide_eq_false a1
        refine fin _ (.inl a1) ?_
        clear fin a1 x0 x1 x2 HX
        rintro (d3 | ⟨d3, d4⟩)
        all_goals (
              go_wp2
              go_region
              go_wp2_with (first
                | (have Y := B3; go_at_call 11; refine (awake_walk _ (hE.below B3)).mono ?_; rintro e W4 ⟨rfl, b4⟩; have B4 := B3.trans (b4.mono B3.size))
                | (go_at_call 17; refine (c3 _).mono ?_; rintro e W3 ⟨rfl, b3⟩; have B3 := (below_trans4 HB.out b3)))
              go_ret
              exact ⟨rfl, B4⟩)
end Go.Proofs.YtbdcnfbidbffcaaDoor.NM

/- The row's frame: laid variables and the world's shape give Env. -/
set_option linter.unusedSimpArgs false
set_option linter.unusedVariables false
namespace Go.Proofs.YtbdcnfbidbffcaaDoor.NM
open Go Go.RowKit Go.Proofs
variable {H : Type} {enc : TypeId × Value → H}
theorem change_and_shaped {a : Assume} {C : Checked} {os : Os} {f : FuncId} {fn : Func} {s : ChangeSpec} {conds : List PathCond} {apart fresh handsOn again : Bool} {X : World → Array Value → Prop}
    (hX : ∀ (w w' : World) (args : Array Value), w.heap = w'.heap → X w args → X w' args)
    (own : ownKnob C.prog.godebug = none) (started : os.Started) (noInit : C.prog.inits.idxOf? f = none) (hfn : C.prog.funcs[f]? = some fn)
    (witness : ∃ (w : World) (tape : Tape) (i : Input), w.os = os ∧ (w.forCall tape i).Shaped C.prog ∧ i.vars = [] ∧ Input.okWide C.prog (w.forCall tape i) .any w.heap.size f i ∧
      ((s.pre enc C.prog fn conds apart (w.forCall tape i).memory i.args ∧ X (w.forCall tape i).memory i.args) ∧ sizedMet enc C.prog fn (OpenSpec.ofChange s) apart (w.forCall tape i).memory i.args) ∧ a.holds C.prog (lone (Frame.enter C.prog f i.args .normal) [] (w.forCall tape i)))
    (contract : ∀ (W : World) (base : Nat) (args : Array Value) (ds gs : List (DataW H)) (before : List MemPlace),
      (∀ (j : Nat) t v, fn.params[j]? = some t → args[j]? = some v → Value.okWide C.prog W .any base t v) →
      DataW.Whole enc C.prog fn.params.toList s.vars apart W args.toList ds gs before →
      X W args → W.ShapedOpen C.prog →
      Calls C.prog f args W fun e W' => ∃ v, e = .returned v ∧ s.post enc C.prog fn apart fresh handsOn again W args v W') :
    ReturnsInHanded a C os f .any (fun w args => (s.pre enc C.prog fn conds apart w args ∧ X w args) ∧ sizedMet enc C.prog fn (OpenSpec.ofChange s) apart w args) (s.post enc C.prog fn apart fresh handsOn again) := by
  refine returnsInHanded_of_calls own started noInit witness ?_
  intro w tape i _ hsh _ hok hpre hholds
  obtain ⟨_, _, _, fn', hfn', _, _, _, _, hval⟩ := hok
  have e : fn' = fn := Option.some.inj (hfn'.symm.trans hfn)
  subst e
  obtain ⟨⟨⟨ds, gs, before, hw, hc⟩, hx⟩, hz⟩ := hpre
  have hw' := DataW.Whole.of_heap (w' := w.forCall tape i) (by rfl) hw
  refine (contract (w.forCall tape i) w.heap.size i.args ds gs before hval hw' (hX _ _ _ (by rfl) hx) hsh).mono fun e W' ⟨v, he, hp⟩ => ?_
  subst he
  exact ChangeSpec.post_blind hp
theorem sp_data : (Rows.laid_strings_asciiSpace : DataW Unit) = Lib.tabData .u8 Lib.asciiSpaceTab := by kernel_rfl
theorem no_handles : (Rows.nameChecksRow.laid.all fun x => x.2.handleName?.isNone) = true := by kernel_rfl
theorem env_of {W : World} (hL : laidMetH Tryd.prog Rows.nameChecksRow.laid W) (hsh : W.ShapedOpen Tryd.prog) : Env W := by
  rw [MakeChecks.laidMetH_plain _ _ _ no_handles] at hL
  have hr := Lib.laidMet.reads hL (n := "strings.asciiSpace") (d := Rows.laid_strings_asciiSpace) (.tail _ (.tail _ (.head _)))
  rw [sp_data] at hr
  refine ⟨?_, Tryd.laysM146.s1_3 W hsh⟩
  obtain ⟨g, t, cs, fuel, p, hg, hty, hvar, hd⟩ := hr
  obtain rfl := Option.some.inj ((show Tryd.prog.globalNamed "strings.asciiSpace" = some 0 by kernel_rfl).symm.trans hg)
  obtain rfl := Option.some.inj ((show (Tryd.prog.globals[0]?).map (·.type) = some 75 by kernel_rfl).symm.trans hty)
  unfold Lib.TabIs
  rw [hvar, ← Lib.cells_of_tab Tryd.underlying75 Tryd.underlying5 (by kernel_rfl) (by kernel_rfl) hd]
end Go.Proofs.YtbdcnfbidbffcaaDoor.NM

namespace Go.Proofs.YtbdcnfbidbffcaaDoor.NM
open Go Go.RowKit Go.Proofs
/-- The witness: the settled world with two blocks more, the four variables holding what their initialisers lay. -/
noncomputable def laidWorld (os : Os) : World :=
  let N := (World.settled Tryd.prog os).heap.size
  let w0 := World.holding Tryd.prog os ⟨#[.cells (Lib.whiteT.map fun (z : Nat) => Value.int .u16 (z : Int)).toArray (Tryd.lays261_ren.t 198), .cells #[.slice (some ⟨N, 0, none⟩) 7 7, .slice none 0 0, .int .i64 2] (Tryd.lays261_ren.t 196)], #[], []⟩
  let put (h : Array Obj) (g : Nat) (cs : Array Value) : Array Obj := h.modify g fun
    | .cells _ t frozen => .cells cs t frozen
    | o => o
  { w0 with heap := put (put (put (put w0.heap 0 (Lib.asciiSpaceTab.map fun z => Value.int .u8 z).toArray) 3 (Lib.firstTab.map fun z => Value.int .u8 z).toArray)
      4 ((List.range 16).flatMap fun i => [Value.int .u8 (Lib.accLo i), Value.int .u8 (Lib.accHi i)]).toArray) 1 #[.pointer (some ⟨N + 1, 0, none⟩)] }
theorem door_met (os : Os) (args : Array Value) : laidMetH Tryd.prog Rows.nameChecksRow.laid ((laidWorld os).forCall (fun _ _ => 0) ⟨#[], args, []⟩).memory := by
  rw [MakeChecks.laidMetH_plain _ _ _ no_handles]
  exact laidMet_of_run3 10 (by kernel_rfl) (by kernel_rfl) (by kernel_rfl)
end Go.Proofs.YtbdcnfbidbffcaaDoor.NM

/- NameColumns holds (the row): whatever text and number of columns come in, what is fitted takes just so many columns, and begins as the text does. -/
namespace Go.Proofs.YtbdcnfbidbffcaaDoor.nameColumns
open Go Go.RowKit Go.ChangeShapes Go.WideShapes Go.ChangeAt Go.Proofs
open Go.ChangeMaps (open_string shut_string)
set_option linter.unusedVariables false
theorem laidOut : laidOutB Tryd.prog = true := by kernel_rfl
theorem own : ownKnob Tryd.prog.godebug = none := by kernel_rfl
theorem laid_eq : Rows.nameColumnsRow.laid = Rows.nameChecksRow.laid := rfl
set_option maxRecDepth 100000 in
theorem lifted (os : Os) (started : os.Started) (H : Type) (enc : TypeId × Value → H) :
    ReturnsInHanded {} Tryd.checked os 5 .any (fun w args => (Rows.nameColumnsSpec.pre enc Tryd.prog Tryd.f5 [] false w args ∧ laidMetH Tryd.prog Rows.nameColumnsRow.laid w) ∧ sizedMet enc Tryd.prog Tryd.f5 (OpenSpec.ofChange Rows.nameColumnsSpec) false w args)
      (Rows.nameColumnsSpec.post enc Tryd.prog Tryd.f5 false true false false) := by
  refine NM.change_and_shaped (C := Tryd.checked) (X := fun w _ => laidMetH Tryd.prog Rows.nameColumnsRow.laid w) (fun _ _ _ hh h => h.of_heap hh) own started (by kernel_rfl) Tryd.func5
    (ChangeSpec.witness_shaped (enc := enc) (C := Tryd.checked) (os := os) (X := fun w _ => laidMetH Tryd.prog Rows.nameColumnsRow.laid w) false (NM.laidWorld os) #[.string ByteArray.empty, .int .u8 0] 8 rfl (World.shaped_of_RefB (by kernel_rfl) (by kernel_rfl)) (by kernel_rfl) (by kernel_rfl) (by kernel_rfl) (by rw [laid_eq]; exact NM.door_met os _)) ?_
  intro W base args ds gs before hval0 hW hL hsh
  have hval : ∀ (j : Nat) t v, Tryd.f5.params[j]? = some t → args[j]? = some v → Value.okWide Tryd.prog W .any base t v := hval0
  have hW' := hW
  obtain ⟨p, q, hA0, hV, rfl, hfz, hnd⟩ := hW
  have hA : DataW.TrodAll enc Tryd.prog W 0 (fun _ => true) true Tryd.f5.params.toList args.toList ds p := hA0
  rw [Tryd.params5] at hA hval
  obtain ⟨v0, vs0, d0, ds0, p0, q0, hargs, rfl, rfl, h0, r0⟩ := trodAll_cons hA
  obtain ⟨v1, vs1, d1, ds1, p1, q1, rfl, rfl, rfl, h1, r1⟩ := trodAll_cons r0
  obtain ⟨rfl, rfl, rfl⟩ := trodAll_nil r1
  obtain rfl : args = #[v0, v1] := by cases args; simp_all
  obtain ⟨rfl, rfl⟩ := trodVars_none hV
  have k0 := h0
  have lt0 : ∀ x ∈ p0, x.block < W.heap.size := by obtain ⟨m, hm⟩ := k0; exact DataW.trod_lt m _ _ _ hm
  obtain ⟨x0, rfl, rfl, rfl, y0⟩ := open_string Tryd.underlying9 (hval 0 9 v0 rfl rfl) h0
  have k1 := h1
  have lt1 : ∀ x ∈ p1, x.block < W.heap.size := by obtain ⟨m, hm⟩ := k1; exact DataW.trod_lt m _ _ _ hm
  obtain ⟨x1, rfl, rfl, rfl, y1⟩ := open_int Tryd.underlying5 (hval 1 5 v1 rfl rfl) h1
  clear hA0 hval0
  have hE := NM.env_of (laid_eq ▸ hL) hsh
  refine (NM.columns_walk x0 x1 W y1 hE).mono fun e W' ⟨he, bel⟩ => ?_
  subst he
  exact ⟨_, rfl, _, _, _, [], _, [], hW', trodAll_mk1 (shut_bool Tryd.underlying4 _), (trodAll_cons_mk (Below.trod laidOut (by kernel_rfl) (of_decide_eq_true (by kernel_rfl)) k0 bel lt0) (trodAll_cons_mk (Below.trod laidOut (by kernel_rfl) (of_decide_eq_true (by kernel_rfl)) k1 bel lt1) trodAll_mk0)), rfl, bel.frame _, fun h => by cases h⟩
theorem over : Rows.NameColumnsSaid :=
  OpenClaim.holds_of_wide 5 Tryd.f5 rfl rfl rfl rfl rfl rfl rfl ⟨rfl, rfl, rfl, rfl, rfl⟩ rfl rfl rfl rfl rfl (by kernel_rfl) Tryd.func5 (by kernel_rfl)
    (of_decide_eq_true (by kernel_rfl)) (by unfold Func.isWrapper; first | (rw [if_pos (by decide +kernel)]; kernel_rfl) | (rw [if_neg (by decide +kernel)]; exact ⟨rfl, rfl⟩))
    (fun os started H enc _ => lifted os started H enc)
end Go.Proofs.YtbdcnfbidbffcaaDoor.nameColumns

namespace Go.Proofs.YtbdcnfbidbffcaaDoor
open Go
theorem nameColumns_holds : Rows.NameColumnsCardSaid :=
  Claim7.holds_tied_plain_at .later [] [.data, .listed, .data, .pinned] true (true, "832b96fbe1c870795fcee04c664b50ab1e904139e6756e501b0b00adef925e31") false
    nameColumns.over (fun _ h => by cases h) (by kernel_rfl) (fun _ h => by cases h) nameColumns_row_tie rfl ⟨rfl, rfl⟩ (by kernel_rfl) rfl
    (fun f fn hf hfn => by
      obtain rfl : f = 5 := Option.some.inj ((show Tryd.prog.funcNamed "lombard/lombardlaw04.NameColumns" = some 5 by kernel_rfl).symm.trans hf) |>.symm
      obtain rfl : fn = Tryd.f5 := (Option.some.inj (Tryd.func5.symm.trans hfn)).symm
      exact ⟨by kernel_rfl, fun j t ht => by
        rw [Tryd.params5] at ht
        have hm : t ∈ [9, 5] := by simpa using Array.mem_of_getElem? ht
        have hall : ([9, 5].all fun u => !Tryd.prog.wantsStandIn u) = true := by kernel_rfl
        exact (show Tryd.prog.wantsStandIn t = false by simpa using List.all_eq_true.1 hall t hm)⟩)
    (by kernel_rfl)
#print axioms nameColumns_holds
end Go.Proofs.YtbdcnfbidbffcaaDoor
