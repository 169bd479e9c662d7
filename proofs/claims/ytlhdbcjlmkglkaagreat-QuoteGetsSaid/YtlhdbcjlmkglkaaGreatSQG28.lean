/- Part 28 of the proof's texts: what the theorem needs of them. -/
import Derived.Test.YtlhdbcjlmkglkaaGreatSQG27

set_option linter.unusedVariables false
set_option linter.unusedSimpArgs false
/- slices.rotateCmpFunc at quotes. -/
set_option linter.unusedSimpArgs false
set_option linter.unusedVariables false
namespace Go.Proofs.YtlhdbcjlmkglkaaGreat.Q
open Go Go.RowKit Go.Proofs Go.Proofs.YtlhdbcjlmkglkaaGreat.PL Go.Proofs.YtlhdbcjlmkglkaaGreat.StN Go.Proofs.YtlhdbcjlmkglkaaGreatW.PrintWords
def rotL (m : Nat) : Nat → Nat → Nat → List S24 → List S24
  | 0, _, _, zs => zs
  | f + 1, i, j, zs => if i = j then swrL (m - i) m i 0 zs else if j < i then rotL m f (i - j) j (swrL (m - i) m j 0 zs) else rotL m f i (j - i) (swrL (m - i) (m + j - i) i 0 zs)
theorem rotL_len (m : Nat) : ∀ (f i j : Nat) (zs : List S24), (rotL m f i j zs).length = zs.length
  | 0, _, _, _ => rfl
  | f + 1, i, j, zs => by
    rw [rotL]
    split
    · rw [swrL_len]
    · split
      · rw [rotL_len m f, swrL_len]
      · rw [rotL_len m f, swrL_len]
theorem w2s (a b : Nat) (h : b ≤ a) (h2 : a ≤ 8000000) : wrap64 ((a : Int) - (b : Int)) = ((a - b : Nat) : Int) := by rw [w64 _ (by omega)]; omega
theorem w2t (a b : Nat) (h : b ≤ a) (h2 : a ≤ 8000000) : IntKind.i64.wrap ((a : Int) - (b : Int)) = ((a - b : Nat) : Int) := (IntWalk.i64_in _ (by omega)).trans (by omega)
set_option maxHeartbeats 400000 in
set_option maxRecDepth 1000000 in
theorem rot_any (V : Value) (B : Nat) (ok : Nat → Prop) (g c a m b : Nat) (xs : List S24) (w : World)
    (hR : Kd.R k24 24 w B ok (.slice (some ⟨g, 0, none⟩) xs.length c) xs) (hlen : xs.length ≤ 1000000) (ham : a < m) (hmb : m < b) (hb : b ≤ xs.length) :
    Calls Tryz.prog 126 #[.slice (some ⟨g, 0, none⟩) xs.length c, .int .i64 (a : Int), .int .i64 (m : Int), .int .i64 (b : Int), V] w fun e w' =>
      e = .returned (.tuple #[]) ∧ Kd.R k24 24 w' B ok (.slice (some ⟨g, 0, none⟩) xs.length c) (rotL m (m - a + (b - m)) (m - a) (b - m) xs) ∧ w.grownBy w' (some g) := by
  have hu24 := Tryz.underlying24
  have HR := Lib.hid hR
  obtain ⟨F, hF⟩ : ∃ F, rotL m (m - a + (b - m)) (m - a) (b - m) xs = F := ⟨_, rfl⟩
  rw [hF]
  have HF := Lib.hid hF
  have g0 := hlen
  have K0 : 0 < m - a ∧ 0 < b - m ∧ m - a ≤ m ∧ m + (b - m) ≤ xs.length := by omega
  have g1 : a ≤ m ∧ m ≤ 8000000 := by omega
  have g2 : m ≤ b ∧ b ≤ 8000000 := by omega
  have hwi := w2s m a g1.1 g1.2
  have hwik := w2t m a g1.1 g1.2
  have hwj := w2s b m g2.1 g2.2
  have hwjk := w2t b m g2.1 g2.2
  have HK0 := Lib.hid K0
  have HM := Lib.hid g1.2
  clear hR hF hlen ham hmb hb g1 g2 K0
  go_enter Tryz.func126, Tryz.ntmps126
  go_wp2_with (fail)
  go_loopg [10, 11] (m - a + (b - m)) (fun kq v10 v11 w' => ∃ (i j : Nat) (zs : List S24), v10 = .int .i64 (i : Int) ∧ v11 = .int .i64 (j : Int) ∧ Aside0 (0 < i ∧ 0 < j ∧ i ≤ m ∧ m + j ≤ xs.length ∧ i + j ≤ kq) ∧ Aside0 (zs.length = xs.length ∧ rotL m kq i j zs = F) ∧ Aside0 (Kd.R k24 24 w' B ok (.slice (some ⟨g, 0, none⟩) xs.length c) zs) ∧ Aside0 (w.grownBy w' (some g)))
  case atStart =>
    exact ⟨m - a, b - m, xs, rfl, rfl, ⟨⟨HK0.out.1, HK0.out.2.1, HK0.out.2.2.1, HK0.out.2.2.2, Nat.le_refl _⟩⟩, ⟨rfl, HF.out⟩, ⟨HR.out⟩, ⟨grown_below (Below.refl _ _) _⟩⟩
  case round =>
    obtain ⟨i, j, zs, rfl, rfl, HI, HZ, HRZ, HGZ⟩ := hrel
    obtain ⟨k0, rfl⟩ : ∃ k0, gk = k0 + 1 := ⟨gk - 1, by have := HI.out; omega⟩
    obtain ⟨hi, hj, him, hjm, hk⟩ := HI.out
    have hzl := HZ.out.1
    have hmm := HM.out
    clear hwi hwik hwj hwjk
    by_cases c1 : i = j
    · subst c1
      have c1a : ((i : Int) != (i : Int)) = false := bne_self_eq_false ..
      have hF2 : swrL (m - i) m i 0 zs = F := by
        have := HZ.out.2
        rw [rotL, if_pos rfl] at this
        exact this
      have HF2 := Lib.hid hF2
      have hC := swr_any V B ok g c (m - i) m i zs wr (by rw [hzl]; exact HRZ.out) (by rw [hzl]; exact g0) (by omega) (by rw [hzl]; omega)
      rw [hzl] at hC
      have HC := Lib.hid hC
      clear hC
      have hw := w2s m i him hmm
      have hwk := w2t m i him hmm
      clear hi hj him hjm hk hzl hmm hF2
      go_wp2_with (first | (go_at_call 137; refine HC.out.mono ?_; rintro e W2 ⟨rfl, hR2, hG2⟩; have HR2 := Lib.hid hR2; have HG2 := Lib.hid hG2; clear hR2 hG2))
      go_end0
      exact ⟨rfl, HF2.out ▸ HR2.out, grown_trans HGZ.out HG2.out⟩
    · have c1a : ((i : Int) != (j : Int)) = true := bne_iff_ne.2 (fun e => c1 (by omega))
      have c1b : ((i : Int) == (j : Int)) = false := beq_eq_false_iff_ne.2 (fun e => c1 (by omega))
      by_cases c2 : j < i
      · have c2a : decide ((j : Int) < (i : Int)) = true := decide_eq_true (by omega)
        have c2b : decide (j < i) = true := decide_eq_true c2
        have hF2 : rotL m k0 (i - j) j (swrL (m - i) m j 0 zs) = F := by
          have := HZ.out.2
          rw [rotL, if_neg c1, if_pos c2] at this
          exact this
        have HF2 := Lib.hid hF2
        have hC := swr_any V B ok g c (m - i) m j zs wr (by rw [hzl]; exact HRZ.out) (by rw [hzl]; exact g0) (by omega) (by rw [hzl]; omega)
        rw [hzl] at hC
        have HC := Lib.hid hC
        clear hC
        have KI : 0 < i - j ∧ 0 < j ∧ i - j ≤ m ∧ m + j ≤ xs.length ∧ i - j + j ≤ k0 := by omega
        have hji : j ≤ i := by omega
        have hi8 : i ≤ 8000000 := by omega
        have hw := w2s m i him hmm
        have hwk := w2t m i him hmm
        have hv := w2s i j hji hi8
        have hvk := w2t i j hji hi8
        have HZL := Lib.hid hzl
        clear hi hj him hjm hk hzl hmm hF2 c2 c1 hji hi8
        go_wp2_with (first | (go_at_call 137; refine HC.out.mono ?_; rintro e W2 ⟨rfl, hR2, hG2⟩; have HR2 := Lib.hid hR2; have HG2 := Lib.hid hG2; clear hR2 hG2))
        go_roundg k0
        case measure => omega
        case rel => exact ⟨i - j, j, _, rfl, rfl, ⟨KI⟩, ⟨by rw [swrL_len]; exact HZL.out, HF2.out⟩, ⟨HR2.out⟩, ⟨grown_trans HGZ.out HG2.out⟩⟩
      · have c2a : decide ((j : Int) < (i : Int)) = false := decide_eq_false (by omega)
        have c2b : decide (j < i) = false := decide_eq_false c2
        have hF2 : rotL m k0 i (j - i) (swrL (m - i) (m + j - i) i 0 zs) = F := by
          have := HZ.out.2
          rw [rotL, if_neg c1, if_neg c2] at this
          exact this
        have hC := swr_any V B ok g c (m - i) (m + j - i) i zs wr (by rw [hzl]; exact HRZ.out) (by rw [hzl]; exact g0) (by omega) (by rw [hzl]; omega)
        rw [hzl] at hC
        have HC := Lib.hid hC
        clear hC
        have KI : 0 < i ∧ 0 < j - i ∧ i ≤ m ∧ m + (j - i) ≤ xs.length ∧ i + (j - i) ≤ k0 := by omega
        have hji : i ≤ j := by omega
        have hj8 : j ≤ 8000000 := by omega
        have hmj : m + j ≤ 8000000 := by omega
        have hmji : i ≤ m + j := by omega
        have hw := w2s m i him hmm
        have hwk := w2t m i him hmm
        have hv := w2s j i hji hj8
        have hvk := w2t j i hji hj8
        have hu := w2n m j hmj
        have huk := w2k m j hmj
        have ht := w2s (m + j) i hmji hmj
        have htk := w2t (m + j) i hmji hmj
        obtain ⟨p, hp⟩ : ∃ p, m + j = p := ⟨_, rfl⟩
        rw [hp] at hu huk ht htk hF2 HC
        obtain ⟨q, hq⟩ : ∃ q, p - i = q := ⟨_, rfl⟩
        rw [hq] at ht htk hF2 HC
        obtain ⟨e1, he1⟩ : ∃ e, m - i = e := ⟨_, rfl⟩
        rw [he1] at hw hwk hF2 HC
        obtain ⟨e2, he2⟩ : ∃ e, j - i = e := ⟨_, rfl⟩
        rw [he2] at hv hvk hF2 KI
        have HF2 := Lib.hid hF2
        clear hp hq he1 he2
        have HZL := Lib.hid hzl
        clear hi hj him hjm hk hzl hmm hF2 c2 c1 hji hj8 hmj hmji
        go_wp2_with (first | (go_at_call 137; refine HC.out.mono ?_; rintro e W2 ⟨rfl, hR2, hG2⟩; have HR2 := Lib.hid hR2; have HG2 := Lib.hid hG2; clear hR2 hG2))
        go_roundg k0
        case measure => omega
        case rel => exact ⟨i, e2, _, rfl, rfl, ⟨KI⟩, ⟨by rw [swrL_len]; exact HZL.out, HF2.out⟩, ⟨HR2.out⟩, ⟨grown_trans HGZ.out HG2.out⟩⟩
end Go.Proofs.YtlhdbcjlmkglkaaGreat.Q

/- slices.symMergeCmpFunc at quotes: one element ahead. -/
set_option linter.unusedSimpArgs false
set_option linter.unusedVariables false
namespace Go.Proofs.YtlhdbcjlmkglkaaGreat.Q
open Go Go.RowKit Go.Proofs Go.Proofs.YtlhdbcjlmkglkaaGreat.PL Go.Proofs.YtlhdbcjlmkglkaaGreat.StN Go.Proofs.YtlhdbcjlmkglkaaGreatW.PrintWords
def srch (p : Nat → Bool) : Nat → Nat → Nat → Nat
  | 0, i, _ => i
  | f + 1, i, j => if i < j then (if p ((i + j) / 2) = true then srch p f ((i + j) / 2 + 1) j else srch p f i ((i + j) / 2)) else i
theorem srch_le (p : Nat → Bool) : ∀ (f i j : Nat), i ≤ j → i ≤ srch p f i j ∧ srch p f i j ≤ j
  | 0, i, j, h => ⟨Nat.le_refl _, h⟩
  | f + 1, i, j, h => by
    rw [srch]
    split
    · split
      · have := srch_le p f ((i + j) / 2 + 1) j (by omega); omega
      · have := srch_le p f i ((i + j) / 2) (by omega); omega
    · omega
def mvR : Nat → Nat → List S24 → List S24
  | 0, _, zs => zs
  | c + 1, k, zs => mvR c (k + 1) (swpG z24 k (k + 1) zs)
def mvL : Nat → Nat → List S24 → List S24
  | 0, _, zs => zs
  | c + 1, k, zs => mvL c (k - 1) (swpG z24 k (k - 1) zs)
theorem mvR_len : ∀ (c k : Nat) (zs : List S24), (mvR c k zs).length = zs.length
  | 0, _, _ => rfl
  | c + 1, k, zs => by rw [mvR, mvR_len c, swpG_len]
theorem mvL_len : ∀ (c k : Nat) (zs : List S24), (mvL c k zs).length = zs.length
  | 0, _, _ => rfl
  | c + 1, k, zs => by rw [mvL, mvL_len c, swpG_len]
theorem u64n (n : Int) (h : 0 ≤ n ∧ n ≤ 9223372036854775807) : IntKind.u64.wrap n = n := by simp [IntKind.wrap, IntKind.bits, IntKind.signed]; omega
def pOne (cm : S24 → S24 → Int) (xs : List S24) (a : Nat) (h : Nat) : Bool := decide (cm (rd_T24 xs (h : Int)) (rd_T24 xs (a : Int)) < 0)
set_option maxHeartbeats 400000 in
set_option maxRecDepth 1000000 in
theorem sym_one (G k : Nat) (cv : Value) (cm : S24 → S24 → Int) (hp : CmpK G k cv cm) (eg : ∀ args w, (callFunc G args).run Tryz.prog w = .ok (.enter G args) w) (B : Nat) (ok : Nat → Prop) (g c a m b : Nat) (xs : List S24) (w : World)
    (hR : Kd.R k24 24 w B ok (.slice (some ⟨g, 0, none⟩) xs.length c) xs) (hc : w.cell? ⟨k, 0, none⟩ = some cv) (hkg : k ≠ g) (hlen : xs.length ≤ 1000000) (ham : m = a + 1) (hmb : m < b) (hb : b ≤ xs.length) :
    Calls Tryz.prog 106 #[.slice (some ⟨g, 0, none⟩) xs.length c, .int .i64 (a : Int), .int .i64 (m : Int), .int .i64 (b : Int), .func (.func G) #[] #[.pointer (some ⟨k, 0, none⟩)]] w fun e w' =>
      e = .returned (.tuple #[]) ∧ Kd.R k24 24 w' B ok (.slice (some ⟨g, 0, none⟩) xs.length c) (mvR (srch (pOne cm xs a) (b - m + 1) m b - 1 - a) a xs) ∧ w.grownBy w' (some g) := by
  have hu24 := Tryz.underlying24
  have HP := Lib.hid hp
  have HR := Lib.hid hR
  have HC := Lib.hid hc
  have HL := Lib.hid (And.intro hlen (And.intro hb (And.intro ham hmb)))
  have hsl := srch_le (pOne cm xs a) (b - m + 1) m b (by omega)
  obtain ⟨I, hI⟩ : ∃ I, srch (pOne cm xs a) (b - m + 1) m b = I := ⟨_, rfl⟩
  rw [hI] at hsl
  rw [hI]
  obtain ⟨F, hF⟩ : ∃ F, mvR (I - 1 - a) a xs = F := ⟨_, rfl⟩
  rw [hF]
  have HF := Lib.hid hF
  have HII := Lib.hid (And.intro hI hsl)
  have hma : m - a = 1 := by omega
  have g1 : a ≤ m ∧ m ≤ 8000000 := by omega
  have hwm := w2s m a g1.1 g1.2
  rw [hma] at hwm
  have hwmk := w2t m a g1.1 g1.2
  rw [hma] at hwmk
  have pa : (0 ≤ (a : Int)) = True := eq_true (by omega)
  have pal : ((a : Int) < (xs.length : Int)) = True := eq_true (by omega)
  clear hp hR hc hF hI hsl hlen hb ham hmb hma g1
  go_enter Tryz.func106, Tryz.ntmps106
  go_wp2_with (fail)
  go_loopg [10, 11] (b - m + 1) (fun kq v10 v11 w' => ∃ (i j : Nat), v10 = .int .i64 (i : Int) ∧ v11 = .int .i64 (j : Int) ∧ Aside0 (m ≤ i ∧ i ≤ j ∧ j ≤ b ∧ j - i < kq) ∧ Aside0 (srch (pOne cm xs a) kq i j = I) ∧ Aside0 (Below w.heap.size w w'))
  case atStart =>
    exact ⟨m, b, rfl, rfl, ⟨by have := HL.out; omega⟩, ⟨HII.out.1⟩, ⟨Below.refl _ _⟩⟩
  case round =>
    obtain ⟨i, j, rfl, rfl, HI, HS, HB⟩ := hrel
    clear hwm hwmk
    obtain ⟨k0, rfl⟩ : ∃ k0, gk = k0 + 1 := ⟨gk - 1, by have := HI.out; omega⟩
    by_cases c1 : i < j
    · have c1a : decide ((i : Int) < (j : Int)) = true := decide_eq_true (by omega)
      have c1b : decide (i < j) = true := decide_eq_true c1
      obtain ⟨hi1, hi2, hi3, hi4⟩ := HI.out
      obtain ⟨hl1, hl2, hl3, hl4⟩ := HL.out
      obtain ⟨h, hh⟩ : ∃ h, (i + j) / 2 = h := ⟨_, rfl⟩
      have hhx : h < xs.length := by omega
      have hax : a < xs.length := by omega
      have KT : m ≤ h + 1 ∧ h + 1 ≤ j ∧ j ≤ b ∧ j - (h + 1) < k0 := by omega
      have KF : m ≤ i ∧ i ≤ h ∧ h ≤ b ∧ h - i < k0 := by omega
      have hhI : ((i : Int) + (j : Int)) / 2 = (h : Int) := by omega
      have g3 : i + j ≤ 8000000 := by omega
      have g4 : h ≤ 2000000 := by omega
      have g7 : -9223372036854775808 ≤ (i : Int) + (j : Int) ∧ (i : Int) + (j : Int) ≤ 9223372036854775807 := by omega
      have g8 : 0 ≤ (i : Int) + (j : Int) ∧ (i : Int) + (j : Int) ≤ 9223372036854775807 := by omega
      have g5 : -9223372036854775808 ≤ (h : Int) ∧ (h : Int) ≤ 9223372036854775807 := by omega

      have ph : (0 ≤ (h : Int)) = True := eq_true (by omega)
      have phl : ((h : Int) < (xs.length : Int)) = True := eq_true (by omega)
      have hs := HS.out
      rw [srch, if_pos c1, hh] at hs
      have HRW := Lib.hid (Kd.R_below HR.out HB.out)
      have HCC := Lib.hid (cell_below HC.out HB.out)
      have HS2 := Lib.hid hs
      have hs1 := w64 ((i : Int) + (j : Int)) g7
      have hs1k : IntKind.i64.wrap ((i : Int) + (j : Int)) = (i : Int) + (j : Int) := IntWalk.i64_in _ g7
      have hs2 := u64n ((i : Int) + (j : Int)) g8
      have hw1 := w1n h g4
      have hwh := w64 (h : Int) g5
      have hwhk : IntKind.i64.wrap (h : Int) = (h : Int) := IntWalk.i64_in _ g5
      have heq : pOne cm xs a h = decide (cm (rd_T24 xs (h : Int)) (rd_T24 xs (a : Int)) < 0) := rfl
      clear hi1 hi2 hi3 hi4 hl1 hl2 hl3 hl4 c1 hs g3 g4 g5 g7 g8 hh
      obtain ⟨hx0, hx1, hx2, hx3, hx4, hx5, hx6, hx7⟩ := row_at (row_C HRW.out rfl) hhx
      obtain ⟨hy0, hy1, hy2, hy3, hy4, hy5, hy6, hy7⟩ := row_at (row_C HRW.out rfl) hax
      generalize hx : rd_T24 xs (h : Int) = x at *
      generalize hy : rd_T24 xs (a : Int) = y at *
      obtain ⟨b2, hb2⟩ : ∃ b2, decide (cm x y < 0) = b2 := ⟨_, rfl⟩
      have HB2 := Lib.hid hb2
      obtain ⟨x0, x1, x2, x3, x4, x5, x6, x7⟩ := x
      obtain ⟨y0, y1, y2, y3, y4, y5, y6, y7⟩ := y
      simp only at *
      have HSB := Lib.hid (show ∀ W W' : World, Below W.heap.size W W' → (W.cell? ⟨g, h * 8, none⟩ = some (.int .i64 x0) ∧ W.cell? ⟨g, h * 8 + 1, none⟩ = some (.int .i64 x1) ∧ W.cell? ⟨g, h * 8 + 2, none⟩ = some (.int .i64 x2) ∧ W.cell? ⟨g, h * 8 + 3, none⟩ = some (.int .i64 x3) ∧ W.cell? ⟨g, h * 8 + 4, none⟩ = some (.int .i64 x4) ∧ W.cell? ⟨g, h * 8 + 5, none⟩ = some (.int .i64 x5) ∧ W.cell? ⟨g, h * 8 + 6, none⟩ = some (.int .i64 x6) ∧ W.cell? ⟨g, h * 8 + 7, none⟩ = some (.int .i64 x7) ∧ W.cell? ⟨g, a * 8, none⟩ = some (.int .i64 y0) ∧ W.cell? ⟨g, a * 8 + 1, none⟩ = some (.int .i64 y1) ∧ W.cell? ⟨g, a * 8 + 2, none⟩ = some (.int .i64 y2) ∧ W.cell? ⟨g, a * 8 + 3, none⟩ = some (.int .i64 y3) ∧ W.cell? ⟨g, a * 8 + 4, none⟩ = some (.int .i64 y4) ∧ W.cell? ⟨g, a * 8 + 5, none⟩ = some (.int .i64 y5) ∧ W.cell? ⟨g, a * 8 + 6, none⟩ = some (.int .i64 y6) ∧ W.cell? ⟨g, a * 8 + 7, none⟩ = some (.int .i64 y7)) → (W'.cell? ⟨g, h * 8, none⟩ = some (.int .i64 x0) ∧ W'.cell? ⟨g, h * 8 + 1, none⟩ = some (.int .i64 x1) ∧ W'.cell? ⟨g, h * 8 + 2, none⟩ = some (.int .i64 x2) ∧ W'.cell? ⟨g, h * 8 + 3, none⟩ = some (.int .i64 x3) ∧ W'.cell? ⟨g, h * 8 + 4, none⟩ = some (.int .i64 x4) ∧ W'.cell? ⟨g, h * 8 + 5, none⟩ = some (.int .i64 x5) ∧ W'.cell? ⟨g, h * 8 + 6, none⟩ = some (.int .i64 x6) ∧ W'.cell? ⟨g, h * 8 + 7, none⟩ = some (.int .i64 x7) ∧ W'.cell? ⟨g, a * 8, none⟩ = some (.int .i64 y0) ∧ W'.cell? ⟨g, a * 8 + 1, none⟩ = some (.int .i64 y1) ∧ W'.cell? ⟨g, a * 8 + 2, none⟩ = some (.int .i64 y2) ∧ W'.cell? ⟨g, a * 8 + 3, none⟩ = some (.int .i64 y3) ∧ W'.cell? ⟨g, a * 8 + 4, none⟩ = some (.int .i64 y4) ∧ W'.cell? ⟨g, a * 8 + 5, none⟩ = some (.int .i64 y5) ∧ W'.cell? ⟨g, a * 8 + 6, none⟩ = some (.int .i64 y6) ∧ W'.cell? ⟨g, a * 8 + 7, none⟩ = some (.int .i64 y7)) from fun W W' b h => ⟨cell_below h.1 b, cell_below h.2.1 b, cell_below h.2.2.1 b, cell_below h.2.2.2.1 b, cell_below h.2.2.2.2.1 b, cell_below h.2.2.2.2.2.1 b, cell_below h.2.2.2.2.2.2.1 b, cell_below h.2.2.2.2.2.2.2.1 b, cell_below h.2.2.2.2.2.2.2.2.1 b, cell_below h.2.2.2.2.2.2.2.2.2.1 b, cell_below h.2.2.2.2.2.2.2.2.2.2.1 b, cell_below h.2.2.2.2.2.2.2.2.2.2.2.1 b, cell_below h.2.2.2.2.2.2.2.2.2.2.2.2.1 b, cell_below h.2.2.2.2.2.2.2.2.2.2.2.2.2.1 b, cell_below h.2.2.2.2.2.2.2.2.2.2.2.2.2.2.1 b, cell_below h.2.2.2.2.2.2.2.2.2.2.2.2.2.2.2 b⟩)
      have hSD := HSB.out wr wr.drew (drew_below wr) ⟨hx0, hx1, hx2, hx3, hx4, hx5, hx6, hx7, hy0, hy1, hy2, hy3, hy4, hy5, hy6, hy7⟩
      have HPC := Lib.hid (fun W b => HP.out W ⟨x0, x1, x2, x3, x4, x5, x6, x7⟩ ⟨y0, y1, y2, y3, y4, y5, y6, y7⟩ (cell_below HCC.out b))
      have HEQ := Lib.hid heq
      clear hx hy heq
      cases b2
      · go_wp2_with (fail)
        go_region_held3 (fun w' : World => w'.cell? ⟨g, h * 8, none⟩ = some (.int .i64 x0) ∧ w'.cell? ⟨g, h * 8 + 1, none⟩ = some (.int .i64 x1) ∧ w'.cell? ⟨g, h * 8 + 2, none⟩ = some (.int .i64 x2) ∧ w'.cell? ⟨g, h * 8 + 3, none⟩ = some (.int .i64 x3) ∧ w'.cell? ⟨g, h * 8 + 4, none⟩ = some (.int .i64 x4) ∧ w'.cell? ⟨g, h * 8 + 5, none⟩ = some (.int .i64 x5) ∧ w'.cell? ⟨g, h * 8 + 6, none⟩ = some (.int .i64 x6) ∧ w'.cell? ⟨g, h * 8 + 7, none⟩ = some (.int .i64 x7) ∧ w'.cell? ⟨g, a * 8, none⟩ = some (.int .i64 y0) ∧ w'.cell? ⟨g, a * 8 + 1, none⟩ = some (.int .i64 y1) ∧ w'.cell? ⟨g, a * 8 + 2, none⟩ = some (.int .i64 y2) ∧ w'.cell? ⟨g, a * 8 + 3, none⟩ = some (.int .i64 y3) ∧ w'.cell? ⟨g, a * 8 + 4, none⟩ = some (.int .i64 y4) ∧ w'.cell? ⟨g, a * 8 + 5, none⟩ = some (.int .i64 y5) ∧ w'.cell? ⟨g, a * 8 + 6, none⟩ = some (.int .i64 y6) ∧ w'.cell? ⟨g, a * 8 + 7, none⟩ = some (.int .i64 y7))
          (first | with_reducible assumption | with_reducible exact HSB.out _ _ (by with_reducible assumption) (by with_reducible assumption))
          (first | (go_at_fn G; refine (HPC.out _ (drew_below wr)).mono ?_; rintro e W2 ⟨rfl, b2⟩))
        all_goals (
          have B2 := bl2 (drew_below wr) b2
          go_wp2_with (fail)
          go_roundg k0
          case measure => omega
          case rel => exact ⟨i, h, rfl, rfl, ⟨KF⟩, ⟨by have := HS2.out; rw [if_neg (fun e => by rw [HEQ.out.trans HB2.out] at e; exact absurd e (by decide))] at this; exact this⟩, ⟨HB.out.trans (B2.mono HB.out.size)⟩⟩)
      · go_wp2_with (fail)
        go_region_held3 (fun w' : World => w'.cell? ⟨g, h * 8, none⟩ = some (.int .i64 x0) ∧ w'.cell? ⟨g, h * 8 + 1, none⟩ = some (.int .i64 x1) ∧ w'.cell? ⟨g, h * 8 + 2, none⟩ = some (.int .i64 x2) ∧ w'.cell? ⟨g, h * 8 + 3, none⟩ = some (.int .i64 x3) ∧ w'.cell? ⟨g, h * 8 + 4, none⟩ = some (.int .i64 x4) ∧ w'.cell? ⟨g, h * 8 + 5, none⟩ = some (.int .i64 x5) ∧ w'.cell? ⟨g, h * 8 + 6, none⟩ = some (.int .i64 x6) ∧ w'.cell? ⟨g, h * 8 + 7, none⟩ = some (.int .i64 x7) ∧ w'.cell? ⟨g, a * 8, none⟩ = some (.int .i64 y0) ∧ w'.cell? ⟨g, a * 8 + 1, none⟩ = some (.int .i64 y1) ∧ w'.cell? ⟨g, a * 8 + 2, none⟩ = some (.int .i64 y2) ∧ w'.cell? ⟨g, a * 8 + 3, none⟩ = some (.int .i64 y3) ∧ w'.cell? ⟨g, a * 8 + 4, none⟩ = some (.int .i64 y4) ∧ w'.cell? ⟨g, a * 8 + 5, none⟩ = some (.int .i64 y5) ∧ w'.cell? ⟨g, a * 8 + 6, none⟩ = some (.int .i64 y6) ∧ w'.cell? ⟨g, a * 8 + 7, none⟩ = some (.int .i64 y7))
          (first | with_reducible assumption | with_reducible exact HSB.out _ _ (by with_reducible assumption) (by with_reducible assumption))
          (first | (go_at_fn G; refine (HPC.out _ (drew_below wr)).mono ?_; rintro e W2 ⟨rfl, b2⟩))
        all_goals (
          have B2 := bl2 (drew_below wr) b2
          go_wp2_with (fail)
          go_roundg k0
          case measure => omega
          case rel => exact ⟨h + 1, j, congrArg (Value.int .i64) hw1, rfl, ⟨KT⟩, ⟨by have := HS2.out; rw [if_pos (show pOne cm xs a h = true from HEQ.out.trans HB2.out)] at this; exact this⟩, ⟨HB.out.trans (B2.mono HB.out.size)⟩⟩)
    · have c1a : decide ((i : Int) < (j : Int)) = false := decide_eq_false (by omega)
      have c1b : decide (i < j) = false := decide_eq_false c1
      have hs := HS.out
      rw [srch, if_neg c1] at hs
      obtain ⟨J, hJ⟩ : ∃ J, I = J + 1 := ⟨I - 1, by have := HII.out.2; have := HL.out; omega⟩
      have hJI : i = J + 1 := hs.trans hJ
      have HJ := Lib.hid (show a ≤ J ∧ J < b ∧ mvR (J - a) a xs = F by
        have h1 := HII.out.2
        have h2 := HL.out
        have h3 := HF.out
        rw [hJ, Nat.add_sub_cancel] at h3
        exact ⟨by omega, by omega, h3⟩)
      clear HII HF HS
      subst hJI
      have HRW := Lib.hid (Kd.R_below HR.out HB.out)
      have HCC := Lib.hid (cell_below HC.out HB.out)
      have hj8 : 1 ≤ J + 1 ∧ J + 1 ≤ 8000000 := by have := HJ.out; have := HL.out; omega
      have hwJ : wrap64 (((J + 1 : Nat) : Int) - 1) = (J : Int) := by rw [w64 _ (by omega)]; omega
      have hwJk : IntKind.i64.wrap (((J + 1 : Nat) : Int) - 1) = (J : Int) := (IntWalk.i64_in _ (by omega)).trans (by omega)
      obtain ⟨J1, hJ1⟩ : ∃ J1, J + 1 = J1 := ⟨_, rfl⟩
      have HWJ := Lib.hid (And.intro hwJ hwJk)
      clear hwJ hwJk
      have HGB := Lib.hid (grown_below HB.out (some g))
      simp only [hJ1] at *
      clear c1 hj8 hs hJ hJ1 HI
      rename World => ws
      go_wp2_with (fail)
      go_loopg [13] (J - a + 1) (fun kq v13 w' => ∃ (t : Nat) (zs : List S24), v13 = .int .i64 (t : Int) ∧ Aside0 (a ≤ t ∧ t ≤ J ∧ J - t < kq) ∧ Aside0 (zs.length = xs.length ∧ mvR (J - t) t zs = F) ∧ Aside0 (Kd.R k24 24 w' B ok (.slice (some ⟨g, 0, none⟩) xs.length c) zs) ∧ Aside0 (w.grownBy w' (some g)))
      case atStart => exact ⟨a, xs, rfl, ⟨by have := HJ.out; omega⟩, ⟨rfl, HJ.out.2.2⟩, ⟨HRW.out⟩, ⟨HGB.out⟩⟩
      case round =>
        obtain ⟨t, zs, rfl, HT, HZ, HRZ, HGZ⟩ := hrel
        obtain ⟨k0, rfl⟩ : ∃ k0, gk = k0 + 1 := ⟨gk - 1, by have := HT.out; omega⟩
        by_cases c4 : t < J
        · have c4a : decide ((t : Int) < (J : Int)) = true := decide_eq_true (by omega)
          have c4b : decide (t < J) = true := decide_eq_true c4
          obtain ⟨ht1, ht2, ht3⟩ := HT.out
          obtain ⟨hl1, hl2, hl3, hl4⟩ := HL.out
          obtain ⟨hj1, hj2, _⟩ := HJ.out
          have hzl := HZ.out.1
          obtain ⟨q, hq⟩ : ∃ q, t + 1 = q := ⟨_, rfl⟩
          have hpl : t < zs.length := by omega
          have hql : q < zs.length := by omega
          have hne : t < q := by omega
          have pp : (0 ≤ (t : Int)) = True := eq_true (by omega)
          have ppl : ((t : Int) < (xs.length : Int)) = True := eq_true (by omega)
          have pq : (0 ≤ (q : Int)) = True := eq_true (by omega)
          have pql : ((q : Int) < (xs.length : Int)) = True := eq_true (by omega)
          have KI : a ≤ q ∧ q ≤ J ∧ J - q < k0 := by omega
          have g1 : t ≤ 2000000 := by omega
          have g2 : t + 1 ≤ 8000000 := by omega
          have HTF := Lib.hid (show mvR (J - q) q (swpG z24 t q zs) = F by
            have := HZ.out.2
            rw [show J - t = (J - q) + 1 by omega, mvR, hq] at this
            exact this)
          obtain ⟨hx0, hx1, hx2, hx3, hx4, hx5, hx6, hx7⟩ := row_at (row_C HRZ.out hzl) hpl
          obtain ⟨hy0, hy1, hy2, hy3, hy4, hy5, hy6, hy7⟩ := row_at (row_C HRZ.out hzl) hql
          have hfr := fun j => R_frz HRZ.out j
          have HPX := Lib.hid (R_swap HRZ.out hpl hql)
          have n0 : ∀ (W : World) (v : Value), (W.setCell ⟨g, t * 8, none⟩ v).cell? ⟨g, q * 8, none⟩ = W.cell? ⟨g, q * 8, none⟩ := fun W v => away v (by have := hne; omega)
          have n1 : ∀ (W : World) (v : Value) (o : Nat), o < 8 → (W.setCell ⟨g, t * 8, none⟩ v).cell? ⟨g, q * 8 + o, none⟩ = W.cell? ⟨g, q * 8 + o, none⟩ := fun W v o h => away v (by have := hne; omega)
          have n2 : ∀ (W : World) (v : Value) (o : Nat), o < 8 → (W.setCell ⟨g, t * 8 + o, none⟩ v).cell? ⟨g, q * 8, none⟩ = W.cell? ⟨g, q * 8, none⟩ := fun W v o h => away v (by have := hne; omega)
          have n3 : ∀ (W : World) (v : Value) (o o' : Nat), o < 8 → o' < 8 → (W.setCell ⟨g, t * 8 + o, none⟩ v).cell? ⟨g, q * 8 + o', none⟩ = W.cell? ⟨g, q * 8 + o', none⟩ := fun W v o o' h h' => away v (by have := hne; omega)
          generalize hx : rd_T24 zs (t : Int) = x at *
          generalize hy : rd_T24 zs (q : Int) = y at *
          obtain ⟨x0, x1, x2, x3, x4, x5, x6, x7⟩ := x
          obtain ⟨y0, y1, y2, y3, y4, y5, y6, y7⟩ := y
          simp only at *
          have HZL := Lib.hid hzl
          have hw1 := w1n t g1
          rw [hq] at hw1
          have hw1k := w2k t 1 g2
          rw [hq] at hw1k
          clear hq hzl hl1 hl2 hl3 hl4 hj1 hj2 ht1 ht2 ht3 hpl hql hne hx hy c4 g1 g2
          obtain ⟨hwJ, hwJk⟩ := HWJ.out
          go_wp2_with (fail)
          go_region
          all_goals (
            go_wp2_with (fail)
            go_roundg k0
            case measure => omega
            case rel => exact ⟨q, _, congrArg (Value.int .i64) hw1, ⟨KI⟩, ⟨by rw [swpG_len]; exact HZL.out, HTF.out⟩, ⟨Kd.R_below HPX.out.1 (drew_below _)⟩, ⟨grown_trans HGZ.out (grown_trans HPX.out.2 (grown_below (drew_below _) _))⟩⟩)
        · have c4a : decide ((t : Int) < (J : Int)) = false := decide_eq_false (by omega)
          have c4b : decide (t < J) = false := decide_eq_false c4
          have hzs : zs = F := by
            have := HZ.out.2
            rw [show J - t = 0 by omega] at this
            exact this
          subst hzs
          clear c4
          obtain ⟨hwJ, hwJk⟩ := HWJ.out
          go_wp2_with (fail)
          (try simp only [Exit.inBlock, Exit.then])
          refine bodyPost_ret (results_none rfl _ _ _) rfl ?_
          exact ⟨rfl, HRZ.out, HGZ.out⟩
end Go.Proofs.YtlhdbcjlmkglkaaGreat.Q

/- slices.symMergeCmpFunc at quotes: one element behind. -/
set_option linter.unusedSimpArgs false
set_option linter.unusedVariables false
namespace Go.Proofs.YtlhdbcjlmkglkaaGreat.Q
open Go Go.RowKit Go.Proofs Go.Proofs.YtlhdbcjlmkglkaaGreat.PL Go.Proofs.YtlhdbcjlmkglkaaGreat.StN Go.Proofs.YtlhdbcjlmkglkaaGreatW.PrintWords
def pTwo (cm : S24 → S24 → Int) (xs : List S24) (m : Nat) (h : Nat) : Bool := !decide (cm (rd_T24 xs (m : Int)) (rd_T24 xs (h : Int)) < 0)
set_option maxHeartbeats 400000 in
set_option maxRecDepth 1000000 in
theorem sym_two (G k : Nat) (cv : Value) (cm : S24 → S24 → Int) (hp : CmpK G k cv cm) (eg : ∀ args w, (callFunc G args).run Tryz.prog w = .ok (.enter G args) w) (B : Nat) (ok : Nat → Prop) (g c a m b : Nat) (xs : List S24) (w : World)
    (hR : Kd.R k24 24 w B ok (.slice (some ⟨g, 0, none⟩) xs.length c) xs) (hc : w.cell? ⟨k, 0, none⟩ = some cv) (hkg : k ≠ g) (hlen : xs.length ≤ 1000000) (ham : a + 1 < m) (hmb : b = m + 1) (hb : b ≤ xs.length) :
    Calls Tryz.prog 106 #[.slice (some ⟨g, 0, none⟩) xs.length c, .int .i64 (a : Int), .int .i64 (m : Int), .int .i64 (b : Int), .func (.func G) #[] #[.pointer (some ⟨k, 0, none⟩)]] w fun e w' =>
      e = .returned (.tuple #[]) ∧ Kd.R k24 24 w' B ok (.slice (some ⟨g, 0, none⟩) xs.length c) (mvL (m - srch (pTwo cm xs m) (m - a + 1) a m) m xs) ∧ w.grownBy w' (some g) := by
  have hu24 := Tryz.underlying24
  have HP := Lib.hid hp
  have HR := Lib.hid hR
  have HC := Lib.hid hc
  have HL := Lib.hid (And.intro hlen (And.intro hb (And.intro ham hmb)))
  have hsl := srch_le (pTwo cm xs m) (m - a + 1) a m (by omega)
  obtain ⟨I, hI⟩ : ∃ I, srch (pTwo cm xs m) (m - a + 1) a m = I := ⟨_, rfl⟩
  rw [hI] at hsl
  rw [hI]
  obtain ⟨F, hF⟩ : ∃ F, mvL (m - I) m xs = F := ⟨_, rfl⟩
  rw [hF]
  have HF := Lib.hid hF
  have HII := Lib.hid (And.intro hI hsl)
  have g1 : a ≤ m ∧ m ≤ 8000000 := by omega
  have g2 : m ≤ b ∧ b ≤ 8000000 := by omega
  have pa : (0 ≤ (m : Int)) = True := eq_true (by omega)
  have pal : ((m : Int) < (xs.length : Int)) = True := eq_true (by omega)
  have hma : b - m = 1 := by omega
  have hd1 : m - a ≠ 1 := by omega
  have hwm := w2s m a g1.1 g1.2
  have hwmk := w2t m a g1.1 g1.2
  have hwb := w2s b m g2.1 g2.2
  rw [hma] at hwb
  have hwbk := w2t b m g2.1 g2.2
  rw [hma] at hwbk
  obtain ⟨d1, hdd⟩ : ∃ d1, m - a = d1 := ⟨_, rfl⟩
  rw [hdd] at hd1 hwm hwmk
  have cd1 : ((d1 : Int) == 1) = false := beq_eq_false_iff_ne.2 (fun e => hd1 (by omega))
  have cd2 : (d1 == 1) = false := beq_eq_false_iff_ne.2 hd1
  clear hp hR hc hF hI hsl hlen hb ham hmb hma hdd g1 g2
  go_enter Tryz.func106, Tryz.ntmps106
  go_wp2_with (fail)
  go_loopg [14, 15] (m - a + 1) (fun kq v14 v15 w' => ∃ (i j : Nat), v14 = .int .i64 (i : Int) ∧ v15 = .int .i64 (j : Int) ∧ Aside0 (a ≤ i ∧ i ≤ j ∧ j ≤ m ∧ j - i < kq) ∧ Aside0 (srch (pTwo cm xs m) kq i j = I) ∧ Aside0 (Below w.heap.size w w'))
  case atStart =>
    exact ⟨a, m, rfl, rfl, ⟨by have := HL.out; omega⟩, ⟨HII.out.1⟩, ⟨Below.refl _ _⟩⟩
  case round =>
    obtain ⟨i, j, rfl, rfl, HI, HS, HB⟩ := hrel
    clear hwm hwmk hwb hwbk cd1 cd2 hd1
    obtain ⟨k0, rfl⟩ : ∃ k0, gk = k0 + 1 := ⟨gk - 1, by have := HI.out; omega⟩
    by_cases c1 : i < j
    · have c1a : decide ((i : Int) < (j : Int)) = true := decide_eq_true (by omega)
      have c1b : decide (i < j) = true := decide_eq_true c1
      obtain ⟨hi1, hi2, hi3, hi4⟩ := HI.out
      obtain ⟨hl1, hl2, hl3, hl4⟩ := HL.out
      obtain ⟨h, hh⟩ : ∃ h, (i + j) / 2 = h := ⟨_, rfl⟩
      have hhx : h < xs.length := by omega
      have hax : m < xs.length := by omega
      have KT : a ≤ h + 1 ∧ h + 1 ≤ j ∧ j ≤ m ∧ j - (h + 1) < k0 := by omega
      have KF : a ≤ i ∧ i ≤ h ∧ h ≤ m ∧ h - i < k0 := by omega
      have hhI : ((i : Int) + (j : Int)) / 2 = (h : Int) := by omega
      have g3 : i + j ≤ 8000000 := by omega
      have g4 : h ≤ 2000000 := by omega
      have g7 : -9223372036854775808 ≤ (i : Int) + (j : Int) ∧ (i : Int) + (j : Int) ≤ 9223372036854775807 := by omega
      have g8 : 0 ≤ (i : Int) + (j : Int) ∧ (i : Int) + (j : Int) ≤ 9223372036854775807 := by omega
      have g5 : -9223372036854775808 ≤ (h : Int) ∧ (h : Int) ≤ 9223372036854775807 := by omega

      have ph : (0 ≤ (h : Int)) = True := eq_true (by omega)
      have phl : ((h : Int) < (xs.length : Int)) = True := eq_true (by omega)
      have hs := HS.out
      rw [srch, if_pos c1, hh] at hs
      have HRW := Lib.hid (Kd.R_below HR.out HB.out)
      have HCC := Lib.hid (cell_below HC.out HB.out)
      have HS2 := Lib.hid hs
      have hs1 := w64 ((i : Int) + (j : Int)) g7
      have hs1k : IntKind.i64.wrap ((i : Int) + (j : Int)) = (i : Int) + (j : Int) := IntWalk.i64_in _ g7
      have hs2 := u64n ((i : Int) + (j : Int)) g8
      have hw1 := w1n h g4
      have hwh := w64 (h : Int) g5
      have hwhk : IntKind.i64.wrap (h : Int) = (h : Int) := IntWalk.i64_in _ g5
      have heq : pTwo cm xs m h = !decide (cm (rd_T24 xs (m : Int)) (rd_T24 xs (h : Int)) < 0) := rfl
      clear hi1 hi2 hi3 hi4 hl1 hl2 hl3 hl4 c1 hs g3 g4 g5 g7 g8 hh
      obtain ⟨hx0, hx1, hx2, hx3, hx4, hx5, hx6, hx7⟩ := row_at (row_C HRW.out rfl) hax
      obtain ⟨hy0, hy1, hy2, hy3, hy4, hy5, hy6, hy7⟩ := row_at (row_C HRW.out rfl) hhx
      generalize hx : rd_T24 xs (m : Int) = x at *
      generalize hy : rd_T24 xs (h : Int) = y at *
      obtain ⟨b2, hb2⟩ : ∃ b2, decide (cm x y < 0) = b2 := ⟨_, rfl⟩
      have HB2 := Lib.hid hb2
      obtain ⟨x0, x1, x2, x3, x4, x5, x6, x7⟩ := x
      obtain ⟨y0, y1, y2, y3, y4, y5, y6, y7⟩ := y
      simp only at *
      have HSB := Lib.hid (show ∀ W W' : World, Below W.heap.size W W' → (W.cell? ⟨g, m * 8, none⟩ = some (.int .i64 x0) ∧ W.cell? ⟨g, m * 8 + 1, none⟩ = some (.int .i64 x1) ∧ W.cell? ⟨g, m * 8 + 2, none⟩ = some (.int .i64 x2) ∧ W.cell? ⟨g, m * 8 + 3, none⟩ = some (.int .i64 x3) ∧ W.cell? ⟨g, m * 8 + 4, none⟩ = some (.int .i64 x4) ∧ W.cell? ⟨g, m * 8 + 5, none⟩ = some (.int .i64 x5) ∧ W.cell? ⟨g, m * 8 + 6, none⟩ = some (.int .i64 x6) ∧ W.cell? ⟨g, m * 8 + 7, none⟩ = some (.int .i64 x7) ∧ W.cell? ⟨g, h * 8, none⟩ = some (.int .i64 y0) ∧ W.cell? ⟨g, h * 8 + 1, none⟩ = some (.int .i64 y1) ∧ W.cell? ⟨g, h * 8 + 2, none⟩ = some (.int .i64 y2) ∧ W.cell? ⟨g, h * 8 + 3, none⟩ = some (.int .i64 y3) ∧ W.cell? ⟨g, h * 8 + 4, none⟩ = some (.int .i64 y4) ∧ W.cell? ⟨g, h * 8 + 5, none⟩ = some (.int .i64 y5) ∧ W.cell? ⟨g, h * 8 + 6, none⟩ = some (.int .i64 y6) ∧ W.cell? ⟨g, h * 8 + 7, none⟩ = some (.int .i64 y7)) → (W'.cell? ⟨g, m * 8, none⟩ = some (.int .i64 x0) ∧ W'.cell? ⟨g, m * 8 + 1, none⟩ = some (.int .i64 x1) ∧ W'.cell? ⟨g, m * 8 + 2, none⟩ = some (.int .i64 x2) ∧ W'.cell? ⟨g, m * 8 + 3, none⟩ = some (.int .i64 x3) ∧ W'.cell? ⟨g, m * 8 + 4, none⟩ = some (.int .i64 x4) ∧ W'.cell? ⟨g, m * 8 + 5, none⟩ = some (.int .i64 x5) ∧ W'.cell? ⟨g, m * 8 + 6, none⟩ = some (.int .i64 x6) ∧ W'.cell? ⟨g, m * 8 + 7, none⟩ = some (.int .i64 x7) ∧ W'.cell? ⟨g, h * 8, none⟩ = some (.int .i64 y0) ∧ W'.cell? ⟨g, h * 8 + 1, none⟩ = some (.int .i64 y1) ∧ W'.cell? ⟨g, h * 8 + 2, none⟩ = some (.int .i64 y2) ∧ W'.cell? ⟨g, h * 8 + 3, none⟩ = some (.int .i64 y3) ∧ W'.cell? ⟨g, h * 8 + 4, none⟩ = some (.int .i64 y4) ∧ W'.cell? ⟨g, h * 8 + 5, none⟩ = some (.int .i64 y5) ∧ W'.cell? ⟨g, h * 8 + 6, none⟩ = some (.int .i64 y6) ∧ W'.cell? ⟨g, h * 8 + 7, none⟩ = some (.int .i64 y7)) from fun W W' b h => ⟨cell_below h.1 b, cell_below h.2.1 b, cell_below h.2.2.1 b, cell_below h.2.2.2.1 b, cell_below h.2.2.2.2.1 b, cell_below h.2.2.2.2.2.1 b, cell_below h.2.2.2.2.2.2.1 b, cell_below h.2.2.2.2.2.2.2.1 b, cell_below h.2.2.2.2.2.2.2.2.1 b, cell_below h.2.2.2.2.2.2.2.2.2.1 b, cell_below h.2.2.2.2.2.2.2.2.2.2.1 b, cell_below h.2.2.2.2.2.2.2.2.2.2.2.1 b, cell_below h.2.2.2.2.2.2.2.2.2.2.2.2.1 b, cell_below h.2.2.2.2.2.2.2.2.2.2.2.2.2.1 b, cell_below h.2.2.2.2.2.2.2.2.2.2.2.2.2.2.1 b, cell_below h.2.2.2.2.2.2.2.2.2.2.2.2.2.2.2 b⟩)
      have hSD := HSB.out wr wr.drew (drew_below wr) ⟨hx0, hx1, hx2, hx3, hx4, hx5, hx6, hx7, hy0, hy1, hy2, hy3, hy4, hy5, hy6, hy7⟩
      have HPC := Lib.hid (fun W b => HP.out W ⟨x0, x1, x2, x3, x4, x5, x6, x7⟩ ⟨y0, y1, y2, y3, y4, y5, y6, y7⟩ (cell_below HCC.out b))
      have HEQ := Lib.hid heq
      clear hx hy heq
      cases b2
      · go_wp2_with (fail)
        go_region_held3 (fun w' : World => w'.cell? ⟨g, m * 8, none⟩ = some (.int .i64 x0) ∧ w'.cell? ⟨g, m * 8 + 1, none⟩ = some (.int .i64 x1) ∧ w'.cell? ⟨g, m * 8 + 2, none⟩ = some (.int .i64 x2) ∧ w'.cell? ⟨g, m * 8 + 3, none⟩ = some (.int .i64 x3) ∧ w'.cell? ⟨g, m * 8 + 4, none⟩ = some (.int .i64 x4) ∧ w'.cell? ⟨g, m * 8 + 5, none⟩ = some (.int .i64 x5) ∧ w'.cell? ⟨g, m * 8 + 6, none⟩ = some (.int .i64 x6) ∧ w'.cell? ⟨g, m * 8 + 7, none⟩ = some (.int .i64 x7) ∧ w'.cell? ⟨g, h * 8, none⟩ = some (.int .i64 y0) ∧ w'.cell? ⟨g, h * 8 + 1, none⟩ = some (.int .i64 y1) ∧ w'.cell? ⟨g, h * 8 + 2, none⟩ = some (.int .i64 y2) ∧ w'.cell? ⟨g, h * 8 + 3, none⟩ = some (.int .i64 y3) ∧ w'.cell? ⟨g, h * 8 + 4, none⟩ = some (.int .i64 y4) ∧ w'.cell? ⟨g, h * 8 + 5, none⟩ = some (.int .i64 y5) ∧ w'.cell? ⟨g, h * 8 + 6, none⟩ = some (.int .i64 y6) ∧ w'.cell? ⟨g, h * 8 + 7, none⟩ = some (.int .i64 y7))
          (first | with_reducible assumption | with_reducible exact HSB.out _ _ (by with_reducible assumption) (by with_reducible assumption))
          (first | (go_at_fn G; refine (HPC.out _ (drew_below wr)).mono ?_; rintro e W2 ⟨rfl, b2⟩))
        all_goals (
          have B2 := bl2 (drew_below wr) b2
          go_wp2_with (fail)
          go_roundg k0
          case measure => omega
          case rel => exact ⟨h + 1, j, congrArg (Value.int .i64) hw1, rfl, ⟨KT⟩, ⟨by have := HS2.out; rw [if_pos (show pTwo cm xs m h = true from HEQ.out.trans (congrArg not HB2.out))] at this; exact this⟩, ⟨HB.out.trans (B2.mono HB.out.size)⟩⟩)
      · go_wp2_with (fail)
        go_region_held3 (fun w' : World => w'.cell? ⟨g, m * 8, none⟩ = some (.int .i64 x0) ∧ w'.cell? ⟨g, m * 8 + 1, none⟩ = some (.int .i64 x1) ∧ w'.cell? ⟨g, m * 8 + 2, none⟩ = some (.int .i64 x2) ∧ w'.cell? ⟨g, m * 8 + 3, none⟩ = some (.int .i64 x3) ∧ w'.cell? ⟨g, m * 8 + 4, none⟩ = some (.int .i64 x4) ∧ w'.cell? ⟨g, m * 8 + 5, none⟩ = some (.int .i64 x5) ∧ w'.cell? ⟨g, m * 8 + 6, none⟩ = some (.int .i64 x6) ∧ w'.cell? ⟨g, m * 8 + 7, none⟩ = some (.int .i64 x7) ∧ w'.cell? ⟨g, h * 8, none⟩ = some (.int .i64 y0) ∧ w'.cell? ⟨g, h * 8 + 1, none⟩ = some (.int .i64 y1) ∧ w'.cell? ⟨g, h * 8 + 2, none⟩ = some (.int .i64 y2) ∧ w'.cell? ⟨g, h * 8 + 3, none⟩ = some (.int .i64 y3) ∧ w'.cell? ⟨g, h * 8 + 4, none⟩ = some (.int .i64 y4) ∧ w'.cell? ⟨g, h * 8 + 5, none⟩ = some (.int .i64 y5) ∧ w'.cell? ⟨g, h * 8 + 6, none⟩ = some (.int .i64 y6) ∧ w'.cell? ⟨g, h * 8 + 7, none⟩ = some (.int .i64 y7))
          (first | with_reducible assumption | with_reducible exact HSB.out _ _ (by with_reducible assumption) (by with_reducible assumption))
          (first | (go_at_fn G; refine (HPC.out _ (drew_below wr)).mono ?_; rintro e W2 ⟨rfl, b2⟩))
        all_goals (
          have B2 := bl2 (drew_below wr) b2
          go_wp2_with (fail)
          go_roundg k0
          case measure => omega
          case rel => exact ⟨i, h, rfl, rfl, ⟨KF⟩, ⟨by have := HS2.out; rw [if_neg (fun e => by rw [HEQ.out.trans (congrArg not HB2.out)] at e; exact absurd e (by decide))] at this; exact this⟩, ⟨HB.out.trans (B2.mono HB.out.size)⟩⟩)
    · have c1a : decide ((i : Int) < (j : Int)) = false := decide_eq_false (by omega)
      have c1b : decide (i < j) = false := decide_eq_false c1
      have hs := HS.out
      rw [srch, if_neg c1] at hs
      have HJ := Lib.hid (show a ≤ I ∧ I ≤ m ∧ mvL (m - I) m xs = F from ⟨HII.out.2.1, HII.out.2.2, HF.out⟩)
      clear HII HF HS
      subst hs
      have HRW := Lib.hid (Kd.R_below HR.out HB.out)
      have HGB := Lib.hid (grown_below HB.out (some g))
      clear c1 HI
      rename World => ws
      go_wp2_with (fail)
      go_loopg [17] (m - i + 1) (fun kq v17 w' => ∃ (t : Nat) (zs : List S24), v17 = .int .i64 (t : Int) ∧ Aside0 (i ≤ t ∧ t ≤ m ∧ t - i < kq) ∧ Aside0 (zs.length = xs.length ∧ mvL (t - i) t zs = F) ∧ Aside0 (Kd.R k24 24 w' B ok (.slice (some ⟨g, 0, none⟩) xs.length c) zs) ∧ Aside0 (w.grownBy w' (some g)))
      case atStart => exact ⟨m, xs, rfl, ⟨by have := HJ.out; omega⟩, ⟨rfl, HJ.out.2.2⟩, ⟨HRW.out⟩, ⟨HGB.out⟩⟩
      case round =>
        obtain ⟨t, zs, rfl, HT, HZ, HRZ, HGZ⟩ := hrel
        obtain ⟨k0, rfl⟩ : ∃ k0, gk = k0 + 1 := ⟨gk - 1, by have := HT.out; omega⟩
        by_cases c4 : i < t
        · have c4a : decide ((i : Int) < (t : Int)) = true := decide_eq_true (by omega)
          have c4b : decide (i < t) = true := decide_eq_true c4
          obtain ⟨ht1, ht2, ht3⟩ := HT.out
          obtain ⟨hl1, hl2, hl3, hl4⟩ := HL.out
          obtain ⟨hj1, hj2, _⟩ := HJ.out
          have hzl := HZ.out.1
          obtain ⟨q, hq⟩ : ∃ q, t = q + 1 := ⟨t - 1, by omega⟩
          have hpl : t < zs.length := by omega
          have hql : q < zs.length := by omega
          have hne : q < t := by omega
          have pp : (0 ≤ (t : Int)) = True := eq_true (by omega)
          have ppl : ((t : Int) < (xs.length : Int)) = True := eq_true (by omega)
          have pq : (0 ≤ (q : Int)) = True := eq_true (by omega)
          have pql : ((q : Int) < (xs.length : Int)) = True := eq_true (by omega)
          have KI : i ≤ q ∧ q ≤ m ∧ q - i < k0 := by omega
          have g1 : -9223372036854775808 ≤ (t : Int) - 1 ∧ (t : Int) - 1 ≤ 9223372036854775807 := by omega
          have g2 : (t : Int) - 1 = (q : Int) := by omega
          have HTF := Lib.hid (show mvL (q - i) q (swpG z24 t q zs) = F by
            have := HZ.out.2
            rw [show t - i = (q - i) + 1 by omega, mvL, show t - 1 = q by omega] at this
            exact this)
          obtain ⟨hx0, hx1, hx2, hx3, hx4, hx5, hx6, hx7⟩ := row_at (row_C HRZ.out hzl) hpl
          obtain ⟨hy0, hy1, hy2, hy3, hy4, hy5, hy6, hy7⟩ := row_at (row_C HRZ.out hzl) hql
          have hfr := fun j => R_frz HRZ.out j
          have HPX := Lib.hid (R_swap HRZ.out hpl hql)
          have n0 : ∀ (W : World) (v : Value), (W.setCell ⟨g, t * 8, none⟩ v).cell? ⟨g, q * 8, none⟩ = W.cell? ⟨g, q * 8, none⟩ := fun W v => away v (by have := hne; omega)
          have n1 : ∀ (W : World) (v : Value) (o : Nat), o < 8 → (W.setCell ⟨g, t * 8, none⟩ v).cell? ⟨g, q * 8 + o, none⟩ = W.cell? ⟨g, q * 8 + o, none⟩ := fun W v o h => away v (by have := hne; omega)
          have n2 : ∀ (W : World) (v : Value) (o : Nat), o < 8 → (W.setCell ⟨g, t * 8 + o, none⟩ v).cell? ⟨g, q * 8, none⟩ = W.cell? ⟨g, q * 8, none⟩ := fun W v o h => away v (by have := hne; omega)
          have n3 : ∀ (W : World) (v : Value) (o o' : Nat), o < 8 → o' < 8 → (W.setCell ⟨g, t * 8 + o, none⟩ v).cell? ⟨g, q * 8 + o', none⟩ = W.cell? ⟨g, q * 8 + o', none⟩ := fun W v o o' h h' => away v (by have := hne; omega)
          generalize hx : rd_T24 zs (t : Int) = x at *
          generalize hy : rd_T24 zs (q : Int) = y at *
          obtain ⟨x0, x1, x2, x3, x4, x5, x6, x7⟩ := x
          obtain ⟨y0, y1, y2, y3, y4, y5, y6, y7⟩ := y
          simp only at *
          have HZL := Lib.hid hzl
          have hw1 := (w64 ((t : Int) - 1) g1).trans g2
          have hw1k : IntKind.i64.wrap ((t : Int) - 1) = (q : Int) := (IntWalk.i64_in _ g1).trans g2
          clear hq hzl hl1 hl2 hl3 hl4 hj1 hj2 ht1 ht2 ht3 hpl hql hne hx hy c4 g1 g2
          go_wp2_with (fail)
          go_region
          all_goals (
            go_wp2_with (fail)
            go_roundg k0
            case measure => omega
            case rel => exact ⟨q, _, rfl, ⟨KI⟩, ⟨by rw [swpG_len]; exact HZL.out, HTF.out⟩, ⟨Kd.R_below HPX.out.1 (drew_below _)⟩, ⟨grown_trans HGZ.out (grown_trans HPX.out.2 (grown_below (drew_below _) _))⟩⟩)
        · have c4a : decide ((i : Int) < (t : Int)) = false := decide_eq_false (by omega)
          have c4b : decide (i < t) = false := decide_eq_false c4
          have hzs : zs = F := by
            have := HZ.out.2
            rw [show t - i = 0 by omega] at this
            exact this
          subst hzs
          clear c4
          go_wp2_with (fail)
          (try simp only [Exit.inBlock, Exit.then])
          refine bodyPost_ret (results_none rfl _ _ _) rfl ?_
          exact ⟨rfl, HRZ.out, HGZ.out⟩
end Go.Proofs.YtlhdbcjlmkglkaaGreat.Q
