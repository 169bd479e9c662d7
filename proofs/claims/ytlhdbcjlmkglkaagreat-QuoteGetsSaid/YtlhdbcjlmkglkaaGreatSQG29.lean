/- Part 29 of the proof's texts: what the theorem needs of them. -/
import Derived.Test.YtlhdbcjlmkglkaaGreatSQG28

set_option linter.unusedVariables false
set_option linter.unusedSimpArgs false
/- slices.symMergeCmpFunc at quotes: the way that calls itself. -/
set_option linter.unusedSimpArgs false
set_option linter.unusedVariables false
namespace Go.Proofs.YtlhdbcjlmkglkaaGreat.Q
open Go Go.RowKit Go.Proofs Go.Proofs.YtlhdbcjlmkglkaaGreat.PL Go.Proofs.YtlhdbcjlmkglkaaGreat.StN Go.Proofs.YtlhdbcjlmkglkaaGreatW.PrintWords
def pMid (cm : S24 → S24 → Int) (xs : List S24) (p : Nat) (c : Nat) : Bool := !decide (cm (rd_T24 xs ((p - c : Nat) : Int)) (rd_T24 xs (c : Int)) < 0)
/-- What is done behind the search. -/
def midL (T : Nat → Nat → Nat → List S24 → List S24) (a m b mid st en : Nat) (zs : List S24) : List S24 :=
  let z1 := if st < m ∧ m < en then rotL m (m - st + (en - m)) (m - st) (en - m) zs else zs
  let z2 := if a < st ∧ st < mid then T a st mid z1 else z1
  if mid < en ∧ en < b then T mid en b z2 else z2
set_option maxHeartbeats 2000000 in
set_option maxRecDepth 1000000 in
theorem sym_midG (G k : Nat) (cv : Value) (cm : S24 → S24 → Int) (hp : CmpK G k cv cm) (eg : ∀ args w, (callFunc G args).run Tryz.prog w = .ok (.enter G args) w) (B : Nat) (ok : Nat → Prop) (g c a m b mid lo hi : Nat) (xs : List S24) (w : World)
    (T : Nat → Nat → Nat → List S24 → List S24) (hTl : ∀ a m b zs, (T a m b zs).length = zs.length)
    (H : ∀ (a' m' b' : Nat) (zs : List S24) (W : World), a' < m' → m' < b' → b' ≤ xs.length → b' - a' < b - a → zs.length = xs.length → Kd.R k24 24 W B ok (.slice (some ⟨g, 0, none⟩) xs.length c) zs → W.cell? ⟨k, 0, none⟩ = some cv →
      Calls Tryz.prog 106 #[.slice (some ⟨g, 0, none⟩) xs.length c, .int .i64 (a' : Int), .int .i64 (m' : Int), .int .i64 (b' : Int), .func (.func G) #[] #[.pointer (some ⟨k, 0, none⟩)]] W fun e w' => e = .returned (.tuple #[]) ∧ Kd.R k24 24 w' B ok (.slice (some ⟨g, 0, none⟩) xs.length c) (T a' m' b' zs) ∧ W.grownBy w' (some g))
    (hR : Kd.R k24 24 w B ok (.slice (some ⟨g, 0, none⟩) xs.length c) xs) (hc : w.cell? ⟨k, 0, none⟩ = some cv) (hkg : k ≠ g) (hlen : xs.length ≤ 1000000) (ham : a + 1 < m) (hmb : m + 1 < b) (hb : b ≤ xs.length) (hmid : (a + b) / 2 = mid) (hgr : mid < m) (hlo : mid + m - b = lo) (hhi : mid = hi) :
    Calls Tryz.prog 106 #[.slice (some ⟨g, 0, none⟩) xs.length c, .int .i64 (a : Int), .int .i64 (m : Int), .int .i64 (b : Int), .func (.func G) #[] #[.pointer (some ⟨k, 0, none⟩)]] w fun e w' =>
      e = .returned (.tuple #[]) ∧ Kd.R k24 24 w' B ok (.slice (some ⟨g, 0, none⟩) xs.length c) (midL T a m b mid (srch (pMid cm xs (mid + m - 1)) (hi - lo + 1) lo hi) (mid + m - srch (pMid cm xs (mid + m - 1)) (hi - lo + 1) lo hi) xs) ∧ w.grownBy w' (some g) := by
  have hu24 := Tryz.underlying24
  have HP := Lib.hid hp
  have HR := Lib.hid hR
  have HC := Lib.hid hc
  have HH := Lib.hid H
  have HTL := Lib.hid hTl
  obtain ⟨n, hn⟩ : ∃ n, mid + m = n := ⟨_, rfl⟩
  obtain ⟨p, hpn⟩ : ∃ p, n = p + 1 := ⟨n - 1, by omega⟩
  have hp1 : mid + m - 1 = p := by omega
  rw [hp1, hn]
  rw [hn] at hlo
  have hlh : a ≤ lo ∧ lo ≤ hi ∧ hi ≤ m ∧ hi ≤ mid ∧ mid < b ∧ a < mid ∧ p - lo < xs.length ∧ n - lo ≤ b := by omega
  have hsl := srch_le (pMid cm xs p) (hi - lo + 1) lo hi hlh.2.1
  obtain ⟨I, hI⟩ : ∃ I, srch (pMid cm xs p) (hi - lo + 1) lo hi = I := ⟨_, rfl⟩
  rw [hI] at hsl
  rw [hI]
  obtain ⟨F, hF⟩ : ∃ F, midL T a m b mid I (n - I) xs = F := ⟨_, rfl⟩
  rw [hF]
  have HF := Lib.hid hF
  have HII := Lib.hid (And.intro hI hsl)
  have HL := Lib.hid (And.intro hlen (And.intro hb (And.intro ham (And.intro hmb (And.intro hlh (And.intro hn hpn))))))
  have g1 : a ≤ m ∧ m ≤ 8000000 := by omega
  have g2 : m ≤ b ∧ b ≤ 8000000 := by omega
  have g3 : -9223372036854775808 ≤ (a : Int) + (b : Int) ∧ (a : Int) + (b : Int) ≤ 9223372036854775807 := by omega
  have g4 : 0 ≤ (a : Int) + (b : Int) ∧ (a : Int) + (b : Int) ≤ 9223372036854775807 := by omega
  have hmI : ((a : Int) + (b : Int)) / 2 = (mid : Int) := by omega
  have g5 : -9223372036854775808 ≤ (mid : Int) ∧ (mid : Int) ≤ 9223372036854775807 := by omega
  have g6 : mid + m ≤ 8000000 := by omega
  have g7 : b ≤ n ∧ n ≤ 8000000 := by omega
  have g8 : -9223372036854775808 ≤ (n : Int) - 1 ∧ (n : Int) - 1 ≤ 9223372036854775807 := by omega
  have g9 : (n : Int) - 1 = (p : Int) := by omega
  have hd1 : m - a ≠ 1 := by omega
  have hd2 : b - m ≠ 1 := by omega
  have cgma : decide ((mid : Int) < (m : Int)) = true := decide_eq_true (by omega)
  have cgmb : decide (mid < m) = true := decide_eq_true (by omega)
  have hwm := w2s m a g1.1 g1.2
  have hwmk := w2t m a g1.1 g1.2
  obtain ⟨d1, hdd⟩ : ∃ d1, m - a = d1 := ⟨_, rfl⟩
  rw [hdd] at hd1 hwm hwmk
  have cd1 : ((d1 : Int) == 1) = false := beq_eq_false_iff_ne.2 (fun e => hd1 (by omega))
  have cd2 : (d1 == 1) = false := beq_eq_false_iff_ne.2 hd1
  have hwb := w2s b m g2.1 g2.2
  have hwbk := w2t b m g2.1 g2.2
  obtain ⟨d2, hdd2⟩ : ∃ d2, b - m = d2 := ⟨_, rfl⟩
  rw [hdd2] at hd2 hwb hwbk
  have cd3 : ((d2 : Int) == 1) = false := beq_eq_false_iff_ne.2 (fun e => hd2 (by omega))
  have cd4 : (d2 == 1) = false := beq_eq_false_iff_ne.2 hd2
  have hs1 := w64 ((a : Int) + (b : Int)) g3
  have hs1k : IntKind.i64.wrap ((a : Int) + (b : Int)) = (a : Int) + (b : Int) := IntWalk.i64_in _ g3
  have hs2 := u64n ((a : Int) + (b : Int)) g4
  have hs3 := w64 (mid : Int) g5
  have hs3k : IntKind.i64.wrap (mid : Int) = (mid : Int) := IntWalk.i64_in _ g5
  have hs4 := w2n mid m g6
  rw [hn] at hs4
  have hs4k := w2k mid m g6
  rw [hn] at hs4k
  have hs5 := w2s n b g7.1 g7.2
  rw [hlo] at hs5
  have hs5k := w2t n b g7.1 g7.2
  rw [hlo] at hs5k
  have hs6 := (w64 ((n : Int) - 1) g8).trans g9
  have hs6k : IntKind.i64.wrap ((n : Int) - 1) = (p : Int) := (IntWalk.i64_in _ g8).trans g9
  have HLH := Lib.hid (And.intro hlo hhi)
  clear hp hR hc hF hI hsl hlh hlen hb ham hmb hdd hdd2 g1 g2 g3 g4 g5 g6 g7 g8 g9 H hTl hmid hn hpn hp1 hlo hhi hgr
  go_enter Tryz.func106, Tryz.ntmps106
  go_wp2_with (fail)
  go_loopg [20, 21] (hi - lo + 1) (fun kq v20 v21 w' => ∃ (i j : Nat), v20 = .int .i64 (i : Int) ∧ v21 = .int .i64 (j : Int) ∧ Aside0 (lo ≤ i ∧ i ≤ j ∧ j ≤ hi ∧ j - i < kq) ∧ Aside0 (srch (pMid cm xs p) kq i j = I) ∧ Aside0 (Below w.heap.size w w'))
  case atStart =>
    exact ⟨lo, hi, rfl, congrArg (Value.int .i64) (congrArg Int.ofNat HLH.out.2), ⟨by have := HL.out; omega⟩, ⟨HII.out.1⟩, ⟨Below.refl _ _⟩⟩
  case round =>
    obtain ⟨i, j, rfl, rfl, HI, HS, HB⟩ := hrel
    clear hs1 hs1k hs2 hs3 hs3k hs4 hs4k hs6 hs6k cd1 cd2 cd3 cd4 hd1 hd2 hwm hwmk hwb hwbk hmI hs5 hs5k
    obtain ⟨k0, rfl⟩ : ∃ k0, gk = k0 + 1 := ⟨gk - 1, by have := HI.out; omega⟩
    by_cases c1 : i < j
    · have c1a : decide ((i : Int) < (j : Int)) = true := decide_eq_true (by omega)
      have c1b : decide (i < j) = true := decide_eq_true c1
      obtain ⟨hi1, hi2, hi3, hi4⟩ := HI.out
      obtain ⟨hl1, hl2, hl3, hl4, ⟨hl5, hl6, hl7, hl8, hl9, hl10, hl11, hl12⟩, hl13, hl14⟩ := HL.out
      obtain ⟨h, hh⟩ : ∃ h, (i + j) / 2 = h := ⟨_, rfl⟩
      obtain ⟨q, hq⟩ : ∃ q, p - h = q := ⟨_, rfl⟩
      have hhx : h < xs.length := by omega
      have hqx : q < xs.length := by omega
      have KT : lo ≤ h + 1 ∧ h + 1 ≤ j ∧ j ≤ hi ∧ j - (h + 1) < k0 := by omega
      have KF : lo ≤ i ∧ i ≤ h ∧ h ≤ hi ∧ h - i < k0 := by omega
      have hhI : ((i : Int) + (j : Int)) / 2 = (h : Int) := by omega
      have g4 : h ≤ 2000000 := by omega
      have g7 : -9223372036854775808 ≤ (i : Int) + (j : Int) ∧ (i : Int) + (j : Int) ≤ 9223372036854775807 := by omega
      have g8 : 0 ≤ (i : Int) + (j : Int) ∧ (i : Int) + (j : Int) ≤ 9223372036854775807 := by omega
      have g5 : -9223372036854775808 ≤ (h : Int) ∧ (h : Int) ≤ 9223372036854775807 := by omega
      have g6 : h ≤ p ∧ p ≤ 8000000 := by omega
      have ph : (0 ≤ (h : Int)) = True := eq_true (by omega)
      have phl : ((h : Int) < (xs.length : Int)) = True := eq_true (by omega)
      have pq : (0 ≤ (q : Int)) = True := eq_true (by omega)
      have pql : ((q : Int) < (xs.length : Int)) = True := eq_true (by omega)
      have hs := HS.out
      rw [srch, if_pos c1, hh] at hs
      have HRW := Lib.hid (Kd.R_below HR.out HB.out)
      have HCC := Lib.hid (cell_below HC.out HB.out)
      have HS2 := Lib.hid hs
      have heq : pMid cm xs p h = !decide (cm (rd_T24 xs (q : Int)) (rd_T24 xs (h : Int)) < 0) := by unfold pMid; rw [hq]
      have hs1 := w64 ((i : Int) + (j : Int)) g7
      have hs1k : IntKind.i64.wrap ((i : Int) + (j : Int)) = (i : Int) + (j : Int) := IntWalk.i64_in _ g7
      have hs2 := u64n ((i : Int) + (j : Int)) g8
      have hw1 := w1n h g4
      have hwh := w64 (h : Int) g5
      have hwhk : IntKind.i64.wrap (h : Int) = (h : Int) := IntWalk.i64_in _ g5
      have hwq := w2s p h g6.1 g6.2
      rw [hq] at hwq
      have hwqk := w2t p h g6.1 g6.2
      rw [hq] at hwqk
      clear hi1 hi2 hi3 hi4 hl1 hl2 hl3 hl4 hl5 hl6 hl7 hl8 hl9 hl10 hl11 hl12 hl13 hl14 c1 hs g4 g5 g6 g7 g8 hh hq
      obtain ⟨hx0, hx1, hx2, hx3, hx4, hx5, hx6, hx7⟩ := row_at (row_C HRW.out rfl) hqx
      obtain ⟨hy0, hy1, hy2, hy3, hy4, hy5, hy6, hy7⟩ := row_at (row_C HRW.out rfl) hhx
      generalize hx : rd_T24 xs (q : Int) = x at *
      generalize hy : rd_T24 xs (h : Int) = y at *
      obtain ⟨b2, hb2⟩ : ∃ b2, decide (cm x y < 0) = b2 := ⟨_, rfl⟩
      have HB2 := Lib.hid hb2
      obtain ⟨x0, x1, x2, x3, x4, x5, x6, x7⟩ := x
      obtain ⟨y0, y1, y2, y3, y4, y5, y6, y7⟩ := y
      simp only at *
      have HSB := Lib.hid (show ∀ W W' : World, Below W.heap.size W W' → (W.cell? ⟨g, q * 8, none⟩ = some (.int .i64 x0) ∧ W.cell? ⟨g, q * 8 + 1, none⟩ = some (.int .i64 x1) ∧ W.cell? ⟨g, q * 8 + 2, none⟩ = some (.int .i64 x2) ∧ W.cell? ⟨g, q * 8 + 3, none⟩ = some (.int .i64 x3) ∧ W.cell? ⟨g, q * 8 + 4, none⟩ = some (.int .i64 x4) ∧ W.cell? ⟨g, q * 8 + 5, none⟩ = some (.int .i64 x5) ∧ W.cell? ⟨g, q * 8 + 6, none⟩ = some (.int .i64 x6) ∧ W.cell? ⟨g, q * 8 + 7, none⟩ = some (.int .i64 x7) ∧ W.cell? ⟨g, h * 8, none⟩ = some (.int .i64 y0) ∧ W.cell? ⟨g, h * 8 + 1, none⟩ = some (.int .i64 y1) ∧ W.cell? ⟨g, h * 8 + 2, none⟩ = some (.int .i64 y2) ∧ W.cell? ⟨g, h * 8 + 3, none⟩ = some (.int .i64 y3) ∧ W.cell? ⟨g, h * 8 + 4, none⟩ = some (.int .i64 y4) ∧ W.cell? ⟨g, h * 8 + 5, none⟩ = some (.int .i64 y5) ∧ W.cell? ⟨g, h * 8 + 6, none⟩ = some (.int .i64 y6) ∧ W.cell? ⟨g, h * 8 + 7, none⟩ = some (.int .i64 y7)) → (W'.cell? ⟨g, q * 8, none⟩ = some (.int .i64 x0) ∧ W'.cell? ⟨g, q * 8 + 1, none⟩ = some (.int .i64 x1) ∧ W'.cell? ⟨g, q * 8 + 2, none⟩ = some (.int .i64 x2) ∧ W'.cell? ⟨g, q * 8 + 3, none⟩ = some (.int .i64 x3) ∧ W'.cell? ⟨g, q * 8 + 4, none⟩ = some (.int .i64 x4) ∧ W'.cell? ⟨g, q * 8 + 5, none⟩ = some (.int .i64 x5) ∧ W'.cell? ⟨g, q * 8 + 6, none⟩ = some (.int .i64 x6) ∧ W'.cell? ⟨g, q * 8 + 7, none⟩ = some (.int .i64 x7) ∧ W'.cell? ⟨g, h * 8, none⟩ = some (.int .i64 y0) ∧ W'.cell? ⟨g, h * 8 + 1, none⟩ = some (.int .i64 y1) ∧ W'.cell? ⟨g, h * 8 + 2, none⟩ = some (.int .i64 y2) ∧ W'.cell? ⟨g, h * 8 + 3, none⟩ = some (.int .i64 y3) ∧ W'.cell? ⟨g, h * 8 + 4, none⟩ = some (.int .i64 y4) ∧ W'.cell? ⟨g, h * 8 + 5, none⟩ = some (.int .i64 y5) ∧ W'.cell? ⟨g, h * 8 + 6, none⟩ = some (.int .i64 y6) ∧ W'.cell? ⟨g, h * 8 + 7, none⟩ = some (.int .i64 y7)) from fun W W' b h => ⟨cell_below h.1 b, cell_below h.2.1 b, cell_below h.2.2.1 b, cell_below h.2.2.2.1 b, cell_below h.2.2.2.2.1 b, cell_below h.2.2.2.2.2.1 b, cell_below h.2.2.2.2.2.2.1 b, cell_below h.2.2.2.2.2.2.2.1 b, cell_below h.2.2.2.2.2.2.2.2.1 b, cell_below h.2.2.2.2.2.2.2.2.2.1 b, cell_below h.2.2.2.2.2.2.2.2.2.2.1 b, cell_below h.2.2.2.2.2.2.2.2.2.2.2.1 b, cell_below h.2.2.2.2.2.2.2.2.2.2.2.2.1 b, cell_below h.2.2.2.2.2.2.2.2.2.2.2.2.2.1 b, cell_below h.2.2.2.2.2.2.2.2.2.2.2.2.2.2.1 b, cell_below h.2.2.2.2.2.2.2.2.2.2.2.2.2.2.2 b⟩)
      have hSD := HSB.out wr wr.drew (drew_below wr) ⟨hx0, hx1, hx2, hx3, hx4, hx5, hx6, hx7, hy0, hy1, hy2, hy3, hy4, hy5, hy6, hy7⟩
      have HPC := Lib.hid (fun W b => HP.out W ⟨x0, x1, x2, x3, x4, x5, x6, x7⟩ ⟨y0, y1, y2, y3, y4, y5, y6, y7⟩ (cell_below HCC.out b))
      have HEQ := Lib.hid heq
      clear hx hy heq
      cases b2
      · go_wp2_with (fail)
        go_region_held3 (fun w' : World => w'.cell? ⟨g, q * 8, none⟩ = some (.int .i64 x0) ∧ w'.cell? ⟨g, q * 8 + 1, none⟩ = some (.int .i64 x1) ∧ w'.cell? ⟨g, q * 8 + 2, none⟩ = some (.int .i64 x2) ∧ w'.cell? ⟨g, q * 8 + 3, none⟩ = some (.int .i64 x3) ∧ w'.cell? ⟨g, q * 8 + 4, none⟩ = some (.int .i64 x4) ∧ w'.cell? ⟨g, q * 8 + 5, none⟩ = some (.int .i64 x5) ∧ w'.cell? ⟨g, q * 8 + 6, none⟩ = some (.int .i64 x6) ∧ w'.cell? ⟨g, q * 8 + 7, none⟩ = some (.int .i64 x7) ∧ w'.cell? ⟨g, h * 8, none⟩ = some (.int .i64 y0) ∧ w'.cell? ⟨g, h * 8 + 1, none⟩ = some (.int .i64 y1) ∧ w'.cell? ⟨g, h * 8 + 2, none⟩ = some (.int .i64 y2) ∧ w'.cell? ⟨g, h * 8 + 3, none⟩ = some (.int .i64 y3) ∧ w'.cell? ⟨g, h * 8 + 4, none⟩ = some (.int .i64 y4) ∧ w'.cell? ⟨g, h * 8 + 5, none⟩ = some (.int .i64 y5) ∧ w'.cell? ⟨g, h * 8 + 6, none⟩ = some (.int .i64 y6) ∧ w'.cell? ⟨g, h * 8 + 7, none⟩ = some (.int .i64 y7))
          (first | with_reducible assumption | with_reducible exact HSB.out _ _ (by with_reducible assumption) (by with_reducible assumption))
          (first | (go_at_fn G; refine (HPC.out _ (drew_below wr)).mono ?_; rintro e W2 ⟨rfl, b2⟩))
        all_goals (
          have B2 := bl2 (drew_below wr) b2
          go_wp2_with (fail)
          go_roundg k0
          case measure => omega
          case rel => exact ⟨h + 1, j, congrArg (Value.int .i64) hw1, rfl, ⟨KT⟩, ⟨by have := HS2.out; rw [if_pos (show pMid cm xs p h = true from HEQ.out.trans (congrArg not HB2.out))] at this; exact this⟩, ⟨HB.out.trans (B2.mono HB.out.size)⟩⟩)
      · go_wp2_with (fail)
        go_region_held3 (fun w' : World => w'.cell? ⟨g, q * 8, none⟩ = some (.int .i64 x0) ∧ w'.cell? ⟨g, q * 8 + 1, none⟩ = some (.int .i64 x1) ∧ w'.cell? ⟨g, q * 8 + 2, none⟩ = some (.int .i64 x2) ∧ w'.cell? ⟨g, q * 8 + 3, none⟩ = some (.int .i64 x3) ∧ w'.cell? ⟨g, q * 8 + 4, none⟩ = some (.int .i64 x4) ∧ w'.cell? ⟨g, q * 8 + 5, none⟩ = some (.int .i64 x5) ∧ w'.cell? ⟨g, q * 8 + 6, none⟩ = some (.int .i64 x6) ∧ w'.cell? ⟨g, q * 8 + 7, none⟩ = some (.int .i64 x7) ∧ w'.cell? ⟨g, h * 8, none⟩ = some (.int .i64 y0) ∧ w'.cell? ⟨g, h * 8 + 1, none⟩ = some (.int .i64 y1) ∧ w'.cell? ⟨g, h * 8 + 2, none⟩ = some (.int .i64 y2) ∧ w'.cell? ⟨g, h * 8 + 3, none⟩ = some (.int .i64 y3) ∧ w'.cell? ⟨g, h * 8 + 4, none⟩ = some (.int .i64 y4) ∧ w'.cell? ⟨g, h * 8 + 5, none⟩ = some (.int .i64 y5) ∧ w'.cell? ⟨g, h * 8 + 6, none⟩ = some (.int .i64 y6) ∧ w'.cell? ⟨g, h * 8 + 7, none⟩ = some (.int .i64 y7))
          (first | with_reducible assumption | with_reducible exact HSB.out _ _ (by with_reducible assumption) (by with_reducible assumption))
          (first | (go_at_fn G; refine (HPC.out _ (drew_below wr)).mono ?_; rintro e W2 ⟨rfl, b2⟩))
        all_goals (
          have B2 := bl2 (drew_below wr) b2
          go_wp2_with (fail)
          go_roundg k0
          case measure => omega
          case rel => exact ⟨i, h, rfl, rfl, ⟨KF⟩, ⟨by have := HS2.out; rw [if_neg (fun e => by rw [HEQ.out.trans (congrArg not HB2.out)] at e; exact absurd e (by decide))] at this; exact this⟩, ⟨HB.out.trans (B2.mono HB.out.size)⟩⟩)
    · have c1a : decide ((i : Int) < (j : Int)) = false := decide_eq_false (by omega)
      have c1b : decide (i < j) = false := decide_eq_false c1
      have hs := HS.out
      rw [srch, if_neg c1] at hs
      subst hs
      obtain ⟨hl1, hl2, hl3, hl4, ⟨hl5, hl6, hl7, hl8, hl9, hl10, hl11, hl12⟩, hl13, hl14⟩ := HL.out
      have hi2 := HII.out.2
      obtain ⟨en, hen⟩ : ∃ en, n - i = en := ⟨_, rfl⟩
      have hFF := HF.out
      rw [hen] at hFF
      have g1 : i ≤ n ∧ n ≤ 8000000 := by omega
      have HRW := Lib.hid (Kd.R_below HR.out HB.out)
      have HCC := Lib.hid (cell_below HC.out HB.out)
      have HWE := Lib.hid (And.intro (w2s n i g1.1 g1.2) (w2t n i g1.1 g1.2))
      rw [hen] at HWE
      have HGB := Lib.hid (grown_below HB.out (some g))
      clear HII HF HS HI c1 g1 HB HR HC
      by_cases q1 : i < m ∧ m < en
      · have caa : decide ((i : Int) < (m : Int)) = true := decide_eq_true (by omega)
        have cab : decide (i < m) = true := decide_eq_true (by omega)
        have cba : decide ((m : Int) < (en : Int)) = true := decide_eq_true (by omega)
        have cbb : decide (m < en) = true := decide_eq_true (by omega)
        by_cases q2 : a < i ∧ i < mid
        · have cca : decide ((a : Int) < (i : Int)) = true := decide_eq_true (by omega)
          have ccb : decide (a < i) = true := decide_eq_true (by omega)
          have cda : decide ((i : Int) < (mid : Int)) = true := decide_eq_true (by omega)
          have cdb : decide (i < mid) = true := decide_eq_true (by omega)
          by_cases q3 : mid < en ∧ en < b
          · have cea : decide ((mid : Int) < (en : Int)) = true := decide_eq_true (by omega)
            have ceb : decide (mid < en) = true := decide_eq_true (by omega)
            have cfa : decide ((en : Int) < (b : Int)) = true := decide_eq_true (by omega)
            have cfb : decide (en < b) = true := decide_eq_true (by omega)
            have hz : (T mid en b (T a i mid (rotL m (m - i + (en - m)) (m - i) (en - m) xs))) = F := by
              rw [← hFF]
              unfold midL
              simp only [if_pos q1, if_pos q2, if_pos q3]
            have HZ := Lib.hid hz
            have KA := Lib.hid (show (a < i ∧ i < mid ∧ mid ≤ xs.length ∧ mid - a < b - a) ∧ (mid < en ∧ en < b ∧ b ≤ xs.length ∧ b - mid < b - a) ∧ True by refine ⟨by omega, by omega, trivial⟩)
            have HC1 := Lib.hid (rot_any (.func (.func G) #[] #[.pointer (some ⟨k, 0, none⟩)]) B ok g c i m en xs wr HRW.out hl1 (by omega) (by omega) (by omega))
            obtain ⟨hwE, hwEk⟩ := HWE.out
            clear hl1 hl2 hl3 hl4 hl5 hl6 hl7 hl8 hl9 hl10 hl11 hl12 hl13 hl14 hi2 hen hFF hz q1 q2 q3
            go_wp2_with (first | (have Y3 := HC3; go_at_call 106; refine HC3.out.mono ?_; rintro e W3 ⟨rfl, hR3, hG3⟩; have HR3 := Lib.hid hR3; have HG3 := Lib.hid hG3; clear hR3 hG3) | (have Y2 := HC2; go_at_call 106; refine HC2.out.mono ?_; rintro e W2 ⟨rfl, hR2, hG2⟩; have HR2 := Lib.hid hR2; have HG2 := Lib.hid hG2; have HCW2 := Lib.hid (keep_cell hG2 HCW1.out (fun e => hkg (Option.some.inj e))); clear hR2 hG2; have HC3 := Lib.hid (HH.out mid en b (T a i mid (rotL m (m - i + (en - m)) (m - i) (en - m) xs)) W2 KA.out.2.1.1 KA.out.2.1.2.1 KA.out.2.1.2.2.1 KA.out.2.1.2.2.2 (by rw [HTL.out, rotL_len]) HR2.out HCW2.out)) | (go_at_call 126; refine HC1.out.mono ?_; rintro e W1 ⟨rfl, hR1, hG1⟩; have HR1 := Lib.hid hR1; have HG1 := Lib.hid hG1; have HCW1 := Lib.hid (keep_cell hG1 HCC.out (fun e => hkg (Option.some.inj e))); clear hR1 hG1; have HC2 := Lib.hid (HH.out a i mid (rotL m (m - i + (en - m)) (m - i) (en - m) xs) W1 KA.out.1.1 KA.out.1.2.1 KA.out.1.2.2.1 KA.out.1.2.2.2 (by rw [rotL_len]) HR1.out HCW1.out)))
            go_end0
            exact ⟨rfl, HZ.out ▸ HR3.out, (grown_trans (grown_trans (grown_trans HGB.out HG1.out) HG2.out) HG3.out)⟩
          · obtain ⟨u1, cea, ceb⟩ : ∃ u : Bool, decide ((mid : Int) < (en : Int)) = u ∧ decide (mid < en) = u := ⟨_, rfl, by rw [decide_eq_decide]; omega⟩
            have cfx : u1 = true → decide ((en : Int) < (b : Int)) = false ∧ decide (en < b) = false := fun e => by
              rw [e] at ceb
              have := of_decide_eq_true ceb
              exact ⟨decide_eq_false (by omega), decide_eq_false (by omega)⟩
            cases u1
            · clear cfx
              have hz : (T a i mid (rotL m (m - i + (en - m)) (m - i) (en - m) xs)) = F := by
                rw [← hFF]
                unfold midL
                simp only [if_pos q1, if_pos q2, if_neg q3]
              have HZ := Lib.hid hz
              have KA := Lib.hid (show (a < i ∧ i < mid ∧ mid ≤ xs.length ∧ mid - a < b - a) ∧ True by refine ⟨by omega, trivial⟩)
              have HC1 := Lib.hid (rot_any (.func (.func G) #[] #[.pointer (some ⟨k, 0, none⟩)]) B ok g c i m en xs wr HRW.out hl1 (by omega) (by omega) (by omega))
              obtain ⟨hwE, hwEk⟩ := HWE.out
              clear hl1 hl2 hl3 hl4 hl5 hl6 hl7 hl8 hl9 hl10 hl11 hl12 hl13 hl14 hi2 hen hFF hz q1 q2 q3
              go_wp2_with (first | (have Y2 := HC2; go_at_call 106; refine HC2.out.mono ?_; rintro e W2 ⟨rfl, hR2, hG2⟩; have HR2 := Lib.hid hR2; have HG2 := Lib.hid hG2; have HCW2 := Lib.hid (keep_cell hG2 HCW1.out (fun e => hkg (Option.some.inj e))); clear hR2 hG2) | (go_at_call 126; refine HC1.out.mono ?_; rintro e W1 ⟨rfl, hR1, hG1⟩; have HR1 := Lib.hid hR1; have HG1 := Lib.hid hG1; have HCW1 := Lib.hid (keep_cell hG1 HCC.out (fun e => hkg (Option.some.inj e))); clear hR1 hG1; have HC2 := Lib.hid (HH.out a i mid (rotL m (m - i + (en - m)) (m - i) (en - m) xs) W1 KA.out.1.1 KA.out.1.2.1 KA.out.1.2.2.1 KA.out.1.2.2.2 (by rw [rotL_len]) HR1.out HCW1.out)))
              go_end0
              exact ⟨rfl, HZ.out ▸ HR2.out, (grown_trans (grown_trans HGB.out HG1.out) HG2.out)⟩
            · obtain ⟨cfa, cfb⟩ := cfx rfl
              clear cfx
              have hz : (T a i mid (rotL m (m - i + (en - m)) (m - i) (en - m) xs)) = F := by
                rw [← hFF]
                unfold midL
                simp only [if_pos q1, if_pos q2, if_neg q3]
              have HZ := Lib.hid hz
              have KA := Lib.hid (show (a < i ∧ i < mid ∧ mid ≤ xs.length ∧ mid - a < b - a) ∧ True by refine ⟨by omega, trivial⟩)
              have HC1 := Lib.hid (rot_any (.func (.func G) #[] #[.pointer (some ⟨k, 0, none⟩)]) B ok g c i m en xs wr HRW.out hl1 (by omega) (by omega) (by omega))
              obtain ⟨hwE, hwEk⟩ := HWE.out
              clear hl1 hl2 hl3 hl4 hl5 hl6 hl7 hl8 hl9 hl10 hl11 hl12 hl13 hl14 hi2 hen hFF hz q1 q2 q3
              go_wp2_with (first | (have Y2 := HC2; go_at_call 106; refine HC2.out.mono ?_; rintro e W2 ⟨rfl, hR2, hG2⟩; have HR2 := Lib.hid hR2; have HG2 := Lib.hid hG2; have HCW2 := Lib.hid (keep_cell hG2 HCW1.out (fun e => hkg (Option.some.inj e))); clear hR2 hG2) | (go_at_call 126; refine HC1.out.mono ?_; rintro e W1 ⟨rfl, hR1, hG1⟩; have HR1 := Lib.hid hR1; have HG1 := Lib.hid hG1; have HCW1 := Lib.hid (keep_cell hG1 HCC.out (fun e => hkg (Option.some.inj e))); clear hR1 hG1; have HC2 := Lib.hid (HH.out a i mid (rotL m (m - i + (en - m)) (m - i) (en - m) xs) W1 KA.out.1.1 KA.out.1.2.1 KA.out.1.2.2.1 KA.out.1.2.2.2 (by rw [rotL_len]) HR1.out HCW1.out)))
              go_end0
              exact ⟨rfl, HZ.out ▸ HR2.out, (grown_trans (grown_trans HGB.out HG1.out) HG2.out)⟩
        · obtain ⟨u1, cca, ccb⟩ : ∃ u : Bool, decide ((a : Int) < (i : Int)) = u ∧ decide (a < i) = u := ⟨_, rfl, by rw [decide_eq_decide]; omega⟩
          have cdx : u1 = true → decide ((i : Int) < (mid : Int)) = false ∧ decide (i < mid) = false := fun e => by
            rw [e] at ccb
            have := of_decide_eq_true ccb
            exact ⟨decide_eq_false (by omega), decide_eq_false (by omega)⟩
          cases u1
          · clear cdx
            by_cases q3 : mid < en ∧ en < b
            · have cea : decide ((mid : Int) < (en : Int)) = true := decide_eq_true (by omega)
              have ceb : decide (mid < en) = true := decide_eq_true (by omega)
              have cfa : decide ((en : Int) < (b : Int)) = true := decide_eq_true (by omega)
              have cfb : decide (en < b) = true := decide_eq_true (by omega)
              have hz : (T mid en b (rotL m (m - i + (en - m)) (m - i) (en - m) xs)) = F := by
                rw [← hFF]
                unfold midL
                simp only [if_pos q1, if_neg q2, if_pos q3]
              have HZ := Lib.hid hz
              have KA := Lib.hid (show (mid < en ∧ en < b ∧ b ≤ xs.length ∧ b - mid < b - a) ∧ True by refine ⟨by omega, trivial⟩)
              have HC1 := Lib.hid (rot_any (.func (.func G) #[] #[.pointer (some ⟨k, 0, none⟩)]) B ok g c i m en xs wr HRW.out hl1 (by omega) (by omega) (by omega))
              obtain ⟨hwE, hwEk⟩ := HWE.out
              clear hl1 hl2 hl3 hl4 hl5 hl6 hl7 hl8 hl9 hl10 hl11 hl12 hl13 hl14 hi2 hen hFF hz q1 q2 q3
              go_wp2_with (first | (have Y3 := HC3; go_at_call 106; refine HC3.out.mono ?_; rintro e W3 ⟨rfl, hR3, hG3⟩; have HR3 := Lib.hid hR3; have HG3 := Lib.hid hG3; clear hR3 hG3) | (go_at_call 126; refine HC1.out.mono ?_; rintro e W1 ⟨rfl, hR1, hG1⟩; have HR1 := Lib.hid hR1; have HG1 := Lib.hid hG1; have HCW1 := Lib.hid (keep_cell hG1 HCC.out (fun e => hkg (Option.some.inj e))); clear hR1 hG1; have HC3 := Lib.hid (HH.out mid en b (rotL m (m - i + (en - m)) (m - i) (en - m) xs) W1 KA.out.1.1 KA.out.1.2.1 KA.out.1.2.2.1 KA.out.1.2.2.2 (by rw [rotL_len]) HR1.out HCW1.out)))
              go_end0
              exact ⟨rfl, HZ.out ▸ HR3.out, (grown_trans (grown_trans HGB.out HG1.out) HG3.out)⟩
            · obtain ⟨u1, cea, ceb⟩ : ∃ u : Bool, decide ((mid : Int) < (en : Int)) = u ∧ decide (mid < en) = u := ⟨_, rfl, by rw [decide_eq_decide]; omega⟩
              have cfx : u1 = true → decide ((en : Int) < (b : Int)) = false ∧ decide (en < b) = false := fun e => by
                rw [e] at ceb
                have := of_decide_eq_true ceb
                exact ⟨decide_eq_false (by omega), decide_eq_false (by omega)⟩
              cases u1
              · clear cfx
                have hz : (rotL m (m - i + (en - m)) (m - i) (en - m) xs) = F := by
                  rw [← hFF]
                  unfold midL
                  simp only [if_pos q1, if_neg q2, if_neg q3]
                have HZ := Lib.hid hz
                have KA := Lib.hid (show True by trivial)
                have HC1 := Lib.hid (rot_any (.func (.func G) #[] #[.pointer (some ⟨k, 0, none⟩)]) B ok g c i m en xs wr HRW.out hl1 (by omega) (by omega) (by omega))
                obtain ⟨hwE, hwEk⟩ := HWE.out
                clear hl1 hl2 hl3 hl4 hl5 hl6 hl7 hl8 hl9 hl10 hl11 hl12 hl13 hl14 hi2 hen hFF hz q1 q2 q3
                go_wp2_with (first | (go_at_call 126; refine HC1.out.mono ?_; rintro e W1 ⟨rfl, hR1, hG1⟩; have HR1 := Lib.hid hR1; have HG1 := Lib.hid hG1; have HCW1 := Lib.hid (keep_cell hG1 HCC.out (fun e => hkg (Option.some.inj e))); clear hR1 hG1))
                go_end0
                exact ⟨rfl, HZ.out ▸ HR1.out, (grown_trans HGB.out HG1.out)⟩
              · obtain ⟨cfa, cfb⟩ := cfx rfl
                clear cfx
                have hz : (rotL m (m - i + (en - m)) (m - i) (en - m) xs) = F := by
                  rw [← hFF]
                  unfold midL
                  simp only [if_pos q1, if_neg q2, if_neg q3]
                have HZ := Lib.hid hz
                have KA := Lib.hid (show True by trivial)
                have HC1 := Lib.hid (rot_any (.func (.func G) #[] #[.pointer (some ⟨k, 0, none⟩)]) B ok g c i m en xs wr HRW.out hl1 (by omega) (by omega) (by omega))
                obtain ⟨hwE, hwEk⟩ := HWE.out
                clear hl1 hl2 hl3 hl4 hl5 hl6 hl7 hl8 hl9 hl10 hl11 hl12 hl13 hl14 hi2 hen hFF hz q1 q2 q3
                go_wp2_with (first | (go_at_call 126; refine HC1.out.mono ?_; rintro e W1 ⟨rfl, hR1, hG1⟩; have HR1 := Lib.hid hR1; have HG1 := Lib.hid hG1; have HCW1 := Lib.hid (keep_cell hG1 HCC.out (fun e => hkg (Option.some.inj e))); clear hR1 hG1))
                go_end0
                exact ⟨rfl, HZ.out ▸ HR1.out, (grown_trans HGB.out HG1.out)⟩
          · obtain ⟨cda, cdb⟩ := cdx rfl
            clear cdx
            by_cases q3 : mid < en ∧ en < b
            · have cea : decide ((mid : Int) < (en : Int)) = true := decide_eq_true (by omega)
              have ceb : decide (mid < en) = true := decide_eq_true (by omega)
              have cfa : decide ((en : Int) < (b : Int)) = true := decide_eq_true (by omega)
              have cfb : decide (en < b) = true := decide_eq_true (by omega)
              have hz : (T mid en b (rotL m (m - i + (en - m)) (m - i) (en - m) xs)) = F := by
                rw [← hFF]
                unfold midL
                simp only [if_pos q1, if_neg q2, if_pos q3]
              have HZ := Lib.hid hz
              have KA := Lib.hid (show (mid < en ∧ en < b ∧ b ≤ xs.length ∧ b - mid < b - a) ∧ True by refine ⟨by omega, trivial⟩)
              have HC1 := Lib.hid (rot_any (.func (.func G) #[] #[.pointer (some ⟨k, 0, none⟩)]) B ok g c i m en xs wr HRW.out hl1 (by omega) (by omega) (by omega))
              obtain ⟨hwE, hwEk⟩ := HWE.out
              clear hl1 hl2 hl3 hl4 hl5 hl6 hl7 hl8 hl9 hl10 hl11 hl12 hl13 hl14 hi2 hen hFF hz q1 q2 q3
              go_wp2_with (first | (have Y3 := HC3; go_at_call 106; refine HC3.out.mono ?_; rintro e W3 ⟨rfl, hR3, hG3⟩; have HR3 := Lib.hid hR3; have HG3 := Lib.hid hG3; clear hR3 hG3) | (go_at_call 126; refine HC1.out.mono ?_; rintro e W1 ⟨rfl, hR1, hG1⟩; have HR1 := Lib.hid hR1; have HG1 := Lib.hid hG1; have HCW1 := Lib.hid (keep_cell hG1 HCC.out (fun e => hkg (Option.some.inj e))); clear hR1 hG1; have HC3 := Lib.hid (HH.out mid en b (rotL m (m - i + (en - m)) (m - i) (en - m) xs) W1 KA.out.1.1 KA.out.1.2.1 KA.out.1.2.2.1 KA.out.1.2.2.2 (by rw [rotL_len]) HR1.out HCW1.out)))
              go_end0
              exact ⟨rfl, HZ.out ▸ HR3.out, (grown_trans (grown_trans HGB.out HG1.out) HG3.out)⟩
            · obtain ⟨u1, cea, ceb⟩ : ∃ u : Bool, decide ((mid : Int) < (en : Int)) = u ∧ decide (mid < en) = u := ⟨_, rfl, by rw [decide_eq_decide]; omega⟩
              have cfx : u1 = true → decide ((en : Int) < (b : Int)) = false ∧ decide (en < b) = false := fun e => by
                rw [e] at ceb
                have := of_decide_eq_true ceb
                exact ⟨decide_eq_false (by omega), decide_eq_false (by omega)⟩
              cases u1
              · clear cfx
                have hz : (rotL m (m - i + (en - m)) (m - i) (en - m) xs) = F := by
                  rw [← hFF]
                  unfold midL
                  simp only [if_pos q1, if_neg q2, if_neg q3]
                have HZ := Lib.hid hz
                have KA := Lib.hid (show True by trivial)
                have HC1 := Lib.hid (rot_any (.func (.func G) #[] #[.pointer (some ⟨k, 0, none⟩)]) B ok g c i m en xs wr HRW.out hl1 (by omega) (by omega) (by omega))
                obtain ⟨hwE, hwEk⟩ := HWE.out
                clear hl1 hl2 hl3 hl4 hl5 hl6 hl7 hl8 hl9 hl10 hl11 hl12 hl13 hl14 hi2 hen hFF hz q1 q2 q3
                go_wp2_with (first | (go_at_call 126; refine HC1.out.mono ?_; rintro e W1 ⟨rfl, hR1, hG1⟩; have HR1 := Lib.hid hR1; have HG1 := Lib.hid hG1; have HCW1 := Lib.hid (keep_cell hG1 HCC.out (fun e => hkg (Option.some.inj e))); clear hR1 hG1))
                go_end0
                exact ⟨rfl, HZ.out ▸ HR1.out, (grown_trans HGB.out HG1.out)⟩
              · obtain ⟨cfa, cfb⟩ := cfx rfl
                clear cfx
                have hz : (rotL m (m - i + (en - m)) (m - i) (en - m) xs) = F := by
                  rw [← hFF]
                  unfold midL
                  simp only [if_pos q1, if_neg q2, if_neg q3]
                have HZ := Lib.hid hz
                have KA := Lib.hid (show True by trivial)
                have HC1 := Lib.hid (rot_any (.func (.func G) #[] #[.pointer (some ⟨k, 0, none⟩)]) B ok g c i m en xs wr HRW.out hl1 (by omega) (by omega) (by omega))
                obtain ⟨hwE, hwEk⟩ := HWE.out
                clear hl1 hl2 hl3 hl4 hl5 hl6 hl7 hl8 hl9 hl10 hl11 hl12 hl13 hl14 hi2 hen hFF hz q1 q2 q3
                go_wp2_with (first | (go_at_call 126; refine HC1.out.mono ?_; rintro e W1 ⟨rfl, hR1, hG1⟩; have HR1 := Lib.hid hR1; have HG1 := Lib.hid hG1; have HCW1 := Lib.hid (keep_cell hG1 HCC.out (fun e => hkg (Option.some.inj e))); clear hR1 hG1))
                go_end0
                exact ⟨rfl, HZ.out ▸ HR1.out, (grown_trans HGB.out HG1.out)⟩
      · obtain ⟨u1, caa, cab⟩ : ∃ u : Bool, decide ((i : Int) < (m : Int)) = u ∧ decide (i < m) = u := ⟨_, rfl, by rw [decide_eq_decide]; omega⟩
        have cbx : u1 = true → decide ((m : Int) < (en : Int)) = false ∧ decide (m < en) = false := fun e => by
          rw [e] at cab
          have := of_decide_eq_true cab
          exact ⟨decide_eq_false (by omega), decide_eq_false (by omega)⟩
        cases u1
        · clear cbx
          by_cases q2 : a < i ∧ i < mid
          · have cca : decide ((a : Int) < (i : Int)) = true := decide_eq_true (by omega)
            have ccb : decide (a < i) = true := decide_eq_true (by omega)
            have cda : decide ((i : Int) < (mid : Int)) = true := decide_eq_true (by omega)
            have cdb : decide (i < mid) = true := decide_eq_true (by omega)
            by_cases q3 : mid < en ∧ en < b
            · have cea : decide ((mid : Int) < (en : Int)) = true := decide_eq_true (by omega)
              have ceb : decide (mid < en) = true := decide_eq_true (by omega)
              have cfa : decide ((en : Int) < (b : Int)) = true := decide_eq_true (by omega)
              have cfb : decide (en < b) = true := decide_eq_true (by omega)
              have hz : (T mid en b (T a i mid xs)) = F := by
                rw [← hFF]
                unfold midL
                simp only [if_neg q1, if_pos q2, if_pos q3]
              have HZ := Lib.hid hz
              have KA := Lib.hid (show (a < i ∧ i < mid ∧ mid ≤ xs.length ∧ mid - a < b - a) ∧ (mid < en ∧ en < b ∧ b ≤ xs.length ∧ b - mid < b - a) ∧ True by refine ⟨by omega, by omega, trivial⟩)
              have HC2 := Lib.hid (HH.out a i mid xs wr KA.out.1.1 KA.out.1.2.1 KA.out.1.2.2.1 KA.out.1.2.2.2 rfl HRW.out HCC.out)
              obtain ⟨hwE, hwEk⟩ := HWE.out
              clear hl1 hl2 hl3 hl4 hl5 hl6 hl7 hl8 hl9 hl10 hl11 hl12 hl13 hl14 hi2 hen hFF hz q1 q2 q3
              go_wp2_with (first | (have Y3 := HC3; go_at_call 106; refine HC3.out.mono ?_; rintro e W3 ⟨rfl, hR3, hG3⟩; have HR3 := Lib.hid hR3; have HG3 := Lib.hid hG3; clear hR3 hG3) | (have Y2 := HC2; go_at_call 106; refine HC2.out.mono ?_; rintro e W2 ⟨rfl, hR2, hG2⟩; have HR2 := Lib.hid hR2; have HG2 := Lib.hid hG2; have HCW2 := Lib.hid (keep_cell hG2 HCC.out (fun e => hkg (Option.some.inj e))); clear hR2 hG2; have HC3 := Lib.hid (HH.out mid en b (T a i mid xs) W2 KA.out.2.1.1 KA.out.2.1.2.1 KA.out.2.1.2.2.1 KA.out.2.1.2.2.2 (by rw [HTL.out]) HR2.out HCW2.out)))
              go_end0
              exact ⟨rfl, HZ.out ▸ HR3.out, (grown_trans (grown_trans HGB.out HG2.out) HG3.out)⟩
            · obtain ⟨u1, cea, ceb⟩ : ∃ u : Bool, decide ((mid : Int) < (en : Int)) = u ∧ decide (mid < en) = u := ⟨_, rfl, by rw [decide_eq_decide]; omega⟩
              have cfx : u1 = true → decide ((en : Int) < (b : Int)) = false ∧ decide (en < b) = false := fun e => by
                rw [e] at ceb
                have := of_decide_eq_true ceb
                exact ⟨decide_eq_false (by omega), decide_eq_false (by omega)⟩
              cases u1
              · clear cfx
                have hz : (T a i mid xs) = F := by
                  rw [← hFF]
                  unfold midL
                  simp only [if_neg q1, if_pos q2, if_neg q3]
                have HZ := Lib.hid hz
                have KA := Lib.hid (show (a < i ∧ i < mid ∧ mid ≤ xs.length ∧ mid - a < b - a) ∧ True by refine ⟨by omega, trivial⟩)
                have HC2 := Lib.hid (HH.out a i mid xs wr KA.out.1.1 KA.out.1.2.1 KA.out.1.2.2.1 KA.out.1.2.2.2 rfl HRW.out HCC.out)
                obtain ⟨hwE, hwEk⟩ := HWE.out
                clear hl1 hl2 hl3 hl4 hl5 hl6 hl7 hl8 hl9 hl10 hl11 hl12 hl13 hl14 hi2 hen hFF hz q1 q2 q3
                go_wp2_with (first | (have Y2 := HC2; go_at_call 106; refine HC2.out.mono ?_; rintro e W2 ⟨rfl, hR2, hG2⟩; have HR2 := Lib.hid hR2; have HG2 := Lib.hid hG2; have HCW2 := Lib.hid (keep_cell hG2 HCC.out (fun e => hkg (Option.some.inj e))); clear hR2 hG2))
                go_end0
                exact ⟨rfl, HZ.out ▸ HR2.out, (grown_trans HGB.out HG2.out)⟩
              · obtain ⟨cfa, cfb⟩ := cfx rfl
                clear cfx
                have hz : (T a i mid xs) = F := by
                  rw [← hFF]
                  unfold midL
                  simp only [if_neg q1, if_pos q2, if_neg q3]
                have HZ := Lib.hid hz
                have KA := Lib.hid (show (a < i ∧ i < mid ∧ mid ≤ xs.length ∧ mid - a < b - a) ∧ True by refine ⟨by omega, trivial⟩)
                have HC2 := Lib.hid (HH.out a i mid xs wr KA.out.1.1 KA.out.1.2.1 KA.out.1.2.2.1 KA.out.1.2.2.2 rfl HRW.out HCC.out)
                obtain ⟨hwE, hwEk⟩ := HWE.out
                clear hl1 hl2 hl3 hl4 hl5 hl6 hl7 hl8 hl9 hl10 hl11 hl12 hl13 hl14 hi2 hen hFF hz q1 q2 q3
                go_wp2_with (first | (have Y2 := HC2; go_at_call 106; refine HC2.out.mono ?_; rintro e W2 ⟨rfl, hR2, hG2⟩; have HR2 := Lib.hid hR2; have HG2 := Lib.hid hG2; have HCW2 := Lib.hid (keep_cell hG2 HCC.out (fun e => hkg (Option.some.inj e))); clear hR2 hG2))
                go_end0
                exact ⟨rfl, HZ.out ▸ HR2.out, (grown_trans HGB.out HG2.out)⟩
          · obtain ⟨u1, cca, ccb⟩ : ∃ u : Bool, decide ((a : Int) < (i : Int)) = u ∧ decide (a < i) = u := ⟨_, rfl, by rw [decide_eq_decide]; omega⟩
            have cdx : u1 = true → decide ((i : Int) < (mid : Int)) = false ∧ decide (i < mid) = false := fun e => by
              rw [e] at ccb
              have := of_decide_eq_true ccb
              exact ⟨decide_eq_false (by omega), decide_eq_false (by omega)⟩
            cases u1
            · clear cdx
              by_cases q3 : mid < en ∧ en < b
              · have cea : decide ((mid : Int) < (en : Int)) = true := decide_eq_true (by omega)
                have ceb : decide (mid < en) = true := decide_eq_true (by omega)
                have cfa : decide ((en : Int) < (b : Int)) = true := decide_eq_true (by omega)
                have cfb : decide (en < b) = true := decide_eq_true (by omega)
                have hz : (T mid en b xs) = F := by
                  rw [← hFF]
                  unfold midL
                  simp only [if_neg q1, if_neg q2, if_pos q3]
                have HZ := Lib.hid hz
                have KA := Lib.hid (show (mid < en ∧ en < b ∧ b ≤ xs.length ∧ b - mid < b - a) ∧ True by refine ⟨by omega, trivial⟩)
                have HC3 := Lib.hid (HH.out mid en b xs wr KA.out.1.1 KA.out.1.2.1 KA.out.1.2.2.1 KA.out.1.2.2.2 rfl HRW.out HCC.out)
                obtain ⟨hwE, hwEk⟩ := HWE.out
                clear hl1 hl2 hl3 hl4 hl5 hl6 hl7 hl8 hl9 hl10 hl11 hl12 hl13 hl14 hi2 hen hFF hz q1 q2 q3
                go_wp2_with (first | (have Y3 := HC3; go_at_call 106; refine HC3.out.mono ?_; rintro e W3 ⟨rfl, hR3, hG3⟩; have HR3 := Lib.hid hR3; have HG3 := Lib.hid hG3; clear hR3 hG3))
                go_end0
                exact ⟨rfl, HZ.out ▸ HR3.out, (grown_trans HGB.out HG3.out)⟩
              · obtain ⟨u1, cea, ceb⟩ : ∃ u : Bool, decide ((mid : Int) < (en : Int)) = u ∧ decide (mid < en) = u := ⟨_, rfl, by rw [decide_eq_decide]; omega⟩
                have cfx : u1 = true → decide ((en : Int) < (b : Int)) = false ∧ decide (en < b) = false := fun e => by
                  rw [e] at ceb
                  have := of_decide_eq_true ceb
                  exact ⟨decide_eq_false (by omega), decide_eq_false (by omega)⟩
                cases u1
                · clear cfx
                  have hz : xs = F := by
                    rw [← hFF]
                    unfold midL
                    simp only [if_neg q1, if_neg q2, if_neg q3]
                  have HZ := Lib.hid hz
                  have KA := Lib.hid (show True by trivial)
                  obtain ⟨hwE, hwEk⟩ := HWE.out
                  clear hl1 hl2 hl3 hl4 hl5 hl6 hl7 hl8 hl9 hl10 hl11 hl12 hl13 hl14 hi2 hen hFF hz q1 q2 q3
                  go_wp2_with (fail)
                  go_end0
                  exact ⟨rfl, HZ.out ▸ HRW.out, HGB.out⟩
                · obtain ⟨cfa, cfb⟩ := cfx rfl
                  clear cfx
                  have hz : xs = F := by
                    rw [← hFF]
                    unfold midL
                    simp only [if_neg q1, if_neg q2, if_neg q3]
                  have HZ := Lib.hid hz
                  have KA := Lib.hid (show True by trivial)
                  obtain ⟨hwE, hwEk⟩ := HWE.out
                  clear hl1 hl2 hl3 hl4 hl5 hl6 hl7 hl8 hl9 hl10 hl11 hl12 hl13 hl14 hi2 hen hFF hz q1 q2 q3
                  go_wp2_with (fail)
                  go_end0
                  exact ⟨rfl, HZ.out ▸ HRW.out, HGB.out⟩
            · obtain ⟨cda, cdb⟩ := cdx rfl
              clear cdx
              by_cases q3 : mid < en ∧ en < b
              · have cea : decide ((mid : Int) < (en : Int)) = true := decide_eq_true (by omega)
                have ceb : decide (mid < en) = true := decide_eq_true (by omega)
                have cfa : decide ((en : Int) < (b : Int)) = true := decide_eq_true (by omega)
                have cfb : decide (en < b) = true := decide_eq_true (by omega)
                have hz : (T mid en b xs) = F := by
                  rw [← hFF]
                  unfold midL
                  simp only [if_neg q1, if_neg q2, if_pos q3]
                have HZ := Lib.hid hz
                have KA := Lib.hid (show (mid < en ∧ en < b ∧ b ≤ xs.length ∧ b - mid < b - a) ∧ True by refine ⟨by omega, trivial⟩)
                have HC3 := Lib.hid (HH.out mid en b xs wr KA.out.1.1 KA.out.1.2.1 KA.out.1.2.2.1 KA.out.1.2.2.2 rfl HRW.out HCC.out)
                obtain ⟨hwE, hwEk⟩ := HWE.out
                clear hl1 hl2 hl3 hl4 hl5 hl6 hl7 hl8 hl9 hl10 hl11 hl12 hl13 hl14 hi2 hen hFF hz q1 q2 q3
                go_wp2_with (first | (have Y3 := HC3; go_at_call 106; refine HC3.out.mono ?_; rintro e W3 ⟨rfl, hR3, hG3⟩; have HR3 := Lib.hid hR3; have HG3 := Lib.hid hG3; clear hR3 hG3))
                go_end0
                exact ⟨rfl, HZ.out ▸ HR3.out, (grown_trans HGB.out HG3.out)⟩
              · obtain ⟨u1, cea, ceb⟩ : ∃ u : Bool, decide ((mid : Int) < (en : Int)) = u ∧ decide (mid < en) = u := ⟨_, rfl, by rw [decide_eq_decide]; omega⟩
                have cfx : u1 = true → decide ((en : Int) < (b : Int)) = false ∧ decide (en < b) = false := fun e => by
                  rw [e] at ceb
                  have := of_decide_eq_true ceb
                  exact ⟨decide_eq_false (by omega), decide_eq_false (by omega)⟩
                cases u1
                · clear cfx
                  have hz : xs = F := by
                    rw [← hFF]
                    unfold midL
                    simp only [if_neg q1, if_neg q2, if_neg q3]
                  have HZ := Lib.hid hz
                  have KA := Lib.hid (show True by trivial)
                  obtain ⟨hwE, hwEk⟩ := HWE.out
                  clear hl1 hl2 hl3 hl4 hl5 hl6 hl7 hl8 hl9 hl10 hl11 hl12 hl13 hl14 hi2 hen hFF hz q1 q2 q3
                  go_wp2_with (fail)
                  go_end0
                  exact ⟨rfl, HZ.out ▸ HRW.out, HGB.out⟩
                · obtain ⟨cfa, cfb⟩ := cfx rfl
                  clear cfx
                  have hz : xs = F := by
                    rw [← hFF]
                    unfold midL
                    simp only [if_neg q1, if_neg q2, if_neg q3]
                  have HZ := Lib.hid hz
                  have KA := Lib.hid (show True by trivial)
                  obtain ⟨hwE, hwEk⟩ := HWE.out
                  clear hl1 hl2 hl3 hl4 hl5 hl6 hl7 hl8 hl9 hl10 hl11 hl12 hl13 hl14 hi2 hen hFF hz q1 q2 q3
                  go_wp2_with (fail)
                  go_end0
                  exact ⟨rfl, HZ.out ▸ HRW.out, HGB.out⟩
        · obtain ⟨cba, cbb⟩ := cbx rfl
          clear cbx
          by_cases q2 : a < i ∧ i < mid
          · have cca : decide ((a : Int) < (i : Int)) = true := decide_eq_true (by omega)
            have ccb : decide (a < i) = true := decide_eq_true (by omega)
            have cda : decide ((i : Int) < (mid : Int)) = true := decide_eq_true (by omega)
            have cdb : decide (i < mid) = true := decide_eq_true (by omega)
            by_cases q3 : mid < en ∧ en < b
            · have cea : decide ((mid : Int) < (en : Int)) = true := decide_eq_true (by omega)
              have ceb : decide (mid < en) = true := decide_eq_true (by omega)
              have cfa : decide ((en : Int) < (b : Int)) = true := decide_eq_true (by omega)
              have cfb : decide (en < b) = true := decide_eq_true (by omega)
              have hz : (T mid en b (T a i mid xs)) = F := by
                rw [← hFF]
                unfold midL
                simp only [if_neg q1, if_pos q2, if_pos q3]
              have HZ := Lib.hid hz
              have KA := Lib.hid (show (a < i ∧ i < mid ∧ mid ≤ xs.length ∧ mid - a < b - a) ∧ (mid < en ∧ en < b ∧ b ≤ xs.length ∧ b - mid < b - a) ∧ True by refine ⟨by omega, by omega, trivial⟩)
              have HC2 := Lib.hid (HH.out a i mid xs wr KA.out.1.1 KA.out.1.2.1 KA.out.1.2.2.1 KA.out.1.2.2.2 rfl HRW.out HCC.out)
              obtain ⟨hwE, hwEk⟩ := HWE.out
              clear hl1 hl2 hl3 hl4 hl5 hl6 hl7 hl8 hl9 hl10 hl11 hl12 hl13 hl14 hi2 hen hFF hz q1 q2 q3
              go_wp2_with (first | (have Y3 := HC3; go_at_call 106; refine HC3.out.mono ?_; rintro e W3 ⟨rfl, hR3, hG3⟩; have HR3 := Lib.hid hR3; have HG3 := Lib.hid hG3; clear hR3 hG3) | (have Y2 := HC2; go_at_call 106; refine HC2.out.mono ?_; rintro e W2 ⟨rfl, hR2, hG2⟩; have HR2 := Lib.hid hR2; have HG2 := Lib.hid hG2; have HCW2 := Lib.hid (keep_cell hG2 HCC.out (fun e => hkg (Option.some.inj e))); clear hR2 hG2; have HC3 := Lib.hid (HH.out mid en b (T a i mid xs) W2 KA.out.2.1.1 KA.out.2.1.2.1 KA.out.2.1.2.2.1 KA.out.2.1.2.2.2 (by rw [HTL.out]) HR2.out HCW2.out)))
              go_end0
              exact ⟨rfl, HZ.out ▸ HR3.out, (grown_trans (grown_trans HGB.out HG2.out) HG3.out)⟩
            · obtain ⟨u1, cea, ceb⟩ : ∃ u : Bool, decide ((mid : Int) < (en : Int)) = u ∧ decide (mid < en) = u := ⟨_, rfl, by rw [decide_eq_decide]; omega⟩
              have cfx : u1 = true → decide ((en : Int) < (b : Int)) = false ∧ decide (en < b) = false := fun e => by
                rw [e] at ceb
                have := of_decide_eq_true ceb
                exact ⟨decide_eq_false (by omega), decide_eq_false (by omega)⟩
              cases u1
              · clear cfx
                have hz : (T a i mid xs) = F := by
                  rw [← hFF]
                  unfold midL
                  simp only [if_neg q1, if_pos q2, if_neg q3]
                have HZ := Lib.hid hz
                have KA := Lib.hid (show (a < i ∧ i < mid ∧ mid ≤ xs.length ∧ mid - a < b - a) ∧ True by refine ⟨by omega, trivial⟩)
                have HC2 := Lib.hid (HH.out a i mid xs wr KA.out.1.1 KA.out.1.2.1 KA.out.1.2.2.1 KA.out.1.2.2.2 rfl HRW.out HCC.out)
                obtain ⟨hwE, hwEk⟩ := HWE.out
                clear hl1 hl2 hl3 hl4 hl5 hl6 hl7 hl8 hl9 hl10 hl11 hl12 hl13 hl14 hi2 hen hFF hz q1 q2 q3
                go_wp2_with (first | (have Y2 := HC2; go_at_call 106; refine HC2.out.mono ?_; rintro e W2 ⟨rfl, hR2, hG2⟩; have HR2 := Lib.hid hR2; have HG2 := Lib.hid hG2; have HCW2 := Lib.hid (keep_cell hG2 HCC.out (fun e => hkg (Option.some.inj e))); clear hR2 hG2))
                go_end0
                exact ⟨rfl, HZ.out ▸ HR2.out, (grown_trans HGB.out HG2.out)⟩
              · obtain ⟨cfa, cfb⟩ := cfx rfl
                clear cfx
                have hz : (T a i mid xs) = F := by
                  rw [← hFF]
                  unfold midL
                  simp only [if_neg q1, if_pos q2, if_neg q3]
                have HZ := Lib.hid hz
                have KA := Lib.hid (show (a < i ∧ i < mid ∧ mid ≤ xs.length ∧ mid - a < b - a) ∧ True by refine ⟨by omega, trivial⟩)
                have HC2 := Lib.hid (HH.out a i mid xs wr KA.out.1.1 KA.out.1.2.1 KA.out.1.2.2.1 KA.out.1.2.2.2 rfl HRW.out HCC.out)
                obtain ⟨hwE, hwEk⟩ := HWE.out
                clear hl1 hl2 hl3 hl4 hl5 hl6 hl7 hl8 hl9 hl10 hl11 hl12 hl13 hl14 hi2 hen hFF hz q1 q2 q3
                go_wp2_with (first | (have Y2 := HC2; go_at_call 106; refine HC2.out.mono ?_; rintro e W2 ⟨rfl, hR2, hG2⟩; have HR2 := Lib.hid hR2; have HG2 := Lib.hid hG2; have HCW2 := Lib.hid (keep_cell hG2 HCC.out (fun e => hkg (Option.some.inj e))); clear hR2 hG2))
                go_end0
                exact ⟨rfl, HZ.out ▸ HR2.out, (grown_trans HGB.out HG2.out)⟩
          · obtain ⟨u1, cca, ccb⟩ : ∃ u : Bool, decide ((a : Int) < (i : Int)) = u ∧ decide (a < i) = u := ⟨_, rfl, by rw [decide_eq_decide]; omega⟩
            have cdx : u1 = true → decide ((i : Int) < (mid : Int)) = false ∧ decide (i < mid) = false := fun e => by
              rw [e] at ccb
              have := of_decide_eq_true ccb
              exact ⟨decide_eq_false (by omega), decide_eq_false (by omega)⟩
            cases u1
            · clear cdx
              by_cases q3 : mid < en ∧ en < b
              · have cea : decide ((mid : Int) < (en : Int)) = true := decide_eq_true (by omega)
                have ceb : decide (mid < en) = true := decide_eq_true (by omega)
                have cfa : decide ((en : Int) < (b : Int)) = true := decide_eq_true (by omega)
                have cfb : decide (en < b) = true := decide_eq_true (by omega)
                have hz : (T mid en b xs) = F := by
                  rw [← hFF]
                  unfold midL
                  simp only [if_neg q1, if_neg q2, if_pos q3]
                have HZ := Lib.hid hz
                have KA := Lib.hid (show (mid < en ∧ en < b ∧ b ≤ xs.length ∧ b - mid < b - a) ∧ True by refine ⟨by omega, trivial⟩)
                have HC3 := Lib.hid (HH.out mid en b xs wr KA.out.1.1 KA.out.1.2.1 KA.out.1.2.2.1 KA.out.1.2.2.2 rfl HRW.out HCC.out)
                obtain ⟨hwE, hwEk⟩ := HWE.out
                clear hl1 hl2 hl3 hl4 hl5 hl6 hl7 hl8 hl9 hl10 hl11 hl12 hl13 hl14 hi2 hen hFF hz q1 q2 q3
                go_wp2_with (first | (have Y3 := HC3; go_at_call 106; refine HC3.out.mono ?_; rintro e W3 ⟨rfl, hR3, hG3⟩; have HR3 := Lib.hid hR3; have HG3 := Lib.hid hG3; clear hR3 hG3))
                go_end0
                exact ⟨rfl, HZ.out ▸ HR3.out, (grown_trans HGB.out HG3.out)⟩
              · obtain ⟨u1, cea, ceb⟩ : ∃ u : Bool, decide ((mid : Int) < (en : Int)) = u ∧ decide (mid < en) = u := ⟨_, rfl, by rw [decide_eq_decide]; omega⟩
                have cfx : u1 = true → decide ((en : Int) < (b : Int)) = false ∧ decide (en < b) = false := fun e => by
                  rw [e] at ceb
                  have := of_decide_eq_true ceb
                  exact ⟨decide_eq_false (by omega), decide_eq_false (by omega)⟩
                cases u1
                · clear cfx
                  have hz : xs = F := by
                    rw [← hFF]
                    unfold midL
                    simp only [if_neg q1, if_neg q2, if_neg q3]
                  have HZ := Lib.hid hz
                  have KA := Lib.hid (show True by trivial)
                  obtain ⟨hwE, hwEk⟩ := HWE.out
                  clear hl1 hl2 hl3 hl4 hl5 hl6 hl7 hl8 hl9 hl10 hl11 hl12 hl13 hl14 hi2 hen hFF hz q1 q2 q3
                  go_wp2_with (fail)
                  go_end0
                  exact ⟨rfl, HZ.out ▸ HRW.out, HGB.out⟩
                · obtain ⟨cfa, cfb⟩ := cfx rfl
                  clear cfx
                  have hz : xs = F := by
                    rw [← hFF]
                    unfold midL
                    simp only [if_neg q1, if_neg q2, if_neg q3]
                  have HZ := Lib.hid hz
                  have KA := Lib.hid (show True by trivial)
                  obtain ⟨hwE, hwEk⟩ := HWE.out
                  clear hl1 hl2 hl3 hl4 hl5 hl6 hl7 hl8 hl9 hl10 hl11 hl12 hl13 hl14 hi2 hen hFF hz q1 q2 q3
                  go_wp2_with (fail)
                  go_end0
                  exact ⟨rfl, HZ.out ▸ HRW.out, HGB.out⟩
            · obtain ⟨cda, cdb⟩ := cdx rfl
              clear cdx
              by_cases q3 : mid < en ∧ en < b
              · have cea : decide ((mid : Int) < (en : Int)) = true := decide_eq_true (by omega)
                have ceb : decide (mid < en) = true := decide_eq_true (by omega)
                have cfa : decide ((en : Int) < (b : Int)) = true := decide_eq_true (by omega)
                have cfb : decide (en < b) = true := decide_eq_true (by omega)
                have hz : (T mid en b xs) = F := by
                  rw [← hFF]
                  unfold midL
                  simp only [if_neg q1, if_neg q2, if_pos q3]
                have HZ := Lib.hid hz
                have KA := Lib.hid (show (mid < en ∧ en < b ∧ b ≤ xs.length ∧ b - mid < b - a) ∧ True by refine ⟨by omega, trivial⟩)
                have HC3 := Lib.hid (HH.out mid en b xs wr KA.out.1.1 KA.out.1.2.1 KA.out.1.2.2.1 KA.out.1.2.2.2 rfl HRW.out HCC.out)
                obtain ⟨hwE, hwEk⟩ := HWE.out
                clear hl1 hl2 hl3 hl4 hl5 hl6 hl7 hl8 hl9 hl10 hl11 hl12 hl13 hl14 hi2 hen hFF hz q1 q2 q3
                go_wp2_with (first | (have Y3 := HC3; go_at_call 106; refine HC3.out.mono ?_; rintro e W3 ⟨rfl, hR3, hG3⟩; have HR3 := Lib.hid hR3; have HG3 := Lib.hid hG3; clear hR3 hG3))
                go_end0
                exact ⟨rfl, HZ.out ▸ HR3.out, (grown_trans HGB.out HG3.out)⟩
              · obtain ⟨u1, cea, ceb⟩ : ∃ u : Bool, decide ((mid : Int) < (en : Int)) = u ∧ decide (mid < en) = u := ⟨_, rfl, by rw [decide_eq_decide]; omega⟩
                have cfx : u1 = true → decide ((en : Int) < (b : Int)) = false ∧ decide (en < b) = false := fun e => by
                  rw [e] at ceb
                  have := of_decide_eq_true ceb
                  exact ⟨decide_eq_false (by omega), decide_eq_false (by omega)⟩
                cases u1
                · clear cfx
                  have hz : xs = F := by
                    rw [← hFF]
                    unfold midL
                    simp only [if_neg q1, if_neg q2, if_neg q3]
                  have HZ := Lib.hid hz
                  have KA := Lib.hid (show True by trivial)
                  obtain ⟨hwE, hwEk⟩ := HWE.out
                  clear hl1 hl2 hl3 hl4 hl5 hl6 hl7 hl8 hl9 hl10 hl11 hl12 hl13 hl14 hi2 hen hFF hz q1 q2 q3
                  go_wp2_with (fail)
                  go_end0
                  exact ⟨rfl, HZ.out ▸ HRW.out, HGB.out⟩
                · obtain ⟨cfa, cfb⟩ := cfx rfl
                  clear cfx
                  have hz : xs = F := by
                    rw [← hFF]
                    unfold midL
                    simp only [if_neg q1, if_neg q2, if_neg q3]
                  have HZ := Lib.hid hz
                  have KA := Lib.hid (show True by trivial)
                  obtain ⟨hwE, hwEk⟩ := HWE.out
                  clear hl1 hl2 hl3 hl4 hl5 hl6 hl7 hl8 hl9 hl10 hl11 hl12 hl13 hl14 hi2 hen hFF hz q1 q2 q3
                  go_wp2_with (fail)
                  go_end0
                  exact ⟨rfl, HZ.out ▸ HRW.out, HGB.out⟩
set_option maxHeartbeats 2000000 in
set_option maxRecDepth 1000000 in
theorem sym_midL (G k : Nat) (cv : Value) (cm : S24 → S24 → Int) (hp : CmpK G k cv cm) (eg : ∀ args w, (callFunc G args).run Tryz.prog w = .ok (.enter G args) w) (B : Nat) (ok : Nat → Prop) (g c a m b mid lo hi : Nat) (xs : List S24) (w : World)
    (T : Nat → Nat → Nat → List S24 → List S24) (hTl : ∀ a m b zs, (T a m b zs).length = zs.length)
    (H : ∀ (a' m' b' : Nat) (zs : List S24) (W : World), a' < m' → m' < b' → b' ≤ xs.length → b' - a' < b - a → zs.length = xs.length → Kd.R k24 24 W B ok (.slice (some ⟨g, 0, none⟩) xs.length c) zs → W.cell? ⟨k, 0, none⟩ = some cv →
      Calls Tryz.prog 106 #[.slice (some ⟨g, 0, none⟩) xs.length c, .int .i64 (a' : Int), .int .i64 (m' : Int), .int .i64 (b' : Int), .func (.func G) #[] #[.pointer (some ⟨k, 0, none⟩)]] W fun e w' => e = .returned (.tuple #[]) ∧ Kd.R k24 24 w' B ok (.slice (some ⟨g, 0, none⟩) xs.length c) (T a' m' b' zs) ∧ W.grownBy w' (some g))
    (hR : Kd.R k24 24 w B ok (.slice (some ⟨g, 0, none⟩) xs.length c) xs) (hc : w.cell? ⟨k, 0, none⟩ = some cv) (hkg : k ≠ g) (hlen : xs.length ≤ 1000000) (ham : a + 1 < m) (hmb : m + 1 < b) (hb : b ≤ xs.length) (hmid : (a + b) / 2 = mid) (hgr : m ≤ mid) (hlo : a = lo) (hhi : m = hi) :
    Calls Tryz.prog 106 #[.slice (some ⟨g, 0, none⟩) xs.length c, .int .i64 (a : Int), .int .i64 (m : Int), .int .i64 (b : Int), .func (.func G) #[] #[.pointer (some ⟨k, 0, none⟩)]] w fun e w' =>
      e = .returned (.tuple #[]) ∧ Kd.R k24 24 w' B ok (.slice (some ⟨g, 0, none⟩) xs.length c) (midL T a m b mid (srch (pMid cm xs (mid + m - 1)) (hi - lo + 1) lo hi) (mid + m - srch (pMid cm xs (mid + m - 1)) (hi - lo + 1) lo hi) xs) ∧ w.grownBy w' (some g) := by
  have hu24 := Tryz.underlying24
  have HP := Lib.hid hp
  have HR := Lib.hid hR
  have HC := Lib.hid hc
  have HH := Lib.hid H
  have HTL := Lib.hid hTl
  obtain ⟨n, hn⟩ : ∃ n, mid + m = n := ⟨_, rfl⟩
  obtain ⟨p, hpn⟩ : ∃ p, n = p + 1 := ⟨n - 1, by omega⟩
  have hp1 : mid + m - 1 = p := by omega
  rw [hp1, hn]
  have hlh : a ≤ lo ∧ lo ≤ hi ∧ hi ≤ m ∧ hi ≤ mid ∧ mid < b ∧ a < mid ∧ p - lo < xs.length ∧ n - lo ≤ b := by omega
  have hsl := srch_le (pMid cm xs p) (hi - lo + 1) lo hi hlh.2.1
  obtain ⟨I, hI⟩ : ∃ I, srch (pMid cm xs p) (hi - lo + 1) lo hi = I := ⟨_, rfl⟩
  rw [hI] at hsl
  rw [hI]
  obtain ⟨F, hF⟩ : ∃ F, midL T a m b mid I (n - I) xs = F := ⟨_, rfl⟩
  rw [hF]
  have HF := Lib.hid hF
  have HII := Lib.hid (And.intro hI hsl)
  have HL := Lib.hid (And.intro hlen (And.intro hb (And.intro ham (And.intro hmb (And.intro hlh (And.intro hn hpn))))))
  have g1 : a ≤ m ∧ m ≤ 8000000 := by omega
  have g2 : m ≤ b ∧ b ≤ 8000000 := by omega
  have g3 : -9223372036854775808 ≤ (a : Int) + (b : Int) ∧ (a : Int) + (b : Int) ≤ 9223372036854775807 := by omega
  have g4 : 0 ≤ (a : Int) + (b : Int) ∧ (a : Int) + (b : Int) ≤ 9223372036854775807 := by omega
  have hmI : ((a : Int) + (b : Int)) / 2 = (mid : Int) := by omega
  have g5 : -9223372036854775808 ≤ (mid : Int) ∧ (mid : Int) ≤ 9223372036854775807 := by omega
  have g6 : mid + m ≤ 8000000 := by omega
  have g8 : -9223372036854775808 ≤ (n : Int) - 1 ∧ (n : Int) - 1 ≤ 9223372036854775807 := by omega
  have g9 : (n : Int) - 1 = (p : Int) := by omega
  have hd1 : m - a ≠ 1 := by omega
  have hd2 : b - m ≠ 1 := by omega
  have cgma : decide ((mid : Int) < (m : Int)) = false := decide_eq_false (by omega)
  have cgmb : decide (mid < m) = false := decide_eq_false (by omega)
  have hwm := w2s m a g1.1 g1.2
  have hwmk := w2t m a g1.1 g1.2
  obtain ⟨d1, hdd⟩ : ∃ d1, m - a = d1 := ⟨_, rfl⟩
  rw [hdd] at hd1 hwm hwmk
  have cd1 : ((d1 : Int) == 1) = false := beq_eq_false_iff_ne.2 (fun e => hd1 (by omega))
  have cd2 : (d1 == 1) = false := beq_eq_false_iff_ne.2 hd1
  have hwb := w2s b m g2.1 g2.2
  have hwbk := w2t b m g2.1 g2.2
  obtain ⟨d2, hdd2⟩ : ∃ d2, b - m = d2 := ⟨_, rfl⟩
  rw [hdd2] at hd2 hwb hwbk
  have cd3 : ((d2 : Int) == 1) = false := beq_eq_false_iff_ne.2 (fun e => hd2 (by omega))
  have cd4 : (d2 == 1) = false := beq_eq_false_iff_ne.2 hd2
  have hs1 := w64 ((a : Int) + (b : Int)) g3
  have hs1k : IntKind.i64.wrap ((a : Int) + (b : Int)) = (a : Int) + (b : Int) := IntWalk.i64_in _ g3
  have hs2 := u64n ((a : Int) + (b : Int)) g4
  have hs3 := w64 (mid : Int) g5
  have hs3k : IntKind.i64.wrap (mid : Int) = (mid : Int) := IntWalk.i64_in _ g5
  have hs4 := w2n mid m g6
  rw [hn] at hs4
  have hs4k := w2k mid m g6
  rw [hn] at hs4k
  have hs6 := (w64 ((n : Int) - 1) g8).trans g9
  have hs6k : IntKind.i64.wrap ((n : Int) - 1) = (p : Int) := (IntWalk.i64_in _ g8).trans g9
  have HLH := Lib.hid (And.intro hlo hhi)
  clear hp hR hc hF hI hsl hlh hlen hb ham hmb hdd hdd2 g1 g2 g3 g4 g5 g6  g8 g9 H hTl hmid hn hpn hp1 hlo hhi hgr
  go_enter Tryz.func106, Tryz.ntmps106
  go_wp2_with (fail)
  go_loopg [20, 21] (hi - lo + 1) (fun kq v20 v21 w' => ∃ (i j : Nat), v20 = .int .i64 (i : Int) ∧ v21 = .int .i64 (j : Int) ∧ Aside0 (lo ≤ i ∧ i ≤ j ∧ j ≤ hi ∧ j - i < kq) ∧ Aside0 (srch (pMid cm xs p) kq i j = I) ∧ Aside0 (Below w.heap.size w w'))
  case atStart =>
    exact ⟨lo, hi, congrArg (Value.int .i64) (congrArg Int.ofNat HLH.out.1), congrArg (Value.int .i64) (congrArg Int.ofNat HLH.out.2), ⟨by have := HL.out; omega⟩, ⟨HII.out.1⟩, ⟨Below.refl _ _⟩⟩
  case round =>
    obtain ⟨i, j, rfl, rfl, HI, HS, HB⟩ := hrel
    clear hs1 hs1k hs2 hs3 hs3k hs4 hs4k hs6 hs6k cd1 cd2 cd3 cd4 hd1 hd2 hwm hwmk hwb hwbk hmI 
    obtain ⟨k0, rfl⟩ : ∃ k0, gk = k0 + 1 := ⟨gk - 1, by have := HI.out; omega⟩
    by_cases c1 : i < j
    · have c1a : decide ((i : Int) < (j : Int)) = true := decide_eq_true (by omega)
      have c1b : decide (i < j) = true := decide_eq_true c1
      obtain ⟨hi1, hi2, hi3, hi4⟩ := HI.out
      obtain ⟨hl1, hl2, hl3, hl4, ⟨hl5, hl6, hl7, hl8, hl9, hl10, hl11, hl12⟩, hl13, hl14⟩ := HL.out
      obtain ⟨h, hh⟩ : ∃ h, (i + j) / 2 = h := ⟨_, rfl⟩
      obtain ⟨q, hq⟩ : ∃ q, p - h = q := ⟨_, rfl⟩
      have hhx : h < xs.length := by omega
      have hqx : q < xs.length := by omega
      have KT : lo ≤ h + 1 ∧ h + 1 ≤ j ∧ j ≤ hi ∧ j - (h + 1) < k0 := by omega
      have KF : lo ≤ i ∧ i ≤ h ∧ h ≤ hi ∧ h - i < k0 := by omega
      have hhI : ((i : Int) + (j : Int)) / 2 = (h : Int) := by omega
      have g4 : h ≤ 2000000 := by omega
      have g7 : -9223372036854775808 ≤ (i : Int) + (j : Int) ∧ (i : Int) + (j : Int) ≤ 9223372036854775807 := by omega
      have g8 : 0 ≤ (i : Int) + (j : Int) ∧ (i : Int) + (j : Int) ≤ 9223372036854775807 := by omega
      have g5 : -9223372036854775808 ≤ (h : Int) ∧ (h : Int) ≤ 9223372036854775807 := by omega
      have g6 : h ≤ p ∧ p ≤ 8000000 := by omega
      have ph : (0 ≤ (h : Int)) = True := eq_true (by omega)
      have phl : ((h : Int) < (xs.length : Int)) = True := eq_true (by omega)
      have pq : (0 ≤ (q : Int)) = True := eq_true (by omega)
      have pql : ((q : Int) < (xs.length : Int)) = True := eq_true (by omega)
      have hs := HS.out
      rw [srch, if_pos c1, hh] at hs
      have HRW := Lib.hid (Kd.R_below HR.out HB.out)
      have HCC := Lib.hid (cell_below HC.out HB.out)
      have HS2 := Lib.hid hs
      have heq : pMid cm xs p h = !decide (cm (rd_T24 xs (q : Int)) (rd_T24 xs (h : Int)) < 0) := by unfold pMid; rw [hq]
      have hs1 := w64 ((i : Int) + (j : Int)) g7
      have hs1k : IntKind.i64.wrap ((i : Int) + (j : Int)) = (i : Int) + (j : Int) := IntWalk.i64_in _ g7
      have hs2 := u64n ((i : Int) + (j : Int)) g8
      have hw1 := w1n h g4
      have hwh := w64 (h : Int) g5
      have hwhk : IntKind.i64.wrap (h : Int) = (h : Int) := IntWalk.i64_in _ g5
      have hwq := w2s p h g6.1 g6.2
      rw [hq] at hwq
      have hwqk := w2t p h g6.1 g6.2
      rw [hq] at hwqk
      clear hi1 hi2 hi3 hi4 hl1 hl2 hl3 hl4 hl5 hl6 hl7 hl8 hl9 hl10 hl11 hl12 hl13 hl14 c1 hs g4 g5 g6 g7 g8 hh hq
      obtain ⟨hx0, hx1, hx2, hx3, hx4, hx5, hx6, hx7⟩ := row_at (row_C HRW.out rfl) hqx
      obtain ⟨hy0, hy1, hy2, hy3, hy4, hy5, hy6, hy7⟩ := row_at (row_C HRW.out rfl) hhx
      generalize hx : rd_T24 xs (q : Int) = x at *
      generalize hy : rd_T24 xs (h : Int) = y at *
      obtain ⟨b2, hb2⟩ : ∃ b2, decide (cm x y < 0) = b2 := ⟨_, rfl⟩
      have HB2 := Lib.hid hb2
      obtain ⟨x0, x1, x2, x3, x4, x5, x6, x7⟩ := x
      obtain ⟨y0, y1, y2, y3, y4, y5, y6, y7⟩ := y
      simp only at *
      have HSB := Lib.hid (show ∀ W W' : World, Below W.heap.size W W' → (W.cell? ⟨g, q * 8, none⟩ = some (.int .i64 x0) ∧ W.cell? ⟨g, q * 8 + 1, none⟩ = some (.int .i64 x1) ∧ W.cell? ⟨g, q * 8 + 2, none⟩ = some (.int .i64 x2) ∧ W.cell? ⟨g, q * 8 + 3, none⟩ = some (.int .i64 x3) ∧ W.cell? ⟨g, q * 8 + 4, none⟩ = some (.int .i64 x4) ∧ W.cell? ⟨g, q * 8 + 5, none⟩ = some (.int .i64 x5) ∧ W.cell? ⟨g, q * 8 + 6, none⟩ = some (.int .i64 x6) ∧ W.cell? ⟨g, q * 8 + 7, none⟩ = some (.int .i64 x7) ∧ W.cell? ⟨g, h * 8, none⟩ = some (.int .i64 y0) ∧ W.cell? ⟨g, h * 8 + 1, none⟩ = some (.int .i64 y1) ∧ W.cell? ⟨g, h * 8 + 2, none⟩ = some (.int .i64 y2) ∧ W.cell? ⟨g, h * 8 + 3, none⟩ = some (.int .i64 y3) ∧ W.cell? ⟨g, h * 8 + 4, none⟩ = some (.int .i64 y4) ∧ W.cell? ⟨g, h * 8 + 5, none⟩ = some (.int .i64 y5) ∧ W.cell? ⟨g, h * 8 + 6, none⟩ = some (.int .i64 y6) ∧ W.cell? ⟨g, h * 8 + 7, none⟩ = some (.int .i64 y7)) → (W'.cell? ⟨g, q * 8, none⟩ = some (.int .i64 x0) ∧ W'.cell? ⟨g, q * 8 + 1, none⟩ = some (.int .i64 x1) ∧ W'.cell? ⟨g, q * 8 + 2, none⟩ = some (.int .i64 x2) ∧ W'.cell? ⟨g, q * 8 + 3, none⟩ = some (.int .i64 x3) ∧ W'.cell? ⟨g, q * 8 + 4, none⟩ = some (.int .i64 x4) ∧ W'.cell? ⟨g, q * 8 + 5, none⟩ = some (.int .i64 x5) ∧ W'.cell? ⟨g, q * 8 + 6, none⟩ = some (.int .i64 x6) ∧ W'.cell? ⟨g, q * 8 + 7, none⟩ = some (.int .i64 x7) ∧ W'.cell? ⟨g, h * 8, none⟩ = some (.int .i64 y0) ∧ W'.cell? ⟨g, h * 8 + 1, none⟩ = some (.int .i64 y1) ∧ W'.cell? ⟨g, h * 8 + 2, none⟩ = some (.int .i64 y2) ∧ W'.cell? ⟨g, h * 8 + 3, none⟩ = some (.int .i64 y3) ∧ W'.cell? ⟨g, h * 8 + 4, none⟩ = some (.int .i64 y4) ∧ W'.cell? ⟨g, h * 8 + 5, none⟩ = some (.int .i64 y5) ∧ W'.cell? ⟨g, h * 8 + 6, none⟩ = some (.int .i64 y6) ∧ W'.cell? ⟨g, h * 8 + 7, none⟩ = some (.int .i64 y7)) from fun W W' b h => ⟨cell_below h.1 b, cell_below h.2.1 b, cell_below h.2.2.1 b, cell_below h.2.2.2.1 b, cell_below h.2.2.2.2.1 b, cell_below h.2.2.2.2.2.1 b, cell_below h.2.2.2.2.2.2.1 b, cell_below h.2.2.2.2.2.2.2.1 b, cell_below h.2.2.2.2.2.2.2.2.1 b, cell_below h.2.2.2.2.2.2.2.2.2.1 b, cell_below h.2.2.2.2.2.2.2.2.2.2.1 b, cell_below h.2.2.2.2.2.2.2.2.2.2.2.1 b, cell_below h.2.2.2.2.2.2.2.2.2.2.2.2.1 b, cell_below h.2.2.2.2.2.2.2.2.2.2.2.2.2.1 b, cell_below h.2.2.2.2.2.2.2.2.2.2.2.2.2.2.1 b, cell_below h.2.2.2.2.2.2.2.2.2.2.2.2.2.2.2 b⟩)
      have hSD := HSB.out wr wr.drew (drew_below wr) ⟨hx0, hx1, hx2, hx3, hx4, hx5, hx6, hx7, hy0, hy1, hy2, hy3, hy4, hy5, hy6, hy7⟩
      have HPC := Lib.hid (fun W b => HP.out W ⟨x0, x1, x2, x3, x4, x5, x6, x7⟩ ⟨y0, y1, y2, y3, y4, y5, y6, y7⟩ (cell_below HCC.out b))
      have HEQ := Lib.hid heq
      clear hx hy heq
      cases b2
      · go_wp2_with (fail)
        go_region_held3 (fun w' : World => w'.cell? ⟨g, q * 8, none⟩ = some (.int .i64 x0) ∧ w'.cell? ⟨g, q * 8 + 1, none⟩ = some (.int .i64 x1) ∧ w'.cell? ⟨g, q * 8 + 2, none⟩ = some (.int .i64 x2) ∧ w'.cell? ⟨g, q * 8 + 3, none⟩ = some (.int .i64 x3) ∧ w'.cell? ⟨g, q * 8 + 4, none⟩ = some (.int .i64 x4) ∧ w'.cell? ⟨g, q * 8 + 5, none⟩ = some (.int .i64 x5) ∧ w'.cell? ⟨g, q * 8 + 6, none⟩ = some (.int .i64 x6) ∧ w'.cell? ⟨g, q * 8 + 7, none⟩ = some (.int .i64 x7) ∧ w'.cell? ⟨g, h * 8, none⟩ = some (.int .i64 y0) ∧ w'.cell? ⟨g, h * 8 + 1, none⟩ = some (.int .i64 y1) ∧ w'.cell? ⟨g, h * 8 + 2, none⟩ = some (.int .i64 y2) ∧ w'.cell? ⟨g, h * 8 + 3, none⟩ = some (.int .i64 y3) ∧ w'.cell? ⟨g, h * 8 + 4, none⟩ = some (.int .i64 y4) ∧ w'.cell? ⟨g, h * 8 + 5, none⟩ = some (.int .i64 y5) ∧ w'.cell? ⟨g, h * 8 + 6, none⟩ = some (.int .i64 y6) ∧ w'.cell? ⟨g, h * 8 + 7, none⟩ = some (.int .i64 y7))
          (first | with_reducible assumption | with_reducible exact HSB.out _ _ (by with_reducible assumption) (by with_reducible assumption))
          (first | (go_at_fn G; refine (HPC.out _ (drew_below wr)).mono ?_; rintro e W2 ⟨rfl, b2⟩))
        all_goals (
          have B2 := bl2 (drew_below wr) b2
          go_wp2_with (fail)
          go_roundg k0
          case measure => omega
          case rel => exact ⟨h + 1, j, congrArg (Value.int .i64) hw1, rfl, ⟨KT⟩, ⟨by have := HS2.out; rw [if_pos (show pMid cm xs p h = true from HEQ.out.trans (congrArg not HB2.out))] at this; exact this⟩, ⟨HB.out.trans (B2.mono HB.out.size)⟩⟩)
      · go_wp2_with (fail)
        go_region_held3 (fun w' : World => w'.cell? ⟨g, q * 8, none⟩ = some (.int .i64 x0) ∧ w'.cell? ⟨g, q * 8 + 1, none⟩ = some (.int .i64 x1) ∧ w'.cell? ⟨g, q * 8 + 2, none⟩ = some (.int .i64 x2) ∧ w'.cell? ⟨g, q * 8 + 3, none⟩ = some (.int .i64 x3) ∧ w'.cell? ⟨g, q * 8 + 4, none⟩ = some (.int .i64 x4) ∧ w'.cell? ⟨g, q * 8 + 5, none⟩ = some (.int .i64 x5) ∧ w'.cell? ⟨g, q * 8 + 6, none⟩ = some (.int .i64 x6) ∧ w'.cell? ⟨g, q * 8 + 7, none⟩ = some (.int .i64 x7) ∧ w'.cell? ⟨g, h * 8, none⟩ = some (.int .i64 y0) ∧ w'.cell? ⟨g, h * 8 + 1, none⟩ = some (.int .i64 y1) ∧ w'.cell? ⟨g, h * 8 + 2, none⟩ = some (.int .i64 y2) ∧ w'.cell? ⟨g, h * 8 + 3, none⟩ = some (.int .i64 y3) ∧ w'.cell? ⟨g, h * 8 + 4, none⟩ = some (.int .i64 y4) ∧ w'.cell? ⟨g, h * 8 + 5, none⟩ = some (.int .i64 y5) ∧ w'.cell? ⟨g, h * 8 + 6, none⟩ = some (.int .i64 y6) ∧ w'.cell? ⟨g, h * 8 + 7, none⟩ = some (.int .i64 y7))
          (first | with_reducible assumption | with_reducible exact HSB.out _ _ (by with_reducible assumption) (by with_reducible assumption))
          (first | (go_at_fn G; refine (HPC.out _ (drew_below wr)).mono ?_; rintro e W2 ⟨rfl, b2⟩))
        all_goals (
          have B2 := bl2 (drew_below wr) b2
          go_wp2_with (fail)
          go_roundg k0
          case measure => omega
          case rel => exact ⟨i, h, rfl, rfl, ⟨KF⟩, ⟨by have := HS2.out; rw [if_neg (fun e => by rw [HEQ.out.trans (congrArg not HB2.out)] at e; exact absurd e (by decide))] at this; exact this⟩, ⟨HB.out.trans (B2.mono HB.out.size)⟩⟩)
    · have c1a : decide ((i : Int) < (j : Int)) = false := decide_eq_false (by omega)
      have c1b : decide (i < j) = false := decide_eq_false c1
      have hs := HS.out
      rw [srch, if_neg c1] at hs
      subst hs
      obtain ⟨hl1, hl2, hl3, hl4, ⟨hl5, hl6, hl7, hl8, hl9, hl10, hl11, hl12⟩, hl13, hl14⟩ := HL.out
      have hi2 := HII.out.2
      obtain ⟨en, hen⟩ : ∃ en, n - i = en := ⟨_, rfl⟩
      have hFF := HF.out
      rw [hen] at hFF
      have g1 : i ≤ n ∧ n ≤ 8000000 := by omega
      have HRW := Lib.hid (Kd.R_below HR.out HB.out)
      have HCC := Lib.hid (cell_below HC.out HB.out)
      have HWE := Lib.hid (And.intro (w2s n i g1.1 g1.2) (w2t n i g1.1 g1.2))
      rw [hen] at HWE
      have HGB := Lib.hid (grown_below HB.out (some g))
      clear HII HF HS HI c1 g1 HB HR HC
      by_cases q1 : i < m ∧ m < en
      · have caa : decide ((i : Int) < (m : Int)) = true := decide_eq_true (by omega)
        have cab : decide (i < m) = true := decide_eq_true (by omega)
        have cba : decide ((m : Int) < (en : Int)) = true := decide_eq_true (by omega)
        have cbb : decide (m < en) = true := decide_eq_true (by omega)
        by_cases q2 : a < i ∧ i < mid
        · have cca : decide ((a : Int) < (i : Int)) = true := decide_eq_true (by omega)
          have ccb : decide (a < i) = true := decide_eq_true (by omega)
          have cda : decide ((i : Int) < (mid : Int)) = true := decide_eq_true (by omega)
          have cdb : decide (i < mid) = true := decide_eq_true (by omega)
          by_cases q3 : mid < en ∧ en < b
          · have cea : decide ((mid : Int) < (en : Int)) = true := decide_eq_true (by omega)
            have ceb : decide (mid < en) = true := decide_eq_true (by omega)
            have cfa : decide ((en : Int) < (b : Int)) = true := decide_eq_true (by omega)
            have cfb : decide (en < b) = true := decide_eq_true (by omega)
            have hz : (T mid en b (T a i mid (rotL m (m - i + (en - m)) (m - i) (en - m) xs))) = F := by
              rw [← hFF]
              unfold midL
              simp only [if_pos q1, if_pos q2, if_pos q3]
            have HZ := Lib.hid hz
            have KA := Lib.hid (show (a < i ∧ i < mid ∧ mid ≤ xs.length ∧ mid - a < b - a) ∧ (mid < en ∧ en < b ∧ b ≤ xs.length ∧ b - mid < b - a) ∧ True by refine ⟨by omega, by omega, trivial⟩)
            have HC1 := Lib.hid (rot_any (.func (.func G) #[] #[.pointer (some ⟨k, 0, none⟩)]) B ok g c i m en xs wr HRW.out hl1 (by omega) (by omega) (by omega))
            obtain ⟨hwE, hwEk⟩ := HWE.out
            clear hl1 hl2 hl3 hl4 hl5 hl6 hl7 hl8 hl9 hl10 hl11 hl12 hl13 hl14 hi2 hen hFF hz q1 q2 q3
            go_wp2_with (first | (have Y3 := HC3; go_at_call 106; refine HC3.out.mono ?_; rintro e W3 ⟨rfl, hR3, hG3⟩; have HR3 := Lib.hid hR3; have HG3 := Lib.hid hG3; clear hR3 hG3) | (have Y2 := HC2; go_at_call 106; refine HC2.out.mono ?_; rintro e W2 ⟨rfl, hR2, hG2⟩; have HR2 := Lib.hid hR2; have HG2 := Lib.hid hG2; have HCW2 := Lib.hid (keep_cell hG2 HCW1.out (fun e => hkg (Option.some.inj e))); clear hR2 hG2; have HC3 := Lib.hid (HH.out mid en b (T a i mid (rotL m (m - i + (en - m)) (m - i) (en - m) xs)) W2 KA.out.2.1.1 KA.out.2.1.2.1 KA.out.2.1.2.2.1 KA.out.2.1.2.2.2 (by rw [HTL.out, rotL_len]) HR2.out HCW2.out)) | (go_at_call 126; refine HC1.out.mono ?_; rintro e W1 ⟨rfl, hR1, hG1⟩; have HR1 := Lib.hid hR1; have HG1 := Lib.hid hG1; have HCW1 := Lib.hid (keep_cell hG1 HCC.out (fun e => hkg (Option.some.inj e))); clear hR1 hG1; have HC2 := Lib.hid (HH.out a i mid (rotL m (m - i + (en - m)) (m - i) (en - m) xs) W1 KA.out.1.1 KA.out.1.2.1 KA.out.1.2.2.1 KA.out.1.2.2.2 (by rw [rotL_len]) HR1.out HCW1.out)))
            go_end0
            exact ⟨rfl, HZ.out ▸ HR3.out, (grown_trans (grown_trans (grown_trans HGB.out HG1.out) HG2.out) HG3.out)⟩
          · obtain ⟨u1, cea, ceb⟩ : ∃ u : Bool, decide ((mid : Int) < (en : Int)) = u ∧ decide (mid < en) = u := ⟨_, rfl, by rw [decide_eq_decide]; omega⟩
            have cfx : u1 = true → decide ((en : Int) < (b : Int)) = false ∧ decide (en < b) = false := fun e => by
              rw [e] at ceb
              have := of_decide_eq_true ceb
              exact ⟨decide_eq_false (by omega), decide_eq_false (by omega)⟩
            cases u1
            · clear cfx
              have hz : (T a i mid (rotL m (m - i + (en - m)) (m - i) (en - m) xs)) = F := by
                rw [← hFF]
                unfold midL
                simp only [if_pos q1, if_pos q2, if_neg q3]
              have HZ := Lib.hid hz
              have KA := Lib.hid (show (a < i ∧ i < mid ∧ mid ≤ xs.length ∧ mid - a < b - a) ∧ True by refine ⟨by omega, trivial⟩)
              have HC1 := Lib.hid (rot_any (.func (.func G) #[] #[.pointer (some ⟨k, 0, none⟩)]) B ok g c i m en xs wr HRW.out hl1 (by omega) (by omega) (by omega))
              obtain ⟨hwE, hwEk⟩ := HWE.out
              clear hl1 hl2 hl3 hl4 hl5 hl6 hl7 hl8 hl9 hl10 hl11 hl12 hl13 hl14 hi2 hen hFF hz q1 q2 q3
              go_wp2_with (first | (have Y2 := HC2; go_at_call 106; refine HC2.out.mono ?_; rintro e W2 ⟨rfl, hR2, hG2⟩; have HR2 := Lib.hid hR2; have HG2 := Lib.hid hG2; have HCW2 := Lib.hid (keep_cell hG2 HCW1.out (fun e => hkg (Option.some.inj e))); clear hR2 hG2) | (go_at_call 126; refine HC1.out.mono ?_; rintro e W1 ⟨rfl, hR1, hG1⟩; have HR1 := Lib.hid hR1; have HG1 := Lib.hid hG1; have HCW1 := Lib.hid (keep_cell hG1 HCC.out (fun e => hkg (Option.some.inj e))); clear hR1 hG1; have HC2 := Lib.hid (HH.out a i mid (rotL m (m - i + (en - m)) (m - i) (en - m) xs) W1 KA.out.1.1 KA.out.1.2.1 KA.out.1.2.2.1 KA.out.1.2.2.2 (by rw [rotL_len]) HR1.out HCW1.out)))
              go_end0
              exact ⟨rfl, HZ.out ▸ HR2.out, (grown_trans (grown_trans HGB.out HG1.out) HG2.out)⟩
            · obtain ⟨cfa, cfb⟩ := cfx rfl
              clear cfx
              have hz : (T a i mid (rotL m (m - i + (en - m)) (m - i) (en - m) xs)) = F := by
                rw [← hFF]
                unfold midL
                simp only [if_pos q1, if_pos q2, if_neg q3]
              have HZ := Lib.hid hz
              have KA := Lib.hid (show (a < i ∧ i < mid ∧ mid ≤ xs.length ∧ mid - a < b - a) ∧ True by refine ⟨by omega, trivial⟩)
              have HC1 := Lib.hid (rot_any (.func (.func G) #[] #[.pointer (some ⟨k, 0, none⟩)]) B ok g c i m en xs wr HRW.out hl1 (by omega) (by omega) (by omega))
              obtain ⟨hwE, hwEk⟩ := HWE.out
              clear hl1 hl2 hl3 hl4 hl5 hl6 hl7 hl8 hl9 hl10 hl11 hl12 hl13 hl14 hi2 hen hFF hz q1 q2 q3
              go_wp2_with (first | (have Y2 := HC2; go_at_call 106; refine HC2.out.mono ?_; rintro e W2 ⟨rfl, hR2, hG2⟩; have HR2 := Lib.hid hR2; have HG2 := Lib.hid hG2; have HCW2 := Lib.hid (keep_cell hG2 HCW1.out (fun e => hkg (Option.some.inj e))); clear hR2 hG2) | (go_at_call 126; refine HC1.out.mono ?_; rintro e W1 ⟨rfl, hR1, hG1⟩; have HR1 := Lib.hid hR1; have HG1 := Lib.hid hG1; have HCW1 := Lib.hid (keep_cell hG1 HCC.out (fun e => hkg (Option.some.inj e))); clear hR1 hG1; have HC2 := Lib.hid (HH.out a i mid (rotL m (m - i + (en - m)) (m - i) (en - m) xs) W1 KA.out.1.1 KA.out.1.2.1 KA.out.1.2.2.1 KA.out.1.2.2.2 (by rw [rotL_len]) HR1.out HCW1.out)))
              go_end0
              exact ⟨rfl, HZ.out ▸ HR2.out, (grown_trans (grown_trans HGB.out HG1.out) HG2.out)⟩
        · obtain ⟨u1, cca, ccb⟩ : ∃ u : Bool, decide ((a : Int) < (i : Int)) = u ∧ decide (a < i) = u := ⟨_, rfl, by rw [decide_eq_decide]; omega⟩
          have cdx : u1 = true → decide ((i : Int) < (mid : Int)) = false ∧ decide (i < mid) = false := fun e => by
            rw [e] at ccb
            have := of_decide_eq_true ccb
            exact ⟨decide_eq_false (by omega), decide_eq_false (by omega)⟩
          cases u1
          · clear cdx
            by_cases q3 : mid < en ∧ en < b
            · have cea : decide ((mid : Int) < (en : Int)) = true := decide_eq_true (by omega)
              have ceb : decide (mid < en) = true := decide_eq_true (by omega)
              have cfa : decide ((en : Int) < (b : Int)) = true := decide_eq_true (by omega)
              have cfb : decide (en < b) = true := decide_eq_true (by omega)
              have hz : (T mid en b (rotL m (m - i + (en - m)) (m - i) (en - m) xs)) = F := by
                rw [← hFF]
                unfold midL
                simp only [if_pos q1, if_neg q2, if_pos q3]
              have HZ := Lib.hid hz
              have KA := Lib.hid (show (mid < en ∧ en < b ∧ b ≤ xs.length ∧ b - mid < b - a) ∧ True by refine ⟨by omega, trivial⟩)
              have HC1 := Lib.hid (rot_any (.func (.func G) #[] #[.pointer (some ⟨k, 0, none⟩)]) B ok g c i m en xs wr HRW.out hl1 (by omega) (by omega) (by omega))
              obtain ⟨hwE, hwEk⟩ := HWE.out
              clear hl1 hl2 hl3 hl4 hl5 hl6 hl7 hl8 hl9 hl10 hl11 hl12 hl13 hl14 hi2 hen hFF hz q1 q2 q3
              go_wp2_with (first | (have Y3 := HC3; go_at_call 106; refine HC3.out.mono ?_; rintro e W3 ⟨rfl, hR3, hG3⟩; have HR3 := Lib.hid hR3; have HG3 := Lib.hid hG3; clear hR3 hG3) | (go_at_call 126; refine HC1.out.mono ?_; rintro e W1 ⟨rfl, hR1, hG1⟩; have HR1 := Lib.hid hR1; have HG1 := Lib.hid hG1; have HCW1 := Lib.hid (keep_cell hG1 HCC.out (fun e => hkg (Option.some.inj e))); clear hR1 hG1; have HC3 := Lib.hid (HH.out mid en b (rotL m (m - i + (en - m)) (m - i) (en - m) xs) W1 KA.out.1.1 KA.out.1.2.1 KA.out.1.2.2.1 KA.out.1.2.2.2 (by rw [rotL_len]) HR1.out HCW1.out)))
              go_end0
              exact ⟨rfl, HZ.out ▸ HR3.out, (grown_trans (grown_trans HGB.out HG1.out) HG3.out)⟩
            · obtain ⟨u1, cea, ceb⟩ : ∃ u : Bool, decide ((mid : Int) < (en : Int)) = u ∧ decide (mid < en) = u := ⟨_, rfl, by rw [decide_eq_decide]; omega⟩
              have cfx : u1 = true → decide ((en : Int) < (b : Int)) = false ∧ decide (en < b) = false := fun e => by
                rw [e] at ceb
                have := of_decide_eq_true ceb
                exact ⟨decide_eq_false (by omega), decide_eq_false (by omega)⟩
              cases u1
              · clear cfx
                have hz : (rotL m (m - i + (en - m)) (m - i) (en - m) xs) = F := by
                  rw [← hFF]
                  unfold midL
                  simp only [if_pos q1, if_neg q2, if_neg q3]
                have HZ := Lib.hid hz
                have KA := Lib.hid (show True by trivial)
                have HC1 := Lib.hid (rot_any (.func (.func G) #[] #[.pointer (some ⟨k, 0, none⟩)]) B ok g c i m en xs wr HRW.out hl1 (by omega) (by omega) (by omega))
                obtain ⟨hwE, hwEk⟩ := HWE.out
                clear hl1 hl2 hl3 hl4 hl5 hl6 hl7 hl8 hl9 hl10 hl11 hl12 hl13 hl14 hi2 hen hFF hz q1 q2 q3
                go_wp2_with (first | (go_at_call 126; refine HC1.out.mono ?_; rintro e W1 ⟨rfl, hR1, hG1⟩; have HR1 := Lib.hid hR1; have HG1 := Lib.hid hG1; have HCW1 := Lib.hid (keep_cell hG1 HCC.out (fun e => hkg (Option.some.inj e))); clear hR1 hG1))
                go_end0
                exact ⟨rfl, HZ.out ▸ HR1.out, (grown_trans HGB.out HG1.out)⟩
              · obtain ⟨cfa, cfb⟩ := cfx rfl
                clear cfx
                have hz : (rotL m (m - i + (en - m)) (m - i) (en - m) xs) = F := by
                  rw [← hFF]
                  unfold midL
                  simp only [if_pos q1, if_neg q2, if_neg q3]
                have HZ := Lib.hid hz
                have KA := Lib.hid (show True by trivial)
                have HC1 := Lib.hid (rot_any (.func (.func G) #[] #[.pointer (some ⟨k, 0, none⟩)]) B ok g c i m en xs wr HRW.out hl1 (by omega) (by omega) (by omega))
                obtain ⟨hwE, hwEk⟩ := HWE.out
                clear hl1 hl2 hl3 hl4 hl5 hl6 hl7 hl8 hl9 hl10 hl11 hl12 hl13 hl14 hi2 hen hFF hz q1 q2 q3
                go_wp2_with (first | (go_at_call 126; refine HC1.out.mono ?_; rintro e W1 ⟨rfl, hR1, hG1⟩; have HR1 := Lib.hid hR1; have HG1 := Lib.hid hG1; have HCW1 := Lib.hid (keep_cell hG1 HCC.out (fun e => hkg (Option.some.inj e))); clear hR1 hG1))
                go_end0
                exact ⟨rfl, HZ.out ▸ HR1.out, (grown_trans HGB.out HG1.out)⟩
          · obtain ⟨cda, cdb⟩ := cdx rfl
            clear cdx
            by_cases q3 : mid < en ∧ en < b
            · have cea : decide ((mid : Int) < (en : Int)) = true := decide_eq_true (by omega)
              have ceb : decide (mid < en) = true := decide_eq_true (by omega)
              have cfa : decide ((en : Int) < (b : Int)) = true := decide_eq_true (by omega)
              have cfb : decide (en < b) = true := decide_eq_true (by omega)
              have hz : (T mid en b (rotL m (m - i + (en - m)) (m - i) (en - m) xs)) = F := by
                rw [← hFF]
                unfold midL
                simp only [if_pos q1, if_neg q2, if_pos q3]
              have HZ := Lib.hid hz
              have KA := Lib.hid (show (mid < en ∧ en < b ∧ b ≤ xs.length ∧ b - mid < b - a) ∧ True by refine ⟨by omega, trivial⟩)
              have HC1 := Lib.hid (rot_any (.func (.func G) #[] #[.pointer (some ⟨k, 0, none⟩)]) B ok g c i m en xs wr HRW.out hl1 (by omega) (by omega) (by omega))
              obtain ⟨hwE, hwEk⟩ := HWE.out
              clear hl1 hl2 hl3 hl4 hl5 hl6 hl7 hl8 hl9 hl10 hl11 hl12 hl13 hl14 hi2 hen hFF hz q1 q2 q3
              go_wp2_with (first | (have Y3 := HC3; go_at_call 106; refine HC3.out.mono ?_; rintro e W3 ⟨rfl, hR3, hG3⟩; have HR3 := Lib.hid hR3; have HG3 := Lib.hid hG3; clear hR3 hG3) | (go_at_call 126; refine HC1.out.mono ?_; rintro e W1 ⟨rfl, hR1, hG1⟩; have HR1 := Lib.hid hR1; have HG1 := Lib.hid hG1; have HCW1 := Lib.hid (keep_cell hG1 HCC.out (fun e => hkg (Option.some.inj e))); clear hR1 hG1; have HC3 := Lib.hid (HH.out mid en b (rotL m (m - i + (en - m)) (m - i) (en - m) xs) W1 KA.out.1.1 KA.out.1.2.1 KA.out.1.2.2.1 KA.out.1.2.2.2 (by rw [rotL_len]) HR1.out HCW1.out)))
              go_end0
              exact ⟨rfl, HZ.out ▸ HR3.out, (grown_trans (grown_trans HGB.out HG1.out) HG3.out)⟩
            · obtain ⟨u1, cea, ceb⟩ : ∃ u : Bool, decide ((mid : Int) < (en : Int)) = u ∧ decide (mid < en) = u := ⟨_, rfl, by rw [decide_eq_decide]; omega⟩
              have cfx : u1 = true → decide ((en : Int) < (b : Int)) = false ∧ decide (en < b) = false := fun e => by
                rw [e] at ceb
                have := of_decide_eq_true ceb
                exact ⟨decide_eq_false (by omega), decide_eq_false (by omega)⟩
              cases u1
              · clear cfx
                have hz : (rotL m (m - i + (en - m)) (m - i) (en - m) xs) = F := by
                  rw [← hFF]
                  unfold midL
                  simp only [if_pos q1, if_neg q2, if_neg q3]
                have HZ := Lib.hid hz
                have KA := Lib.hid (show True by trivial)
                have HC1 := Lib.hid (rot_any (.func (.func G) #[] #[.pointer (some ⟨k, 0, none⟩)]) B ok g c i m en xs wr HRW.out hl1 (by omega) (by omega) (by omega))
                obtain ⟨hwE, hwEk⟩ := HWE.out
                clear hl1 hl2 hl3 hl4 hl5 hl6 hl7 hl8 hl9 hl10 hl11 hl12 hl13 hl14 hi2 hen hFF hz q1 q2 q3
                go_wp2_with (first | (go_at_call 126; refine HC1.out.mono ?_; rintro e W1 ⟨rfl, hR1, hG1⟩; have HR1 := Lib.hid hR1; have HG1 := Lib.hid hG1; have HCW1 := Lib.hid (keep_cell hG1 HCC.out (fun e => hkg (Option.some.inj e))); clear hR1 hG1))
                go_end0
                exact ⟨rfl, HZ.out ▸ HR1.out, (grown_trans HGB.out HG1.out)⟩
              · obtain ⟨cfa, cfb⟩ := cfx rfl
                clear cfx
                have hz : (rotL m (m - i + (en - m)) (m - i) (en - m) xs) = F := by
                  rw [← hFF]
                  unfold midL
                  simp only [if_pos q1, if_neg q2, if_neg q3]
                have HZ := Lib.hid hz
                have KA := Lib.hid (show True by trivial)
                have HC1 := Lib.hid (rot_any (.func (.func G) #[] #[.pointer (some ⟨k, 0, none⟩)]) B ok g c i m en xs wr HRW.out hl1 (by omega) (by omega) (by omega))
                obtain ⟨hwE, hwEk⟩ := HWE.out
                clear hl1 hl2 hl3 hl4 hl5 hl6 hl7 hl8 hl9 hl10 hl11 hl12 hl13 hl14 hi2 hen hFF hz q1 q2 q3
                go_wp2_with (first | (go_at_call 126; refine HC1.out.mono ?_; rintro e W1 ⟨rfl, hR1, hG1⟩; have HR1 := Lib.hid hR1; have HG1 := Lib.hid hG1; have HCW1 := Lib.hid (keep_cell hG1 HCC.out (fun e => hkg (Option.some.inj e))); clear hR1 hG1))
                go_end0
                exact ⟨rfl, HZ.out ▸ HR1.out, (grown_trans HGB.out HG1.out)⟩
      · obtain ⟨u1, caa, cab⟩ : ∃ u : Bool, decide ((i : Int) < (m : Int)) = u ∧ decide (i < m) = u := ⟨_, rfl, by rw [decide_eq_decide]; omega⟩
        have cbx : u1 = true → decide ((m : Int) < (en : Int)) = false ∧ decide (m < en) = false := fun e => by
          rw [e] at cab
          have := of_decide_eq_true cab
          exact ⟨decide_eq_false (by omega), decide_eq_false (by omega)⟩
        cases u1
        · clear cbx
          by_cases q2 : a < i ∧ i < mid
          · have cca : decide ((a : Int) < (i : Int)) = true := decide_eq_true (by omega)
            have ccb : decide (a < i) = true := decide_eq_true (by omega)
            have cda : decide ((i : Int) < (mid : Int)) = true := decide_eq_true (by omega)
            have cdb : decide (i < mid) = true := decide_eq_true (by omega)
            by_cases q3 : mid < en ∧ en < b
            · have cea : decide ((mid : Int) < (en : Int)) = true := decide_eq_true (by omega)
              have ceb : decide (mid < en) = true := decide_eq_true (by omega)
              have cfa : decide ((en : Int) < (b : Int)) = true := decide_eq_true (by omega)
              have cfb : decide (en < b) = true := decide_eq_true (by omega)
              have hz : (T mid en b (T a i mid xs)) = F := by
                rw [← hFF]
                unfold midL
                simp only [if_neg q1, if_pos q2, if_pos q3]
              have HZ := Lib.hid hz
              have KA := Lib.hid (show (a < i ∧ i < mid ∧ mid ≤ xs.length ∧ mid - a < b - a) ∧ (mid < en ∧ en < b ∧ b ≤ xs.length ∧ b - mid < b - a) ∧ True by refine ⟨by omega, by omega, trivial⟩)
              have HC2 := Lib.hid (HH.out a i mid xs wr KA.out.1.1 KA.out.1.2.1 KA.out.1.2.2.1 KA.out.1.2.2.2 rfl HRW.out HCC.out)
              obtain ⟨hwE, hwEk⟩ := HWE.out
              clear hl1 hl2 hl3 hl4 hl5 hl6 hl7 hl8 hl9 hl10 hl11 hl12 hl13 hl14 hi2 hen hFF hz q1 q2 q3
              go_wp2_with (first | (have Y3 := HC3; go_at_call 106; refine HC3.out.mono ?_; rintro e W3 ⟨rfl, hR3, hG3⟩; have HR3 := Lib.hid hR3; have HG3 := Lib.hid hG3; clear hR3 hG3) | (have Y2 := HC2; go_at_call 106; refine HC2.out.mono ?_; rintro e W2 ⟨rfl, hR2, hG2⟩; have HR2 := Lib.hid hR2; have HG2 := Lib.hid hG2; have HCW2 := Lib.hid (keep_cell hG2 HCC.out (fun e => hkg (Option.some.inj e))); clear hR2 hG2; have HC3 := Lib.hid (HH.out mid en b (T a i mid xs) W2 KA.out.2.1.1 KA.out.2.1.2.1 KA.out.2.1.2.2.1 KA.out.2.1.2.2.2 (by rw [HTL.out]) HR2.out HCW2.out)))
              go_end0
              exact ⟨rfl, HZ.out ▸ HR3.out, (grown_trans (grown_trans HGB.out HG2.out) HG3.out)⟩
            · obtain ⟨u1, cea, ceb⟩ : ∃ u : Bool, decide ((mid : Int) < (en : Int)) = u ∧ decide (mid < en) = u := ⟨_, rfl, by rw [decide_eq_decide]; omega⟩
              have cfx : u1 = true → decide ((en : Int) < (b : Int)) = false ∧ decide (en < b) = false := fun e => by
                rw [e] at ceb
                have := of_decide_eq_true ceb
                exact ⟨decide_eq_false (by omega), decide_eq_false (by omega)⟩
              cases u1
              · clear cfx
                have hz : (T a i mid xs) = F := by
                  rw [← hFF]
                  unfold midL
                  simp only [if_neg q1, if_pos q2, if_neg q3]
                have HZ := Lib.hid hz
                have KA := Lib.hid (show (a < i ∧ i < mid ∧ mid ≤ xs.length ∧ mid - a < b - a) ∧ True by refine ⟨by omega, trivial⟩)
                have HC2 := Lib.hid (HH.out a i mid xs wr KA.out.1.1 KA.out.1.2.1 KA.out.1.2.2.1 KA.out.1.2.2.2 rfl HRW.out HCC.out)
                obtain ⟨hwE, hwEk⟩ := HWE.out
                clear hl1 hl2 hl3 hl4 hl5 hl6 hl7 hl8 hl9 hl10 hl11 hl12 hl13 hl14 hi2 hen hFF hz q1 q2 q3
                go_wp2_with (first | (have Y2 := HC2; go_at_call 106; refine HC2.out.mono ?_; rintro e W2 ⟨rfl, hR2, hG2⟩; have HR2 := Lib.hid hR2; have HG2 := Lib.hid hG2; have HCW2 := Lib.hid (keep_cell hG2 HCC.out (fun e => hkg (Option.some.inj e))); clear hR2 hG2))
                go_end0
                exact ⟨rfl, HZ.out ▸ HR2.out, (grown_trans HGB.out HG2.out)⟩
              · obtain ⟨cfa, cfb⟩ := cfx rfl
                clear cfx
                have hz : (T a i mid xs) = F := by
                  rw [← hFF]
                  unfold midL
                  simp only [if_neg q1, if_pos q2, if_neg q3]
                have HZ := Lib.hid hz
                have KA := Lib.hid (show (a < i ∧ i < mid ∧ mid ≤ xs.length ∧ mid - a < b - a) ∧ True by refine ⟨by omega, trivial⟩)
                have HC2 := Lib.hid (HH.out a i mid xs wr KA.out.1.1 KA.out.1.2.1 KA.out.1.2.2.1 KA.out.1.2.2.2 rfl HRW.out HCC.out)
                obtain ⟨hwE, hwEk⟩ := HWE.out
                clear hl1 hl2 hl3 hl4 hl5 hl6 hl7 hl8 hl9 hl10 hl11 hl12 hl13 hl14 hi2 hen hFF hz q1 q2 q3
                go_wp2_with (first | (have Y2 := HC2; go_at_call 106; refine HC2.out.mono ?_; rintro e W2 ⟨rfl, hR2, hG2⟩; have HR2 := Lib.hid hR2; have HG2 := Lib.hid hG2; have HCW2 := Lib.hid (keep_cell hG2 HCC.out (fun e => hkg (Option.some.inj e))); clear hR2 hG2))
                go_end0
                exact ⟨rfl, HZ.out ▸ HR2.out, (grown_trans HGB.out HG2.out)⟩
          · obtain ⟨u1, cca, ccb⟩ : ∃ u : Bool, decide ((a : Int) < (i : Int)) = u ∧ decide (a < i) = u := ⟨_, rfl, by rw [decide_eq_decide]; omega⟩
            have cdx : u1 = true → decide ((i : Int) < (mid : Int)) = false ∧ decide (i < mid) = false := fun e => by
              rw [e] at ccb
              have := of_decide_eq_true ccb
              exact ⟨decide_eq_false (by omega), decide_eq_false (by omega)⟩
            cases u1
            · clear cdx
              by_cases q3 : mid < en ∧ en < b
              · have cea : decide ((mid : Int) < (en : Int)) = true := decide_eq_true (by omega)
                have ceb : decide (mid < en) = true := decide_eq_true (by omega)
                have cfa : decide ((en : Int) < (b : Int)) = true := decide_eq_true (by omega)
                have cfb : decide (en < b) = true := decide_eq_true (by omega)
                have hz : (T mid en b xs) = F := by
                  rw [← hFF]
                  unfold midL
                  simp only [if_neg q1, if_neg q2, if_pos q3]
                have HZ := Lib.hid hz
                have KA := Lib.hid (show (mid < en ∧ en < b ∧ b ≤ xs.length ∧ b - mid < b - a) ∧ True by refine ⟨by omega, trivial⟩)
                have HC3 := Lib.hid (HH.out mid en b xs wr KA.out.1.1 KA.out.1.2.1 KA.out.1.2.2.1 KA.out.1.2.2.2 rfl HRW.out HCC.out)
                obtain ⟨hwE, hwEk⟩ := HWE.out
                clear hl1 hl2 hl3 hl4 hl5 hl6 hl7 hl8 hl9 hl10 hl11 hl12 hl13 hl14 hi2 hen hFF hz q1 q2 q3
                go_wp2_with (first | (have Y3 := HC3; go_at_call 106; refine HC3.out.mono ?_; rintro e W3 ⟨rfl, hR3, hG3⟩; have HR3 := Lib.hid hR3; have HG3 := Lib.hid hG3; clear hR3 hG3))
                go_end0
                exact ⟨rfl, HZ.out ▸ HR3.out, (grown_trans HGB.out HG3.out)⟩
              · obtain ⟨u1, cea, ceb⟩ : ∃ u : Bool, decide ((mid : Int) < (en : Int)) = u ∧ decide (mid < en) = u := ⟨_, rfl, by rw [decide_eq_decide]; omega⟩
                have cfx : u1 = true → decide ((en : Int) < (b : Int)) = false ∧ decide (en < b) = false := fun e => by
                  rw [e] at ceb
                  have := of_decide_eq_true ceb
                  exact ⟨decide_eq_false (by omega), decide_eq_false (by omega)⟩
                cases u1
                · clear cfx
                  have hz : xs = F := by
                    rw [← hFF]
                    unfold midL
                    simp only [if_neg q1, if_neg q2, if_neg q3]
                  have HZ := Lib.hid hz
                  have KA := Lib.hid (show True by trivial)
                  obtain ⟨hwE, hwEk⟩ := HWE.out
                  clear hl1 hl2 hl3 hl4 hl5 hl6 hl7 hl8 hl9 hl10 hl11 hl12 hl13 hl14 hi2 hen hFF hz q1 q2 q3
                  go_wp2_with (fail)
                  go_end0
                  exact ⟨rfl, HZ.out ▸ HRW.out, HGB.out⟩
                · obtain ⟨cfa, cfb⟩ := cfx rfl
                  clear cfx
                  have hz : xs = F := by
                    rw [← hFF]
                    unfold midL
                    simp only [if_neg q1, if_neg q2, if_neg q3]
                  have HZ := Lib.hid hz
                  have KA := Lib.hid (show True by trivial)
                  obtain ⟨hwE, hwEk⟩ := HWE.out
                  clear hl1 hl2 hl3 hl4 hl5 hl6 hl7 hl8 hl9 hl10 hl11 hl12 hl13 hl14 hi2 hen hFF hz q1 q2 q3
                  go_wp2_with (fail)
                  go_end0
                  exact ⟨rfl, HZ.out ▸ HRW.out, HGB.out⟩
            · obtain ⟨cda, cdb⟩ := cdx rfl
              clear cdx
              by_cases q3 : mid < en ∧ en < b
              · have cea : decide ((mid : Int) < (en : Int)) = true := decide_eq_true (by omega)
                have ceb : decide (mid < en) = true := decide_eq_true (by omega)
                have cfa : decide ((en : Int) < (b : Int)) = true := decide_eq_true (by omega)
                have cfb : decide (en < b) = true := decide_eq_true (by omega)
                have hz : (T mid en b xs) = F := by
                  rw [← hFF]
                  unfold midL
                  simp only [if_neg q1, if_neg q2, if_pos q3]
                have HZ := Lib.hid hz
                have KA := Lib.hid (show (mid < en ∧ en < b ∧ b ≤ xs.length ∧ b - mid < b - a) ∧ True by refine ⟨by omega, trivial⟩)
                have HC3 := Lib.hid (HH.out mid en b xs wr KA.out.1.1 KA.out.1.2.1 KA.out.1.2.2.1 KA.out.1.2.2.2 rfl HRW.out HCC.out)
                obtain ⟨hwE, hwEk⟩ := HWE.out
                clear hl1 hl2 hl3 hl4 hl5 hl6 hl7 hl8 hl9 hl10 hl11 hl12 hl13 hl14 hi2 hen hFF hz q1 q2 q3
                go_wp2_with (first | (have Y3 := HC3; go_at_call 106; refine HC3.out.mono ?_; rintro e W3 ⟨rfl, hR3, hG3⟩; have HR3 := Lib.hid hR3; have HG3 := Lib.hid hG3; clear hR3 hG3))
                go_end0
                exact ⟨rfl, HZ.out ▸ HR3.out, (grown_trans HGB.out HG3.out)⟩
              · obtain ⟨u1, cea, ceb⟩ : ∃ u : Bool, decide ((mid : Int) < (en : Int)) = u ∧ decide (mid < en) = u := ⟨_, rfl, by rw [decide_eq_decide]; omega⟩
                have cfx : u1 = true → decide ((en : Int) < (b : Int)) = false ∧ decide (en < b) = false := fun e => by
                  rw [e] at ceb
                  have := of_decide_eq_true ceb
                  exact ⟨decide_eq_false (by omega), decide_eq_false (by omega)⟩
                cases u1
                · clear cfx
                  have hz : xs = F := by
                    rw [← hFF]
                    unfold midL
                    simp only [if_neg q1, if_neg q2, if_neg q3]
                  have HZ := Lib.hid hz
                  have KA := Lib.hid (show True by trivial)
                  obtain ⟨hwE, hwEk⟩ := HWE.out
                  clear hl1 hl2 hl3 hl4 hl5 hl6 hl7 hl8 hl9 hl10 hl11 hl12 hl13 hl14 hi2 hen hFF hz q1 q2 q3
                  go_wp2_with (fail)
                  go_end0
                  exact ⟨rfl, HZ.out ▸ HRW.out, HGB.out⟩
                · obtain ⟨cfa, cfb⟩ := cfx rfl
                  clear cfx
                  have hz : xs = F := by
                    rw [← hFF]
                    unfold midL
                    simp only [if_neg q1, if_neg q2, if_neg q3]
                  have HZ := Lib.hid hz
                  have KA := Lib.hid (show True by trivial)
                  obtain ⟨hwE, hwEk⟩ := HWE.out
                  clear hl1 hl2 hl3 hl4 hl5 hl6 hl7 hl8 hl9 hl10 hl11 hl12 hl13 hl14 hi2 hen hFF hz q1 q2 q3
                  go_wp2_with (fail)
                  go_end0
                  exact ⟨rfl, HZ.out ▸ HRW.out, HGB.out⟩
        · obtain ⟨cba, cbb⟩ := cbx rfl
          clear cbx
          by_cases q2 : a < i ∧ i < mid
          · have cca : decide ((a : Int) < (i : Int)) = true := decide_eq_true (by omega)
            have ccb : decide (a < i) = true := decide_eq_true (by omega)
            have cda : decide ((i : Int) < (mid : Int)) = true := decide_eq_true (by omega)
            have cdb : decide (i < mid) = true := decide_eq_true (by omega)
            by_cases q3 : mid < en ∧ en < b
            · have cea : decide ((mid : Int) < (en : Int)) = true := decide_eq_true (by omega)
              have ceb : decide (mid < en) = true := decide_eq_true (by omega)
              have cfa : decide ((en : Int) < (b : Int)) = true := decide_eq_true (by omega)
              have cfb : decide (en < b) = true := decide_eq_true (by omega)
              have hz : (T mid en b (T a i mid xs)) = F := by
                rw [← hFF]
                unfold midL
                simp only [if_neg q1, if_pos q2, if_pos q3]
              have HZ := Lib.hid hz
              have KA := Lib.hid (show (a < i ∧ i < mid ∧ mid ≤ xs.length ∧ mid - a < b - a) ∧ (mid < en ∧ en < b ∧ b ≤ xs.length ∧ b - mid < b - a) ∧ True by refine ⟨by omega, by omega, trivial⟩)
              have HC2 := Lib.hid (HH.out a i mid xs wr KA.out.1.1 KA.out.1.2.1 KA.out.1.2.2.1 KA.out.1.2.2.2 rfl HRW.out HCC.out)
              obtain ⟨hwE, hwEk⟩ := HWE.out
              clear hl1 hl2 hl3 hl4 hl5 hl6 hl7 hl8 hl9 hl10 hl11 hl12 hl13 hl14 hi2 hen hFF hz q1 q2 q3
              go_wp2_with (first | (have Y3 := HC3; go_at_call 106; refine HC3.out.mono ?_; rintro e W3 ⟨rfl, hR3, hG3⟩; have HR3 := Lib.hid hR3; have HG3 := Lib.hid hG3; clear hR3 hG3) | (have Y2 := HC2; go_at_call 106; refine HC2.out.mono ?_; rintro e W2 ⟨rfl, hR2, hG2⟩; have HR2 := Lib.hid hR2; have HG2 := Lib.hid hG2; have HCW2 := Lib.hid (keep_cell hG2 HCC.out (fun e => hkg (Option.some.inj e))); clear hR2 hG2; have HC3 := Lib.hid (HH.out mid en b (T a i mid xs) W2 KA.out.2.1.1 KA.out.2.1.2.1 KA.out.2.1.2.2.1 KA.out.2.1.2.2.2 (by rw [HTL.out]) HR2.out HCW2.out)))
              go_end0
              exact ⟨rfl, HZ.out ▸ HR3.out, (grown_trans (grown_trans HGB.out HG2.out) HG3.out)⟩
            · obtain ⟨u1, cea, ceb⟩ : ∃ u : Bool, decide ((mid : Int) < (en : Int)) = u ∧ decide (mid < en) = u := ⟨_, rfl, by rw [decide_eq_decide]; omega⟩
              have cfx : u1 = true → decide ((en : Int) < (b : Int)) = false ∧ decide (en < b) = false := fun e => by
                rw [e] at ceb
                have := of_decide_eq_true ceb
                exact ⟨decide_eq_false (by omega), decide_eq_false (by omega)⟩
              cases u1
              · clear cfx
                have hz : (T a i mid xs) = F := by
                  rw [← hFF]
                  unfold midL
                  simp only [if_neg q1, if_pos q2, if_neg q3]
                have HZ := Lib.hid hz
                have KA := Lib.hid (show (a < i ∧ i < mid ∧ mid ≤ xs.length ∧ mid - a < b - a) ∧ True by refine ⟨by omega, trivial⟩)
                have HC2 := Lib.hid (HH.out a i mid xs wr KA.out.1.1 KA.out.1.2.1 KA.out.1.2.2.1 KA.out.1.2.2.2 rfl HRW.out HCC.out)
                obtain ⟨hwE, hwEk⟩ := HWE.out
                clear hl1 hl2 hl3 hl4 hl5 hl6 hl7 hl8 hl9 hl10 hl11 hl12 hl13 hl14 hi2 hen hFF hz q1 q2 q3
                go_wp2_with (first | (have Y2 := HC2; go_at_call 106; refine HC2.out.mono ?_; rintro e W2 ⟨rfl, hR2, hG2⟩; have HR2 := Lib.hid hR2; have HG2 := Lib.hid hG2; have HCW2 := Lib.hid (keep_cell hG2 HCC.out (fun e => hkg (Option.some.inj e))); clear hR2 hG2))
                go_end0
                exact ⟨rfl, HZ.out ▸ HR2.out, (grown_trans HGB.out HG2.out)⟩
              · obtain ⟨cfa, cfb⟩ := cfx rfl
                clear cfx
                have hz : (T a i mid xs) = F := by
                  rw [← hFF]
                  unfold midL
                  simp only [if_neg q1, if_pos q2, if_neg q3]
                have HZ := Lib.hid hz
                have KA := Lib.hid (show (a < i ∧ i < mid ∧ mid ≤ xs.length ∧ mid - a < b - a) ∧ True by refine ⟨by omega, trivial⟩)
                have HC2 := Lib.hid (HH.out a i mid xs wr KA.out.1.1 KA.out.1.2.1 KA.out.1.2.2.1 KA.out.1.2.2.2 rfl HRW.out HCC.out)
                obtain ⟨hwE, hwEk⟩ := HWE.out
                clear hl1 hl2 hl3 hl4 hl5 hl6 hl7 hl8 hl9 hl10 hl11 hl12 hl13 hl14 hi2 hen hFF hz q1 q2 q3
                go_wp2_with (first | (have Y2 := HC2; go_at_call 106; refine HC2.out.mono ?_; rintro e W2 ⟨rfl, hR2, hG2⟩; have HR2 := Lib.hid hR2; have HG2 := Lib.hid hG2; have HCW2 := Lib.hid (keep_cell hG2 HCC.out (fun e => hkg (Option.some.inj e))); clear hR2 hG2))
                go_end0
                exact ⟨rfl, HZ.out ▸ HR2.out, (grown_trans HGB.out HG2.out)⟩
          · obtain ⟨u1, cca, ccb⟩ : ∃ u : Bool, decide ((a : Int) < (i : Int)) = u ∧ decide (a < i) = u := ⟨_, rfl, by rw [decide_eq_decide]; omega⟩
            have cdx : u1 = true → decide ((i : Int) < (mid : Int)) = false ∧ decide (i < mid) = false := fun e => by
              rw [e] at ccb
              have := of_decide_eq_true ccb
              exact ⟨decide_eq_false (by omega), decide_eq_false (by omega)⟩
            cases u1
            · clear cdx
              by_cases q3 : mid < en ∧ en < b
              · have cea : decide ((mid : Int) < (en : Int)) = true := decide_eq_true (by omega)
                have ceb : decide (mid < en) = true := decide_eq_true (by omega)
                have cfa : decide ((en : Int) < (b : Int)) = true := decide_eq_true (by omega)
                have cfb : decide (en < b) = true := decide_eq_true (by omega)
                have hz : (T mid en b xs) = F := by
                  rw [← hFF]
                  unfold midL
                  simp only [if_neg q1, if_neg q2, if_pos q3]
                have HZ := Lib.hid hz
                have KA := Lib.hid (show (mid < en ∧ en < b ∧ b ≤ xs.length ∧ b - mid < b - a) ∧ True by refine ⟨by omega, trivial⟩)
                have HC3 := Lib.hid (HH.out mid en b xs wr KA.out.1.1 KA.out.1.2.1 KA.out.1.2.2.1 KA.out.1.2.2.2 rfl HRW.out HCC.out)
                obtain ⟨hwE, hwEk⟩ := HWE.out
                clear hl1 hl2 hl3 hl4 hl5 hl6 hl7 hl8 hl9 hl10 hl11 hl12 hl13 hl14 hi2 hen hFF hz q1 q2 q3
                go_wp2_with (first | (have Y3 := HC3; go_at_call 106; refine HC3.out.mono ?_; rintro e W3 ⟨rfl, hR3, hG3⟩; have HR3 := Lib.hid hR3; have HG3 := Lib.hid hG3; clear hR3 hG3))
                go_end0
                exact ⟨rfl, HZ.out ▸ HR3.out, (grown_trans HGB.out HG3.out)⟩
              · obtain ⟨u1, cea, ceb⟩ : ∃ u : Bool, decide ((mid : Int) < (en : Int)) = u ∧ decide (mid < en) = u := ⟨_, rfl, by rw [decide_eq_decide]; omega⟩
                have cfx : u1 = true → decide ((en : Int) < (b : Int)) = false ∧ decide (en < b) = false := fun e => by
                  rw [e] at ceb
                  have := of_decide_eq_true ceb
                  exact ⟨decide_eq_false (by omega), decide_eq_false (by omega)⟩
                cases u1
                · clear cfx
                  have hz : xs = F := by
                    rw [← hFF]
                    unfold midL
                    simp only [if_neg q1, if_neg q2, if_neg q3]
                  have HZ := Lib.hid hz
                  have KA := Lib.hid (show True by trivial)
                  obtain ⟨hwE, hwEk⟩ := HWE.out
                  clear hl1 hl2 hl3 hl4 hl5 hl6 hl7 hl8 hl9 hl10 hl11 hl12 hl13 hl14 hi2 hen hFF hz q1 q2 q3
                  go_wp2_with (fail)
                  go_end0
                  exact ⟨rfl, HZ.out ▸ HRW.out, HGB.out⟩
                · obtain ⟨cfa, cfb⟩ := cfx rfl
                  clear cfx
                  have hz : xs = F := by
                    rw [← hFF]
                    unfold midL
                    simp only [if_neg q1, if_neg q2, if_neg q3]
                  have HZ := Lib.hid hz
                  have KA := Lib.hid (show True by trivial)
                  obtain ⟨hwE, hwEk⟩ := HWE.out
                  clear hl1 hl2 hl3 hl4 hl5 hl6 hl7 hl8 hl9 hl10 hl11 hl12 hl13 hl14 hi2 hen hFF hz q1 q2 q3
                  go_wp2_with (fail)
                  go_end0
                  exact ⟨rfl, HZ.out ▸ HRW.out, HGB.out⟩
            · obtain ⟨cda, cdb⟩ := cdx rfl
              clear cdx
              by_cases q3 : mid < en ∧ en < b
              · have cea : decide ((mid : Int) < (en : Int)) = true := decide_eq_true (by omega)
                have ceb : decide (mid < en) = true := decide_eq_true (by omega)
                have cfa : decide ((en : Int) < (b : Int)) = true := decide_eq_true (by omega)
                have cfb : decide (en < b) = true := decide_eq_true (by omega)
                have hz : (T mid en b xs) = F := by
                  rw [← hFF]
                  unfold midL
                  simp only [if_neg q1, if_neg q2, if_pos q3]
                have HZ := Lib.hid hz
                have KA := Lib.hid (show (mid < en ∧ en < b ∧ b ≤ xs.length ∧ b - mid < b - a) ∧ True by refine ⟨by omega, trivial⟩)
                have HC3 := Lib.hid (HH.out mid en b xs wr KA.out.1.1 KA.out.1.2.1 KA.out.1.2.2.1 KA.out.1.2.2.2 rfl HRW.out HCC.out)
                obtain ⟨hwE, hwEk⟩ := HWE.out
                clear hl1 hl2 hl3 hl4 hl5 hl6 hl7 hl8 hl9 hl10 hl11 hl12 hl13 hl14 hi2 hen hFF hz q1 q2 q3
                go_wp2_with (first | (have Y3 := HC3; go_at_call 106; refine HC3.out.mono ?_; rintro e W3 ⟨rfl, hR3, hG3⟩; have HR3 := Lib.hid hR3; have HG3 := Lib.hid hG3; clear hR3 hG3))
                go_end0
                exact ⟨rfl, HZ.out ▸ HR3.out, (grown_trans HGB.out HG3.out)⟩
              · obtain ⟨u1, cea, ceb⟩ : ∃ u : Bool, decide ((mid : Int) < (en : Int)) = u ∧ decide (mid < en) = u := ⟨_, rfl, by rw [decide_eq_decide]; omega⟩
                have cfx : u1 = true → decide ((en : Int) < (b : Int)) = false ∧ decide (en < b) = false := fun e => by
                  rw [e] at ceb
                  have := of_decide_eq_true ceb
                  exact ⟨decide_eq_false (by omega), decide_eq_false (by omega)⟩
                cases u1
                · clear cfx
                  have hz : xs = F := by
                    rw [← hFF]
                    unfold midL
                    simp only [if_neg q1, if_neg q2, if_neg q3]
                  have HZ := Lib.hid hz
                  have KA := Lib.hid (show True by trivial)
                  obtain ⟨hwE, hwEk⟩ := HWE.out
                  clear hl1 hl2 hl3 hl4 hl5 hl6 hl7 hl8 hl9 hl10 hl11 hl12 hl13 hl14 hi2 hen hFF hz q1 q2 q3
                  go_wp2_with (fail)
                  go_end0
                  exact ⟨rfl, HZ.out ▸ HRW.out, HGB.out⟩
                · obtain ⟨cfa, cfb⟩ := cfx rfl
                  clear cfx
                  have hz : xs = F := by
                    rw [← hFF]
                    unfold midL
                    simp only [if_neg q1, if_neg q2, if_neg q3]
                  have HZ := Lib.hid hz
                  have KA := Lib.hid (show True by trivial)
                  obtain ⟨hwE, hwEk⟩ := HWE.out
                  clear hl1 hl2 hl3 hl4 hl5 hl6 hl7 hl8 hl9 hl10 hl11 hl12 hl13 hl14 hi2 hen hFF hz q1 q2 q3
                  go_wp2_with (fail)
                  go_end0
                  exact ⟨rfl, HZ.out ▸ HRW.out, HGB.out⟩
end Go.Proofs.YtlhdbcjlmkglkaaGreat.Q
