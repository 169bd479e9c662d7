/- Part 27 of the proof's texts: what the theorem needs of them. -/
import Derived.Test.YtlhdbcjlmkglkaaGreatSQG26

set_option linter.unusedVariables false
set_option linter.unusedSimpArgs false
/- The insertion sort at quotes. -/
set_option linter.unusedSimpArgs false
set_option linter.unusedVariables false
namespace Go.Proofs.YtlhdbcjlmkglkaaGreat.Q
open Go Go.RowKit Go.Proofs Go.Proofs.YtlhdbcjlmkglkaaGreat.PL Go.Proofs.YtlhdbcjlmkglkaaGreatW.PrintWords
/-- Two neighbours, turned about. -/
def swp (j : Nat) (xs : List S24) : List S24 := (xs.set (j + 1) (rd_T24 xs (j : Int))).set j (rd_T24 xs ((j + 1 : Nat) : Int))
def insJ (cm : S24 → S24 → Int) (a : Nat) : Nat → List S24 → List S24
  | 0, xs => xs
  | j + 1, xs => if a < j + 1 ∧ cm (rd_T24 xs ((j + 1 : Nat) : Int)) (rd_T24 xs (j : Int)) < 0 then insJ cm a j (swp j xs) else xs
def insR (cm : S24 → S24 → Int) (a : Nat) : Nat → Nat → List S24 → List S24
  | 0, _, xs => xs
  | m + 1, i, xs => insR cm a m (i + 1) (insJ cm a i xs)
/-- The quotes a to b of xs, in order. -/
def insL (cm : S24 → S24 → Int) (a b : Nat) (xs : List S24) : List S24 := insR cm a (b - (a + 1)) (a + 1) xs
theorem swp_len (j : Nat) (xs : List S24) : (swp j xs).length = xs.length := by unfold swp; simp
theorem insJ_len (cm : S24 → S24 → Int) (a : Nat) : ∀ (j : Nat) (xs : List S24), (insJ cm a j xs).length = xs.length
  | 0, _ => rfl
  | j + 1, xs => by
    rw [insJ]
    split
    · rw [insJ_len cm a j, swp_len]
    · rfl
theorem insR_len (cm : S24 → S24 → Int) (a : Nat) : ∀ (m i : Nat) (xs : List S24), (insR cm a m i xs).length = xs.length
  | 0, _, _ => rfl
  | m + 1, i, xs => by rw [insR, insR_len cm a m, insJ_len]
theorem insL_len (cm : S24 → S24 → Int) (a b : Nat) (xs : List S24) : (insL cm a b xs).length = xs.length := insR_len ..
theorem w1m (n : Nat) (h : n ≤ 2000000) : wrap64 (((n + 1 : Nat) : Int) - 1) = (n : Int) := by rw [w64 _ (by omega)]; omega
theorem away {W : World} {g o o' : Nat} (v : Value) (h : o ≠ o') : (W.setCell ⟨g, o, none⟩ v).cell? ⟨g, o', none⟩ = W.cell? ⟨g, o', none⟩ := by
  apply World.cell?_setCell_other
  intro e
  exact h (by injection e)
set_option maxHeartbeats 400000 in
set_option maxRecDepth 1000000 in
theorem ins_any (G k : Nat) (cv : Value) (cm : S24 → S24 → Int) (hp : CmpK G k cv cm) (eg : ∀ args w, (callFunc G args).run Tryz.prog w = .ok (.enter G args) w) (B : Nat) (ok : Nat → Prop) (g c a b : Nat) (xs : List S24) (w : World)
    (hR : Kd.R k24 24 w B ok (.slice (some ⟨g, 0, none⟩) xs.length c) xs) (hc : w.cell? ⟨k, 0, none⟩ = some cv) (hkg : k ≠ g) (hlen : xs.length ≤ 1000000) (hb : b ≤ xs.length) (hab : a ≤ b) :
    Calls Tryz.prog 105 #[.slice (some ⟨g, 0, none⟩) xs.length c, .int .i64 (a : Int), .int .i64 (b : Int), .func (.func G) #[] #[.pointer (some ⟨k, 0, none⟩)]] w fun e w' =>
      e = .returned (.tuple #[]) ∧ Kd.R k24 24 w' B ok (.slice (some ⟨g, 0, none⟩) xs.length c) (insL cm a b xs) ∧ w.grownBy w' (some g) := by
  have hu24 := Tryz.underlying24
  have HP := Lib.hid hp
  have HR := Lib.hid hR
  have HC := Lib.hid hc
  have HL := Lib.hid (And.intro hlen (And.intro hb hab))
  have hab2 : a ≤ 2000000 := by omega
  have hwa := w1n a hab2
  obtain ⟨F, hF⟩ : ∃ F, insL cm a b xs = F := ⟨_, rfl⟩
  rw [hF]
  have HF := Lib.hid hF
  clear hp hR hc hF
  go_enter Tryz.func105, Tryz.ntmps105
  go_wp2_with (fail)
  go_loopg [8] (b + 2) (fun kq v8 w' => ∃ (i : Nat) (ys : List S24), v8 = .int .i64 (i : Int) ∧ Aside0 (a + 1 ≤ i ∧ b + 2 ≤ i + kq ∧ (i ≤ b ∨ i = a + 1)) ∧ Aside0 (ys.length = xs.length ∧ insR cm a (b - i) i ys = F) ∧ Aside0 (Kd.R k24 24 w' B ok (.slice (some ⟨g, 0, none⟩) xs.length c) ys) ∧ Aside0 (w.grownBy w' (some g)) ∧ Aside0 (w'.cell? ⟨k, 0, none⟩ = some cv))
  case atStart =>
    exact ⟨a + 1, xs, rfl, ⟨by omega⟩, ⟨rfl, HF.out⟩, ⟨HR.out⟩, ⟨grown_below (Below.refl _ _) _⟩, ⟨HC.out⟩⟩
  case round =>
    obtain ⟨i, ys, rfl, HI, HY, HRR, HG, HCC⟩ := hrel
    obtain ⟨hi1, hi2, hi3⟩ := HI.out
    cases gk with
    | zero => omega
    | succ k0 =>
      by_cases c4 : i < b
      · have c4a : decide ((i : Int) < (b : Int)) = true := decide_eq_true (by omega)
        have c4b : decide (i < b) = true := decide_eq_true c4
        obtain ⟨T, hT⟩ : ∃ T, insJ cm a i ys = T := ⟨_, rfl⟩
        have hTF : insR cm a (b - (i + 1)) (i + 1) T = F := by
          have := HY.out.2
          rw [show b - i = (b - (i + 1)) + 1 by omega, insR, hT] at this
          exact this
        have HTF := Lib.hid (And.intro hTF (And.intro hT (show T.length = xs.length by rw [← hT, insJ_len]; exact HY.out.1)))
        have KI : i + 1 ≤ b ∧ b + 2 ≤ i + 1 + k0 := by omega
        have hib : i ≤ 2000000 := by omega
        have hwi := w1n i hib
        have hia : a < i := by omega
        rename World => ws
        clear hT hTF c4 hi1 hi2 hi3 hwa hab2 hib
        go_wp2_with (fail)
        go_loopg [9] (i + 1) (fun kq v9 w' => ∃ (j : Nat) (zs : List S24), v9 = .int .i64 (j : Int) ∧ Aside0 (j + 1 = kq ∧ j ≤ i) ∧ Aside0 (zs.length = xs.length ∧ insJ cm a j zs = T) ∧ Aside0 (Kd.R k24 24 w' B ok (.slice (some ⟨g, 0, none⟩) xs.length c) zs) ∧ Aside0 (w.grownBy w' (some g)) ∧ Aside0 (w'.cell? ⟨k, 0, none⟩ = some cv))
        case atStart =>
          exact ⟨i, ys, rfl, ⟨rfl, Nat.le_refl _⟩, ⟨HY.out.1, HTF.out.2.1⟩, HRR, HG, HCC⟩
        case round =>
          obtain ⟨j, zs, rfl, HJ, HZ, HRZ, HGZ, HCZ⟩ := hrel
          obtain ⟨hj1, hj2⟩ := HJ.out
          obtain ⟨k1, rfl⟩ : ∃ k1, gk = k1 + 1 := ⟨gk - 1, by omega⟩
          obtain rfl : j = k1 := by omega
          by_cases c5 : a < j
          · obtain ⟨m, hjm⟩ : ∃ m, j = m + 1 := ⟨j - 1, by omega⟩
            have c5a : decide ((a : Int) < (j : Int)) = true := decide_eq_true (by omega)
            have c5b : decide (a < j) = true := decide_eq_true c5
            have hzl := HZ.out.1
            have hm1 : j < zs.length := by omega
            have hm2 : m < zs.length := by omega
            obtain ⟨hx0, hx1, hx2, hx3, hx4, hx5, hx6, hx7⟩ := row_at (row_C HRZ.out hzl) hm1
            obtain ⟨hy0, hy1, hy2, hy3, hy4, hy5, hy6, hy7⟩ := row_at (row_C HRZ.out hzl) hm2
            have hms : wrap64 ((j : Int) - 1) = (m : Int) := by rw [hjm]; exact w1m m (by omega)
            have hmw : IntKind.i64.wrap ((j : Int) - 1) = (m : Int) := by rw [hjm]; exact (IntWalk.i64_in _ (by omega)).trans (by omega)
            have qm : (0 : Int) ≤ (m : Int) := by omega
            have qml : (m : Int) < (xs.length : Int) := by omega
            have pj : (0 ≤ (j : Int)) = True := eq_true (by omega)
            have pjl : ((j : Int) < (xs.length : Int)) = True := eq_true (by omega)
            have pm : (0 ≤ (m : Int)) = True := eq_true (by omega)
            have pml : ((m : Int) < (xs.length : Int)) = True := eq_true (by omega)
            have hfr := fun j => R_frz HRZ.out j
            have hpc := HP.out wr (rd_T24 zs (j : Int)) (rd_T24 zs (m : Int)) HCZ.out
            have HPX := Lib.hid (And.intro (R_put HRZ.out hm1 (rd_T24 zs (m : Int))) (And.intro hm1 hm2))
            have hins : (if a < j ∧ cm (rd_T24 zs (j : Int)) (rd_T24 zs (m : Int)) < 0 then insJ cm a m (swp m zs) else zs) = T := by
              have := HZ.out.2
              rw [hjm, insJ] at this
              rw [hjm]
              exact this
            have hswp : swp m zs = (zs.set j (rd_T24 zs (m : Int))).set m (rd_T24 zs (j : Int)) := by rw [hjm]; rfl
            generalize hx : rd_T24 zs (j : Int) = x at *
            generalize hy : rd_T24 zs (m : Int) = y at *
            obtain ⟨b2, hb2⟩ : ∃ b2, decide (cm x y < 0) = b2 := ⟨_, rfl⟩
            have HIN := Lib.hid (And.intro hins (And.intro hswp hjm))
            have HZL := Lib.hid hzl
            have HB2 := Lib.hid hb2
            have HC5 := Lib.hid c5
            have KM : m ≤ i := by omega
            clear hins hzl hj1 hj2 hlen hb hab c5 hm1 hm2 hia hjm hswp
            obtain ⟨x0, x1, x2, x3, x4, x5, x6, x7⟩ := x
            obtain ⟨y0, y1, y2, y3, y4, y5, y6, y7⟩ := y
            simp only at *
            have HSB := Lib.hid (show ∀ W W' : World, Below W.heap.size W W' → (W.cell? ⟨g, j * 8, none⟩ = some (.int .i64 x0) ∧ W.cell? ⟨g, j * 8 + 1, none⟩ = some (.int .i64 x1) ∧ W.cell? ⟨g, j * 8 + 2, none⟩ = some (.int .i64 x2) ∧ W.cell? ⟨g, j * 8 + 3, none⟩ = some (.int .i64 x3) ∧ W.cell? ⟨g, j * 8 + 4, none⟩ = some (.int .i64 x4) ∧ W.cell? ⟨g, j * 8 + 5, none⟩ = some (.int .i64 x5) ∧ W.cell? ⟨g, j * 8 + 6, none⟩ = some (.int .i64 x6) ∧ W.cell? ⟨g, j * 8 + 7, none⟩ = some (.int .i64 x7) ∧ W.cell? ⟨g, m * 8, none⟩ = some (.int .i64 y0) ∧ W.cell? ⟨g, m * 8 + 1, none⟩ = some (.int .i64 y1) ∧ W.cell? ⟨g, m * 8 + 2, none⟩ = some (.int .i64 y2) ∧ W.cell? ⟨g, m * 8 + 3, none⟩ = some (.int .i64 y3) ∧ W.cell? ⟨g, m * 8 + 4, none⟩ = some (.int .i64 y4) ∧ W.cell? ⟨g, m * 8 + 5, none⟩ = some (.int .i64 y5) ∧ W.cell? ⟨g, m * 8 + 6, none⟩ = some (.int .i64 y6) ∧ W.cell? ⟨g, m * 8 + 7, none⟩ = some (.int .i64 y7)) → (W'.cell? ⟨g, j * 8, none⟩ = some (.int .i64 x0) ∧ W'.cell? ⟨g, j * 8 + 1, none⟩ = some (.int .i64 x1) ∧ W'.cell? ⟨g, j * 8 + 2, none⟩ = some (.int .i64 x2) ∧ W'.cell? ⟨g, j * 8 + 3, none⟩ = some (.int .i64 x3) ∧ W'.cell? ⟨g, j * 8 + 4, none⟩ = some (.int .i64 x4) ∧ W'.cell? ⟨g, j * 8 + 5, none⟩ = some (.int .i64 x5) ∧ W'.cell? ⟨g, j * 8 + 6, none⟩ = some (.int .i64 x6) ∧ W'.cell? ⟨g, j * 8 + 7, none⟩ = some (.int .i64 x7) ∧ W'.cell? ⟨g, m * 8, none⟩ = some (.int .i64 y0) ∧ W'.cell? ⟨g, m * 8 + 1, none⟩ = some (.int .i64 y1) ∧ W'.cell? ⟨g, m * 8 + 2, none⟩ = some (.int .i64 y2) ∧ W'.cell? ⟨g, m * 8 + 3, none⟩ = some (.int .i64 y3) ∧ W'.cell? ⟨g, m * 8 + 4, none⟩ = some (.int .i64 y4) ∧ W'.cell? ⟨g, m * 8 + 5, none⟩ = some (.int .i64 y5) ∧ W'.cell? ⟨g, m * 8 + 6, none⟩ = some (.int .i64 y6) ∧ W'.cell? ⟨g, m * 8 + 7, none⟩ = some (.int .i64 y7)) from fun W W' b h => ⟨cell_below h.1 b, cell_below h.2.1 b, cell_below h.2.2.1 b, cell_below h.2.2.2.1 b, cell_below h.2.2.2.2.1 b, cell_below h.2.2.2.2.2.1 b, cell_below h.2.2.2.2.2.2.1 b, cell_below h.2.2.2.2.2.2.2.1 b, cell_below h.2.2.2.2.2.2.2.2.1 b, cell_below h.2.2.2.2.2.2.2.2.2.1 b, cell_below h.2.2.2.2.2.2.2.2.2.2.1 b, cell_below h.2.2.2.2.2.2.2.2.2.2.2.1 b, cell_below h.2.2.2.2.2.2.2.2.2.2.2.2.1 b, cell_below h.2.2.2.2.2.2.2.2.2.2.2.2.2.1 b, cell_below h.2.2.2.2.2.2.2.2.2.2.2.2.2.2.1 b, cell_below h.2.2.2.2.2.2.2.2.2.2.2.2.2.2.2 b⟩)
            have hSD := HSB.out wr wr.drew (drew_below wr) ⟨hx0, hx1, hx2, hx3, hx4, hx5, hx6, hx7, hy0, hy1, hy2, hy3, hy4, hy5, hy6, hy7⟩
            have HPC := Lib.hid (fun W b => HP.out W ⟨x0, x1, x2, x3, x4, x5, x6, x7⟩ ⟨y0, y1, y2, y3, y4, y5, y6, y7⟩ (cell_below HCZ.out b))
            cases b2
            · go_wp2_with (fail)
              go_region_held3 (fun w' : World => w'.cell? ⟨g, j * 8, none⟩ = some (.int .i64 x0) ∧ w'.cell? ⟨g, j * 8 + 1, none⟩ = some (.int .i64 x1) ∧ w'.cell? ⟨g, j * 8 + 2, none⟩ = some (.int .i64 x2) ∧ w'.cell? ⟨g, j * 8 + 3, none⟩ = some (.int .i64 x3) ∧ w'.cell? ⟨g, j * 8 + 4, none⟩ = some (.int .i64 x4) ∧ w'.cell? ⟨g, j * 8 + 5, none⟩ = some (.int .i64 x5) ∧ w'.cell? ⟨g, j * 8 + 6, none⟩ = some (.int .i64 x6) ∧ w'.cell? ⟨g, j * 8 + 7, none⟩ = some (.int .i64 x7) ∧ w'.cell? ⟨g, m * 8, none⟩ = some (.int .i64 y0) ∧ w'.cell? ⟨g, m * 8 + 1, none⟩ = some (.int .i64 y1) ∧ w'.cell? ⟨g, m * 8 + 2, none⟩ = some (.int .i64 y2) ∧ w'.cell? ⟨g, m * 8 + 3, none⟩ = some (.int .i64 y3) ∧ w'.cell? ⟨g, m * 8 + 4, none⟩ = some (.int .i64 y4) ∧ w'.cell? ⟨g, m * 8 + 5, none⟩ = some (.int .i64 y5) ∧ w'.cell? ⟨g, m * 8 + 6, none⟩ = some (.int .i64 y6) ∧ w'.cell? ⟨g, m * 8 + 7, none⟩ = some (.int .i64 y7))
                (first | with_reducible assumption | with_reducible exact HSB.out _ _ (by with_reducible assumption) (by with_reducible assumption))
                (first | (go_at_fn G; refine (HPC.out _ (drew_below wr)).mono ?_; rintro e W2 ⟨rfl, b2⟩))
              all_goals (
                have B2 := bl2 (drew_below wr) b2
                have hzs : zs = T := by have := HIN.out.1; rw [if_neg (fun h => by have := HB2.out; rw [decide_eq_false_iff_not] at this; exact this h.2)] at this; exact this
                subst hzs
                go_wp2_with (fail)
                go_roundg k0
                case measure => omega
                case rel => exact ⟨i + 1, zs, congrArg (Value.int .i64) hwi, ⟨by have := HI.out.1; omega⟩, ⟨HTF.out.2.2, HTF.out.1⟩, ⟨Kd.R_below HRZ.out B2⟩, ⟨grown_trans HGZ.out (grown_below B2 _)⟩, ⟨cell_below HCZ.out B2⟩⟩)
            · go_wp2_with (fail)
              go_region_held3 (fun w' : World => w'.cell? ⟨g, j * 8, none⟩ = some (.int .i64 x0) ∧ w'.cell? ⟨g, j * 8 + 1, none⟩ = some (.int .i64 x1) ∧ w'.cell? ⟨g, j * 8 + 2, none⟩ = some (.int .i64 x2) ∧ w'.cell? ⟨g, j * 8 + 3, none⟩ = some (.int .i64 x3) ∧ w'.cell? ⟨g, j * 8 + 4, none⟩ = some (.int .i64 x4) ∧ w'.cell? ⟨g, j * 8 + 5, none⟩ = some (.int .i64 x5) ∧ w'.cell? ⟨g, j * 8 + 6, none⟩ = some (.int .i64 x6) ∧ w'.cell? ⟨g, j * 8 + 7, none⟩ = some (.int .i64 x7) ∧ w'.cell? ⟨g, m * 8, none⟩ = some (.int .i64 y0) ∧ w'.cell? ⟨g, m * 8 + 1, none⟩ = some (.int .i64 y1) ∧ w'.cell? ⟨g, m * 8 + 2, none⟩ = some (.int .i64 y2) ∧ w'.cell? ⟨g, m * 8 + 3, none⟩ = some (.int .i64 y3) ∧ w'.cell? ⟨g, m * 8 + 4, none⟩ = some (.int .i64 y4) ∧ w'.cell? ⟨g, m * 8 + 5, none⟩ = some (.int .i64 y5) ∧ w'.cell? ⟨g, m * 8 + 6, none⟩ = some (.int .i64 y6) ∧ w'.cell? ⟨g, m * 8 + 7, none⟩ = some (.int .i64 y7))
                (first | with_reducible assumption | with_reducible exact HSB.out _ _ (by with_reducible assumption) (by with_reducible assumption))
                (first | (go_at_fn G; refine (HPC.out _ (drew_below wr)).mono ?_; rintro e W2 ⟨rfl, b2⟩))
              all_goals (
                have B2 := bl2 (drew_below wr) b2
                have HRA := Lib.hid (Kd.R_below HRZ.out B2)
                have hfr := fun j => R_frz HRA.out j
                obtain ⟨hx0, hx1, hx2, hx3, hx4, hx5, hx6, hx7, hy0, hy1, hy2, hy3, hy4, hy5, hy6, hy7⟩ := HSB.out _ _ B2 ⟨hx0, hx1, hx2, hx3, hx4, hx5, hx6, hx7, hy0, hy1, hy2, hy3, hy4, hy5, hy6, hy7⟩
                have hjm := HIN.out.2.2
                have n0 : ∀ (W : World) (v : Value), (W.setCell ⟨g, j * 8, none⟩ v).cell? ⟨g, m * 8, none⟩ = W.cell? ⟨g, m * 8, none⟩ := fun W v => away v (by omega)
                have n1 : ∀ (W : World) (v : Value) (o : Nat), o < 8 → (W.setCell ⟨g, j * 8, none⟩ v).cell? ⟨g, m * 8 + o, none⟩ = W.cell? ⟨g, m * 8 + o, none⟩ := fun W v o h => away v (by omega)
                have n2 : ∀ (W : World) (v : Value) (o : Nat), o < 8 → (W.setCell ⟨g, j * 8 + o, none⟩ v).cell? ⟨g, m * 8, none⟩ = W.cell? ⟨g, m * 8, none⟩ := fun W v o h => away v (by omega)
                have n3 : ∀ (W : World) (v : Value) (o o' : Nat), o < 8 → o' < 8 → (W.setCell ⟨g, j * 8 + o, none⟩ v).cell? ⟨g, m * 8 + o', none⟩ = W.cell? ⟨g, m * 8 + o', none⟩ := fun W v o o' h h' => away v (by omega)
                clear hjm
                go_wp2_with (fail)
                go_region
                all_goals (
                  have hP1 := R_put HRA.out (show j < zs.length from HPX.out.2.1) ⟨y0, y1, y2, y3, y4, y5, y6, y7⟩
                  have hP2 := R_put hP1.1 (show m < (zs.set j ⟨y0, y1, y2, y3, y4, y5, y6, y7⟩).length by rw [List.length_set]; exact HPX.out.2.2) ⟨x0, x1, x2, x3, x4, x5, x6, x7⟩
                  have hT : insJ cm a m ((zs.set j ⟨y0, y1, y2, y3, y4, y5, y6, y7⟩).set m ⟨x0, x1, x2, x3, x4, x5, x6, x7⟩) = T := by
                    have := HIN.out.1
                    rw [if_pos ⟨HC5.out, of_decide_eq_true HB2.out⟩, HIN.out.2.1] at this
                    exact this
                  have HPP := Lib.hid (And.intro hP1.2 (And.intro hP2 hT))
                  clear hP1 hP2 hT
                  go_wp2_with (fail)
                  go_roundg j
                  case measure => omega
                  case rel =>
                    exact ⟨m, _, rfl, ⟨HIN.out.2.2.symm, KM⟩, ⟨by rw [List.length_set, List.length_set]; exact HZL.out, HPP.out.2.2⟩, ⟨Kd.R_below HPP.out.2.1.1 (drew_below _)⟩, ⟨grown_trans HGZ.out (grown_trans (grown_below B2 _) (grown_trans HPP.out.1 (grown_trans HPP.out.2.1.2 (grown_below (drew_below _) _))))⟩, ⟨cell_below (keep_cell HPP.out.2.1.2 (keep_cell HPP.out.1 (cell_below HCZ.out B2) (fun e => hkg (Option.some.inj e))) (fun e => hkg (Option.some.inj e))) (drew_below _)⟩⟩))
          · have c5a : decide ((a : Int) < (j : Int)) = false := decide_eq_false (by omega)
            have c5b : decide (a < j) = false := decide_eq_false c5
            have hzs : zs = T := by
              have := HZ.out.2
              cases j with
              | zero => exact this
              | succ j => rw [insJ, if_neg (fun h => c5 h.1)] at this; exact this
            clear hj1 hj2 hlen hb hab c5
            subst hzs
            go_wp2_with (fail)
            go_quiet (fail)
            have B2 : Below wr.heap.size wr (wr.drewN nq) := pw_below_drewN (Below.refl _ wr) nq
            go_wp2_with (fail)
            go_roundg k0
            case measure => omega
            case rel => exact ⟨i + 1, zs, congrArg (Value.int .i64) hwi, ⟨by have := HI.out.1; omega⟩, ⟨HTF.out.2.2, HTF.out.1⟩, ⟨Kd.R_below HRZ.out B2⟩, ⟨grown_trans HGZ.out (grown_below B2 _)⟩, ⟨cell_below HCZ.out B2⟩⟩
      · have c4a : decide ((i : Int) < (b : Int)) = false := decide_eq_false (by omega)
        have c4b : decide (i < b) = false := decide_eq_false c4
        have hys : ys = F := by
          have := HY.out.2
          rw [show b - i = 0 by omega] at this
          exact this
        subst hys
        clear c4 hi1 hi2 hi3 hlen hb hab
        go_wp2_with (fail)
        go_end0
        exact ⟨rfl, HRR.out, HG.out⟩
end Go.Proofs.YtlhdbcjlmkglkaaGreat.Q

/- SortStableFunc at fewer than 20 quotes. -/
set_option linter.unusedSimpArgs false
set_option linter.unusedVariables false
namespace Go.Proofs.YtlhdbcjlmkglkaaGreat.Q
open Go Go.RowKit Go.Proofs Go.Proofs.YtlhdbcjlmkglkaaGreat.PL Go.Proofs.YtlhdbcjlmkglkaaGreatW.PrintWords
set_option maxHeartbeats 400000 in
set_option maxRecDepth 1000000 in
theorem ins_none (V : Value) (A : Option Addr) (c : Nat) (w : World) :
    Calls Tryz.prog 105 #[.slice A 0 c, .int .i64 0, .int .i64 0, V] w fun e w' => e = .returned (.tuple #[]) ∧ w' = w := by
  go_enter Tryz.func105, Tryz.ntmps105
  go_wp2_with (fail)
  go_loopg [8] 1 (fun kq v8 w' => v8 = .int .i64 1 ∧ w' = w ∧ kq = 1)
  case atStart => exact ⟨rfl, rfl, rfl⟩
  case round =>
    obtain ⟨rfl, rfl, rfl⟩ := hrel
    go_wp2_with (fail)
    go_end0
    exact ⟨rfl, rfl⟩
set_option maxHeartbeats 400000 in
set_option maxRecDepth 1000000 in
theorem stable_by (V : Value) (A : Option Addr) (n c : Nat) (w : World) (R : World → Prop) (hlen : n < 20)
    (hI : Calls Tryz.prog 105 #[.slice A n c, .int .i64 0, .int .i64 (n : Int), V] w fun e w' => e = .returned (.tuple #[]) ∧ R w') :
    Calls Tryz.prog 74 #[.slice A n c, .int .i64 (n : Int), V] w fun e w' => e = .returned (.tuple #[]) ∧ R w' := by
  have hI := Lib.hid hI
  have c1 : decide ((20 : Int) ≤ (n : Int)) = false := decide_eq_false (by omega)
  have c2 : decide ((20 : Int) < (n : Int)) = false := decide_eq_false (by omega)
  have c3 : decide (20 ≤ n) = false := decide_eq_false (by omega)
  have c4 : decide (20 < n) = false := decide_eq_false (by omega)
  clear hlen
  go_enter Tryz.func74, Tryz.ntmps74
  go_wp2_with (fail)
  go_loopg [7, 8] 1 (fun kq v7 v8 w' => v7 = .int .i64 0 ∧ v8 = .int .i64 20 ∧ w' = w ∧ kq = 1)
  case atStart => exact ⟨rfl, rfl, rfl, rfl⟩
  case round =>
    obtain ⟨rfl, rfl, rfl, rfl⟩ := hrel
    go_wp2_with (first | (go_at_call 105; refine hI.out.mono ?_; rintro e W2 ⟨rfl, hR2⟩; have HR2 := Lib.hid hR2; clear hR2))
    go_loopg [6] 1 (fun kq v6 w' => v6 = .int .i64 20 ∧ w' = W2 ∧ kq = 1)
    case atStart => exact ⟨rfl, rfl, rfl⟩
    case round =>
      obtain ⟨rfl, rfl, rfl⟩ := hrel
      go_wp2_with (fail)
      go_end0
      exact ⟨rfl, HR2.out⟩
set_option maxHeartbeats 400000 in
set_option maxRecDepth 1000000 in
theorem sort_by (V : Value) (A : Option Addr) (n c : Nat) (w : World) (R : World → Prop)
    (hI : Calls Tryz.prog 74 #[.slice A n c, .int .i64 (n : Int), V] w fun e w' => e = .returned (.tuple #[]) ∧ R w') :
    Calls Tryz.prog 61 #[.slice A n c, V] w fun e w' => e = .returned (.tuple #[]) ∧ R w' := by
  have hI := Lib.hid hI
  go_enter Tryz.func61, Tryz.ntmps61
  go_wp2_with (first | (go_at_call 74; refine hI.out.mono ?_; rintro e W2 ⟨rfl, hR2⟩; have HR2 := Lib.hid hR2; clear hR2))
  go_end0
  exact ⟨rfl, HR2.out⟩
theorem sort_few (G k : Nat) (cv : Value) (cm : S24 → S24 → Int) (hp : CmpK G k cv cm) (eg : ∀ args w, (callFunc G args).run Tryz.prog w = .ok (.enter G args) w) (B : Nat) (ok : Nat → Prop) (A : Option Addr) (c : Nat) (xs : List S24) (w : World)
    (hR : Kd.R k24 24 w B ok (.slice A xs.length c) xs) (hc : w.cell? ⟨k, 0, none⟩ = some cv) (hkg : some k ≠ (Value.slice A xs.length c).ownBlock) (hlen : xs.length < 20) :
    Calls Tryz.prog 61 #[.slice A xs.length c, .func (.func G) #[] #[.pointer (some ⟨k, 0, none⟩)]] w fun e w' =>
      e = .returned (.tuple #[]) ∧ Kd.R k24 24 w' B ok (.slice A xs.length c) (insL cm 0 xs.length xs) ∧ w.grownBy w' (Value.slice A xs.length c).ownBlock := by
  apply sort_by _ _ _ _ _ (fun w' => Kd.R k24 24 w' B ok (.slice A xs.length c) (insL cm 0 xs.length xs) ∧ w.grownBy w' (Value.slice A xs.length c).ownBlock)
  apply stable_by _ _ _ _ _ _ hlen
  rcases xs with _ | ⟨x, l⟩
  · exact (ins_none _ A c w).mono fun e w' ⟨he, hw⟩ => by subst hw; exact ⟨he, hR, grown_below (Below.refl _ _) _⟩
  · obtain ⟨g, rfl⟩ := R_some hR (by simp)
    exact ins_any G k cv cm hp eg B ok g c 0 _ _ w hR hc (fun e => hkg (by rw [e]; rfl)) (by omega) (Nat.le_refl _) (Nat.zero_le _)
end Go.Proofs.YtlhdbcjlmkglkaaGreat.Q

/- Sorted as it stood: what every stable sort comes to; plain. -/
set_option linter.unusedSimpArgs false
set_option linter.unusedVariables false
namespace Go.Proofs.YtlhdbcjlmkglkaaGreat.StN
variable {α : Type} {key : α → Int}
def Srt (key : α → Int) (l : List α) : Prop := l.Pairwise (fun x y => key x ≤ key y)
def Flt (key : α → Int) (r : Int) (l : List α) : List α := l.filter (fun x => key x == r)
theorem Flt_append (r : Int) (l m : List α) : Flt key r (l ++ m) = Flt key r l ++ Flt key r m := List.filter_append ..
theorem Flt_none {r : Int} {l : List α} (h : ∀ x ∈ l, key x ≠ r) : Flt key r l = [] := by
  unfold Flt
  rw [List.filter_eq_nil_iff]
  intro x hx hk
  exact h x hx (beq_iff_eq.1 hk)
theorem Flt_cons_eq {r : Int} {x : α} {l : List α} (h : key x = r) : Flt key r (x :: l) = x :: Flt key r l := List.filter_cons_of_pos (beq_iff_eq.2 h)
theorem Flt_cons_ne {r : Int} {x : α} {l : List α} (h : key x ≠ r) : Flt key r (x :: l) = Flt key r l := List.filter_cons_of_neg (fun hk => h (beq_iff_eq.1 hk))
theorem mem_Flt {r : Int} {x : α} {l : List α} : x ∈ Flt key r l ↔ x ∈ l ∧ key x = r := by
  unfold Flt
  rw [List.mem_filter, beq_iff_eq]
/-- o is l, in order; those alike stand as they stood. -/
structure Stb (key : α → Int) (l o : List α) : Prop where
  srt : Srt key o
  flt : ∀ r, Flt key r o = Flt key r l
theorem Srt.nil : Srt key ([] : List α) := List.Pairwise.nil
theorem Srt.one (x : α) : Srt key [x] := List.pairwise_singleton _ _
theorem Srt.app {l m : List α} : Srt key (l ++ m) ↔ Srt key l ∧ Srt key m ∧ ∀ x ∈ l, ∀ y ∈ m, key x ≤ key y := List.pairwise_append
theorem Srt.cons {x : α} {l : List α} : Srt key (x :: l) ↔ (∀ y ∈ l, key x ≤ key y) ∧ Srt key l := List.pairwise_cons
theorem Stb.of_srt {l : List α} (h : Srt key l) : Stb key l l := ⟨h, fun _ => rfl⟩
theorem Stb.mem {l o : List α} (h : Stb key l o) (x : α) : x ∈ o ↔ x ∈ l := by
  have e := h.flt (key x)
  constructor
  · intro hx
    exact (mem_Flt.1 (e ▸ mem_Flt.2 ⟨hx, rfl⟩)).1
  · intro hx
    exact (mem_Flt.1 (e.symm ▸ mem_Flt.2 ⟨hx, rfl⟩)).1
theorem Stb.cong {l l' o : List α} (h : Stb key l o) (e : ∀ r, Flt key r l = Flt key r l') : Stb key l' o := ⟨h.srt, fun r => (h.flt r).trans (e r)⟩
theorem Stb.trans {l m o : List α} (h : Stb key l m) (g : Stb key m o) : Stb key l o := ⟨g.srt, fun r => (g.flt r).trans (h.flt r)⟩
theorem flt_uniq : ∀ {o o' : List α}, Srt key o → Srt key o' → (∀ r, Flt key r o = Flt key r o') → o = o'
  | [], [], _, _, _ => rfl
  | [], y :: t, _, _, h => by
    have := h (key y)
    rw [Flt_cons_eq rfl] at this
    exact absurd this (by simp [Flt])
  | x :: t, [], _, _, h => by
    have := h (key x)
    rw [Flt_cons_eq rfl] at this
    exact absurd this (by simp [Flt])
  | x :: t, y :: t', hs, hs', h => by
    obtain ⟨h1, h2⟩ := Srt.cons.1 hs
    obtain ⟨h1', h2'⟩ := Srt.cons.1 hs'
    have hk : key x = key y := by
      rcases Int.lt_trichotomy (key x) (key y) with hl | he | hl
      · have e := h (key x)
        rw [Flt_cons_eq rfl, Flt_none (l := y :: t') (fun z hz => by
          rcases List.mem_cons.1 hz with rfl | hz
          · omega
          · have := h1' z hz; omega)] at e
        exact absurd e (by simp)
      · exact he
      · have e := h (key y)
        rw [Flt_cons_eq (x := y) rfl, Flt_none (l := x :: t) (fun z hz => by
          rcases List.mem_cons.1 hz with rfl | hz
          · omega
          · have := h1 z hz; omega)] at e
        exact absurd e (by simp)
    have e := h (key x)
    rw [Flt_cons_eq rfl, Flt_cons_eq hk.symm] at e
    obtain ⟨rfl, e2⟩ := List.cons.inj e
    rw [flt_uniq h2 h2' (fun r => by
      by_cases hr : key x = r
      · subst hr; exact e2
      · have := h r
        rw [Flt_cons_ne hr, Flt_cons_ne hr] at this
        exact this)]
theorem Stb.uniq {l o o' : List α} (h : Stb key l o) (h' : Stb key l o') : o = o' := flt_uniq h.srt h'.srt (fun r => (h.flt r).trans (h'.flt r).symm)
/-- A new one behind those that are not greater. -/
def sins (key : α → Int) (x : α) : List α → List α
  | [] => [x]
  | y :: t => if key x < key y then x :: y :: t else y :: sins key x t
def ssort (key : α → Int) (l : List α) : List α := l.foldl (fun o x => sins key x o) []
theorem sins_len (x : α) : ∀ (o : List α), (sins key x o).length = o.length + 1
  | [] => rfl
  | y :: t => by
    unfold sins
    split
    · rfl
    · rw [List.length_cons, sins_len x t]; rfl
theorem sins_mem (x z : α) : ∀ (o : List α), z ∈ sins key x o ↔ z ∈ o ∨ z = x
  | [] => by simp [sins]
  | y :: t => by
    unfold sins
    split
    · simp only [List.mem_cons]
      constructor
      · rintro (h | h); exact .inr h; exact .inl h
      · rintro (h | h); exact .inr h; exact .inl h
    · rw [List.mem_cons, sins_mem x z t, List.mem_cons]
      constructor
      · rintro (h | h | h)
        · exact .inl (.inl h)
        · exact .inl (.inr h)
        · exact .inr h
      · rintro ((h | h) | h)
        · exact .inl h
        · exact .inr (.inl h)
        · exact .inr (.inr h)
theorem sins_srt (x : α) : ∀ {o : List α}, Srt key o → Srt key (sins key x o)
  | [], _ => Srt.one x
  | y :: t, h => by
    obtain ⟨h1, h2⟩ := Srt.cons.1 h
    unfold sins
    split
    · next hl =>
      refine Srt.cons.2 ⟨fun z hz => ?_, h⟩
      rcases List.mem_cons.1 hz with rfl | hz
      · omega
      · have := h1 z hz; omega
    · next hl =>
      refine Srt.cons.2 ⟨fun z hz => ?_, sins_srt x h2⟩
      rcases (sins_mem x z t).1 hz with hz | rfl
      · exact h1 z hz
      · omega
theorem sins_flt (x : α) (r : Int) : ∀ {o : List α}, Srt key o → Flt key r (sins key x o) = Flt key r o ++ Flt key r [x]
  | [], _ => rfl
  | y :: t, h => by
    obtain ⟨h1, h2⟩ := Srt.cons.1 h
    unfold sins
    split
    · next hl =>
      by_cases hr : key x = r
      · rw [Flt_cons_eq hr, Flt_none (l := y :: t) (fun z hz => by
          rcases List.mem_cons.1 hz with rfl | hz
          · omega
          · have := h1 z hz; omega), Flt_cons_eq hr]
        rfl
      · rw [Flt_cons_ne hr, Flt_cons_ne hr]
        simp [Flt]
    · next hl =>
      by_cases hr : key y = r
      · rw [Flt_cons_eq hr, Flt_cons_eq hr, sins_flt x r h2]; rfl
      · rw [Flt_cons_ne hr, Flt_cons_ne hr, sins_flt x r h2]
theorem sins_stb (x : α) {l o : List α} (h : Stb key l o) : Stb key (l ++ [x]) (sins key x o) :=
  ⟨sins_srt x h.srt, fun r => by rw [sins_flt x r h.srt, Flt_append, h.flt r]⟩
theorem sfold_stb : ∀ (l m o : List α), Stb key m o → Stb key (m ++ l) (l.foldl (fun o x => sins key x o) o)
  | [], m, o, h => by rw [List.append_nil]; exact h
  | x :: l, m, o, h => by
    have := sfold_stb l (m ++ [x]) (sins key x o) (sins_stb x h)
    rw [List.append_assoc] at this
    exact this
theorem ssort_stb (l : List α) : Stb key l (ssort key l) := sfold_stb l [] [] (Stb.of_srt Srt.nil)
theorem sfold_len : ∀ (l o : List α), (l.foldl (fun o x => sins key x o) o).length = o.length + l.length
  | [], o => rfl
  | x :: l, o => by rw [List.foldl_cons, sfold_len l, sins_len, List.length_cons]; omega
theorem ssort_len (l : List α) : (ssort key l).length = l.length := by
  unfold ssort; rw [sfold_len]; exact Nat.zero_add _
theorem Stb.len {l o : List α} (h : Stb key l o) : o.length = l.length := by rw [h.uniq (ssort_stb l), ssort_len]
theorem Stb.eq {l o : List α} (h : Stb key l o) : o = ssort key l := h.uniq (ssort_stb l)
/- merging -/
theorem Stb.sym {A1 U V B2 M1 M2 : List α} (hA : Srt key (A1 ++ U)) (hB : Srt key (V ++ B2)) (h1 : ∀ x ∈ A1, ∀ y ∈ B2, key x ≤ key y) (h2 : ∀ u ∈ U, ∀ v ∈ V, key v < key u)
    (m1 : Stb key (A1 ++ V) M1) (m2 : Stb key (U ++ B2) M2) : Stb key ((A1 ++ U) ++ (V ++ B2)) (M1 ++ M2) := by
  obtain ⟨a1, a2, a3⟩ := Srt.app.1 hA
  obtain ⟨b1, b2, b3⟩ := Srt.app.1 hB
  refine ⟨Srt.app.2 ⟨m1.srt, m2.srt, fun x hx y hy => ?_⟩, fun r => ?_⟩
  · rcases List.mem_append.1 ((m1.mem x).1 hx) with hx | hx <;> rcases List.mem_append.1 ((m2.mem y).1 hy) with hy | hy
    · exact a3 x hx y hy
    · exact h1 x hx y hy
    · exact Int.le_of_lt (h2 y hy x hx)
    · exact b3 x hx y hy
  · rw [Flt_append, m1.flt, m2.flt]
    simp only [Flt_append]
    have e : Flt key r U ++ Flt key r V = Flt key r V ++ Flt key r U := by
      by_cases hu : ∃ u ∈ U, key u = r
      · obtain ⟨u, hu, hr⟩ := hu
        rw [Flt_none (l := V) (fun v hv he => by have := h2 u hu v hv; omega)]
        simp
      · rw [Flt_none (l := U) (fun u hv he => hu ⟨u, hv, he⟩)]
        simp
    rw [List.append_assoc (Flt key r A1) (Flt key r U), ← List.append_assoc (Flt key r U) (Flt key r V), e]
    simp only [List.append_assoc]
theorem Stb.one_l (x : α) {B1 B2 : List α} (hB : Srt key (B1 ++ B2)) (h1 : ∀ y ∈ B1, key y < key x) (h2 : ∀ y ∈ B2, key x ≤ key y) : Stb key ([x] ++ (B1 ++ B2)) (B1 ++ [x] ++ B2) := by
  obtain ⟨b1, b2, b3⟩ := Srt.app.1 hB
  have := Stb.sym (A1 := []) (U := [x]) (V := B1) (B2 := B2) (M1 := B1) (M2 := [x] ++ B2) (Srt.one x) hB (fun _ h => absurd h (by simp)) (fun u hu v hv => by obtain rfl := List.mem_singleton.1 hu; exact h1 v hv)
    (Stb.of_srt b1) (Stb.of_srt (Srt.app.2 ⟨Srt.one x, b2, fun u hu y hy => by obtain rfl := List.mem_singleton.1 hu; exact h2 y hy⟩))
  rw [List.append_assoc]
  exact this
theorem Stb.one_r (x : α) {A1 A2 : List α} (hA : Srt key (A1 ++ A2)) (h1 : ∀ y ∈ A1, key y ≤ key x) (h2 : ∀ y ∈ A2, key x < key y) : Stb key ((A1 ++ A2) ++ [x]) (A1 ++ [x] ++ A2) := by
  obtain ⟨b1, b2, b3⟩ := Srt.app.1 hA
  have := Stb.sym (A1 := A1) (U := A2) (V := [x]) (B2 := []) (M1 := A1 ++ [x]) (M2 := A2) hA (by rw [List.append_nil]; exact Srt.one x) (fun _ _ _ h => absurd h (by simp)) (fun u hu v hv => by obtain rfl := List.mem_singleton.1 hv; exact h2 u hu)
    (Stb.of_srt (Srt.app.2 ⟨b1, Srt.one x, fun y hy u hu => by obtain rfl := List.mem_singleton.1 hu; exact h1 y hy⟩)) (by rw [List.append_nil]; exact Stb.of_srt b2)
  rw [List.append_nil] at this
  exact this
/- elements by their places -/
theorem gd_mid (d : α) (P S : List α) (x : α) : (P ++ x :: S).getD P.length d = x := by
  rw [List.getD_eq_getElem?_getD, List.getElem?_append_right (Nat.le_refl _), Nat.sub_self]
  rfl
theorem gd_app_r (d : α) (P S : List α) (i : Nat) : (P ++ S).getD (P.length + i) d = S.getD i d := by
  rw [List.getD_eq_getElem?_getD, List.getElem?_append_right (by omega), Nat.add_sub_cancel_left, ← List.getD_eq_getElem?_getD]
theorem gd_app_l (d : α) (P S : List α) (i : Nat) (h : i < P.length) : (P ++ S).getD i d = P.getD i d := by
  rw [List.getD_eq_getElem?_getD, List.getElem?_append_left h, ← List.getD_eq_getElem?_getD]
theorem set_mid (P S : List α) (x y : α) : (P ++ x :: S).set P.length y = P ++ y :: S := by
  rw [List.set_append_right _ _ (Nat.le_refl _), Nat.sub_self, List.set_cons_zero]
theorem mem_gd (d : α) {l : List α} {x : α} (h : x ∈ l) : ∃ i, i < l.length ∧ l.getD i d = x := by
  obtain ⟨i, hi, e⟩ := List.getElem_of_mem h
  exact ⟨i, hi, by rw [List.getD_eq_getElem?_getD, List.getElem?_eq_getElem hi, e]; rfl⟩
theorem srt_gd (d : α) {l : List α} (h : Srt key l) {i j : Nat} (hij : i < j) (hj : j < l.length) : key (l.getD i d) ≤ key (l.getD j d) := by
  have := List.pairwise_iff_getElem.1 h i j (by omega) hj hij
  rw [List.getD_eq_getElem?_getD, List.getElem?_eq_getElem (by omega), List.getD_eq_getElem?_getD, List.getElem?_eq_getElem hj]
  exact this
/-- Two elements change places. -/
def swpG (d : α) (i j : Nat) (xs : List α) : List α := (xs.set i (xs.getD j d)).set j (xs.getD i d)
theorem swpG_parts (d : α) (P M S : List α) (x y : α) : swpG d P.length (P.length + (1 + M.length)) (P ++ x :: (M ++ y :: S)) = P ++ y :: (M ++ x :: S) := by
  unfold swpG
  have e1 : (P ++ x :: (M ++ y :: S)).getD (P.length + (1 + M.length)) d = y := by
    rw [gd_app_r, show (1 + M.length) = M.length + 1 by omega]
    show (M ++ y :: S).getD M.length d = y
    exact gd_mid d M S y
  rw [e1, gd_mid, set_mid]
  rw [List.set_append_right _ _ (by omega), Nat.add_sub_cancel_left, show 1 + M.length = M.length + 1 by omega, List.set_cons_succ, set_mid]
theorem swpG_near (d : α) (P S : List α) (x y : α) : swpG d P.length (P.length + 1) (P ++ x :: y :: S) = P ++ y :: x :: S := swpG_parts d P [] S x y
theorem swpG_near' (d : α) (P S : List α) (x y : α) : swpG d (P.length + 1) P.length (P ++ x :: y :: S) = P ++ y :: x :: S := by
  have h := swpG_near d P S x y
  unfold swpG at h ⊢
  rw [List.set_comm _ _ (by omega)]
  exact h
/- where the searches of symMerge end -/
theorem take_le (d : α) {l : List α} (h : Srt key l) {k : Nat} (hk : k < l.length) {x : α} (hx : x ∈ l.take (k + 1)) : key x ≤ key (l.getD k d) := by
  obtain ⟨i, hi, rfl⟩ := mem_gd d hx
  rw [List.length_take] at hi
  have e : (l.take (k + 1)).getD i d = l.getD i d := by
    rw [List.getD_eq_getElem?_getD, List.getElem?_take, if_pos (by omega), ← List.getD_eq_getElem?_getD]
  rw [e]
  rcases Nat.lt_or_ge i k with h1 | h1
  · exact srt_gd d h h1 hk
  · obtain rfl : i = k := by omega
    exact Int.le_refl _
theorem drop_ge (d : α) {l : List α} (h : Srt key l) {k : Nat} {x : α} (hx : x ∈ l.drop k) : key (l.getD k d) ≤ key x := by
  obtain ⟨i, hi, rfl⟩ := mem_gd d hx
  rw [List.length_drop] at hi
  have e : (l.drop k).getD i d = l.getD (k + i) d := by
    rw [List.getD_eq_getElem?_getD, List.getElem?_drop, ← List.getD_eq_getElem?_getD]
  rw [e]
  rcases Nat.eq_zero_or_pos i with h1 | h1
  · subst h1; exact Int.le_refl _
  · exact srt_gd d h (by omega) (by omega)
/-- A split of a sorted list at i: all ahead have f, all behind don't. -/
theorem split_lt (d : α) {l : List α} (h : Srt key l) (i : Nat) (hi : i ≤ l.length) (v : Int) (h1 : i = 0 ∨ key (l.getD (i - 1) d) < v) (h2 : i = l.length ∨ v ≤ key (l.getD i d)) :
    (∀ y ∈ l.take i, key y < v) ∧ ∀ y ∈ l.drop i, v ≤ key y := by
  constructor
  · intro y hy
    rcases h1 with rfl | h1
    · rw [List.take_zero] at hy; exact absurd hy (by simp)
    · rcases Nat.eq_zero_or_pos i with h0 | h0
      · subst h0; rw [List.take_zero] at hy; exact absurd hy (by simp)
      · have := take_le d h (k := i - 1) (by omega) (x := y) (by rw [show i - 1 + 1 = i by omega]; exact hy)
        omega
  · intro y hy
    rcases h2 with rfl | h2
    · rw [List.drop_length] at hy; exact absurd hy (by simp)
    · have := drop_ge d h hy
      omega
theorem split_le (d : α) {l : List α} (h : Srt key l) (i : Nat) (hi : i ≤ l.length) (v : Int) (h1 : i = 0 ∨ key (l.getD (i - 1) d) ≤ v) (h2 : i = l.length ∨ v < key (l.getD i d)) :
    (∀ y ∈ l.take i, key y ≤ v) ∧ ∀ y ∈ l.drop i, v < key y := by
  obtain ⟨a, b⟩ := split_lt d h i hi (v + 1) (h1.imp id (fun h => by omega)) (h2.imp id (fun h => by omega))
  exact ⟨fun y hy => by have := a y hy; omega, fun y hy => by have := b y hy; omega⟩
theorem sym_split (d : α) {A B : List α} (hA : Srt key A) (hB : Srt key B) (s e : Nat) (hs : s ≤ A.length) (he : e ≤ B.length)
    (h1 : s = 0 ∨ e = B.length ∨ key (A.getD (s - 1) d) ≤ key (B.getD e d)) (h2 : s = A.length ∨ e = 0 ∨ key (B.getD (e - 1) d) < key (A.getD s d)) :
    (∀ x ∈ A.take s, ∀ y ∈ B.drop e, key x ≤ key y) ∧ ∀ u ∈ A.drop s, ∀ v ∈ B.take e, key v < key u := by
  constructor
  · intro x hx y hy
    rcases Nat.eq_zero_or_pos s with h0 | h0
    · subst h0; rw [List.take_zero] at hx; exact absurd hx (by simp)
    rcases h1 with h | h | h
    · omega
    · subst h; rw [List.drop_length] at hy; exact absurd hy (by simp)
    · have i1 := take_le d hA (k := s - 1) (by omega) (x := x) (by rw [show s - 1 + 1 = s by omega]; exact hx)
      have i2 := drop_ge d hB hy
      omega
  · intro u hu v hv
    rcases Nat.eq_zero_or_pos e with h0 | h0
    · subst h0; rw [List.take_zero] at hv; exact absurd hv (by simp)
    rcases h2 with h | h | h
    · subst h; rw [List.drop_length] at hu; exact absurd hu (by simp)
    · omega
    · have i1 := take_le d hB (k := e - 1) (by omega) (x := v) (by rw [show e - 1 + 1 = e by omega]; exact hv)
      have i2 := drop_ge d hA hu
      omega
end Go.Proofs.YtlhdbcjlmkglkaaGreat.StN

/- slices.swapRangeCmpFunc at quotes. -/
set_option linter.unusedSimpArgs false
set_option linter.unusedVariables false
namespace Go.Proofs.YtlhdbcjlmkglkaaGreat.Q
open Go Go.RowKit Go.Proofs Go.Proofs.YtlhdbcjlmkglkaaGreat.PL Go.Proofs.YtlhdbcjlmkglkaaGreat.StN Go.Proofs.YtlhdbcjlmkglkaaGreatW.PrintWords
theorem R_swap {W : World} {B g c : Nat} {ok : Nat → Prop} {zs : List S24} {n p q : Nat} (h : Kd.R k24 24 W B ok (.slice (some ⟨g, 0, none⟩) n c) zs) (hp : p < zs.length) (hq : q < zs.length) :
    Kd.R k24 24 ((W.setCells g (p * 8) (qL (rd_T24 zs (q : Int)))).setCells g (q * 8) (qL (rd_T24 zs (p : Int)))) B ok (.slice (some ⟨g, 0, none⟩) n c) (swpG z24 p q zs) ∧ W.grownBy ((W.setCells g (p * 8) (qL (rd_T24 zs (q : Int)))).setCells g (q * 8) (qL (rd_T24 zs (p : Int)))) (some g) := by
  have h1 := R_put h hp (rd_T24 zs (q : Int))
  have h2 := R_put h1.1 (k := q) (by rw [List.length_set]; exact hq) (rd_T24 zs (p : Int))
  exact ⟨h2.1, grown_trans h1.2 h2.2⟩
def swrL (a b : Nat) : Nat → Nat → List S24 → List S24
  | 0, _, zs => zs
  | m + 1, i, zs => swrL a b m (i + 1) (swpG z24 (a + i) (b + i) zs)
theorem swpG_len (i j : Nat) (zs : List S24) : (swpG z24 i j zs).length = zs.length := by unfold swpG; simp
theorem swrL_len (a b : Nat) : ∀ (m i : Nat) (zs : List S24), (swrL a b m i zs).length = zs.length
  | 0, _, _ => rfl
  | m + 1, i, zs => by rw [swrL, swrL_len a b m, swpG_len]
theorem w2n (a b : Nat) (h : a + b ≤ 8000000) : wrap64 ((a : Int) + (b : Int)) = ((a + b : Nat) : Int) := by rw [w64 _ (by omega)]; rfl
theorem w2k (a b : Nat) (h : a + b ≤ 8000000) : IntKind.i64.wrap ((a : Int) + (b : Int)) = ((a + b : Nat) : Int) := (IntWalk.i64_in _ (by omega)).trans (by omega)
set_option maxHeartbeats 400000 in
set_option maxRecDepth 1000000 in
theorem swr_any (V : Value) (B : Nat) (ok : Nat → Prop) (g c a b n : Nat) (xs : List S24) (w : World)
    (hR : Kd.R k24 24 w B ok (.slice (some ⟨g, 0, none⟩) xs.length c) xs) (hlen : xs.length ≤ 1000000) (hab : a + n ≤ b) (hb : b + n ≤ xs.length) :
    Calls Tryz.prog 137 #[.slice (some ⟨g, 0, none⟩) xs.length c, .int .i64 (a : Int), .int .i64 (b : Int), .int .i64 (n : Int), V] w fun e w' =>
      e = .returned (.tuple #[]) ∧ Kd.R k24 24 w' B ok (.slice (some ⟨g, 0, none⟩) xs.length c) (swrL a b n 0 xs) ∧ w.grownBy w' (some g) := by
  have hu24 := Tryz.underlying24
  have HR := Lib.hid hR
  have HL := Lib.hid (And.intro hlen (And.intro hab hb))
  obtain ⟨F, hF⟩ : ∃ F, swrL a b n 0 xs = F := ⟨_, rfl⟩
  rw [hF]
  have HF := Lib.hid hF
  clear hR hlen hab hb hF
  go_enter Tryz.func137, Tryz.ntmps137
  go_wp2_with (fail)
  go_loopg [10] (n + 1) (fun kq v10 w' => ∃ (i : Nat) (zs : List S24), v10 = .int .i64 (i : Int) ∧ Aside0 (i ≤ n ∧ n + 1 ≤ i + kq) ∧ Aside0 (zs.length = xs.length ∧ swrL a b (n - i) i zs = F) ∧ Aside0 (Kd.R k24 24 w' B ok (.slice (some ⟨g, 0, none⟩) xs.length c) zs) ∧ Aside0 (w.grownBy w' (some g)))
  case atStart =>
    exact ⟨0, xs, rfl, ⟨by omega⟩, ⟨rfl, HF.out⟩, ⟨HR.out⟩, ⟨grown_below (Below.refl _ _) _⟩⟩
  case round =>
    obtain ⟨i, zs, rfl, HI, HZ, HRZ, HGZ⟩ := hrel
    by_cases c4 : i < n
    · have c4a : decide ((i : Int) < (n : Int)) = true := decide_eq_true (by omega)
      have c4b : decide (i < n) = true := decide_eq_true c4
      obtain ⟨k0, rfl⟩ : ∃ k0, gk = k0 + 1 := ⟨gk - 1, by have := HI.out; omega⟩
      have hl1 := HL.out
      have hzl := HZ.out.1
      have g1 : i ≤ 2000000 := by omega
      have g2 : a + i ≤ 8000000 := by omega
      have g3 : b + i ≤ 8000000 := by omega
      have KI : i + 1 ≤ n ∧ n + 1 ≤ i + 1 + k0 := by have := HI.out; omega
      obtain ⟨p, hp⟩ : ∃ p, a + i = p := ⟨_, rfl⟩
      obtain ⟨q, hq⟩ : ∃ q, b + i = q := ⟨_, rfl⟩
      have hpl : p < zs.length := by omega
      have hql : q < zs.length := by omega
      have hne : p < q := by omega
      have pp : (0 ≤ (p : Int)) = True := eq_true (by omega)
      have ppl : ((p : Int) < (xs.length : Int)) = True := eq_true (by omega)
      have pq : (0 ≤ (q : Int)) = True := eq_true (by omega)
      have pql : ((q : Int) < (xs.length : Int)) = True := eq_true (by omega)
      have HTF := Lib.hid (show swrL a b (n - (i + 1)) (i + 1) (swpG z24 p q zs) = F by
        have := HZ.out.2
        rw [show n - i = (n - (i + 1)) + 1 by omega, swrL, hp, hq] at this
        exact this)
      obtain ⟨hx0, hx1, hx2, hx3, hx4, hx5, hx6, hx7⟩ := row_at (row_C HRZ.out hzl) hpl
      obtain ⟨hy0, hy1, hy2, hy3, hy4, hy5, hy6, hy7⟩ := row_at (row_C HRZ.out hzl) hql
      have hfr := fun j => R_frz HRZ.out j
      have HPX := Lib.hid (R_swap HRZ.out hpl hql)
      have n0 : ∀ (W : World) (v : Value), (W.setCell ⟨g, p * 8, none⟩ v).cell? ⟨g, q * 8, none⟩ = W.cell? ⟨g, q * 8, none⟩ := fun W v => away v (by have := hne; omega)
      have n1 : ∀ (W : World) (v : Value) (o : Nat), o < 8 → (W.setCell ⟨g, p * 8, none⟩ v).cell? ⟨g, q * 8 + o, none⟩ = W.cell? ⟨g, q * 8 + o, none⟩ := fun W v o h => away v (by have := hne; omega)
      have n2 : ∀ (W : World) (v : Value) (o : Nat), o < 8 → (W.setCell ⟨g, p * 8 + o, none⟩ v).cell? ⟨g, q * 8, none⟩ = W.cell? ⟨g, q * 8, none⟩ := fun W v o h => away v (by have := hne; omega)
      have n3 : ∀ (W : World) (v : Value) (o o' : Nat), o < 8 → o' < 8 → (W.setCell ⟨g, p * 8 + o, none⟩ v).cell? ⟨g, q * 8 + o', none⟩ = W.cell? ⟨g, q * 8 + o', none⟩ := fun W v o o' h h' => away v (by have := hne; omega)
      generalize hx : rd_T24 zs (p : Int) = x at *
      generalize hy : rd_T24 zs (q : Int) = y at *
      obtain ⟨x0, x1, x2, x3, x4, x5, x6, x7⟩ := x
      obtain ⟨y0, y1, y2, y3, y4, y5, y6, y7⟩ := y
      simp only at *
      have HZL := Lib.hid hzl
      have hwi := w1n i g1
      have hwp := w2n a i g2
      have hwpk := w2k a i g2
      have hwq := w2n b i g3
      have hwqk := w2k b i g3
      rw [hp] at hwp hwpk
      rw [hq] at hwq hwqk
      clear hp hq hzl hl1 hpl hql hne hx hy c4 g1 g2 g3
      go_wp2_with (fail)
      go_region
      all_goals (
        go_wp2_with (fail)
        go_roundg k0
        case measure => omega
        case rel => exact ⟨i + 1, _, congrArg (Value.int .i64) hwi, ⟨KI⟩, ⟨by rw [swpG_len]; exact HZL.out, HTF.out⟩, ⟨Kd.R_below HPX.out.1 (drew_below _)⟩, ⟨grown_trans HGZ.out (grown_trans HPX.out.2 (grown_below (drew_below _) _))⟩⟩)
    · have c4a : decide ((i : Int) < (n : Int)) = false := decide_eq_false (by omega)
      have c4b : decide (i < n) = false := decide_eq_false c4
      have hzs : zs = F := by
        have := HZ.out.2
        rw [show n - i = 0 by omega] at this
        exact this
      subst hzs
      clear c4
      go_wp2_with (fail)
      go_end0
      exact ⟨rfl, HRZ.out, HGZ.out⟩
end Go.Proofs.YtlhdbcjlmkglkaaGreat.Q
