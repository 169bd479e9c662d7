/- CustodyPlays holds: whatever acts come in (more than forty acts, or acts of more than forty lines or lots, are let go, as the statement says), every call answers just as the document's own, and all books are the same behind each; and the chapter's example holds. No condition on the inputs. -/
import Derived.Test.YtoknlpecbdlbfaaSCPlays33
import Derived.Test.YtoknlpecbdlbfaaSCPlays31
import Derived.Test.YtoknlpecbdlbfaaSCPlays30
import Derived.Deep.RegionWith
import Derived.Test.YtoknlpecbdlbfaaRows
import Derived.WalkKit
import Derived.ProofKit
import Derived.Deep.Slices
import Derived.Test.YtoknlpecbdlbfaaSCPlays32
import Derived.OpenShut
import Derived.ShutString
import Derived.ChangeOld
import Derived.Below
import Derived.SizedLaws

-- CustodyPlays, walked. (printed by genUE.py)
namespace Go.Proofs.Ytoknlpecbdlbfaa.PL
open Go Go.RowKit Go.Maps Go.Sort Go.Shelf Go.Proofs Go.Proofs.YtoknlpecbdlbfaaW.PrintWords Go.Proofs.YtoknlpecbdlbfaaW.PrintLast
/-- Is an act short? -/
def shB (x : S72) : Bool := decide (x.f6.length ≤ 40 ∧ x.f7.length ≤ 40)
theorem cshort_f (x : S72) : lombardlaw12_short.f x.f0 x.f1 x.f2 x.f3 x.f4 x.f5 x.f6 x.f7 = some (shB x) := by
  unfold lombardlaw12_short.f shB
  by_cases h : (x.f6.length : Int) ≤ 40
  · rw [if_pos h]
    congr 1
    rw [decide_eq_decide]
    omega
  · rw [if_neg h]
    congr 1
    symm
    rw [decide_eq_false_iff_not]
    omega
theorem DW.below {p g b lp : Nat} {M : List (S42 × Int)} {L : List S82} {A : Option Addr} {c : Nat} {W W' : World} (h : DW p g b lp M L A c W) (hb : Below W.heap.size W W') : DW p g b lp M L A c W' :=
  ⟨h.cu.below hb, h.iv, (hb.block _ (Array.getElem?_eq_some_iff.1 h.blk).1).trans h.blk, Kd.C_below h.hC hb, h.hc⟩
/-- An act's cells. -/
def L8 (ad : Addr) (k : Nat) (x : S72) (A6 : Option Addr) (c6 : Nat) (A7 : Option Addr) (c7 : Nat) (W : World) : Prop := W.cell? (ad.add (k * 8)) = some (.int .i64 x.f0) ∧ W.cell? ⟨(ad.add (k * 8)).block, (ad.add (k * 8)).off + 1, none⟩ = some (.int .i64 x.f1) ∧ W.cell? ⟨(ad.add (k * 8)).block, (ad.add (k * 8)).off + 2, none⟩ = some (.int .i64 x.f2) ∧ W.cell? ⟨(ad.add (k * 8)).block, (ad.add (k * 8)).off + 3, none⟩ = some (.int .i64 x.f3) ∧ W.cell? ⟨(ad.add (k * 8)).block, (ad.add (k * 8)).off + 4, none⟩ = some (.string x.f4) ∧ W.cell? ⟨(ad.add (k * 8)).block, (ad.add (k * 8)).off + 5, none⟩ = some (.int .i64 x.f5) ∧ W.cell? ⟨(ad.add (k * 8)).block, (ad.add (k * 8)).off + 6, none⟩ = some (.slice A6 x.f6.length c6) ∧ W.cell? ⟨(ad.add (k * 8)).block, (ad.add (k * 8)).off + 7, none⟩ = some (.slice A7 x.f7.length c7)
theorem L8.below {ad : Addr} {k : Nat} {x : S72} {A6 : Option Addr} {c6 : Nat} {A7 : Option Addr} {c7 : Nat} {W W' : World} (h : L8 ad k x A6 c6 A7 c7 W) (hb : Below W.heap.size W W') : L8 ad k x A6 c6 A7 c7 W' := by
  obtain ⟨h0, h1, h2, h3, h4, h5, h6, h7⟩ := h
  exact ⟨cell_keep hb h0, cell_keep hb h1, cell_keep hb h2, cell_keep hb h3, cell_keep hb h4, cell_keep hb h5, cell_keep hb h6, cell_keep hb h7⟩
/-- What stands at a round's head in the laws on acts. -/
structure RW (w : World) (p g b lp k : Nat) (L : List S82) (A : Option Addr) (c : Nat) (M : List (S42 × Int)) (W : World) : Prop where
  dw : DW p g b lp M L A c W
  bl : Below w.heap.size w W
  hb : w.heap.size ≤ b
  hl : w.heap.size ≤ lp
  len : L.length ≤ 82 * k
theorem RW.below {w : World} {p g b lp k : Nat} {L : List S82} {A : Option Addr} {c : Nat} {M : List (S42 × Int)} {W W' : World} (h : RW w p g b lp k L A c M W) (hb : Below W.heap.size W W') : RW w p g b lp k L A c M W' :=
  ⟨h.dw.below hb, h.bl.trans (hb.mono h.bl.size), h.hb, h.hl, h.len⟩
theorem RW.next {w : World} {p g b lp k : Nat} {L : List S82} {A : Option Addr} {c : Nat} {M : List (S42 × Int)} {W : World} (h : RW w p g b lp k L A c M W) : RW w p g b lp (k + 1) L A c M W :=
  ⟨h.dw, h.bl, h.hb, h.hl, by have := h.len; omega⟩
theorem RW.done {w : World} {p g b lp k : Nat} {L : List S82} {A : Option Addr} {c : Nat} {M : List (S42 × Int)} {W W' : World} (h : RW w p g b lp k L A c M W) (x : S72) (s6 : x.f6.length ≤ 40) (s7 : x.f7.length ≤ 40) (hd : DoneB p g b lp (actL L x).1 W W') : ∃ M' A' c', W'.cell? ⟨lp, 0, none⟩ = some (.slice A' (actL L x).1.length c') ∧ Hid (RW w p g b lp (k + 1) (actL L x).1 A' c' M' W') := by
  obtain ⟨M', A', c', W1, h1, h2, h3⟩ := hd.out
  have hlen := length_actL L x s6 s7
  have hl := h.len
  have b1 := h.bl.grown h2 h.bl.size (by simp; exact h.hb)
  have b2 := b1.grown h3 b1.size (by simp; exact h.hl)
  exact ⟨M', A', c', cell_of_one h1.blk, ⟨h1, b2, h.hb, h.hl, by omega⟩⟩
theorem RW.start {w w1 : World} {p g b : Nat} (h : CU w1 p g b []) (hb : Below w.heap.size w w1) (h1 : w.heap.size ≤ b) : RW w p g b w1.heap.size 0 [] none 0 [] (w1.alloc (.cells #[.slice none 0 0] 27)) := by
  have hb1 := (Below.refl w1.heap.size w1).alloc (Nat.le_refl _) (.cells #[.slice none 0 0] 27)
  exact ⟨⟨h.below hb1, Iv.nil, (Go.MapKept.heap_alloc w1 _).1, ⟨rfl, by simp, fun h => absurd h (by simp)⟩, Nat.le_refl _⟩, hb.trans (hb1.mono hb.size), h1, hb.size, Nat.zero_le _⟩
set_option maxRecDepth 100000 in
set_option maxHeartbeats 4000000 in
theorem plays_walk (A : Option Addr) (c : Nat) (P : List S72) (w : World) (hr : Kd.C k72 w A P.length P) (hl : P.length ≤ 9223372036854775807) :
    Calls Try.prog 8 #[.slice A P.length c] w fun e w' => e = .returned (.bool true) ∧ Below w.heap.size w w' := by
  have HP := Lib.hid (And.intro hr hl)
  clear hr hl
  go_enter Try.func8, Try.ntmps8
  go_wp2_with (go_at_call 34; refine (cnew_any _).mono ?_; rintro e w1 ⟨p, g, b, rfl, H1⟩)
  obtain ⟨W0, hW0⟩ : ∃ W0, w1.alloc (.cells #[.slice none 0 0] 27) = W0 := ⟨_, rfl⟩
  have hst := RW.start (w := w) H1.out.1 H1.out.2.1 H1.out.2.2.1
  obtain ⟨lp, hlp⟩ : ∃ lp, w1.heap.size = lp := ⟨_, rfl⟩
  rw [hW0, hlp] at hst
  rw [hW0, hlp]
  have HST := Lib.hid hst
  clear hst hW0 hlp
  go_loopg [5] (P.length + 1) (fun kq v5 w' => ∃ (k : Nat) (L : List S82) (A1 : Option Addr) (c1 : Nat) (M : List (S42 × Int)), v5 = .int .i64 k ∧ Hid (kq + k = P.length + 1 ∧ k ≤ P.length ∧ k ≤ 40 ∧ RW w p g b lp k L A1 c1 M w'))
  case atStart =>
    exact ⟨0, [], none, 0, [], rfl, ⟨rfl, Nat.zero_le _, Nat.zero_le _, HST.out⟩⟩
  case round =>
    obtain ⟨k, L, A1, c1, M, rfl, HI⟩ := hrel
    by_cases hk : k < P.length ∧ k < 40
    · obtain ⟨hk1, hk2⟩ := hk
      obtain ⟨ad, A6, c6, A7, c7, eA, x0, x1, x2, x3, x4, x5, x6, x7, hg⟩ := at_T72 HP.out.1 (k : Int) (by omega) (by omega)
      simp only [Int.toNat_natCast] at x0 x1 x2 x3 x4 x5 x6 x7
      obtain ⟨x, ha⟩ : ∃ a, rd_T72 P (k : Int) = a := ⟨_, rfl⟩
      rw [ha] at x0 x1 x2 x3 x4 x5 x6 x7 hg
      have HS0 := Lib.hid (show L8 ad k x A6 c6 A7 c7 w from ⟨x0, x1, x2, x3, x4, x5, x6, x7⟩)
      have HG := Lib.hid hg
      have hl64 : wrap64 ((k : Int) + 1) = ((k + 1 : Nat) : Int) := by
        have h3 := HP.out.2
        rw [wrap_id (by omega) (by omega)]; rfl
      have Hw := Lib.hid hl64
      have HK := Lib.hid (And.intro hk1 hk2)
      have p1 : (0 ≤ (k : Int)) = True := eq_true (by omega)
      have q1 : ((k : Int) < (P.length : Int)) = True := eq_true (by omega)
      have q2 : ((k : Int) < 40) = True := eq_true (by omega)
      have hr8 := HS0.out.below HI.out.2.2.2.bl
      clear x0 x1 x2 x3 x4 x5 x6 x7
      obtain ⟨x0, x1, x2, x3, x4, x5, x6, x7⟩ := hr8
      subst eA
      have HSH := Lib.hid (show ∀ W, Below w.heap.size w W → Calls Try.prog 35 #[.agg #[.int .i64 x.f0, .int .i64 x.f1, .int .i64 x.f2, .int .i64 x.f3, .string x.f4, .int .i64 x.f5, .slice A6 x.f6.length c6, .slice A7 x.f7.length c7]] W fun e w' => e = .returned (.bool (shB x)) ∧ Below W.heap.size W w' from fun W hb => lombardlaw12_short.calls x.f0 x.f1 x.f2 x.f3 x.f4 x.f5 A6 c6 x.f6 A7 c7 x.f7 (shB x) W (Kd.C_below HG.out.2.1 hb) HG.out.1 (Kd.C_below HG.out.2.2.2 hb) HG.out.2.2.1 (cshort_f x))
      clear ha hg hl64 hk1 hk2
      obtain ⟨z, hz⟩ : ∃ z, shB x = z := ⟨_, rfl⟩
      rw [hz] at HSH
      have HZ := Lib.hid hz
      clear hz
      have HR2 := Lib.hid (HI.out.2.2.2.below ((Below.refl wr.heap.size wr).drew))
      cases z with
      | false =>
        go_wp2_with (fail)
        refine wp_region_any (by kernel_rfl) ?_
        change wpAny _ _ _ _ _ _ _ (World.drew _)
        refine any_pure 0 17 rfl rfl (by kernel_rfl) (by kernel_rfl) (by kernel_rfl) (fun _ _ _ h => h) (by kernel_rfl) (v := ?_) ?_ ?_
        rotate_left
        · intro w; go_simp; with_reducible rfl
        simp only [Act.put, List.setIfInBounds_toArray, List.set_cons_zero, List.set_cons_succ]
        refine any_pure 1 18 rfl rfl (by kernel_rfl) (by kernel_rfl) (by kernel_rfl) (fun _ _ _ h => h) (by kernel_rfl) (v := ?_) ?_ ?_
        rotate_left
        · intro w; go_simp; with_reducible rfl
        simp only [Act.put, List.setIfInBounds_toArray, List.set_cons_zero, List.set_cons_succ]
        refine any_pure 2 19 rfl rfl (by kernel_rfl) (by kernel_rfl) (by kernel_rfl) (fun _ _ _ h => h) (by kernel_rfl) (v := ?_) ?_ ?_
        rotate_left
        · intro w; go_simp; with_reducible rfl
        simp only [Act.put, List.setIfInBounds_toArray, List.set_cons_zero, List.set_cons_succ]
        refine wpAny_ready (rs := [3]) (by kernel_rfl) (by simp) ?_
        refine AllReady.cons rfl (fun K hK => ?_) AllReady.nil
        go_simp
        refine hK _ _ ?_
        clear hK K
        refine wpAny_ready (rs := [4]) (by kernel_rfl) (by simp) ?_
        refine AllReady.cons rfl (fun K hK => ?_) AllReady.nil
        go_simp
        (go_at_call 35; refine (HSH.out _ HR2.out.bl).mono ?_; rintro e w3 ⟨rfl, H3⟩; replace H3 := Lib.hid H3)
        go_wp2_with (fail)
        refine any_pure 5 22 rfl rfl (by kernel_rfl) (by kernel_rfl) (by kernel_rfl) (fun _ _ _ h => h) (by kernel_rfl) (v := ?_) ?_ ?_
        rotate_left
        · intro w; go_simp; with_reducible rfl
        simp only [Act.put, List.setIfInBounds_toArray, List.set_cons_zero, List.set_cons_succ]
        refine any_skip 6 23 rfl rfl (by kernel_rfl) (by kernel_rfl) (by kernel_rfl) (fun _ _ _ h => h) (by kernel_rfl) ?_
        simp only [Act.put, List.setIfInBounds_toArray, List.set_cons_zero, List.set_cons_succ]
        refine any_skip 7 24 rfl rfl (by kernel_rfl) (by kernel_rfl) (by kernel_rfl) (fun _ _ _ h => h) (by kernel_rfl) ?_
        simp only [Act.put, List.setIfInBounds_toArray, List.set_cons_zero, List.set_cons_succ]
        refine any_skip 8 25 rfl rfl (by kernel_rfl) (by kernel_rfl) (by kernel_rfl) (fun _ _ _ h => h) (by kernel_rfl) ?_
        simp only [Act.put, List.setIfInBounds_toArray, List.set_cons_zero, List.set_cons_succ]
        refine any_skip 9 26 rfl rfl (by kernel_rfl) (by kernel_rfl) (by kernel_rfl) (fun _ _ _ h => h) (by kernel_rfl) ?_
        simp only [Act.put, List.setIfInBounds_toArray, List.set_cons_zero, List.set_cons_succ]
        refine any_skip 10 27 rfl rfl (by kernel_rfl) (by kernel_rfl) (by kernel_rfl) (fun _ _ _ h => h) (by kernel_rfl) ?_
        simp only [Act.put, List.setIfInBounds_toArray, List.set_cons_zero, List.set_cons_succ]
        refine any_skip 11 28 rfl rfl (by kernel_rfl) (by kernel_rfl) (by kernel_rfl) (fun _ _ _ h => h) (by kernel_rfl) ?_
        simp only [Act.put, List.setIfInBounds_toArray, List.set_cons_zero, List.set_cons_succ]
        refine any_skip 12 29 rfl rfl (by kernel_rfl) (by kernel_rfl) (by kernel_rfl) (fun _ _ _ h => h) (by kernel_rfl) ?_
        simp only [Act.put, List.setIfInBounds_toArray, List.set_cons_zero, List.set_cons_succ]
        refine any_pass 13 30 rfl rfl (by kernel_rfl) (by kernel_rfl) ?_
        simp only [Act.put, List.setIfInBounds_toArray, List.set_cons_zero, List.set_cons_succ]
        refine any_skip 14 31 rfl rfl (by kernel_rfl) (by kernel_rfl) (by kernel_rfl) (fun _ _ _ h => h) (by kernel_rfl) ?_
        simp only [Act.put, List.setIfInBounds_toArray, List.set_cons_zero, List.set_cons_succ]
        refine any_skip 15 32 rfl rfl (by kernel_rfl) (by kernel_rfl) (by kernel_rfl) (fun _ _ _ h => h) (by kernel_rfl) ?_
        simp only [Act.put, List.setIfInBounds_toArray, List.set_cons_zero, List.set_cons_succ]
        refine any_skip 16 33 rfl rfl (by kernel_rfl) (by kernel_rfl) (by kernel_rfl) (fun _ _ _ h => h) (by kernel_rfl) ?_
        simp only [Act.put, List.setIfInBounds_toArray, List.set_cons_zero, List.set_cons_succ]
        refine any_skip 17 34 rfl rfl (by kernel_rfl) (by kernel_rfl) (by kernel_rfl) (fun _ _ _ h => h) (by kernel_rfl) ?_
        simp only [Act.put, List.setIfInBounds_toArray, List.set_cons_zero, List.set_cons_succ]
        refine any_skip 18 35 rfl rfl (by kernel_rfl) (by kernel_rfl) (by kernel_rfl) (fun _ _ _ h => h) (by kernel_rfl) ?_
        simp only [Act.put, List.setIfInBounds_toArray, List.set_cons_zero, List.set_cons_succ]
        refine any_skip 19 36 rfl rfl (by kernel_rfl) (by kernel_rfl) (by kernel_rfl) (fun _ _ _ h => h) (by kernel_rfl) ?_
        simp only [Act.put, List.setIfInBounds_toArray, List.set_cons_zero, List.set_cons_succ]
        refine any_pure 20 37 rfl rfl (by kernel_rfl) (by kernel_rfl) (by kernel_rfl) (fun _ _ _ h => h) (by kernel_rfl) (v := ?_) ?_ ?_
        rotate_left
        · intro w; go_simp; with_reducible rfl
        simp only [Act.put, List.setIfInBounds_toArray, List.set_cons_zero, List.set_cons_succ]
        refine wpAny_done (by kernel_rfl) ?_ _
        all_goals
          go_wp2
          go_roundg (P.length - k)
          case measure => have := HI.out.1; have := HK.out; omega
          case rel =>
            exact ⟨k + 1, L, A1, c1, M, by rw [Hw.out], ⟨by have := HI.out.1; have := HK.out; omega, by have := HK.out; omega, by have := HK.out; omega, (HR2.out.below H3.out).next⟩⟩
      | true =>
        have HZ2 := Lib.hid (show x.f6.length ≤ 40 ∧ x.f7.length ≤ 40 from of_decide_eq_true HZ.out)
        have HL := Lib.hid (show L.length ≤ 100000 ∧ (actL L x).1.length ≤ 1000000 by have h1 := HI.out.2.2.2.len; have h2 := HK.out; have h3 := length_actL L x HZ2.out.1 HZ2.out.2; omega)
        go_wp2_with (fail)
        go_region_with (first
          | (go_at_call 21; refine (same_any A5 A4 c5 c4 (actL L x).1 _ H5.out.1 H5.out.2.2 (Kd.C_below H4.out.dw.hC H5.out.2.1) H4.out.dw.hc HL.out.2).mono ?_; rintro e w6 ⟨rfl, H6⟩; replace H6 := Lib.hid H6)
          | (go_at_call 37; refine (ctold_gives H4.out.dw.cu H4.out.dw.iv.st.rep HL.out.2).mono ?_; rintro e w5 ⟨A5, c5, rfl, H5⟩; have y5 := cell_keep H5.out.2.1 y4)
          | (go_at_call 36; refine (does_any (HR2.out.below H3.out).dw HL.out.1 x A6 c6 A7 c7 HG.out.1 (Kd.C_below HG.out.2.1 (HR2.out.below H3.out).bl) (Kd.C_below HG.out.2.2.2 (HR2.out.below H3.out).bl) HZ2.out.1 HZ2.out.2).mono ?_; rintro e w4 ⟨rfl, H4⟩; obtain ⟨M4, A4, c4, y4, H4⟩ := RW.done (HR2.out.below H3.out) x HZ2.out.1 HZ2.out.2 H4)
          | (go_at_call 35; refine (HSH.out _ HR2.out.bl).mono ?_; rintro e w3 ⟨rfl, H3⟩; replace H3 := Lib.hid H3; obtain ⟨j0, j1, j2, j3, j4, j5, j6, j7⟩ := HS0.out.below (HR2.out.below H3.out).bl))
        all_goals
          go_wp2
          go_roundg (P.length - k)
          case measure => have := HI.out.1; have := HK.out; omega
          case rel =>
            exact ⟨k + 1, _, A4, c4, M4, by rw [Hw.out], ⟨by have := HI.out.1; have := HK.out; omega, by have := HK.out; omega, by have := HK.out; omega, (H4.out.below H5.out.2.1).below H6.out⟩⟩
    · by_cases hk1 : k < P.length
      · have q1 : ((k : Int) < (P.length : Int)) = True := eq_true (by omega)
        have q2 : ((k : Int) < 40) = False := eq_false (by omega)
        clear hk hk1
        go_wp2_with (go_at_call 38; refine (cawake_walk _).mono ?_; rintro e w2 ⟨rfl, H2⟩; replace H2 := Lib.hid H2)
        go_ret
        exact ⟨rfl, HI.out.2.2.2.bl.trans (H2.out.mono HI.out.2.2.2.bl.size)⟩
      · have q1 : ((k : Int) < (P.length : Int)) = False := eq_false (by omega)
        clear hk hk1
        go_wp2_with (go_at_call 38; refine (cawake_walk _).mono ?_; rintro e w2 ⟨rfl, H2⟩; replace H2 := Lib.hid H2)
        go_ret
        exact ⟨rfl, HI.out.2.2.2.bl.trans (H2.out.mono HI.out.2.2.2.bl.size)⟩
theorem C_len {α : Type} {d : Kd α} {w : World} {A : Option Addr} {n : Nat} {l : List α} (h : Kd.C d w A n l) : n ≤ 9223372036854775807 := by
  have := h.2.1
  unfold maxLen at this
  exact this
theorem plays_row (A : Option Addr) (c : Nat) (P : List S72) (w : World) (hr : Kd.C k72 w A P.length P) (_ : P.length ≤ c) :
    Calls Try.prog 8 #[.slice A P.length c] w fun e w' => e = .returned (.bool true) ∧ Below w.heap.size w w' := plays_walk A c P w hr (C_len hr)
end Go.Proofs.Ytoknlpecbdlbfaa.PL

-- CustodyNobody, walked (lists of at most two million).
namespace Go.Proofs.Ytoknlpecbdlbfaa.PL
open Go Go.RowKit Go.Maps Go.Sort Go.Shelf Go.Proofs Go.Proofs.YtoknlpecbdlbfaaW.PrintWords Go.Proofs.YtoknlpecbdlbfaaW.PrintLast
theorem A8.cells {W : World} {k : Nat} {v0 v1 v2 v3 v4 v5 v6 v7 : Value} (h : A8 W k #[v0, v1, v2, v3, v4, v5, v6, v7]) : W.cell? ⟨k, 1, none⟩ = some v1 ∧ W.cell? ⟨k, 2, none⟩ = some v2 ∧ W.cell? ⟨k, 3, none⟩ = some v3 ∧ W.cell? ⟨k, 4, none⟩ = some v4 ∧ W.cell? ⟨k, 5, none⟩ = some v5 ∧ W.cell? ⟨k, 6, none⟩ = some v6 ∧ W.cell? ⟨k, 7, none⟩ = some v7 := by
  have hb := h.blk
  refine ⟨?_, ?_, ?_, ?_, ?_, ?_, ?_⟩ <;> (unfold World.cell?; rw [hb]; rfl)
end Go.Proofs.Ytoknlpecbdlbfaa.PL

-- An act that comes in, and how long its lists are.
namespace Go.Proofs.Ytoknlpecbdlbfaa.PL
open Go Go.RowKit Go.ChangeShapes Go.WideShapes Go.Deep Go.Proofs Go.Proofs.YtoknlpecbdlbfaaW.PrintWords Go.Proofs.YtoknlpecbdlbfaaW.PrintLast
theorem one_le {H : Type} (d : DataW H) : 1 ≤ Rows.uptoBulk d := by
  cases d with
  | lit l => cases l <;> simp [Rows.uptoBulk]
  | nil => simp [Rows.uptoBulk]
  | ptr d => simp [Rows.uptoBulk]
  | slice elems spare => simp [Rows.uptoBulk]
  | agg parts => simp [Rows.uptoBulk]
  | iface t d => simp [Rows.uptoBulk]
  | map entries => simp [Rows.uptoBulk]
  | held h => simp [Rows.uptoBulk]
theorem length_le {H : Type} (l : List (DataW H)) : l.length ≤ Rows.uptoBulkAll l := by
  induction l with
  | nil => simp [Rows.uptoBulkAll]
  | cons x r ih => have := one_le x; simp only [Rows.uptoBulkAll, List.length_cons]; omega
theorem slice_le {H : Type} (elems spare : List (DataW H)) : elems.length ≤ Rows.uptoBulk (.slice elems spare) := by
  have h1 := length_le elems
  simp only [Rows.uptoBulk]
  omega
/-- Whatever cells are read at the type t are those of some x of the kind d, no longer than the datum's bulk. -/
def OpensB {α : Type} (d : Kd α) (t : TypeId) (β : α → Nat) : Prop :=
  ∀ {H : Type} (enc : TypeId × Value → H) (w : World) (base : Nat) (spare : Nat → Bool) (held : Bool) (n : Nat) (cs : List Value) (y : DataW H × List MemPlace), DataW.trod enc Try.prog w base spare held n t cs = some y → ∃ x : α, d.K w x cs ∧ β x ≤ Rows.uptoBulk y.1
theorem opensB_slice {α : Type} {d : Kd α} {t e : TypeId} (ht : Try.prog.underlying t = some (.slice e)) (hc : Try.prog.cellsOf e = d.sz) (h : OpensB d e (fun _ => 0)) : OpensB (Kd.slice e d) t List.length := by
  intro H enc w base spare held n cs y hy
  rcases open_slice ht hy with ⟨rfl, _⟩ | ⟨a, len, cap, m, n', D, Pl, rfl, hb, hl, hm, hmm, rfl, hi⟩
  · exact ⟨[], ⟨none, 0, rfl, Nat.le_refl _, rfl, by simp, fun h => absurd h (by simp)⟩, by simp⟩
  · have hlm : len ≤ m := by rw [hmm]; split <;> omega
    have hx : ∀ i : Fin len, ∃ x cs', w.cells? base (a.add (i.1 * Try.prog.cellsOf e)) (Try.prog.cellsOf e) = some cs' ∧ d.K w x cs' := by
      intro i
      obtain ⟨cs', h1, h2⟩ := hi i.1 (by have := i.2; omega)
      obtain ⟨x, h3, _⟩ := h enc w base spare held _ _ _ h2
      exact ⟨x, cs', h1, h3⟩
    obtain ⟨f, hf⟩ := Classical.axiomOfChoice hx
    refine ⟨List.ofFn f, ⟨some a, cap, by simp, by simpa using hl, by simp, by simp; unfold maxLen at hm; omega, fun _ => ⟨a, rfl, fun j p hj => ?_⟩⟩, ?_⟩
    · have hjl : j < len := by
        have := (List.getElem?_eq_some_iff.1 hj).1
        simpa using this
      obtain ⟨cs', h1, h2⟩ := hf ⟨j, hjl⟩
      have hp : p = f ⟨j, hjl⟩ := by
        have := (List.getElem?_eq_some_iff.1 hj).2
        simpa using this.symm
      subst hp
      obtain ⟨_, hcl, hat⟩ := World.cells?_some h1
      refine ⟨cs', by rw [hcl, hc], h2, fun i u hu => ?_⟩
      have hil : i < cs'.length := (List.getElem?_eq_some_iff.1 hu).1
      have h3 := hat i (by omega)
      rw [hu] at h3
      rw [← hc, ← Go.Deep.add_add]
      exact h3
    · have h9 := slice_le ((List.range len).map D) ((List.range (m - len)).map fun j => D (len + j))
      rw [List.length_map, List.length_range] at h9
      rw [List.length_ofFn]
      exact h9
theorem cells79' : Try.prog.cellsOf 79 = 2 := by kernel_rfl
theorem cells131' : Try.prog.cellsOf 131 = 6 := by kernel_rfl
theorem cells72' : Try.prog.cellsOf 72 = 8 := by kernel_rfl
theorem cells69' : Try.prog.cellsOf 69 = 1 := by kernel_rfl
theorem cells70' : Try.prog.cellsOf 70 = 1 := by kernel_rfl
theorem at_part {H : Type} {xs : List (DataW H × List MemPlace)} {k j : Nat} (h : xs.length = k) (hj : j < k) : ∃ y0, xs[j]? = some y0 := ⟨xs[j]'(by omega), List.getElem?_eq_getElem _⟩
theorem opens79 : OpensB k79 79 (fun _ => 0) := by
  intro H enc w base spare held n cs y hy
  obtain ⟨xs, n', _, rfl, hlen, hxl, hf⟩ := DataW.trod_struct Try.underlying79 hy
  obtain ⟨y0, e0⟩ := at_part (j := 0) hxl (by simp)
  obtain ⟨y1, e1⟩ := at_part (j := 1) hxl (by simp)
  obtain ⟨a0, h0, _⟩ := DataW.trod_string Try.underlying9 ((hf 0 _ rfl).trans e0)
  obtain ⟨a1, h1, _⟩ := DataW.trod_int Try.underlying3 ((hf 1 _ rfl).trans e1)
  rw [cells79'] at hlen
  replace h0 : (cs.drop 0).take (Try.prog.cellsOf 9) = _ := h0
  replace h1 : (cs.drop 1).take (Try.prog.cellsOf 3) = _ := h1
  rw [cells9'] at h0
  rw [cells3'] at h1
  refine ⟨⟨a0, a1⟩, ?_, Nat.zero_le _⟩
  have : cs = [.string a0, .int .i64 a1] := by
    clear hf hy hxl e0 e1
    match cs, hlen with
    | [c0, c1], _ =>
      simp at h0 h1
      simp [h0, h1]
  rw [this]
  exact k79_mk w ⟨a0, a1⟩
theorem opens131 : OpensB k131 131 (fun _ => 0) := by
  intro H enc w base spare held n cs y hy
  obtain ⟨xs, n', _, rfl, hlen, hxl, hf⟩ := DataW.trod_struct Try.underlying131 hy
  obtain ⟨y0, e0⟩ := at_part (j := 0) hxl (by simp)
  obtain ⟨y1, e1⟩ := at_part (j := 1) hxl (by simp)
  obtain ⟨y2, e2⟩ := at_part (j := 2) hxl (by simp)
  obtain ⟨y3, e3⟩ := at_part (j := 3) hxl (by simp)
  obtain ⟨y4, e4⟩ := at_part (j := 4) hxl (by simp)
  obtain ⟨y5, e5⟩ := at_part (j := 5) hxl (by simp)
  obtain ⟨a0, h0, _⟩ := DataW.trod_int Try.underlying3 ((hf 0 _ rfl).trans e0)
  obtain ⟨a1, h1, _⟩ := DataW.trod_int Try.underlying3 ((hf 1 _ rfl).trans e1)
  obtain ⟨a2, h2, _⟩ := DataW.trod_int Try.underlying3 ((hf 2 _ rfl).trans e2)
  obtain ⟨a3, h3, _⟩ := DataW.trod_int Try.underlying3 ((hf 3 _ rfl).trans e3)
  obtain ⟨a4, h4, _⟩ := DataW.trod_string Try.underlying9 ((hf 4 _ rfl).trans e4)
  obtain ⟨a5, h5, _⟩ := DataW.trod_int Try.underlying3 ((hf 5 _ rfl).trans e5)
  rw [cells131'] at hlen
  replace h0 : (cs.drop 0).take (Try.prog.cellsOf 3) = _ := h0
  replace h1 : (cs.drop 1).take (Try.prog.cellsOf 3) = _ := h1
  replace h2 : (cs.drop 2).take (Try.prog.cellsOf 3) = _ := h2
  replace h3 : (cs.drop 3).take (Try.prog.cellsOf 3) = _ := h3
  replace h4 : (cs.drop 4).take (Try.prog.cellsOf 9) = _ := h4
  replace h5 : (cs.drop 5).take (Try.prog.cellsOf 3) = _ := h5
  rw [cells3'] at h0 h1 h2 h3 h5
  rw [cells9'] at h4
  refine ⟨⟨a0, a1, a2, a3, a4, a5⟩, ?_, Nat.zero_le _⟩
  have : cs = [.int .i64 a0, .int .i64 a1, .int .i64 a2, .int .i64 a3, .string a4, .int .i64 a5] := by
    clear hf hy hxl e0 e1 e2 e3 e4 e5
    match cs, hlen with
    | [c0, c1, c2, c3, c4, c5], _ =>
      simp at h0 h1 h2 h3 h4 h5
      simp [h0, h1, h2, h3, h4, h5]
  rw [this]
  exact k131_mk w ⟨a0, a1, a2, a3, a4, a5⟩
theorem opens69 : OpensB (Kd.slice 131 k131) 69 List.length := opensB_slice Try.underlying69 cells131' opens131
theorem opens70 : OpensB (Kd.slice 79 k79) 70 List.length := opensB_slice Try.underlying70 cells79' opens79
end Go.Proofs.Ytoknlpecbdlbfaa.PL

/- Acts that come in. -/
namespace Go.Proofs.Ytoknlpecbdlbfaa.PL
open Go Go.RowKit Go.ChangeShapes Go.WideShapes Go.Deep Go.Proofs Go.Proofs.YtoknlpecbdlbfaaW.PrintWords Go.Proofs.YtoknlpecbdlbfaaW.PrintLast
set_option maxRecDepth 100000 in
theorem opens72 : OpensB k72 72 (fun _ => 0) := by
  intro H enc w base spare held n cs y hy
  obtain ⟨xs, n', _, rfl, hlen, hxl, hf⟩ := DataW.trod_struct Try.underlying72 hy
  obtain ⟨y0, e0⟩ := at_part (j := 0) hxl (by simp)
  obtain ⟨y1, e1⟩ := at_part (j := 1) hxl (by simp)
  obtain ⟨y2, e2⟩ := at_part (j := 2) hxl (by simp)
  obtain ⟨y3, e3⟩ := at_part (j := 3) hxl (by simp)
  obtain ⟨y4, e4⟩ := at_part (j := 4) hxl (by simp)
  obtain ⟨y5, e5⟩ := at_part (j := 5) hxl (by simp)
  obtain ⟨y6, e6⟩ := at_part (j := 6) hxl (by simp)
  obtain ⟨y7, e7⟩ := at_part (j := 7) hxl (by simp)
  obtain ⟨a0, h0, _⟩ := DataW.trod_int Try.underlying3 ((hf 0 _ rfl).trans e0)
  obtain ⟨a1, h1, _⟩ := DataW.trod_int Try.underlying3 ((hf 1 _ rfl).trans e1)
  obtain ⟨a2, h2, _⟩ := DataW.trod_int Try.underlying3 ((hf 2 _ rfl).trans e2)
  obtain ⟨a3, h3, _⟩ := DataW.trod_int Try.underlying3 ((hf 3 _ rfl).trans e3)
  obtain ⟨a4, h4, _⟩ := DataW.trod_string Try.underlying9 ((hf 4 _ rfl).trans e4)
  obtain ⟨a5, h5, _⟩ := DataW.trod_int Try.underlying3 ((hf 5 _ rfl).trans e5)
  obtain ⟨X, ⟨A, c, h6, l6, C6⟩, _⟩ := opens69 _ _ _ _ _ _ _ _ ((hf 6 _ rfl).trans e6)
  obtain ⟨T, ⟨B, d, h7, l7, C7⟩, _⟩ := opens70 _ _ _ _ _ _ _ _ ((hf 7 _ rfl).trans e7)
  rw [cells72'] at hlen
  replace h0 : (cs.drop 0).take (Try.prog.cellsOf 3) = _ := h0
  replace h1 : (cs.drop 1).take (Try.prog.cellsOf 3) = _ := h1
  replace h2 : (cs.drop 2).take (Try.prog.cellsOf 3) = _ := h2
  replace h3 : (cs.drop 3).take (Try.prog.cellsOf 3) = _ := h3
  replace h4 : (cs.drop 4).take (Try.prog.cellsOf 9) = _ := h4
  replace h5 : (cs.drop 5).take (Try.prog.cellsOf 3) = _ := h5
  replace h6 : (cs.drop 6).take (Try.prog.cellsOf 69) = _ := h6
  replace h7 : (cs.drop 7).take (Try.prog.cellsOf 70) = _ := h7
  rw [cells3'] at h0 h1 h2 h3 h5
  rw [cells9'] at h4
  rw [cells69'] at h6
  rw [cells70'] at h7
  refine ⟨⟨a0, a1, a2, a3, a4, a5, X, T⟩, ?_, Nat.zero_le _⟩
  have : cs = [.int .i64 a0, .int .i64 a1, .int .i64 a2, .int .i64 a3, .string a4, .int .i64 a5, .slice A X.length c, .slice B T.length d] := by
    clear hf hxl e0 e1 e2 e3 e4 e5 e6 e7 C6 C7 hy l6 l7
    match cs, hlen with
    | [v0, v1, v2, v3, v4, v5, v6, v7], _ =>
      simp at h0 h1 h2 h3 h4 h5 h6 h7
      simp [h0, h1, h2, h3, h4, h5, h6, h7]
  rw [this]
  exact k72_mk (w := w) ⟨a0, a1, a2, a3, a4, a5, X, T⟩ l6 C6 l7 C7
theorem opens65 : OpensB (Kd.slice 72 k72) 65 List.length := opensB_slice Try.underlying65 cells72' opens72
/-- A slice that comes in, as a row. -/
theorem openedB {α : Type} {d : Kd α} {t e : TypeId} (h : OpensB (Kd.slice e d) t List.length) {H : Type} {enc : TypeId × Value → H} {w : World} {base : Nat} {spare : Nat → Bool} {held : Bool} {a : Option Addr} {len cap : Nat} {y : DataW H} {p : List MemPlace}
    (hy : DataW.Trod enc Try.prog w base spare held t (.slice a len cap) y p) : ∃ xs : List α, len = xs.length ∧ xs.length ≤ cap ∧ Kd.C d w a xs.length xs := by
  obtain ⟨fuel, hf⟩ := hy
  obtain ⟨x, ⟨A, c, he, hl, hC⟩, _⟩ := h enc w base spare held fuel _ _ hf
  simp [Value.cells] at he
  obtain ⟨rfl, rfl, rfl⟩ := he
  exact ⟨x, rfl, hl, hC⟩
end Go.Proofs.Ytoknlpecbdlbfaa.PL

namespace Go.Proofs.Ytoknlpecbdlbfaa.custodyPlays
open Go Go.RowKit Go.ChangeShapes Go.WideShapes Go.ChangeAt Go.Proofs
open Go.ChangeMaps (open_string shut_string)
set_option linter.unusedVariables false
theorem own : ownKnob Try.prog.godebug = none := by kernel_rfl
set_option maxRecDepth 100000 in
theorem lifted (os : Os) (started : os.Started) (H : Type) (enc : TypeId × Value → H) :
    ReturnsInHanded {} Try.checked os 8 .any (Rows.custodyPlaysSpec.pre6 enc Try.prog Try.f8 Rows.custodyPlaysRow.domain false) (Rows.custodyPlaysSpec.post enc Try.prog Try.f8 false true false false) := by
  refine returnsInHanded_of_change_sized (C := Try.checked) own started (by kernel_rfl) Try.func8
    (ChangeSpec.witness6 (enc := enc) (C := Try.checked) false ⟨#[], #[.slice none 0 0], []⟩ 8 (by kernel_rfl) (by kernel_rfl) (by kernel_rfl) (by kernel_rfl)) ?_
  intro W base args ds gs before hval0 hW hcnd hsz0 _
  have hsz : (DataW.weightsEach Try.prog (Try.f8.params.toList ++ Rows.custodyPlaysSpec.plain.varTypes Try.prog) (ds ++ gs)).all (· ≤ reachBytes) = true := hsz0
  have hval : ∀ (j : Nat) t v, Try.f8.params[j]? = some t → args[j]? = some v → Value.okWide Try.prog W .any base t v := hval0
  have hW' := hW
  obtain ⟨p, q, hA0, hV, rfl, hfz, hnd⟩ := hW
  have hA : DataW.TrodAll enc Try.prog W 0 (fun _ => true) true Try.f8.params.toList args.toList ds p := hA0
  rw [Try.params8] at hA hval hsz
  obtain ⟨v0, vs0, d0, ds0, p0, q0, hargs, rfl, rfl, h0, r0⟩ := trodAll_cons hA
  obtain ⟨rfl, rfl, rfl⟩ := trodAll_nil r0
  obtain rfl : args = #[v0] := by cases args; simp_all
  obtain ⟨rfl, rfl⟩ := trodVars_none hV
  have k0 := h0
  have lt0 : ∀ x ∈ p0, x.block < W.heap.size := by obtain ⟨m, hm⟩ := k0; exact DataW.trod_lt m _ _ _ hm
  have sm0 : PL.Small 65 d0 := PL.small_arg hsz (j := 0) rfl rfl
  obtain ⟨a0, len0, cap0, rfl⟩ := okWide_slice Try.underlying65 (hval 0 65 v0 rfl rfl)
  obtain ⟨x0, rfl, hc0, hC0⟩ := PL.openedB PL.opens65 h0
  clear hA0 hval0 hsz0 hsz
  refine (PL.plays_row a0 cap0 x0 W hC0 hc0).mono fun e W' ⟨he, bel⟩ => ?_
  subst he
  exact ⟨_, rfl, _, _, _, [], _, [], hW', trodAll_mk1 (shut_bool Try.underlying4 _), (trodAll_cons_mk (Below.trod PL.laidOut (by kernel_rfl) (of_decide_eq_true (by kernel_rfl)) k0 bel lt0) trodAll_mk0), rfl, bel.frame _, fun h => by cases h⟩
theorem over : Rows.custodyPlaysRow.holds Try.pinned (OpenSpec.ofChange Rows.custodyPlaysSpec) :=
  OpenClaim.holds_of_wide 8 Try.f8 rfl rfl rfl rfl rfl rfl rfl ⟨rfl, rfl, rfl, rfl, rfl⟩ rfl rfl rfl rfl rfl (by kernel_rfl) Try.func8 (by kernel_rfl)
    (of_decide_eq_true (by kernel_rfl)) (by unfold Func.isWrapper; first | (rw [if_pos (by decide +kernel)]; kernel_rfl) | (rw [if_neg (by decide +kernel)]; exact ⟨rfl, rfl⟩))
    (fun os started H enc _ => lifted os started H enc)
theorem proved : Rows.CustodyPlaysSaid := over
end Go.Proofs.Ytoknlpecbdlbfaa.custodyPlays
namespace Go.Proofs.Ytoknlpecbdlbfaa
/-- The row, under a short name, for the claim. -/
theorem custodyPlays_holds : Rows.CustodyPlaysSaid := custodyPlays.proved
end Go.Proofs.Ytoknlpecbdlbfaa
