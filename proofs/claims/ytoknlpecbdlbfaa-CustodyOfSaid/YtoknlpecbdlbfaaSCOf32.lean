/- Part 32 of the proof's texts: what the theorem needs of them. -/
import Derived.Test.YtoknlpecbdlbfaaSCOf31
import Derived.Test.YtoknlpecbdlbfaaSCOf21

-- Custody: Move, walked.
namespace Go.Proofs.Ytoknlpecbdlbfaa.PL
open Go Go.RowKit Go.Maps Go.Sort Go.Shelf Go.Proofs Go.Proofs.YtoknlpecbdlbfaaW.PrintWords Go.Proofs.YtoknlpecbdlbfaaW.PrintLast
/-- What a line posts. -/
def lnE (x : S125) : S107 := ⟨⟨x.f0, x.f1, x.f4⟩, ⟨x.f2, x.f3, x.f4⟩, x.f5⟩
/-- The first line with no such member or book. -/
def fbL : Nat → List S125 → Option Nat
  | _, [] => none
  | i, x :: r => if wrB x.f0 x.f1 = true ∨ wrB x.f2 x.f3 = true then some i else fbL (i + 1) r
/-- Move. -/
def cmL (M : List (S42 × Int)) (X : List S125) : List (S42 × Int) × Int × Int := match fbL 0 X with
  | some i => (M, i, 22)
  | none => postL [] M (X.map lnE)
theorem cmL_bad {M : List (S42 × Int)} {X : List S125} {i : Nat} (h : fbL 0 X = some i) : cmL M X = (M, (i : Int), 22) := by
  unfold cmL
  rw [h]
theorem cmL_ok {M : List (S42 × Int)} {X : List S125} (h : fbL 0 X = none) : cmL M X = postL [] M (X.map lnE) := by
  unfold cmL
  rw [h]
theorem below_grown {w w' : World} {b : Nat} (hb : Below w.heap.size w w') : w.grownBy w' (some b) := ⟨hb.os, hb.tape, hb.output, hb.size, fun k hk _ => hb.block k hk⟩
set_option maxRecDepth 100000 in
set_option maxHeartbeats 4000000 in
theorem cmove_any {w : World} {p g b : Nat} {M : List (S42 × Int)} (h : CU w p g b M) (hB : BM M) (hm : M.length ≤ 1000000000) (A : Option Addr) (c : Nat) (X : List S125) (hr : Kd.C k125 w A X.length X) (hX : X.length ≤ 4000) :
    Calls Try.prog 43 #[.pointer (some ⟨p, 0, none⟩), .slice A X.length c] w fun e w' => e = .returned (.tuple #[.int .i64 (cmL M X).2.1, .int .i64 (cmL M X).2.2]) ∧ Hid (CU w' p g b (cmL M X).1 ∧ w.grownBy w' (some b)) := by
  obtain ⟨i0, hi, hz0, hz1, hz2⟩ := info_parts info107
  have hb2 : i0.bytes * X.length ≤ 281474976710656 := by rw [hz2]; omega
  have hb3 : X.length ≤ maxLen := by unfold maxLen; omega
  have HU := Lib.hid (And.intro h (And.intro hB (And.intro hm (And.intro hr hX))))
  have hc := h.cell
  clear h hB hm hr hX
  go_enter Try.func43, Try.ntmps43
  go_wp2_with (first
    | (go_at_call 74; refine (cmade_any HU.out.1).mono ?_; rintro e w1 ⟨rfl, rfl⟩)
    | (at_make; refine wpList_make_own _ rfl _ _ 34 rfl w.heap.size 107 i0 (.agg #[(.int .i64 0), (.int .i64 0), (.string ⟨#[]⟩), (.int .i64 0), (.int .i64 0), (.string ⟨#[]⟩), (.int .i64 0)]) 7 Try.underlying34 hi hz0 hz1 .i64 .i64 (X.length : Int) X.length rfl rfl rfl hb2 hb3 (Nat.le_refl _) ?_; intro w2 ho2 hg2; have HM2 := Lib.hid (And.intro ho2 hg2); clear ho2 hg2)
    | go_in)
  clear hc hb2 hb3 hi hz0 hz1 hz2
  go_loopg [6, 7, 8, 17] (X.length + 1) (fun kq v6 v7 v8 v17 w' => ∃ k : Nat, v17 = .int .i64 k ∧ Hid (kq + k = X.length + 1 ∧ k ≤ X.length ∧ Kd.R k107 107 w' w.heap.size (fun _ => True) v6 ((X.take k).map lnE) ∧ Below w.heap.size w w' ∧ fbL 0 X = fbL k (X.drop k)))
  case atStart =>
    refine ⟨0, rfl, ⟨rfl, Nat.zero_le _, ?_, grown_to HM2.out.2, rfl⟩⟩
    exact ⟨fun _ _ => trivial, [], HM2.out.1, Reps.none _ _⟩
  case round =>
    obtain ⟨k, rfl, HI⟩ := hrel
    by_cases hk : k < X.length
    · obtain ⟨ad, eA, x0, x1, x2, x3, x4, x5⟩ := at_T125 (Kd.C_below HU.out.2.2.2.1 HI.out.2.2.2.1) (k : Int) (by omega) (by omega)
      simp only [Int.toNat_natCast] at x0 x1 x2 x3 x4 x5
      have e1 : rd_T125 X (k : Int) = X[k] := by
        unfold rd_T125
        simp [List.getD, hk]
      have htk : (X.take (k + 1)).map lnE = (X.take k).map lnE ++ [lnE X[k]] := by rw [List.take_succ_eq_append_getElem hk, List.map_append]; rfl
      have hfb : fbL k (X.drop k) = if wrB X[k].f0 X[k].f1 = true ∨ wrB X[k].f2 X[k].f3 = true then some k else fbL (k + 1) (X.drop (k + 1)) := by rw [List.drop_eq_getElem_cons hk]; rfl
      rw [e1] at x0 x1 x2 x3 x4 x5
      obtain ⟨⟨a0, a1, a2, a3, a4, a5⟩, ha⟩ : ∃ a, X[k] = a := ⟨_, rfl⟩
      rw [ha] at x0 x1 x2 x3 x4 x5 htk hfb
      simp only at x0 x1 x2 x3 x4 x5 hfb
      have hl64 : wrap64 ((k : Int) + 1) = ((k + 1 : Nat) : Int) := by
        have h3 := HU.out.2.2.2.2
        rw [wrap_id (by omega) (by omega)]; rfl
      have hlen : ((X.take k).map lnE).length ≤ 4000 := by
        have := HU.out.2.2.2.2
        rw [List.length_map, List.length_take]
        omega
      have k0 : (wr.alloc (.cells #[.int .i64 a0, .int .i64 a1, .int .i64 a2, .int .i64 a3, .string a4, .int .i64 a5] 125)).cell? ⟨wr.heap.size, 0, none⟩ = some (.int .i64 a0) := by simp
      have k1 : (wr.alloc (.cells #[.int .i64 a0, .int .i64 a1, .int .i64 a2, .int .i64 a3, .string a4, .int .i64 a5] 125)).cell? ⟨wr.heap.size, 1, none⟩ = some (.int .i64 a1) := by simp
      have k2 : (wr.alloc (.cells #[.int .i64 a0, .int .i64 a1, .int .i64 a2, .int .i64 a3, .string a4, .int .i64 a5] 125)).cell? ⟨wr.heap.size, 2, none⟩ = some (.int .i64 a2) := by simp
      have k3 : (wr.alloc (.cells #[.int .i64 a0, .int .i64 a1, .int .i64 a2, .int .i64 a3, .string a4, .int .i64 a5] 125)).cell? ⟨wr.heap.size, 3, none⟩ = some (.int .i64 a3) := by simp
      have k4 : (wr.alloc (.cells #[.int .i64 a0, .int .i64 a1, .int .i64 a2, .int .i64 a3, .string a4, .int .i64 a5] 125)).cell? ⟨wr.heap.size, 4, none⟩ = some (.string a4) := by simp
      have k5 : (wr.alloc (.cells #[.int .i64 a0, .int .i64 a1, .int .i64 a2, .int .i64 a3, .string a4, .int .i64 a5] 125)).cell? ⟨wr.heap.size, 5, none⟩ = some (.int .i64 a5) := by simp
      have HB := Lib.hid ((Below.refl wr.heap.size wr).alloc (Nat.le_refl _) (.cells #[.int .i64 a0, .int .i64 a1, .int .i64 a2, .int .i64 a3, .string a4, .int .i64 a5] 125))
      have q1 : (0 ≤ (k : Int)) = True := eq_true (by omega)
      have q2 : ((k : Int) < (X.length : Int)) = True := eq_true (by omega)
      obtain ⟨xs0, hxs0⟩ : ∃ l, (X.take k).map lnE = l := ⟨_, rfl⟩
      have hR0 := HI.out.2.2.1
      rw [hxs0] at htk hlen hR0
      have HT := Lib.hid htk
      have HF := Lib.hid hfb
      have HLn := Lib.hid hlen
      have HR0 := Lib.hid hR0
      have Hw := Lib.hid hl64
      have HK := Lib.hid hk
      obtain ⟨z1, hz1⟩ : ∃ z, wrB a0 a1 = z := ⟨_, rfl⟩
      obtain ⟨z2, hz2⟩ : ∃ z, wrB a2 a3 = z := ⟨_, rfl⟩
      have HW1 := Lib.hid (show ∀ W, Calls Try.prog 75 #[.int .i64 a0, .int .i64 a1] W fun e w' => e = .returned (.bool z1) ∧ Below W.heap.size W w' from fun W => by rw [← hz1]; exact wr_any a0 a1 W)
      have HW2 := Lib.hid (show ∀ W, Calls Try.prog 75 #[.int .i64 a2, .int .i64 a3] W fun e w' => e = .returned (.bool z2) ∧ Below W.heap.size W w' from fun W => by rw [← hz2]; exact wr_any a2 a3 W)
      have HZ := Lib.hid (And.intro hz1 hz2)
      subst eA
      clear e1 htk hfb ha hl64 hlen hxs0 hR0 hk hz1 hz2
      cases z1 with
      | true =>
        go_wp2_with (first | (go_at_call 75; refine (HW1.out _).mono ?_; rintro e w2 ⟨rfl, H2⟩; clear x0 x1 x2 x3 x4 x5; replace k0 := cell_keep H2 k0; replace k1 := cell_keep H2 k1; replace k2 := cell_keep H2 k2; replace k3 := cell_keep H2 k3; replace k4 := cell_keep H2 k4; replace k5 := cell_keep H2 k5; replace H2 := Lib.hid H2))
        go_ret2
        have hb := HI.out.2.2.2.1.trans ((HB.out.trans (H2.out.mono (by simp))).mono HI.out.2.2.2.1.size)
        have e9 : cmL M X = (M, (k : Int), 22) := cmL_bad (by rw [HI.out.2.2.2.2, HF.out]; exact if_pos (.inl HZ.out.1))
        rw [e9]
        exact ⟨rfl, ⟨HU.out.1.below hb, below_grown hb⟩⟩
      | false =>
        cases z2 with
        | true =>
          go_wp2_with (first | (go_at_call 75; have _h := H2.out; clear _h; refine (HW2.out _).mono ?_; rintro e w3 ⟨rfl, H3⟩; replace k0 := cell_keep H3 k0; replace k1 := cell_keep H3 k1; replace k2 := cell_keep H3 k2; replace k3 := cell_keep H3 k3; replace k4 := cell_keep H3 k4; replace k5 := cell_keep H3 k5; replace H3 := Lib.hid H3) | (go_at_call 75; refine (HW1.out _).mono ?_; rintro e w2 ⟨rfl, H2⟩; clear x0 x1 x2 x3 x4 x5; replace k0 := cell_keep H2 k0; replace k1 := cell_keep H2 k1; replace k2 := cell_keep H2 k2; replace k3 := cell_keep H2 k3; replace k4 := cell_keep H2 k4; replace k5 := cell_keep H2 k5; replace H2 := Lib.hid H2))
          go_ret2
          have hb2 := HB.out.trans (H2.out.mono (by simp))
          have hb := HI.out.2.2.2.1.trans ((hb2.trans (H3.out.mono hb2.size)).mono HI.out.2.2.2.1.size)
          have e9 : cmL M X = (M, (k : Int), 22) := cmL_bad (by rw [HI.out.2.2.2.2, HF.out]; exact if_pos (.inr HZ.out.2))
          rw [e9]
          exact ⟨rfl, ⟨HU.out.1.below hb, below_grown hb⟩⟩
        | false =>
          go_wp2_with (first | (go_at_call 75; have _h := H2.out; clear _h; refine (HW2.out _).mono ?_; rintro e w3 ⟨rfl, H3⟩; replace k0 := cell_keep H3 k0; replace k1 := cell_keep H3 k1; replace k2 := cell_keep H3 k2; replace k3 := cell_keep H3 k3; replace k4 := cell_keep H3 k4; replace k5 := cell_keep H3 k5; replace H3 := Lib.hid H3) | (go_at_call 75; refine (HW1.out _).mono ?_; rintro e w2 ⟨rfl, H2⟩; clear x0 x1 x2 x3 x4 x5; replace k0 := cell_keep H2 k0; replace k1 := cell_keep H2 k1; replace k2 := cell_keep H2 k2; replace k3 := cell_keep H2 k3; replace k4 := cell_keep H2 k4; replace k5 := cell_keep H2 k5; replace H2 := Lib.hid H2))
          have hbb2 := HB.out.trans (H2.out.mono (by simp))
          have hbb := (hbb2.trans (H3.out.mono hbb2.size)).drew
          have hb := HI.out.2.2.2.1.trans (hbb.mono HI.out.2.2.2.1.size)
          have HQ := Lib.hid (And.intro (Kd.R_below HR0.out hbb) (And.intro hb (show (xs0.length + 1) * 72 ≤ 140737488355328 by have := HLn.out; omega)))
          have hGl : wr.heap.size < w3.heap.size := World.block_lt_of_cell? w3 _ k0
          have hG3 : w3.drew.heap[wr.heap.size]? = some (.cells #[.int .i64 a0, .int .i64 a1, .int .i64 a2, .int .i64 a3, .string a4, .int .i64 a5] 125 (0, 0)) := by
            have l1 : wr.heap.size < (wr.alloc (.cells #[.int .i64 a0, .int .i64 a1, .int .i64 a2, .int .i64 a3, .string a4, .int .i64 a5] 125)).heap.size := by simp
            exact (H3.out.block _ (Nat.lt_of_lt_of_le l1 H2.out.size)).trans ((H2.out.block _ l1).trans (Go.MapKept.heap_alloc wr _).1)
          clear hbb2 hbb hb
          generalize wr.heap.size = G at k0 k1 k2 k3 k4 k5 hGl hG3 ⊢
          have hSD : w3.drew.cell? ⟨G, 0, none⟩ = some (.int .i64 a0) ∧ w3.drew.cell? ⟨G, 1, none⟩ = some (.int .i64 a1) ∧ w3.drew.cell? ⟨G, 2, none⟩ = some (.int .i64 a2) ∧ w3.drew.cell? ⟨G, 3, none⟩ = some (.int .i64 a3) ∧ w3.drew.cell? ⟨G, 4, none⟩ = some (.string a4) ∧ w3.drew.cell? ⟨G, 5, none⟩ = some (.int .i64 a5) := ⟨k0, k1, k2, k3, k4, k5⟩
          have HSA := Lib.hid (show ∀ (w' : World) (o : Obj), (w'.cell? ⟨G, 0, none⟩ = some (.int .i64 a0) ∧ w'.cell? ⟨G, 1, none⟩ = some (.int .i64 a1) ∧ w'.cell? ⟨G, 2, none⟩ = some (.int .i64 a2) ∧ w'.cell? ⟨G, 3, none⟩ = some (.int .i64 a3) ∧ w'.cell? ⟨G, 4, none⟩ = some (.string a4) ∧ w'.cell? ⟨G, 5, none⟩ = some (.int .i64 a5)) → ((w'.alloc o).cell? ⟨G, 0, none⟩ = some (.int .i64 a0) ∧ (w'.alloc o).cell? ⟨G, 1, none⟩ = some (.int .i64 a1) ∧ (w'.alloc o).cell? ⟨G, 2, none⟩ = some (.int .i64 a2) ∧ (w'.alloc o).cell? ⟨G, 3, none⟩ = some (.int .i64 a3) ∧ (w'.alloc o).cell? ⟨G, 4, none⟩ = some (.string a4) ∧ (w'.alloc o).cell? ⟨G, 5, none⟩ = some (.int .i64 a5)) from fun w' o ⟨s0, s1, s2, s3, s4, s5⟩ =>
            ⟨cell_keep ((Below.refl _ _).alloc (Nat.le_refl _) _) s0, cell_keep ((Below.refl _ _).alloc (Nat.le_refl _) _) s1, cell_keep ((Below.refl _ _).alloc (Nat.le_refl _) _) s2, cell_keep ((Below.refl _ _).alloc (Nat.le_refl _) _) s3, cell_keep ((Below.refl _ _).alloc (Nat.le_refl _) _) s4, cell_keep ((Below.refl _ _).alloc (Nat.le_refl _) _) s5⟩)
          have HSB := Lib.hid (show ∀ (w1 w2 : World), Below w1.heap.size w1 w2 → (w1.cell? ⟨G, 0, none⟩ = some (.int .i64 a0) ∧ w1.cell? ⟨G, 1, none⟩ = some (.int .i64 a1) ∧ w1.cell? ⟨G, 2, none⟩ = some (.int .i64 a2) ∧ w1.cell? ⟨G, 3, none⟩ = some (.int .i64 a3) ∧ w1.cell? ⟨G, 4, none⟩ = some (.string a4) ∧ w1.cell? ⟨G, 5, none⟩ = some (.int .i64 a5)) → (w2.cell? ⟨G, 0, none⟩ = some (.int .i64 a0) ∧ w2.cell? ⟨G, 1, none⟩ = some (.int .i64 a1) ∧ w2.cell? ⟨G, 2, none⟩ = some (.int .i64 a2) ∧ w2.cell? ⟨G, 3, none⟩ = some (.int .i64 a3) ∧ w2.cell? ⟨G, 4, none⟩ = some (.string a4) ∧ w2.cell? ⟨G, 5, none⟩ = some (.int .i64 a5)) from fun w1 w2 hb ⟨s0, s1, s2, s3, s4, s5⟩ => ⟨cell_keep hb s0, cell_keep hb s1, cell_keep hb s2, cell_keep hb s3, cell_keep hb s4, cell_keep hb s5⟩)
          have HS0 := Lib.hid hSD
          have HSG := Lib.hid (show ∀ (w5 w6 : World), Below w3.drew.heap.size w3.drew w5 → Kd.R k107 107 w5 w.heap.size (fun _ => True) u6 xs0 → w5.grownBy w6 u6.ownBlock → (w6.cell? ⟨G, 0, none⟩ = some (.int .i64 a0) ∧ w6.cell? ⟨G, 1, none⟩ = some (.int .i64 a1) ∧ w6.cell? ⟨G, 2, none⟩ = some (.int .i64 a2) ∧ w6.cell? ⟨G, 3, none⟩ = some (.int .i64 a3) ∧ w6.cell? ⟨G, 4, none⟩ = some (.string a4) ∧ w6.cell? ⟨G, 5, none⟩ = some (.int .i64 a5)) from fun w5 w6 hb hR hg => by
            have h5 : w5.heap[G]? = some (.cells #[.int .i64 a0, .int .i64 a1, .int .i64 a2, .int .i64 a3, .string a4, .int .i64 a5] 125 (0, 0)) := (hb.block G hGl).trans hG3
            have n1 := Kd.R_ne hR h5 (by decide)
            have e1 := hg.block G (Array.getElem?_eq_some_iff.1 h5).1 n1
            obtain ⟨s0, s1, s2, s3, s4, s5⟩ := HSB.out _ _ hb hSD
            exact ⟨(World.cell?_of_block (a := ⟨G, 0, none⟩) e1).trans s0, (World.cell?_of_block (a := ⟨G, 1, none⟩) e1).trans s1, (World.cell?_of_block (a := ⟨G, 2, none⟩) e1).trans s2, (World.cell?_of_block (a := ⟨G, 3, none⟩) e1).trans s3, (World.cell?_of_block (a := ⟨G, 4, none⟩) e1).trans s4, (World.cell?_of_block (a := ⟨G, 5, none⟩) e1).trans s5⟩)
          clear k0 k1 k2 k3 k4 k5 hGl hG3
          go_region_held3 (fun w' => w'.cell? ⟨G, 0, none⟩ = some (.int .i64 a0) ∧ w'.cell? ⟨G, 1, none⟩ = some (.int .i64 a1) ∧ w'.cell? ⟨G, 2, none⟩ = some (.int .i64 a2) ∧ w'.cell? ⟨G, 3, none⟩ = some (.int .i64 a3) ∧ w'.cell? ⟨G, 4, none⟩ = some (.string a4) ∧ w'.cell? ⟨G, 5, none⟩ = some (.int .i64 a5))
            (first | assumption | exact HSA.out _ _ (by assumption) | exact HS0.out)
            (first
              | (refine Kd.R_append_step k107 (w0 := w) (W := w5) w.heap.size (by rfl) (.tmp 35) (.tmp 53) 34 107 (.agg #[(.int .i64 0), (.int .i64 0), (.string ⟨#[]⟩), (.int .i64 0), (.int .i64 0), (.string ⟨#[]⟩), (.int .i64 0)]) 72 rfl Try.underlying34 info107 rfl (by decide) (by decide) u6 xs0 ⟨⟨a0, a1, a4⟩, ⟨a2, a3, a4⟩, a5⟩ [.int .i64 a0, .int .i64 a1, .string a4, .int .i64 a2, .int .i64 a3, .string a4, .int .i64 a5] (fun _ => True) (fun _ => False) rfl rfl (k107_mkM _ _ _ _) (fun _ h => h.elim) (fun _ _ => trivial) HZ5.out.1 HZ5.out.2.1 HZ5.out.2.2 HQ.out.2.2 ?_; intro v1 w6 ho hb hg hat; have kk6 := HSG.out w5 w6 (H4.out.trans (H5.out.mono H4.out.size)) HZ5.out.1 hg; have H6 := Lib.hid (And.intro ho hb); clear ho hb hg hat)
              | (go_at_call 76; have _h := H4.out; clear _h; refine (acc_any a2 a3 a4 _).mono ?_; rintro e w5 ⟨rfl, H5⟩; have kk5 := HSB.out _ _ H5 (HSB.out _ _ H4.out HS0.out); have HZ5 := Lib.hid (And.intro (Kd.R_below (Kd.R_below HQ.out.1 H4.out) H5) (And.intro (HQ.out.2.1.trans ((H4.out.trans (H5.mono H4.out.size)).mono HQ.out.2.1.size)) (Nat.le_trans HQ.out.2.1.size (Nat.le_trans H4.out.size H5.size)))); replace H5 := Lib.hid H5)
              | (go_at_call 76; refine (acc_any a0 a1 a4 _).mono ?_; rintro e w4 ⟨rfl, H4⟩; have kk4 := HSB.out _ _ H4 HS0.out; replace H4 := Lib.hid H4))
          go_wp2
          go_roundg (X.length - k)
          case measure => have := HI.out.1; have := HK.out; omega
          case rel =>
            refine ⟨k + 1, by rw [Hw.out], ⟨by have := HI.out.1; have := HK.out; omega, HK.out, ?_, H6.out.2, ?_⟩⟩
            · rw [HT.out]
              exact H6.out.1
            · rw [HI.out.2.2.2.2, HF.out, if_neg (by rw [HZ.out.1, HZ.out.2]; simp)]
    · have q2 : ((k : Int) < (X.length : Int)) = False := eq_false (by omega)
      have hR0 := HI.out.2.2.1
      rw [List.take_of_length_le (by omega)] at hR0
      obtain ⟨A6, c6, rfl, hc6, hC6⟩ := Kd.R_reads hR0
      have hfn : fbL 0 X = none := by
        rw [HI.out.2.2.2.2, List.drop_eq_nil_of_le (by omega)]
        rfl
      have hcu := HU.out.1.below HI.out.2.2.2.1
      rw [List.length_map] at hC6
      have hpo := post_any hcu.lg HU.out.2.1 A6 c6 (X.map lnE) (by rw [List.length_map]; exact hC6) (by rw [List.length_map]; have := HU.out.2.2.2.2; omega) (by rw [List.length_map]; have := HU.out.2.2.2.2; have := HU.out.2.2.1; unfold maxLen; omega)
      obtain ⟨⟨M', n', f'⟩, hR⟩ : ∃ R, postL [] M (X.map lnE) = R := ⟨_, rfl⟩
      rw [hR] at hpo
      have E9 := Lib.hid (show cmL M X = (M', n', f') from (cmL_ok hfn).trans hR)
      rw [List.length_map] at hpo
      have kc := hcu.cell
      have HPO := Lib.hid hpo
      have HCU := Lib.hid hcu
      clear hR0 hc6 hC6 hfn hcu hpo hR hk
      go_wp2_with (go_at_call 19; refine HPO.out.mono ?_; rintro e w5 ⟨rfl, h5, h6⟩; have H5 := Lib.hid (And.intro h5 h6); clear h5 h6)
      go_ret2
      rw [E9.out]
      exact ⟨rfl, ⟨HCU.out.turn H5.out.2 H5.out.1, (below_grown HI.out.2.2.2.1).andThen H5.out.2 (fun _ hj => .inr hj)⟩⟩
end Go.Proofs.Ytoknlpecbdlbfaa.PL

-- Custody: Trade, walked.
namespace Go.Proofs.Ytoknlpecbdlbfaa.PL
open Go Go.RowKit Go.Maps Go.Sort Go.Shelf Go.Proofs Go.Proofs.YtoknlpecbdlbfaaW.PrintWords Go.Proofs.YtoknlpecbdlbfaaW.PrintLast
/-- A trade's lines: the lots, then the cash. -/
def trX (s b : Int) (T : List S79) (cur : ByteArray) (cash : Int) : List S125 := T.map (fun x => ⟨s, 1, b, 1, x.f0, x.f1⟩) ++ [⟨b, 1, s, 1, cur, cash⟩]
set_option maxRecDepth 100000 in
set_option maxHeartbeats 600000 in
theorem ctrade_any {w : World} {p g b : Nat} {M : List (S42 × Int)} (h : CU w p g b M) (hB : BM M) (hm : M.length ≤ 1000000000) (s y cash : Int) (cur : ByteArray) (A : Option Addr) (c : Nat) (T : List S79) (hr : Kd.C k79 w A T.length T) (hT : T.length ≤ 1000) :
    Calls Try.prog 39 #[.pointer (some ⟨p, 0, none⟩), .int .i64 s, .int .i64 y, .slice A T.length c, .string cur, .int .i64 cash] w fun e w' => e = .returned (.tuple #[.int .i64 (cmL M (trX s y T cur cash)).2.1, .int .i64 (cmL M (trX s y T cur cash)).2.2]) ∧ Hid (CU w' p g b (cmL M (trX s y T cur cash)).1 ∧ w.grownBy w' (some b)) := by
  obtain ⟨i0, hi, hz0, hz1, hz2⟩ := info_parts info125
  have hb2 : i0.bytes * (T.length + 1) ≤ 281474976710656 := by rw [hz2]; omega
  have hb3 : T.length + 1 ≤ maxLen := by unfold maxLen; omega
  have hl : wrap64 ((T.length : Int) + 1) = ((T.length + 1 : Nat) : Int) := by
    rw [wrap_id (by omega) (by omega)]; rfl
  have HU := Lib.hid (And.intro h (And.intro hB (And.intro hm (And.intro hr hT))))
  replace hl := Lib.hid hl
  clear h hB hm hr hT
  go_enter Try.func39, Try.ntmps39
  go_wp2_with (first
    | (at_make; refine wpList_make_own _ rfl _ _ 89 rfl w.heap.size 125 i0 (.agg #[(.int .i64 0), (.int .i64 0), (.int .i64 0), (.int .i64 0), (.string ⟨#[]⟩), (.int .i64 0)]) 6 Try.underlying89 hi hz0 hz1 .i64 .i64 (wrap64 ((T.length : Int) + 1)) (T.length + 1) rfl rfl hl.out hb2 hb3 (Nat.le_refl _) ?_; intro w2 ho2 hg2; have HM2 := Lib.hid (And.intro ho2 hg2); clear ho2 hg2)
    | go_in)
  clear hb2 hb3 hi hz0 hz1 hz2 hl
  go_loopg [14, 16, 23] (T.length + 1) (fun kq v14 v16 v23 w' => ∃ k : Nat, v23 = .int .i64 k ∧ Hid (kq + k = T.length + 1 ∧ k ≤ T.length ∧ Kd.R k125 125 w' w.heap.size (fun _ => True) v14 ((T.take k).map (fun x => (⟨s, 1, y, 1, x.f0, x.f1⟩ : S125))) ∧ Below w.heap.size w w'))
  case atStart =>
    refine ⟨0, rfl, ⟨rfl, Nat.zero_le _, ?_, grown_to HM2.out.2⟩⟩
    exact ⟨fun _ _ => trivial, [], HM2.out.1, Reps.none _ _⟩
  case round =>
    obtain ⟨k, rfl, HI⟩ := hrel
    by_cases hk : k < T.length
    · obtain ⟨ad, eA, x0, x1⟩ := at_T79 (Kd.C_below HU.out.2.2.2.1 HI.out.2.2.2) (k : Int) (by omega) (by omega)
      simp only [Int.toNat_natCast] at x0 x1
      have e1 : rd_T79 T (k : Int) = T[k] := by
        unfold rd_T79
        simp [List.getD, hk]
      have htk : (T.take (k + 1)).map (fun x => (⟨s, 1, y, 1, x.f0, x.f1⟩ : S125)) = (T.take k).map (fun x => (⟨s, 1, y, 1, x.f0, x.f1⟩ : S125)) ++ [⟨s, 1, y, 1, T[k].f0, T[k].f1⟩] := by rw [List.take_succ_eq_append_getElem hk, List.map_append]; rfl
      rw [e1] at x0 x1
      obtain ⟨⟨a0, a1⟩, ha⟩ : ∃ a, T[k] = a := ⟨_, rfl⟩
      rw [ha] at x0 x1 htk
      simp only at x0 x1
      have hl64 : wrap64 ((k : Int) + 1) = ((k + 1 : Nat) : Int) := by
        have h3 := HU.out.2.2.2.2
        rw [wrap_id (by omega) (by omega)]; rfl
      have hlen : ((T.take k).map (fun x => (⟨s, 1, y, 1, x.f0, x.f1⟩ : S125))).length ≤ 1000 := by
        have := HU.out.2.2.2.2
        rw [List.length_map, List.length_take]
        omega
      obtain ⟨xs0, hxs0⟩ : ∃ l, (T.take k).map (fun x => (⟨s, 1, y, 1, x.f0, x.f1⟩ : S125)) = l := ⟨_, rfl⟩
      have hR0 := HI.out.2.2.1
      rw [hxs0] at htk hlen hR0
      obtain ⟨W, hW⟩ : ∃ W, wr.alloc (.cells #[.string a0, .int .i64 a1] 79) = W := ⟨_, rfl⟩
      have hB1 : Below wr.heap.size wr W := by rw [← hW]; exact (Below.refl _ _).alloc (Nat.le_refl _) _
      have k0 : W.cell? ⟨wr.heap.size, 0, none⟩ = some (.string a0) := by rw [← hW]; simp
      have k1 : W.cell? ⟨wr.heap.size, 1, none⟩ = some (.int .i64 a1) := by rw [← hW]; simp
      have HQ := Lib.hid (And.intro (Kd.R_below hR0 hB1) (And.intro (HI.out.2.2.2.trans (hB1.mono HI.out.2.2.2.size)) (And.intro (Nat.le_trans HI.out.2.2.2.size hB1.size) (show (xs0.length + 1) * 56 ≤ 140737488355328 by omega))))
      have HT := Lib.hid htk
      have Hw := Lib.hid hl64
      have HK := Lib.hid hk
      have q1 : (0 ≤ (k : Int)) = True := eq_true (by omega)
      have q2 : ((k : Int) < (T.length : Int)) = True := eq_true (by omega)
      subst eA
      clear e1 htk ha hl64 hlen hxs0 hR0 hB1 hk
      go_wp2_with (first
        | (at_builtin; refine Kd.R_append k125 (w0 := w) (W := W) w.heap.size rfl (.tmp 27) (.tmp 35) 89 125 (.agg #[(.int .i64 0), (.int .i64 0), (.int .i64 0), (.int .i64 0), (.string ⟨#[]⟩), (.int .i64 0)]) 56 rfl Try.underlying89 info125 rfl (by decide) (by decide) u14 xs0 ⟨s, 1, y, 1, a0, a1⟩ [.int .i64 s, .int .i64 1, .int .i64 y, .int .i64 1, .string a0, .int .i64 a1] (fun _ => True) (fun _ => False) rfl rfl (k125_mkM _ _ _ _) (fun _ h => h.elim) (fun _ _ => trivial) HQ.out.1 HQ.out.2.1 HQ.out.2.2.1 HQ.out.2.2.2 ?_; intro v1 w5 ho hb hg hat; have H5 := Lib.hid (And.intro ho hb); clear ho hb hg hat)
        | go_in)
      go_roundg (T.length - k)
      case measure => have := HI.out.1; have := HK.out; omega
      case rel =>
        refine ⟨k + 1, by rw [Hw.out], ⟨by have := HI.out.1; have := HK.out; omega, HK.out, ?_, H5.out.2⟩⟩
        rw [HT.out]
        exact H5.out.1
    · have q2 : ((k : Int) < (T.length : Int)) = False := eq_false (by omega)
      have hR0 := HI.out.2.2.1
      rw [List.take_of_length_le (by omega)] at hR0
      have hlen : (T.map (fun x => (⟨s, 1, y, 1, x.f0, x.f1⟩ : S125))).length ≤ 1000 := by
        have := HU.out.2.2.2.2
        rw [List.length_map]
        omega
      have hX : trX s y T cur cash = T.map (fun x => (⟨s, 1, y, 1, x.f0, x.f1⟩ : S125)) ++ [⟨y, 1, s, 1, cur, cash⟩] := rfl
      obtain ⟨xs0, hxs0⟩ : ∃ l, T.map (fun x => (⟨s, 1, y, 1, x.f0, x.f1⟩ : S125)) = l := ⟨_, rfl⟩
      rw [hxs0] at hlen hR0 hX
      have hXl : (xs0 ++ [(⟨y, 1, s, 1, cur, cash⟩ : S125)]).length ≤ 4000 := by simp; omega
      rw [← hX] at hXl
      obtain ⟨X, hXe⟩ : ∃ X, trX s y T cur cash = X := ⟨_, rfl⟩
      rw [hXe] at hXl hX
      have HQ := Lib.hid (And.intro hR0 (And.intro HI.out.2.2.2 (And.intro HI.out.2.2.2.size (show (xs0.length + 1) * 56 ≤ 140737488355328 by omega))))
      have HX := Lib.hid (And.intro hX.symm (And.intro hXl hXe))
      have kc := (HU.out.1.below HI.out.2.2.2).cell
      clear hR0 hlen hxs0 hX hXl hXe hk
      go_wp2_with (first
        | (go_at_call 43; refine (cmove_any (HU.out.1.below H5.out.2) HU.out.2.1 HU.out.2.2.1 A5 c5 X H5.out.1 HX.out.2.1).mono ?_; rintro e w6 ⟨rfl, H6⟩)
        | (at_builtin; refine Kd.R_append k125 (w0 := w) (W := wr) w.heap.size rfl (.tmp 39) (.tmp 45) 89 125 (.agg #[(.int .i64 0), (.int .i64 0), (.int .i64 0), (.int .i64 0), (.string ⟨#[]⟩), (.int .i64 0)]) 56 rfl Try.underlying89 info125 rfl (by decide) (by decide) u14 xs0 ⟨y, 1, s, 1, cur, cash⟩ [.int .i64 y, .int .i64 1, .int .i64 s, .int .i64 1, .string cur, .int .i64 cash] (fun _ => True) (fun _ => False) rfl rfl (k125_mkM _ _ _ _) (fun _ h => h.elim) (fun _ _ => trivial) HQ.out.1 HQ.out.2.1 HQ.out.2.2.1 HQ.out.2.2.2 ?_; intro v1 w5 ho hb hg hat; rw [HX.out.1] at ho; obtain ⟨A5, c5, rfl, _, hC5⟩ := Kd.R_reads ho; have H5 := Lib.hid (And.intro hC5 hb); clear ho hb hg hat hC5)
        | go_in)
      go_ret2
      rw [HX.out.2.2]
      exact ⟨rfl, ⟨H6.out.1, (below_grown H5.out.2).andThen H6.out.2 (fun _ hj => .inr hj)⟩⟩
end Go.Proofs.Ytoknlpecbdlbfaa.PL

-- Custody: awake, the chapter's example.
namespace Go.Proofs.Ytoknlpecbdlbfaa.PL
open Go Go.RowKit Go.Maps Go.Sort Go.Shelf Go.Proofs Go.Proofs.YtoknlpecbdlbfaaW.PrintWords Go.Proofs.YtoknlpecbdlbfaaW.PrintLast
def tX : ByteArray := ⟨#[88, 49, 50, 51, 52]⟩
def tE : ByteArray := ⟨#[69, 85, 82]⟩
def mX1 : List (S42 × Int) := [(⟨0, 0, tX⟩, -9), (⟨1, 1, tX⟩, 9)]
def mX2 : List (S42 × Int) := [(⟨0, 0, tX⟩, -9), (⟨1, 1, tX⟩, 9), (⟨0, 0, tE⟩, -50), (⟨2, 1, tE⟩, 50)]
def mX3 : List (S42 × Int) := [(⟨0, 0, tX⟩, -9), (⟨0, 0, tE⟩, -50), (⟨2, 1, tX⟩, 9), (⟨1, 1, tE⟩, 50)]
theorem cx1 : brL [] 1 tX 9 = (mX1, 0) := by kernel_rfl
theorem cx2 : brL mX1 2 tE 50 = (mX2, 0) := by kernel_rfl
theorem cx3 : cmL mX2 (trX 1 2 [⟨tX, 9⟩] tE 50) = (mX3, 2, 0) := by kernel_rfl
theorem cx4 : cmL mX3 (trX 1 2 [⟨tX, 9⟩] tE 50) = (mX3, 0, 20) := by kernel_rfl
theorem cp1 : getM mX3 ⟨2, 1, tX⟩ = 9 := by kernel_rfl
theorem cp2 : getM mX3 ⟨1, 1, tE⟩ = 50 ∧ getM mX3 ⟨1, 2, tE⟩ = 0 ∧ getM mX3 ⟨1, 3, tE⟩ = 0 ∧ getM mX3 ⟨1, 4, tE⟩ = 0 := ⟨by kernel_rfl, by kernel_rfl, by kernel_rfl, by kernel_rfl⟩
theorem BM.list : ∀ {M : List (S42 × Int)}, (∀ p ∈ M, -72057594037927936 ≤ p.2 ∧ p.2 ≤ 72057594037927936) → BM M
  | [], _ => BM.nil
  | p :: r, h => fun a => by
    show -72057594037927936 ≤ (if p.1 = a then p.2 else getM r a) ∧ (if p.1 = a then p.2 else getM r a) ≤ 72057594037927936
    split
    · exact h p List.mem_cons_self
    · exact BM.list (M := r) (fun q hq => h q (List.mem_cons_of_mem _ hq)) a
theorem bm1 : BM mX1 := BM.list (fun p hp => by simp [mX1] at hp; rcases hp with rfl | rfl <;> simp)
theorem bm2 : BM mX2 := BM.list (fun p hp => by simp [mX2] at hp; rcases hp with rfl | rfl | rfl | rfl <;> simp)
theorem bm3 : BM mX3 := BM.list (fun p hp => by simp [mX3] at hp; rcases hp with rfl | rfl | rfl | rfl <;> simp)
theorem C79_one {W : World} {k : Nat} {a : ByteArray} {n : Int} (h : W.heap[k]? = some (.cells #[.string a, .int .i64 n] 79 (0, 0))) : Kd.C k79 W (some ⟨k, 0, none⟩) 1 [⟨a, n⟩] := by
  refine ⟨rfl, by omega, fun _ => ⟨⟨k, 0, none⟩, rfl, fun j p hj => ?_⟩⟩
  cases j with
  | zero =>
    simp at hj
    subst hj
    refine ⟨[.string a, .int .i64 n], rfl, k79_mk _ _, fun i u hu => ?_⟩
    match i, hu with
    | 0, hu =>
      simp at hu
      subst hu
      simp [World.cell?, h, Addr.add]
    | 1, hu =>
      simp at hu
      subst hu
      simp [World.cell?, h, Addr.add]
  | succ j => simp at hj
/-- The example's custody, and its lots' row. -/
structure AX (W : World) (p g b k : Nat) (M : List (S42 × Int)) : Prop where
  cu : CU W p g b M
  lots : W.heap[k]? = some (.cells #[.string tX, .int .i64 9] 79 (0, 0))
theorem AX.turn {W W' : World} {p g b k : Nat} {M M' : List (S42 × Int)} (h : AX W p g b k M) (hc : CU W' p g b M') (hg : W.grownBy W' (some b)) : AX W' p g b k M' := by
  refine ⟨hc, (hg.block k (Array.getElem?_eq_some_iff.1 h.lots).1 (fun e => ?_)).trans h.lots⟩
  injection e with e
  obtain ⟨es, clock, hb, _⟩ := h.cu.lg.map
  have h1 := h.lots
  rw [e, hb] at h1
  cases h1
theorem AX.bring {W : World} {p g b k : Nat} {M M' : List (S42 × Int)} (h : AX W p g b k M) (hB : BM M) (hm : M.length ≤ 1000000000) (m q v : Int) (t : ByteArray) (hR : brL M m t q = (M', v)) :
    Calls Try.prog 42 #[.pointer (some ⟨p, 0, none⟩), .int .i64 m, .string t, .int .i64 q] W fun e w' => e = .returned (.int .i64 v) ∧ Hid (AX w' p g b k M' ∧ W.grownBy w' (some b)) := by
  have h1 := bring_any h.cu hB hm m q t
  rw [hR] at h1
  exact h1.mono (fun e w' ⟨h2, h3⟩ => ⟨h2, h.turn h3.out.1 h3.out.2, h3.out.2⟩)
theorem AX.trade {W : World} {p g b k : Nat} {M M' : List (S42 × Int)} (h : AX W p g b k M) (hB : BM M) (hm : M.length ≤ 1000000000) (n v : Int) (hR : cmL M (trX 1 2 [⟨tX, 9⟩] tE 50) = (M', n, v)) :
    Calls Try.prog 39 #[.pointer (some ⟨p, 0, none⟩), .int .i64 1, .int .i64 2, .slice (some ⟨k, 0, none⟩) 1 1, .string tE, .int .i64 50] W fun e w' => e = .returned (.tuple #[.int .i64 n, .int .i64 v]) ∧ Hid (AX w' p g b k M' ∧ W.grownBy w' (some b)) := by
  have h1 := ctrade_any h.cu hB hm 1 2 50 tE (some ⟨k, 0, none⟩) 1 [⟨tX, 9⟩] (C79_one h.lots) (by simp)
  rw [hR] at h1
  exact h1.mono (fun e w' ⟨h2, h3⟩ => ⟨h2, h.turn h3.out.1 h3.out.2, h3.out.2⟩)
theorem AX.posX {W : World} {p g b k : Nat} (h : AX W p g b k mX3) :
    Calls Try.prog 47 #[.pointer (some ⟨p, 0, none⟩), .int .i64 2, .string tX] W fun e w' => ∃ v1 v2 v3, e = .returned (.agg #[.int .i64 9, .int .i64 v1, .int .i64 v2, .int .i64 v3]) ∧ Hid (CU w' p g b mX3 ∧ Below W.heap.size W w') := by
  have h1 := pos_any h.cu 2 tX (by kernel_rfl) (by show tX.size ≤ maxLen; rw [show tX.size = 5 from by kernel_rfl]; unfold maxLen; omega)
  rw [cp1] at h1
  exact h1.mono (fun e w' ⟨h2, h3⟩ => ⟨_, _, _, h2, h.cu.below h3, h3⟩)
theorem posE {W : World} {p g b : Nat} (h : CU W p g b mX3) :
    Calls Try.prog 47 #[.pointer (some ⟨p, 0, none⟩), .int .i64 1, .string tE] W fun e w' => e = .returned (.agg #[.int .i64 50, .int .i64 0, .int .i64 0, .int .i64 0]) ∧ Below W.heap.size W w' := by
  have h1 := pos_any h 1 tE (by kernel_rfl) (by show tE.size ≤ maxLen; rw [show tE.size = 3 from by kernel_rfl]; unfold maxLen; omega)
  rw [cp2.1, cp2.2.1, cp2.2.2.1, cp2.2.2.2] at h1
  exact h1
theorem all50 (W : World) : Calls Try.prog 48 #[.agg #[.int .i64 50, .int .i64 0, .int .i64 0, .int .i64 0]] W fun e w' => e = .returned (.int .i64 50) ∧ Below W.heap.size W w' :=
  custody_Position_All.calls 50 0 0 0 50 W (by kernel_rfl)
set_option maxRecDepth 100000 in
set_option maxHeartbeats 1000000 in
theorem cawake_walk (w : World) : Calls Try.prog 38 #[] w fun e w' => e = .returned (.bool true) ∧ Below w.heap.size w w' := by
  have hfd : ∀ (v1 v2 v3 : Int) (W : World), (Instr.field 93 (.agg #[.int .i64 9, .int .i64 v1, .int .i64 v2, .int .i64 v3]) 0).run Try.prog W = .ok (.int .i64 9) W := fun v1 v2 v3 W => by rfl
  go_enter Try.func38, Try.ntmps38
  go_wp2_with (first
    | (go_at_call 48; refine (all50 _).mono ?_; rintro e w8 ⟨rfl, H8⟩; replace H8 := Lib.hid H8)
    | (go_at_call 47; refine (posE H6.out.1).mono ?_; rintro e w7 ⟨rfl, H7⟩; replace H7 := Lib.hid H7)
    | (go_at_call 47; refine H5.out.1.posX.mono ?_; rintro e w6 ⟨v1, v2, v3, rfl, H6⟩)
    | (go_at_call 39; refine (AX.trade H4.out.1 bm3 (by simp [mX3]) 0 20 cx4).mono ?_; rintro e w5 ⟨rfl, H5⟩)
    | (go_at_call 39; refine (AX.trade H3.out.1 bm2 (by simp [mX2]) 2 0 cx3).mono ?_; rintro e w4 ⟨rfl, H4⟩)
    | (go_at_call 42; refine (AX.bring H2.out.1 bm1 (by simp [mX1]) 2 50 0 tE cx2).mono ?_; rintro e w3 ⟨rfl, H3⟩)
    | (go_at_call 42; have H1 := Lib.hid (show AX (w1.alloc (.cells #[.string tX, .int .i64 9] 79)) p g b w1.heap.size [] from ⟨H0.out.1.below ((Below.refl _ _).alloc (Nat.le_refl _) _), (Go.MapKept.heap_alloc w1 _).1⟩); refine (AX.bring H1.out BM.nil (by simp) 1 9 0 tX cx1).mono ?_; rintro e w2 ⟨rfl, H2⟩)
    | (go_at_call 34; refine (cnew_any _).mono ?_; rintro e w1 ⟨p, g, b, rfl, H0⟩))
  go_ret
  have b1 : Below w.heap.size w (w1.alloc (.cells #[.string tX, .int .i64 9] 79)) := H0.out.2.1.alloc H0.out.2.1.size _
  have hb := H0.out.2.2.1
  have b2 := b1.grown H2.out.2 b1.size (fun k e => by cases e; exact hb)
  have b3 := b2.grown H3.out.2 b2.size (fun k e => by cases e; exact hb)
  have b4 := b3.grown H4.out.2 b3.size (fun k e => by cases e; exact hb)
  have b5 := b4.grown H5.out.2 b4.size (fun k e => by cases e; exact hb)
  have b6 := b5.trans (H6.out.2.mono b5.size)
  have b7 := b6.trans (H7.out.mono b6.size)
  exact ⟨rfl, b7.trans (H8.out.mono b7.size)⟩
end Go.Proofs.Ytoknlpecbdlbfaa.PL

-- Custody: Shift, All, Clone, Things, Out, walked.
namespace Go.Proofs.Ytoknlpecbdlbfaa.PL
open Go Go.RowKit Go.Maps Go.Sort Go.Shelf Go.Proofs Go.Proofs.YtoknlpecbdlbfaaW.PrintWords Go.Proofs.YtoknlpecbdlbfaaW.PrintLast
/-- A shift's lines. -/
def shX (m fr tq : Int) (T : List S79) : List S125 := T.map (fun x => ⟨m, fr, m, tq, x.f0, x.f1⟩)
set_option maxRecDepth 100000 in
theorem call_any {w : World} {p g b : Nat} {M : List (S42 × Int)} (h : CU w p g b M) {L : List S82} (hg : Gives 23 (.pointer (some ⟨g, 0, none⟩)) 44 w L) : Gives 53 (.pointer (some ⟨p, 0, none⟩)) 44 w L := by
  unfold Gives at hg ⊢
  have HG := Lib.hid hg
  have HU := Lib.hid h
  have hc := h.cell
  clear h hg
  go_enter Try.func53, Try.ntmps53
  go_wp2_with (first
    | (go_at_call 74; refine (cmade_any HU.out).mono ?_; rintro e w1 ⟨rfl, rfl⟩)
    | (go_at_call 23; refine HG.out.mono ?_; rintro e w2 ⟨v, rfl, h1, h2⟩; have H2 := Lib.hid (And.intro h1 h2); clear h1 h2))
  go_ret
  exact ⟨_, rfl, H2.out.1, H2.out.2⟩
set_option maxRecDepth 100000 in
theorem cclone_any {w : World} {p g b : Nat} {M : List (S42 × Int)} (h : CU w p g b M) :
    Calls Try.prog 54 #[.pointer (some ⟨p, 0, none⟩)] w fun e w' => ∃ p2 g2 b2, e = .returned (.pointer (some ⟨p2, 0, none⟩)) ∧ Hid (CU w' p2 g2 b2 M ∧ Below w.heap.size w w' ∧ w.heap.size ≤ b2 ∧ w.heap.size ≤ g2 ∧ w.heap.size ≤ p2) := by
  have HU := Lib.hid h
  have hc := h.cell
  clear h
  go_enter Try.func54, Try.ntmps54
  go_wp2_with (first
    | (go_at_call 74; refine (cmade_any HU.out).mono ?_; rintro e w1 ⟨rfl, rfl⟩)
    | (go_at_call 24; refine (clone_hid HU.out.lg).mono ?_; rintro e w2 ⟨rfl, H2⟩))
  go_ret
  have hb : Below w2.heap.size w2 (w2.alloc (.cells #[.pointer (some ⟨w.heap.size + 1, 0, none⟩)] 102)) := (Below.refl _ _).alloc (Nat.le_refl _) _
  exact ⟨w2.heap.size, w.heap.size + 1, w.heap.size, rfl, ⟨⟨(Go.MapKept.heap_alloc w2 _).1, H2.out.1.below hb⟩, H2.out.2.trans (hb.mono H2.out.2.size), Nat.le_refl _, by omega, H2.out.2.size⟩⟩
end Go.Proofs.Ytoknlpecbdlbfaa.PL

-- Custody: told, Things, Out, and what no custody answers.
namespace Go.Proofs.Ytoknlpecbdlbfaa.PL
open Go Go.RowKit Go.Maps Go.Sort Go.Shelf Go.Proofs Go.Proofs.YtoknlpecbdlbfaaW.PrintWords Go.Proofs.YtoknlpecbdlbfaaW.PrintLast
set_option maxRecDepth 100000 in
set_option maxHeartbeats 2000000 in
theorem ctold_walk (p : Value) (w : World) (l : List S82) (h : Gives 53 p 44 w l) (hs : l.length * 40 ≤ 140737488355328) : Gives 37 p 82 w l := by
  unfold Gives
  have HS := Lib.hid h.slice
  have HH := Lib.hid hs
  clear h hs
  go_enter Try.func37, Try.ntmps37
  go_wp2_with (first
    | (go_at_call 53; refine HS.out.mono ?_; rintro e w1 ⟨A, c, rfl, H1⟩))
  go_loopg [4, 5, 6] (l.length + 1) (fun kq v4 v5 v6 w' => ∃ k : Nat, v5 = .int .i64 k ∧ Hid (kq + k = l.length + 1 ∧ k ≤ l.length ∧ Kd.R k82 82 w' w1.heap.size (fun _ => True) v4 (l.take k) ∧ Below w1.heap.size w1 w'))
  case atStart =>
    exact ⟨0, rfl, ⟨rfl, Nat.zero_le _, Kd.R_nil _ _ _ _ _, Below.refl _ _⟩⟩
  case round =>
    obtain ⟨k, rfl, HI⟩ := hrel
    by_cases hk : k < l.length
    · have hC : Kd.C k82 wr A l.length l := Kd.C_below H1.out.1 HI.out.2.2.2
      have h4 : ∀ (w' : World), Below w1.heap.size w1 w' → Kd.C k82 w' A l.length l := fun w' hb => Kd.C_below H1.out.1 hb
      obtain ⟨ad, eA, x0, x1, x2, x3⟩ := at_T82 hC (k : Int) (by omega) (by omega)
      simp only [Int.toNat_natCast] at x0 x1 x2 x3
      have hx : ∀ (w' : World), Below w1.heap.size w1 w' → w'.cell? ⟨(ad.add (k * 4)).block, (ad.add (k * 4)).off + 3, none⟩ = some (.int .i64 (rd_T82 l (k : Int)).f1) := fun w' hb => by
        obtain ⟨ad', eA', _, _, _, y3⟩ := at_T82 (h4 w' hb) (k : Int) (by omega) (by omega)
        obtain rfl : ad = ad' := by rw [eA] at eA'; injection eA'
        simpa only [Int.toNat_natCast] using y3
      obtain ⟨⟨⟨a0, a1, a2⟩, n⟩, ha⟩ : ∃ a, rd_T82 l (k : Int) = a := ⟨_, rfl⟩
      rw [ha] at x0 x1 x2 x3 hx
      have HX := Lib.hid hx
      clear hC h4 hx
      subst eA
      have HK := Lib.hid (And.intro hk ha)
      clear ha
      go_wp2
      obtain ⟨W, hW⟩ : ∃ W, W = wr.alloc (.cells #[.int .i64 a0, .int .i64 a1, .string a2] 42) := ⟨_, rfl⟩
      have HB : Below wr.heap.size wr W := by rw [hW]; exact (Below.refl _ _).alloc (Nat.le_refl _) _
      have k0 : W.cell? ⟨wr.heap.size, 0, none⟩ = some (.int .i64 a0) := by rw [hW]; simp
      have k1 : W.cell? ⟨wr.heap.size, 1, none⟩ = some (.int .i64 a1) := by rw [hW]; simp
      have k2 : W.cell? ⟨wr.heap.size, 2, none⟩ = some (.string a2) := by rw [hW]; simp
      have hGb : W.drew.heap[wr.heap.size]? = some (.cells #[.int .i64 a0, .int .i64 a1, .string a2] 42 (0, 0)) := by rw [hW]; exact (Go.MapKept.heap_alloc wr _).1
      rw [← hW]
      have hB2 : Below w1.heap.size w1 W.drew := (HI.out.2.2.2.trans (HB.mono HI.out.2.2.2.size)).drew
      have hR : Kd.R k82 82 W.drew w1.heap.size (fun _ => True) u4 (l.take k) := Kd.R_drew (Kd.R_below HI.out.2.2.1 HB)
      have hlen : ((l.take k).length + 1) * 40 ≤ 140737488355328 := by
        have h1 := HK.out.1
        have h3 := HH.out
        simp
        omega
      have HP := Lib.hid (And.intro hR (And.intro hB2 (And.intro hB2.size hlen)))
      clear x0 x1 x2 x3 HB hW hR hlen
      generalize wr.heap.size = G at k0 k1 k2 hGb ⊢
      have hSD : W.drew.cell? ⟨G, 0, none⟩ = some (.int .i64 a0) ∧ W.drew.cell? ⟨G, 1, none⟩ = some (.int .i64 a1) ∧ W.drew.cell? ⟨G, 2, none⟩ = some (.string a2) ∧ W.drew.cell? ⟨(ad.add (k * 4)).block, (ad.add (k * 4)).off + 3, none⟩ = some (.int .i64 n) := ⟨k0, k1, k2, HX.out _ hB2⟩
      have HSA := Lib.hid (show ∀ (w' : World) (o : Obj), (w'.cell? ⟨G, 0, none⟩ = some (.int .i64 a0) ∧ w'.cell? ⟨G, 1, none⟩ = some (.int .i64 a1) ∧ w'.cell? ⟨G, 2, none⟩ = some (.string a2) ∧ w'.cell? ⟨(ad.add (k * 4)).block, (ad.add (k * 4)).off + 3, none⟩ = some (.int .i64 n)) → ((w'.alloc o).cell? ⟨G, 0, none⟩ = some (.int .i64 a0) ∧ (w'.alloc o).cell? ⟨G, 1, none⟩ = some (.int .i64 a1) ∧ (w'.alloc o).cell? ⟨G, 2, none⟩ = some (.string a2) ∧ (w'.alloc o).cell? ⟨(ad.add (k * 4)).block, (ad.add (k * 4)).off + 3, none⟩ = some (.int .i64 n)) from fun w' o ⟨s0, s1, s2, s3⟩ =>
        ⟨((Below.refl w'.heap.size w').alloc (Nat.le_refl _) o |>.cell (World.block_lt_of_cell? w' _ s0)).trans s0, ((Below.refl w'.heap.size w').alloc (Nat.le_refl _) o |>.cell (World.block_lt_of_cell? w' _ s1)).trans s1, ((Below.refl w'.heap.size w').alloc (Nat.le_refl _) o |>.cell (World.block_lt_of_cell? w' _ s2)).trans s2, ((Below.refl w'.heap.size w').alloc (Nat.le_refl _) o |>.cell (World.block_lt_of_cell? w' _ s3)).trans s3⟩)
      have HSG := Lib.hid (show ∀ w5 : World, W.drew.grownBy w5 u4.ownBlock → Below w1.heap.size w1 w5 → (w5.cell? ⟨G, 0, none⟩ = some (.int .i64 a0) ∧ w5.cell? ⟨G, 1, none⟩ = some (.int .i64 a1) ∧ w5.cell? ⟨G, 2, none⟩ = some (.string a2) ∧ w5.cell? ⟨(ad.add (k * 4)).block, (ad.add (k * 4)).off + 3, none⟩ = some (.int .i64 n)) from fun w5 hg hb => by
        have n1 := Kd.R_ne HP.out.1 hGb (by decide)
        have e1 := hg.block G (Array.getElem?_eq_some_iff.1 hGb).1 n1
        exact ⟨(World.cell?_of_block (a := ⟨G, 0, none⟩) e1).trans k0, (World.cell?_of_block (a := ⟨G, 1, none⟩) e1).trans k1, (World.cell?_of_block (a := ⟨G, 2, none⟩) e1).trans k2, HX.out _ hb⟩)
      clear k0 k1 k2 hGb hB2
      go_region_held3 (fun w' => w'.cell? ⟨G, 0, none⟩ = some (.int .i64 a0) ∧ w'.cell? ⟨G, 1, none⟩ = some (.int .i64 a1) ∧ w'.cell? ⟨G, 2, none⟩ = some (.string a2) ∧ w'.cell? ⟨(ad.add (k * 4)).block, (ad.add (k * 4)).off + 3, none⟩ = some (.int .i64 n))
        (first | assumption | exact HSA.out _ _ (by assumption))
        (first | (refine Kd.R_append_step k82 (w0 := w1) (W := W.drew) w1.heap.size (by rfl) (.tmp 20) (.tmp 34) 27 82 (.agg #[(.int .i64 0), (.int .i64 0), (.string ⟨#[]⟩), (.int .i64 0)]) 40 rfl Try.underlying27 info82 rfl (by decide) (by decide) u4 (l.take k) ⟨⟨a0, a1, a2⟩, n⟩ [.int .i64 a0, .int .i64 a1, .string a2, .int .i64 n] (fun _ => True) (fun _ => False) rfl rfl (k82_mkM _ _ _ _) (fun _ h => h.elim) (fun _ _ => trivial) HP.out.1 HP.out.2.1 HP.out.2.2.1 HP.out.2.2.2 ?_; intro v1 w5 ho hb hg hat; have kk := HSG.out w5 hg hb; have H5 := Lib.hid (And.intro ho hb); clear ho hb hg hat))
      go_wp2
      go_roundg (l.length - k)
      case measure => have := HI.out.1; have := HK.out.1; omega
      case rel =>
        have h1 := HK.out.1
        have h2 := HI.out.1
        have h3 := HH.out
        refine ⟨k + 1, ?_, ⟨by omega, by omega, ?_, H5.out.2⟩⟩
        · rw [wrap_id (by omega) (by omega)]; rfl
        · have e1 : l.take (k + 1) = l.take k ++ [⟨⟨a0, a1, a2⟩, n⟩] := by
            have e2 : l[k] = ⟨⟨a0, a1, a2⟩, n⟩ := by
              have := HK.out.2
              unfold rd_T82 at this
              simpa [List.getD, h1] using this
            rw [List.take_succ_eq_append_getElem h1, e2]
          rw [e1]
          exact H5.out.1
    · have hk' : (k < l.length) = False := eq_false hk
      have HK := Lib.hid hk
      clear hk
      go_wp2
      go_ret
      obtain ⟨h1, h2, h3, h4⟩ := HI.out
      have e1 : l.take k = l := List.take_of_length_le (by have := HK.out; omega)
      rw [e1] at h3
      exact ⟨_, rfl, Kd.R_lower h3 H1.out.2.1.size, H1.out.2.1.trans (h4.mono H1.out.2.1.size)⟩
/-- What custody's told hands back. -/
theorem ctold_gives {p g b : Nat} {M : List (S42 × Int)} {L : List S82} {w : World} (h : CU w p g b M) (hr : Rep M L) (hs : L.length ≤ 1000000) :
    Calls Try.prog 37 #[.pointer (some ⟨p, 0, none⟩)] w fun o w' => ∃ (A : Option Addr) (c : Nat), o = .returned (.slice A L.length c) ∧ Hid (Kd.C k82 w' A L.length L ∧ Below w.heap.size w w' ∧ L.length ≤ c) :=
  (ctold_walk _ w L (call_any h (all_gives h.lg hr (by omega))) (by omega)).slice
end Go.Proofs.Ytoknlpecbdlbfaa.PL

-- Custody: lines plain; CustodyNobody, walked (lists of at most two million).
namespace Go.Proofs.Ytoknlpecbdlbfaa.PL
open Go Go.RowKit Go.Maps Go.Sort Go.Shelf Go.Proofs Go.Proofs.YtoknlpecbdlbfaaW.PrintWords Go.Proofs.YtoknlpecbdlbfaaW.PrintLast
/-- The program's line. -/
def toLn (x : S131) : S125 := ⟨x.f0, x.f1, x.f2, x.f3, x.f4, x.f5⟩
/-- An act's own cells, at the block k. -/
structure A8 (W : World) (k : Nat) (cs : Array Value) : Prop where
  blk : W.heap[k]? = some (.cells cs 72 (0, 0))
theorem A8.below {W W' : World} {k : Nat} {cs : Array Value} (h : A8 W k cs) (hb : Below W.heap.size W W') : A8 W' k cs := ⟨(hb.block k (Array.getElem?_eq_some_iff.1 h.blk).1).trans h.blk⟩
/-- What the walk of CustodyNobody has laid. -/
structure NV (w : World) (cs : Array Value) (p : Value) (W : World) : Prop where
  a8 : A8 W w.heap.size cs
  c0 : W.cell? ⟨w.heap.size + 1, 0, none⟩ = some (.pointer none)
  c1 : W.cell? ⟨w.heap.size + 1 + 1, 0, none⟩ = some (.pointer none)
  c2 : W.cell? ⟨w.heap.size + 1 + 1, 1, none⟩ = some (.pointer (some ⟨w.heap.size + 1, 0, none⟩))
  no : NoCU W p
  bl : Below w.heap.size w W
theorem NV.below {w : World} {cs : Array Value} {p : Value} {W W' : World} (h : NV w cs p W) (hb : Below W.heap.size W W') : NV w cs p W' :=
  ⟨h.a8.below hb, cell_keep hb h.c0, cell_keep hb h.c1, cell_keep hb h.c2, h.no.below hb, h.bl.trans (hb.mono h.bl.size)⟩
theorem NV.at {w : World} {cs : Array Value} {W : World} (h : NV w cs (.pointer none) W) {k : Nat} (hk : k < 2) : ∃ p, W.cell? ⟨w.heap.size + 1 + 1, k, none⟩ = some p ∧ NV w cs p W := by
  have h2 : k = 0 ∨ k = 1 := by omega
  rcases h2 with rfl | rfl
  · exact ⟨_, h.c1, h⟩
  · exact ⟨_, h.c2, h.a8, h.c0, h.c1, h.c2, .inr ⟨_, rfl, h.c0⟩, h.bl⟩
theorem NV.new {w : World} {cs : Array Value} : NV w cs (.pointer none) (((w.alloc (.cells cs 72)).alloc (.cells #[.pointer none] 102)).alloc (.cells #[.pointer none, .pointer (some ⟨w.heap.size + 1, 0, none⟩)] 66)) := by
  have e1 : (w.alloc (.cells cs 72)).heap.size = w.heap.size + 1 := by simp
  have e2 : ((w.alloc (.cells cs 72)).alloc (.cells #[.pointer none] 102)).heap.size = w.heap.size + 1 + 1 := by simp
  have hA := (Go.MapKept.heap_alloc w (.cells cs 72)).1
  have hB := (Go.MapKept.heap_alloc (w.alloc (.cells cs 72)) (.cells #[.pointer none] 102))
  have hC := (Go.MapKept.heap_alloc ((w.alloc (.cells cs 72)).alloc (.cells #[.pointer none] 102)) (.cells #[.pointer none, .pointer (some ⟨w.heap.size + 1, 0, none⟩)] 66))
  have hb : Below w.heap.size w (((w.alloc (.cells cs 72)).alloc (.cells #[.pointer none] 102)).alloc (.cells #[.pointer none, .pointer (some ⟨w.heap.size + 1, 0, none⟩)] 66)) := (((Below.refl _ _).alloc (Nat.le_refl _) _).alloc (by simp) _).alloc (by simp; omega) _
  rw [e1] at hB
  rw [e2] at hC
  have h1 := (hC.2 w.heap.size (by omega)).trans ((hB.2 w.heap.size (by omega)).trans hA)
  have h2 := (hC.2 (w.heap.size + 1) (by omega)).trans hB.1
  have h3 := hC.1
  clear hA hB hC e1 e2
  generalize (((w.alloc (.cells cs 72)).alloc (.cells #[.pointer none] 102)).alloc (.cells #[.pointer none, .pointer (some ⟨w.heap.size + 1, 0, none⟩)] 66)) = W at h1 h2 h3 hb ⊢
  refine ⟨⟨h1⟩, ?_, ?_, ?_, .inl rfl, hb⟩
  · unfold World.cell?; rw [h2]; rfl
  · unfold World.cell?; rw [h3]; rfl
  · unfold World.cell?; rw [h3]; rfl
end Go.Proofs.Ytoknlpecbdlbfaa.PL
