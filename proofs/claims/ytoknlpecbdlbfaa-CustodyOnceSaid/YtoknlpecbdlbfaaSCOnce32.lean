/- Part 32 of the proof's texts: what the theorem needs of them. -/
import Derived.Test.YtoknlpecbdlbfaaSCOnce31
import Derived.Test.YtoknlpecbdlbfaaSCOnce15
import Derived.WalkKit
import Derived.ProofKit

-- Custody, the document: Move, walked.
namespace Go.Proofs.Ytoknlpecbdlbfaa.PL
open Go Go.RowKit Go.Maps Go.Sort Go.Shelf Go.Proofs Go.Proofs.YtoknlpecbdlbfaaW.PrintWords Go.Proofs.YtoknlpecbdlbfaaW.PrintLast
set_option maxRecDepth 100000 in
theorem rwr_same (m b : Int) (w : World) : Calls Try.prog 78 #[.int .i64 m, .int .i64 b] w fun e w' => e = .returned (.bool (wrB m b)) ∧ w' = w := by
  unfold wrB
  by_cases h1 : m < 1
  · have e1 : decide (m < 1 ∨ 32 < m ∨ b < 1 ∨ 4 < b) = true := decide_eq_true (by omega)
    have f1 : decide (m < 1) = true := decide_eq_true h1
    rw [e1]
    go_enter Try.func78, Try.ntmps78
    go_wp2
    go_ret
    exact ⟨by simp [*], rfl⟩
  · have f1 : decide (m < 1) = false := decide_eq_false h1
    by_cases h2 : m > 32
    · have e1 : decide (m < 1 ∨ 32 < m ∨ b < 1 ∨ 4 < b) = true := decide_eq_true (by omega)
      have f2 : decide (m > 32) = true := decide_eq_true h2
      rw [e1]
      go_enter Try.func78, Try.ntmps78
      go_wp2
      go_ret
      exact ⟨by simp [*], rfl⟩
    · have f2 : decide (m > 32) = false := decide_eq_false h2
      by_cases h3 : b < 1
      · have e1 : decide (m < 1 ∨ 32 < m ∨ b < 1 ∨ 4 < b) = true := decide_eq_true (by omega)
        have f3 : decide (b < 1) = true := decide_eq_true h3
        rw [e1]
        go_enter Try.func78, Try.ntmps78
        go_wp2
        go_ret
        exact ⟨by simp [*], rfl⟩
      · have f3 : decide (b < 1) = false := decide_eq_false h3
        have e1 : decide (m < 1 ∨ 32 < m ∨ b < 1 ∨ 4 < b) = decide (b > 4) := decide_eq_decide.2 (by omega)
        rw [e1]
        go_enter Try.func78, Try.ntmps78
        go_wp2
        go_ret
        exact ⟨rfl, rfl⟩
theorem below_drewN (w : World) : ∀ n : Nat, Below w.heap.size w (w.drewN n) := fun n => by
  have h0 : w.grownBy (w.drewN n) none := ⟨rfl, rfl, rfl, by simp, fun j hj _ => by simp⟩
  exact grown_to h0
theorem cellA {W : World} {k : Nat} {cs : Array Value} {t : TypeId} {f : Nat × Nat} (h : W.heap[k]? = some (.cells cs t f)) (i : Nat) : W.cell? ⟨k, i, none⟩ = cs[i]? := by
  unfold World.cell?
  rw [h]
  rfl
/-- A line's cells. -/
def L6 (ad : Addr) (k : Nat) (a0 a1 a2 a3 : Int) (a4 : ByteArray) (a5 : Int) (W : World) : Prop := W.cell? (ad.add (k * 6)) = some (.int .i64 a0) ∧ W.cell? ⟨(ad.add (k * 6)).block, (ad.add (k * 6)).off + 1, none⟩ = some (.int .i64 a1) ∧ W.cell? ⟨(ad.add (k * 6)).block, (ad.add (k * 6)).off + 2, none⟩ = some (.int .i64 a2) ∧ W.cell? ⟨(ad.add (k * 6)).block, (ad.add (k * 6)).off + 3, none⟩ = some (.int .i64 a3) ∧ W.cell? ⟨(ad.add (k * 6)).block, (ad.add (k * 6)).off + 4, none⟩ = some (.string a4) ∧ W.cell? ⟨(ad.add (k * 6)).block, (ad.add (k * 6)).off + 5, none⟩ = some (.int .i64 a5)
theorem L6.below {ad : Addr} {k : Nat} {a0 a1 a2 a3 : Int} {a4 : ByteArray} {a5 : Int} {W W' : World} (h : L6 ad k a0 a1 a2 a3 a4 a5 W) (hb : Below W.heap.size W W') : L6 ad k a0 a1 a2 a3 a4 a5 W' :=
  ⟨cell_keep hb h.1, cell_keep hb h.2.1, cell_keep hb h.2.2.1, cell_keep hb h.2.2.2.1, cell_keep hb h.2.2.2.2.1, cell_keep hb h.2.2.2.2.2⟩
/-- What a line posts, as the document has it. -/
def rlE (x : S131) : S47 := ⟨⟨x.f0, x.f1, x.f4⟩, ⟨x.f2, x.f3, x.f4⟩, x.f5⟩
theorem rlE_map (X : List S131) : (X.map rlE).map toE = (X.map toLn).map lnE := by
  rw [List.map_map, List.map_map]
  rfl
set_option maxRecDepth 100000 in
set_option maxHeartbeats 4000000 in
theorem rcmove_any (w : World) (A : Option Addr) (c : Nat) (L : List S82) (hC : Kd.C k82 w A L.length L) (hc : L.length ≤ c) (hL : L.length ≤ 1000000) (B : Option Addr) (d : Nat) (X : List S131) (hr : Kd.C k131 w B X.length X) (hX : X.length ≤ 4000) :
    Calls Try.prog 67 #[.slice A L.length c, .slice B X.length d] w fun o w' => ∃ (A' : Option Addr) (c' : Nat), o = .returned (.tuple #[.slice A' (cmR L (X.map toLn)).1.length c', .int .i64 (cmR L (X.map toLn)).2.1, .int .i64 (cmR L (X.map toLn)).2.2]) ∧ Hid (Kd.C k82 w' A' (cmR L (X.map toLn)).1.length (cmR L (X.map toLn)).1 ∧ (cmR L (X.map toLn)).1.length ≤ c' ∧ Below w.heap.size w w') := by
  have HU := Lib.hid (And.intro hC (And.intro hc (And.intro hL (And.intro hr hX))))
  clear hC hc hL hr hX
  go_enter Try.func67, Try.ntmps67
  go_wp2_with (fail)
  go_loopg [7, 8, 9, 10] (X.length + 1) (fun kq v7 v8 v9 v10 w' => ∃ k : Nat, v8 = .int .i64 k ∧ Hid (kq + k = X.length + 1 ∧ k ≤ X.length ∧ Kd.R k47 47 w' w.heap.size (fun _ => True) v7 ((X.take k).map rlE) ∧ Below w.heap.size w w' ∧ fbL 0 (X.map toLn) = fbL k ((X.drop k).map toLn)))
  case atStart =>
    exact ⟨0, rfl, ⟨rfl, Nat.zero_le _, Kd.R_nil _ _ _ _ _, Below.refl _ _, rfl⟩⟩
  case round =>
    obtain ⟨k, rfl, HI⟩ := hrel
    by_cases hk : k < X.length
    · obtain ⟨ad, eA, x0, x1, x2, x3, x4, x5⟩ := at_T131 HU.out.2.2.2.1 (k : Int) (by omega) (by omega)
      simp only [Int.toNat_natCast] at x0 x1 x2 x3 x4 x5
      have e1 : rd_T131 X (k : Int) = X[k] := by
        unfold rd_T131
        simp [List.getD, hk]
      have htk : (X.take (k + 1)).map rlE = (X.take k).map rlE ++ [rlE X[k]] := by rw [List.take_succ_eq_append_getElem hk, List.map_append]; rfl
      have hfb : fbL k ((X.drop k).map toLn) = if wrB X[k].f0 X[k].f1 = true ∨ wrB X[k].f2 X[k].f3 = true then some k else fbL (k + 1) ((X.drop (k + 1)).map toLn) := by rw [List.drop_eq_getElem_cons hk]; rfl
      rw [e1] at x0 x1 x2 x3 x4 x5
      obtain ⟨⟨a0, a1, a2, a3, a4, a5⟩, ha⟩ : ∃ a, X[k] = a := ⟨_, rfl⟩
      rw [ha] at x0 x1 x2 x3 x4 x5 htk hfb
      simp only at x0 x1 x2 x3 x4 x5 hfb
      have hl64 : wrap64 ((k : Int) + 1) = ((k + 1 : Nat) : Int) := by
        have h3 := HU.out.2.2.2.2
        rw [wrap_id (by omega) (by omega)]; rfl
      have hlen : ((X.take k).map rlE).length ≤ 4000 := by
        have := HU.out.2.2.2.2
        rw [List.length_map, List.length_take]
        omega
      have q1 : (0 ≤ (k : Int)) = True := eq_true (by omega)
      have q2 : ((k : Int) < (X.length : Int)) = True := eq_true (by omega)
      obtain ⟨xs0, hxs0⟩ : ∃ l, (X.take k).map rlE = l := ⟨_, rfl⟩
      have hR0 := HI.out.2.2.1
      rw [hxs0] at htk hlen hR0
      have HT := Lib.hid htk
      have HF := Lib.hid hfb
      have HLn := Lib.hid hlen
      have HR0 := Lib.hid hR0
      have Hw := Lib.hid hl64
      have HK := Lib.hid hk
      obtain ⟨z1, hz1⟩ : ∃ z, wrB a0 a1 = z := ⟨_, rfl⟩
      obtain ⟨z2, hz2⟩ : ∃ z, wrB a2 a3 = z := ⟨_, rfl⟩
      have HW1 := Lib.hid (show ∀ W, Calls Try.prog 78 #[.int .i64 a0, .int .i64 a1] W fun e w' => e = .returned (.bool z1) ∧ w' = W from fun W => by rw [← hz1]; exact rwr_same a0 a1 W)
      have HW2 := Lib.hid (show ∀ W, Calls Try.prog 78 #[.int .i64 a2, .int .i64 a3] W fun e w' => e = .returned (.bool z2) ∧ w' = W from fun W => by rw [← hz2]; exact rwr_same a2 a3 W)
      have HZ := Lib.hid (And.intro hz1 hz2)
      have HS0 := Lib.hid (show L6 ad k a0 a1 a2 a3 a4 a5 w from ⟨x0, x1, x2, x3, x4, x5⟩)
      have hr6 := HS0.out.below HI.out.2.2.2.1
      replace x0 := hr6.1
      replace x1 := hr6.2.1
      replace x2 := hr6.2.2.1
      replace x3 := hr6.2.2.2.1
      replace x4 := hr6.2.2.2.2.1
      replace x5 := hr6.2.2.2.2.2
      clear hr6
      subst eA
      clear e1 htk hfb ha hl64 hlen hxs0 hR0 hk hz1 hz2
      cases z1 with
      | true =>
        go_wp2_with (fail)
        go_quiet (first | (go_at_call_has 78 (Value.int IntKind.i64 a0); refine Calls.quiet_of_same (HW1.out _)))
        go_wp2
        go_ret3
        have hb := HI.out.2.2.2.1.trans ((below_drewN wr nq).mono HI.out.2.2.2.1.size)
        have e9 : cmR L (X.map toLn) = (L, (k : Int), 22) := cmR_bad (by rw [HI.out.2.2.2.2, HF.out]; exact if_pos (.inl HZ.out.1))
        rw [e9]
        exact ⟨A, c, rfl, ⟨Kd.C_below HU.out.1 hb, HU.out.2.1, hb⟩⟩
      | false =>
        cases z2 with
        | true =>
          go_wp2_with (fail)
          go_quiet (first | (go_at_call_has 78 (Value.int IntKind.i64 a0); refine Calls.quiet_of_same (HW1.out _)) | (go_at_call_has 78 (Value.int IntKind.i64 a2); refine Calls.quiet_of_same (HW2.out _)))
          go_wp2
          go_ret3
          have hb := HI.out.2.2.2.1.trans ((below_drewN wr nq).mono HI.out.2.2.2.1.size)
          have e9 : cmR L (X.map toLn) = (L, (k : Int), 22) := cmR_bad (by rw [HI.out.2.2.2.2, HF.out]; exact if_pos (.inr HZ.out.2))
          rw [e9]
          exact ⟨A, c, rfl, ⟨Kd.C_below HU.out.1 hb, HU.out.2.1, hb⟩⟩
        | false =>
          go_wp2_with (fail)
          go_quiet (first | (go_at_call_has 78 (Value.int IntKind.i64 a0); refine Calls.quiet_of_same (HW1.out _)) | (go_at_call_has 78 (Value.int IntKind.i64 a2); refine Calls.quiet_of_same (HW2.out _)))
          obtain ⟨W, hW⟩ : ∃ W, wr.drewN nq = W := ⟨_, rfl⟩
          have hBW : Below wr.heap.size wr W := by rw [← hW]; exact below_drewN wr nq
          rw [hW]
          have HBW := Lib.hid (HI.out.2.2.2.1.trans (hBW.mono HI.out.2.2.2.1.size))
          have HRW := Lib.hid (Kd.R_below HR0.out hBW)
          obtain ⟨s0, s1, s2, s3, s4, s5⟩ := HS0.out.below HBW.out
          obtain ⟨t0, t1, t2, t3, t4, t5⟩ := (HS0.out.below HBW.out).below ((Below.refl _ _).alloc (Nat.le_refl _) (.cells #[.int .i64 0, .int .i64 0, .string ⟨#[]⟩] 45))
          clear hW hBW x0 x1 x2 x3 x4 x5 HR0
          go_wp2_with (fail)
          go_region
          obtain ⟨G, hG⟩ : ∃ G, W.heap.size = G := ⟨_, rfl⟩
          obtain ⟨W2, hW2⟩ : ∃ W2, (W.alloc (.cells #[.int .i64 a0, .int .i64 a1, .string a4] 45)).drew = W2 := ⟨_, rfl⟩
          have hB2 : Below W.heap.size W W2 := by rw [← hW2]; exact ((Below.refl _ _).alloc (Nat.le_refl _) _).drew
          have hG2 : W2.heap[G]? = some (.cells #[.int .i64 a0, .int .i64 a1, .string a4] 45 (0, 0)) := by rw [← hW2, ← hG]; exact (Go.MapKept.heap_alloc W _).1
          rw [hW2, hG]
          have HBW2 := Lib.hid (HBW.out.trans (hB2.mono HBW.out.size))
          have HRW2 := Lib.hid (Kd.R_below HRW.out hB2)
          have HG2 := Lib.hid hG2
          clear s0 s1 s2 s3 s4 s5 t0 t1 t2 t3 t4 t5
          obtain ⟨s0, s1, s2, s3, s4, s5⟩ := HS0.out.below HBW2.out
          obtain ⟨t0, t1, t2, t3, t4, t5⟩ := (HS0.out.below HBW2.out).below ((Below.refl _ _).alloc (Nat.le_refl _) (.cells #[.int .i64 0, .int .i64 0, .string ⟨#[]⟩] 45))
          clear hW2 hG hB2 hG2 HRW HBW
          go_wp2_with (fail)
          go_region
          obtain ⟨G2, hGG⟩ : ∃ G, W2.heap.size = G := ⟨_, rfl⟩
          obtain ⟨W3, hW3⟩ : ∃ W3, (W2.alloc (.cells #[.int .i64 a2, .int .i64 a3, .string a4] 45)).drew = W3 := ⟨_, rfl⟩
          have hB3 : Below W2.heap.size W2 W3 := by rw [← hW3]; exact ((Below.refl _ _).alloc (Nat.le_refl _) _).drew
          have hG3 : W3.heap[G2]? = some (.cells #[.int .i64 a2, .int .i64 a3, .string a4] 45 (0, 0)) := by rw [← hW3, ← hGG]; exact (Go.MapKept.heap_alloc W2 _).1
          have hG1 : W3.heap[G]? = some (.cells #[.int .i64 a0, .int .i64 a1, .string a4] 45 (0, 0)) := (hB3.block _ (Array.getElem?_eq_some_iff.1 HG2.out).1).trans HG2.out
          rw [hW3, hGG]
          have HBW3 := Lib.hid ((HBW2.out.trans (hB3.mono HBW2.out.size)).drew)
          have HRW3 := Lib.hid (show Kd.R k47 47 W3.drew w.heap.size (fun _ => True) u7 xs0 from Kd.R_below HRW2.out hB3.drew)
          have HG3 := Lib.hid (And.intro hG1 hG3)
          clear s0 s1 s2 s3 s4 s5 t0 t1 t2 t3 t4 t5 hW3 hGG hB3 hG3 hG1 HRW2 HBW2 HG2
          have HQ := Lib.hid (show (xs0.length + 1) * 72 ≤ 140737488355328 by have := HLn.out; omega)
          have HSX := Lib.hid (show ∀ W4, Below w.heap.size w W4 → W4.heap[G]? = some (.cells #[.int .i64 a0, .int .i64 a1, .string a4] 45 (0, 0)) → W4.heap[G2]? = some (.cells #[.int .i64 a2, .int .i64 a3, .string a4] 45 (0, 0)) → (W4.cell? ⟨G, 0, none⟩ = some (.int .i64 a0) ∧ W4.cell? ⟨G, 1, none⟩ = some (.int .i64 a1) ∧ W4.cell? ⟨G, 2, none⟩ = some (.string a4) ∧ W4.cell? ⟨G2, 0, none⟩ = some (.int .i64 a2) ∧ W4.cell? ⟨G2, 1, none⟩ = some (.int .i64 a3) ∧ W4.cell? ⟨G2, 2, none⟩ = some (.string a4) ∧ W4.cell? ⟨(ad.add (k * 6)).block, (ad.add (k * 6)).off + 5, none⟩ = some (.int .i64 a5)) from fun W4 h1 h2 h3 => ⟨cellA h2 0, cellA h2 1, cellA h2 2, cellA h3 0, cellA h3 1, cellA h3 2, (HS0.out.below h1).2.2.2.2.2⟩)
          have hSD : (W3.drew.cell? ⟨G, 0, none⟩ = some (.int .i64 a0) ∧ W3.drew.cell? ⟨G, 1, none⟩ = some (.int .i64 a1) ∧ W3.drew.cell? ⟨G, 2, none⟩ = some (.string a4) ∧ W3.drew.cell? ⟨G2, 0, none⟩ = some (.int .i64 a2) ∧ W3.drew.cell? ⟨G2, 1, none⟩ = some (.int .i64 a3) ∧ W3.drew.cell? ⟨G2, 2, none⟩ = some (.string a4) ∧ W3.drew.cell? ⟨(ad.add (k * 6)).block, (ad.add (k * 6)).off + 5, none⟩ = some (.int .i64 a5)) := HSX.out W3.drew HBW3.out HG3.out.1 HG3.out.2
          have HSA := Lib.hid (show ∀ (w' : World) (o : Obj), ((w'.cell? ⟨G, 0, none⟩ = some (.int .i64 a0) ∧ w'.cell? ⟨G, 1, none⟩ = some (.int .i64 a1) ∧ w'.cell? ⟨G, 2, none⟩ = some (.string a4) ∧ w'.cell? ⟨G2, 0, none⟩ = some (.int .i64 a2) ∧ w'.cell? ⟨G2, 1, none⟩ = some (.int .i64 a3) ∧ w'.cell? ⟨G2, 2, none⟩ = some (.string a4) ∧ w'.cell? ⟨(ad.add (k * 6)).block, (ad.add (k * 6)).off + 5, none⟩ = some (.int .i64 a5))) → (((w'.alloc o).cell? ⟨G, 0, none⟩ = some (.int .i64 a0) ∧ (w'.alloc o).cell? ⟨G, 1, none⟩ = some (.int .i64 a1) ∧ (w'.alloc o).cell? ⟨G, 2, none⟩ = some (.string a4) ∧ (w'.alloc o).cell? ⟨G2, 0, none⟩ = some (.int .i64 a2) ∧ (w'.alloc o).cell? ⟨G2, 1, none⟩ = some (.int .i64 a3) ∧ (w'.alloc o).cell? ⟨G2, 2, none⟩ = some (.string a4) ∧ (w'.alloc o).cell? ⟨(ad.add (k * 6)).block, (ad.add (k * 6)).off + 5, none⟩ = some (.int .i64 a5))) from fun w' o ⟨s0, s1, s2, s3, s4, s5, s6⟩ => by
            have hb := (Below.refl w'.heap.size w').alloc (Nat.le_refl _) o
            exact ⟨cell_keep hb s0, cell_keep hb s1, cell_keep hb s2, cell_keep hb s3, cell_keep hb s4, cell_keep hb s5, cell_keep hb s6⟩)
          have HSG := Lib.hid (show ∀ (w6 : World), Below w.heap.size w w6 → W3.drew.grownBy w6 u7.ownBlock → (w6.cell? ⟨G, 0, none⟩ = some (.int .i64 a0) ∧ w6.cell? ⟨G, 1, none⟩ = some (.int .i64 a1) ∧ w6.cell? ⟨G, 2, none⟩ = some (.string a4) ∧ w6.cell? ⟨G2, 0, none⟩ = some (.int .i64 a2) ∧ w6.cell? ⟨G2, 1, none⟩ = some (.int .i64 a3) ∧ w6.cell? ⟨G2, 2, none⟩ = some (.string a4) ∧ w6.cell? ⟨(ad.add (k * 6)).block, (ad.add (k * 6)).off + 5, none⟩ = some (.int .i64 a5)) from fun w6 hb hg => by
            have f1 : W3.drew.heap[G]? = _ := HG3.out.1
            have f2 : W3.drew.heap[G2]? = _ := HG3.out.2
            have e1 := hg.block G (Array.getElem?_eq_some_iff.1 f1).1 (Kd.R_ne HRW3.out f1 (by decide))
            have e2 := hg.block G2 (Array.getElem?_eq_some_iff.1 f2).1 (Kd.R_ne HRW3.out f2 (by decide))
            exact HSX.out w6 hb (e1.trans f1) (e2.trans f2))
          go_wp2_with (fail)
          go_region_held3 (fun w' => (w'.cell? ⟨G, 0, none⟩ = some (.int .i64 a0) ∧ w'.cell? ⟨G, 1, none⟩ = some (.int .i64 a1) ∧ w'.cell? ⟨G, 2, none⟩ = some (.string a4) ∧ w'.cell? ⟨G2, 0, none⟩ = some (.int .i64 a2) ∧ w'.cell? ⟨G2, 1, none⟩ = some (.int .i64 a3) ∧ w'.cell? ⟨G2, 2, none⟩ = some (.string a4) ∧ w'.cell? ⟨(ad.add (k * 6)).block, (ad.add (k * 6)).off + 5, none⟩ = some (.int .i64 a5)))
            (first | assumption | exact HSA.out _ _ (by assumption))
            (first
              | (refine Kd.R_append_step k47 (w0 := w) (W := W3.drew) w.heap.size (by rfl) (.tmp 75) (.tmp 84) 30 47 (.agg #[(.int .i64 0), (.int .i64 0), (.string ⟨#[]⟩), (.int .i64 0), (.int .i64 0), (.string ⟨#[]⟩), (.int .i64 0)]) 72 rfl Try.underlying30 info47 rfl (by decide) (by decide) u7 xs0 ⟨⟨a0, a1, a4⟩, ⟨a2, a3, a4⟩, a5⟩ [.int .i64 a0, .int .i64 a1, .string a4, .int .i64 a2, .int .i64 a3, .string a4, .int .i64 a5] (fun _ => True) (fun _ => False) rfl rfl (k47_mkM _ _ _ _) (fun _ h => h.elim) (fun _ _ => trivial) HRW3.out HBW3.out HBW3.out.size HQ.out ?_; intro v1 w6 ho hb hg hat; have kk6 := HSG.out w6 hb hg; have H6 := Lib.hid (And.intro ho hb); clear ho hb hg hat))
          go_wp2
          go_roundg (X.length - k)
          case measure => have := HI.out.1; have := HK.out; omega
          case rel =>
            refine ⟨k + 1, by rw [Hw.out], ⟨by have := HI.out.1; have := HK.out; omega, HK.out, ?_, H6.out.2, ?_⟩⟩
            · rw [HT.out]
              exact H6.out.1
            · rw [HI.out.2.2.2.2, HF.out, if_neg (by rw [HZ.out.1, HZ.out.2]; simp)]
    · have q2 : ((k : Int) < (X.length : Int)) = False := eq_false (by omega)
      have hR0 := HI.out.2.2.1
      rw [List.take_of_length_le (by omega)] at hR0
      obtain ⟨A6, c6, rfl, hc6, hC6⟩ := Kd.R_reads hR0
      have hfn : fbL 0 (X.map toLn) = none := by
        rw [HI.out.2.2.2.2, List.drop_eq_nil_of_le (by omega)]
        rfl
      obtain ⟨R, hR⟩ : ∃ R, pstL L 0 L ((X.map rlE).map toE) = R := ⟨_, rfl⟩
      have E9 := Lib.hid (show cmR L (X.map toLn) = R from (cmR_ok hfn).trans (by rw [← rlE_map]; exact hR))
      have hb := HI.out.2.2.2.1
      have hpo := rpost_any A A6 c c6 L (X.map rlE) wr (Kd.C_below HU.out.1 hb) HU.out.2.1 hC6 (by rw [List.length_map]; have := HU.out.2.2.2.2; omega) HU.out.2.2.1 R hR
      rw [List.length_map] at hpo
      have HPO := Lib.hid hpo
      clear hR0 hc6 hC6 hfn hR hk hb hpo
      go_wp2_with (go_at_call 18; refine HPO.out.mono ?_; rintro e w5 ⟨A5, c5, rfl, H5⟩)
      go_ret3
      rw [E9.out]
      exact ⟨A5, c5, rfl, ⟨H5.out.1, H5.out.2.1, HI.out.2.2.2.1.trans (H5.out.2.2.mono HI.out.2.2.2.1.size)⟩⟩
end Go.Proofs.Ytoknlpecbdlbfaa.PL

-- Custody, the document: Shift and Trade, walked. (printed by genTC.py)
namespace Go.Proofs.Ytoknlpecbdlbfaa.PL
open Go Go.RowKit Go.Maps Go.Sort Go.Shelf Go.Proofs Go.Proofs.YtoknlpecbdlbfaaW.PrintWords Go.Proofs.YtoknlpecbdlbfaaW.PrintLast
theorem info131 : (Try.prog.info? 131).map (fun i => (i.zero, i.size, i.bytes)) = some (some (.agg #[(.int .i64 0), (.int .i64 0), (.int .i64 0), (.int .i64 0), (.string ⟨#[]⟩), (.int .i64 0)]), 6, 56) := by kernel_rfl
/-- The document's lines of a shift, and of a trade. -/
def shR (m fr tq : Int) (T : List S79) : List S131 := T.map (fun x => ⟨m, fr, m, tq, x.f0, x.f1⟩)
def trR (s b : Int) (T : List S79) (cur : ByteArray) (cash : Int) : List S131 := T.map (fun x => ⟨s, 1, b, 1, x.f0, x.f1⟩) ++ [⟨b, 1, s, 1, cur, cash⟩]
theorem shR_map (m fr tq : Int) (T : List S79) : (shR m fr tq T).map toLn = shX m fr tq T := by
  unfold shR shX
  rw [List.map_map]
  rfl
theorem trR_map (s b : Int) (T : List S79) (cur : ByteArray) (cash : Int) : (trR s b T cur cash).map toLn = trX s b T cur cash := by
  unfold trR trX
  rw [List.map_append, List.map_map]
  rfl
/-- A lot's cells. -/
def L2 (ad : Addr) (k : Nat) (a0 : ByteArray) (a1 : Int) (W : World) : Prop := W.cell? (ad.add (k * 2)) = some (.string a0) ∧ W.cell? ⟨(ad.add (k * 2)).block, (ad.add (k * 2)).off + 1, none⟩ = some (.int .i64 a1)
theorem L2.below {ad : Addr} {k : Nat} {a0 : ByteArray} {a1 : Int} {W W' : World} (h : L2 ad k a0 a1 W) (hb : Below W.heap.size W W') : L2 ad k a0 a1 W' :=
  ⟨cell_keep hb h.1, cell_keep hb h.2⟩
set_option maxRecDepth 100000 in
set_option maxHeartbeats 4000000 in
theorem rcshift_any (w : World) (A : Option Addr) (c : Nat) (L : List S82) (hC : Kd.C k82 w A L.length L) (hc : L.length ≤ c) (hL : L.length ≤ 1000000) (m fr tq : Int) (B : Option Addr) (d : Nat) (T : List S79) (hr : Kd.C k79 w B T.length T) (hT : T.length ≤ 1000) :
    Calls Try.prog 68 #[.slice A L.length c, .int .i64 m, .int .i64 fr, .int .i64 tq, .slice B T.length d] w fun o w' => ∃ (A' : Option Addr) (c' : Nat), o = .returned (.tuple #[.slice A' (cmR L (shX m fr tq T)).1.length c', .int .i64 (cmR L (shX m fr tq T)).2.1, .int .i64 (cmR L (shX m fr tq T)).2.2]) ∧ Hid (Kd.C k82 w' A' (cmR L (shX m fr tq T)).1.length (cmR L (shX m fr tq T)).1 ∧ (cmR L (shX m fr tq T)).1.length ≤ c' ∧ Below w.heap.size w w') := by
  have HU := Lib.hid (And.intro hC (And.intro hc (And.intro hL (And.intro hr hT))))
  clear hC hc hL hr hT
  go_enter Try.func68, Try.ntmps68
  go_wp2_with (fail)
  go_loopg [13, 14] (T.length + 1) (fun kq v7 v8 w' => ∃ k : Nat, v8 = .int .i64 k ∧ Hid (kq + k = T.length + 1 ∧ k ≤ T.length ∧ Kd.R k131 131 w' w.heap.size (fun _ => True) v7 ((T.take k).map (fun x => (⟨m, fr, m, tq, x.f0, x.f1⟩ : S131))) ∧ Below w.heap.size w w'))
  case atStart =>
    exact ⟨0, rfl, ⟨rfl, Nat.zero_le _, Kd.R_nil _ _ _ _ _, Below.refl _ _⟩⟩
  case round =>
    obtain ⟨k, rfl, HI⟩ := hrel
    by_cases hk : k < T.length
    · obtain ⟨ad, eA, x0, x1⟩ := at_T79 HU.out.2.2.2.1 (k : Int) (by omega) (by omega)
      simp only [Int.toNat_natCast] at x0 x1
      have e1 : rd_T79 T (k : Int) = T[k] := by
        unfold rd_T79
        simp [List.getD, hk]
      have htk : (T.take (k + 1)).map (fun x => (⟨m, fr, m, tq, x.f0, x.f1⟩ : S131)) = (T.take k).map (fun x => (⟨m, fr, m, tq, x.f0, x.f1⟩ : S131)) ++ [⟨m, fr, m, tq, T[k].f0, T[k].f1⟩] := by rw [List.take_succ_eq_append_getElem hk, List.map_append]; rfl
      rw [e1] at x0 x1
      obtain ⟨⟨a0, a1⟩, ha⟩ : ∃ a, T[k] = a := ⟨_, rfl⟩
      rw [ha] at x0 x1 htk
      simp only at x0 x1
      have hl64 : wrap64 ((k : Int) + 1) = ((k + 1 : Nat) : Int) := by
        have h3 := HU.out.2.2.2.2
        rw [wrap_id (by omega) (by omega)]; rfl
      have hlen : ((T.take k).map (fun x => (⟨m, fr, m, tq, x.f0, x.f1⟩ : S131))).length ≤ 1000 := by
        have := HU.out.2.2.2.2
        rw [List.length_map, List.length_take]
        omega
      have q1 : (0 ≤ (k : Int)) = True := eq_true (by omega)
      have q2 : ((k : Int) < (T.length : Int)) = True := eq_true (by omega)
      obtain ⟨xs0, hxs0⟩ : ∃ l, (T.take k).map (fun x => (⟨m, fr, m, tq, x.f0, x.f1⟩ : S131)) = l := ⟨_, rfl⟩
      have hR0 := HI.out.2.2.1
      rw [hxs0] at htk hlen hR0
      have HT := Lib.hid htk
      have HR0 := Lib.hid (show Kd.R k131 131 wr.drew w.heap.size (fun _ => True) u13 xs0 from Kd.R_drew hR0)
      have HB0 := Lib.hid (show Below w.heap.size w wr.drew from HI.out.2.2.2.drew)
      have Hw := Lib.hid hl64
      have HK := Lib.hid hk
      have HQ := Lib.hid (show (xs0.length + 1) * 56 ≤ 140737488355328 by omega)
      have HS0 := Lib.hid (show L2 ad k a0 a1 w from ⟨x0, x1⟩)
      subst eA
      clear e1 htk ha hl64 hlen hxs0 hR0 hk x0 x1
      have hSD : wr.drew.cell? (ad.add (k * 2)) = some (.string a0) ∧ wr.drew.cell? ⟨(ad.add (k * 2)).block, (ad.add (k * 2)).off + 1, none⟩ = some (.int .i64 a1) := HS0.out.below HB0.out
      have HSA := Lib.hid (show ∀ (w' : World) (o : Obj), (w'.cell? (ad.add (k * 2)) = some (.string a0) ∧ w'.cell? ⟨(ad.add (k * 2)).block, (ad.add (k * 2)).off + 1, none⟩ = some (.int .i64 a1)) → ((w'.alloc o).cell? (ad.add (k * 2)) = some (.string a0) ∧ (w'.alloc o).cell? ⟨(ad.add (k * 2)).block, (ad.add (k * 2)).off + 1, none⟩ = some (.int .i64 a1)) from fun w' o ⟨s0, s1⟩ => by
        have hb := (Below.refl w'.heap.size w').alloc (Nat.le_refl _) o
        exact ⟨cell_keep hb s0, cell_keep hb s1⟩)
      go_wp2_with (fail)
      go_region_held3 (fun w' => w'.cell? (ad.add (k * 2)) = some (.string a0) ∧ w'.cell? ⟨(ad.add (k * 2)).block, (ad.add (k * 2)).off + 1, none⟩ = some (.int .i64 a1))
        (first | assumption | exact HSA.out _ _ (by assumption))
        (first
          | (refine Kd.R_append_step k131 (w0 := w) (W := wr.drew) w.heap.size (by rfl) (.tmp 21) (.tmp 37) 69 131 (.agg #[(.int .i64 0), (.int .i64 0), (.int .i64 0), (.int .i64 0), (.string ⟨#[]⟩), (.int .i64 0)]) 56 rfl Try.underlying69 info131 rfl (by decide) (by decide) u13 xs0 ⟨m, fr, m, tq, a0, a1⟩ [.int .i64 m, .int .i64 fr, .int .i64 m, .int .i64 tq, .string a0, .int .i64 a1] (fun _ => True) (fun _ => False) rfl rfl (k131_mkM _ _ _ _) (fun _ h => h.elim) (fun _ _ => trivial) HR0.out HB0.out HB0.out.size HQ.out ?_; intro v1 w6 ho hb hg hat; have kk6 : w6.cell? (ad.add (k * 2)) = some (.string a0) ∧ w6.cell? ⟨(ad.add (k * 2)).block, (ad.add (k * 2)).off + 1, none⟩ = some (.int .i64 a1) := HS0.out.below hb; have H6 := Lib.hid (And.intro ho hb); clear ho hb hg hat))
      go_wp2
      go_roundg (T.length - k)
      case measure => have := HI.out.1; have := HK.out; omega
      case rel =>
        refine ⟨k + 1, by rw [Hw.out], ⟨by have := HI.out.1; have := HK.out; omega, HK.out, ?_, H6.out.2⟩⟩
        rw [HT.out]
        exact H6.out.1
    · have q2 : ((k : Int) < (T.length : Int)) = False := eq_false (by omega)
      have hR0 := HI.out.2.2.1
      rw [List.take_of_length_le (by omega)] at hR0
      obtain ⟨A6, c6, rfl, hc6, hC6⟩ := Kd.R_reads hR0
      have hb := HI.out.2.2.2
      have hpo := rcmove_any wr A c L (Kd.C_below HU.out.1 hb) HU.out.2.1 HU.out.2.2.1 A6 c6 (shR m fr tq T) hC6 (by unfold shR; rw [List.length_map]; have := HU.out.2.2.2.2; omega)
      rw [shR_map] at hpo
      obtain ⟨R, hR⟩ : ∃ R, cmR L (shX m fr tq T) = R := ⟨_, rfl⟩
      rw [hR] at hpo
      have hl5 : (shR m fr tq T).length = T.length := by unfold shR; rw [List.length_map]
      rw [hl5] at hpo
      have HPO := Lib.hid hpo
      have HE := Lib.hid hR
      clear hR0 hc6 hC6 hk hb hpo hR hl5
      go_wp2_with (go_at_call 67; refine HPO.out.mono ?_; rintro e w5 ⟨A5, c5, rfl, H5⟩)
      go_ret3
      rw [HE.out]
      exact ⟨A5, c5, rfl, ⟨H5.out.1, H5.out.2.1, HI.out.2.2.2.trans (H5.out.2.2.mono HI.out.2.2.2.size)⟩⟩
set_option maxRecDepth 100000 in
set_option maxHeartbeats 4000000 in
theorem rctrade_any (w : World) (A : Option Addr) (c : Nat) (L : List S82) (hC : Kd.C k82 w A L.length L) (hc : L.length ≤ c) (hL : L.length ≤ 1000000) (s y cash : Int) (cur : ByteArray) (B : Option Addr) (d : Nat) (T : List S79) (hr : Kd.C k79 w B T.length T) (hT : T.length ≤ 1000) :
    Calls Try.prog 69 #[.slice A L.length c, .int .i64 s, .int .i64 y, .slice B T.length d, .string cur, .int .i64 cash] w fun o w' => ∃ (A' : Option Addr) (c' : Nat), o = .returned (.tuple #[.slice A' (cmR L (trX s y T cur cash)).1.length c', .int .i64 (cmR L (trX s y T cur cash)).2.1, .int .i64 (cmR L (trX s y T cur cash)).2.2]) ∧ Hid (Kd.C k82 w' A' (cmR L (trX s y T cur cash)).1.length (cmR L (trX s y T cur cash)).1 ∧ (cmR L (trX s y T cur cash)).1.length ≤ c' ∧ Below w.heap.size w w') := by
  have HU := Lib.hid (And.intro hC (And.intro hc (And.intro hL (And.intro hr hT))))
  clear hC hc hL hr hT
  go_enter Try.func69, Try.ntmps69
  go_wp2_with (fail)
  go_loopg [15, 16] (T.length + 1) (fun kq v7 v8 w' => ∃ k : Nat, v8 = .int .i64 k ∧ Hid (kq + k = T.length + 1 ∧ k ≤ T.length ∧ Kd.R k131 131 w' w.heap.size (fun _ => True) v7 ((T.take k).map (fun x => (⟨s, 1, y, 1, x.f0, x.f1⟩ : S131))) ∧ Below w.heap.size w w'))
  case atStart =>
    exact ⟨0, rfl, ⟨rfl, Nat.zero_le _, Kd.R_nil _ _ _ _ _, Below.refl _ _⟩⟩
  case round =>
    obtain ⟨k, rfl, HI⟩ := hrel
    by_cases hk : k < T.length
    · obtain ⟨ad, eA, x0, x1⟩ := at_T79 HU.out.2.2.2.1 (k : Int) (by omega) (by omega)
      simp only [Int.toNat_natCast] at x0 x1
      have e1 : rd_T79 T (k : Int) = T[k] := by
        unfold rd_T79
        simp [List.getD, hk]
      have htk : (T.take (k + 1)).map (fun x => (⟨s, 1, y, 1, x.f0, x.f1⟩ : S131)) = (T.take k).map (fun x => (⟨s, 1, y, 1, x.f0, x.f1⟩ : S131)) ++ [⟨s, 1, y, 1, T[k].f0, T[k].f1⟩] := by rw [List.take_succ_eq_append_getElem hk, List.map_append]; rfl
      rw [e1] at x0 x1
      obtain ⟨⟨a0, a1⟩, ha⟩ : ∃ a, T[k] = a := ⟨_, rfl⟩
      rw [ha] at x0 x1 htk
      simp only at x0 x1
      have hl64 : wrap64 ((k : Int) + 1) = ((k + 1 : Nat) : Int) := by
        have h3 := HU.out.2.2.2.2
        rw [wrap_id (by omega) (by omega)]; rfl
      have hlen : ((T.take k).map (fun x => (⟨s, 1, y, 1, x.f0, x.f1⟩ : S131))).length ≤ 1000 := by
        have := HU.out.2.2.2.2
        rw [List.length_map, List.length_take]
        omega
      have q1 : (0 ≤ (k : Int)) = True := eq_true (by omega)
      have q2 : ((k : Int) < (T.length : Int)) = True := eq_true (by omega)
      obtain ⟨xs0, hxs0⟩ : ∃ l, (T.take k).map (fun x => (⟨s, 1, y, 1, x.f0, x.f1⟩ : S131)) = l := ⟨_, rfl⟩
      have hR0 := HI.out.2.2.1
      rw [hxs0] at htk hlen hR0
      have HT := Lib.hid htk
      have HR0 := Lib.hid (show Kd.R k131 131 wr.drew w.heap.size (fun _ => True) u15 xs0 from Kd.R_drew hR0)
      have HB0 := Lib.hid (show Below w.heap.size w wr.drew from HI.out.2.2.2.drew)
      have Hw := Lib.hid hl64
      have HK := Lib.hid hk
      have HQ := Lib.hid (show (xs0.length + 1) * 56 ≤ 140737488355328 by omega)
      have HS0 := Lib.hid (show L2 ad k a0 a1 w from ⟨x0, x1⟩)
      subst eA
      clear e1 htk ha hl64 hlen hxs0 hR0 hk x0 x1
      have hSD : wr.drew.cell? (ad.add (k * 2)) = some (.string a0) ∧ wr.drew.cell? ⟨(ad.add (k * 2)).block, (ad.add (k * 2)).off + 1, none⟩ = some (.int .i64 a1) := HS0.out.below HB0.out
      have HSA := Lib.hid (show ∀ (w' : World) (o : Obj), (w'.cell? (ad.add (k * 2)) = some (.string a0) ∧ w'.cell? ⟨(ad.add (k * 2)).block, (ad.add (k * 2)).off + 1, none⟩ = some (.int .i64 a1)) → ((w'.alloc o).cell? (ad.add (k * 2)) = some (.string a0) ∧ (w'.alloc o).cell? ⟨(ad.add (k * 2)).block, (ad.add (k * 2)).off + 1, none⟩ = some (.int .i64 a1)) from fun w' o ⟨s0, s1⟩ => by
        have hb := (Below.refl w'.heap.size w').alloc (Nat.le_refl _) o
        exact ⟨cell_keep hb s0, cell_keep hb s1⟩)
      go_wp2_with (fail)
      go_region_held3 (fun w' => w'.cell? (ad.add (k * 2)) = some (.string a0) ∧ w'.cell? ⟨(ad.add (k * 2)).block, (ad.add (k * 2)).off + 1, none⟩ = some (.int .i64 a1))
        (first | assumption | exact HSA.out _ _ (by assumption))
        (first
          | (refine Kd.R_append_step k131 (w0 := w) (W := wr.drew) w.heap.size (by rfl) (.tmp 23) (.tmp 37) 69 131 (.agg #[(.int .i64 0), (.int .i64 0), (.int .i64 0), (.int .i64 0), (.string ⟨#[]⟩), (.int .i64 0)]) 56 rfl Try.underlying69 info131 rfl (by decide) (by decide) u15 xs0 ⟨s, 1, y, 1, a0, a1⟩ [.int .i64 s, .int .i64 1, .int .i64 y, .int .i64 1, .string a0, .int .i64 a1] (fun _ => True) (fun _ => False) rfl rfl (k131_mkM _ _ _ _) (fun _ h => h.elim) (fun _ _ => trivial) HR0.out HB0.out HB0.out.size HQ.out ?_; intro v1 w6 ho hb hg hat; have kk6 : w6.cell? (ad.add (k * 2)) = some (.string a0) ∧ w6.cell? ⟨(ad.add (k * 2)).block, (ad.add (k * 2)).off + 1, none⟩ = some (.int .i64 a1) := HS0.out.below hb; have H6 := Lib.hid (And.intro ho hb); clear ho hb hg hat))
      go_wp2
      go_roundg (T.length - k)
      case measure => have := HI.out.1; have := HK.out; omega
      case rel =>
        refine ⟨k + 1, by rw [Hw.out], ⟨by have := HI.out.1; have := HK.out; omega, HK.out, ?_, H6.out.2⟩⟩
        rw [HT.out]
        exact H6.out.1
    · have q2 : ((k : Int) < (T.length : Int)) = False := eq_false (by omega)
      have hR0 := HI.out.2.2.1
      rw [List.take_of_length_le (by omega)] at hR0
      have hlen : (T.map (fun x => (⟨s, 1, y, 1, x.f0, x.f1⟩ : S131))).length ≤ 1000 := by
        have := HU.out.2.2.2.2
        rw [List.length_map]
        omega
      have hX : trR s y T cur cash = T.map (fun x => (⟨s, 1, y, 1, x.f0, x.f1⟩ : S131)) ++ [⟨y, 1, s, 1, cur, cash⟩] := rfl
      obtain ⟨xs0, hxs0⟩ : ∃ l, T.map (fun x => (⟨s, 1, y, 1, x.f0, x.f1⟩ : S131)) = l := ⟨_, rfl⟩
      rw [hxs0] at hlen hR0 hX
      have hXl : (xs0 ++ [(⟨y, 1, s, 1, cur, cash⟩ : S131)]).length ≤ 4000 := by simp; omega
      rw [← hX] at hXl
      obtain ⟨X, hXe⟩ : ∃ X, trR s y T cur cash = X := ⟨_, rfl⟩
      obtain ⟨R, hR⟩ : ∃ R, cmR L (trX s y T cur cash) = R := ⟨_, rfl⟩
      rw [hXe] at hXl hX
      have HQ := Lib.hid (And.intro hR0 (And.intro HI.out.2.2.2 (And.intro HI.out.2.2.2.size (show (xs0.length + 1) * 56 ≤ 140737488355328 by omega))))
      have hPO : ∀ (W : World) (A6 : Option Addr) (c6 : Nat), Below w.heap.size w W → Kd.C k131 W A6 X.length X → Calls Try.prog 67 #[.slice A L.length c, .slice A6 X.length c6] W fun o w' => ∃ (A' : Option Addr) (c' : Nat), o = .returned (.tuple #[.slice A' R.1.length c', .int .i64 R.2.1, .int .i64 R.2.2]) ∧ Hid (Kd.C k82 w' A' R.1.length R.1 ∧ R.1.length ≤ c' ∧ Below W.heap.size W w') := fun W A6 c6 hb hC6 => by
        have := rcmove_any W A c L (Kd.C_below HU.out.1 hb) HU.out.2.1 HU.out.2.2.1 A6 c6 X hC6 hXl
        rw [← hXe, trR_map, hR, hXe] at this
        exact this
      have HPO := Lib.hid hPO
      have HX := Lib.hid hX.symm
      have HE := Lib.hid hR
      clear hR0 hlen hxs0 hX hXl hXe hk hPO hR
      go_wp2_with (first
        | (go_at_call 67; refine (HPO.out _ A5 c5 H5.out.2 H5.out.1).mono ?_; rintro e w6 ⟨A7, c7, rfl, H6⟩)
        | (at_builtin; refine Kd.R_append k131 (w0 := w) (W := wr) w.heap.size rfl (.tmp 40) (.tmp 46) 69 131 (.agg #[(.int .i64 0), (.int .i64 0), (.int .i64 0), (.int .i64 0), (.string ⟨#[]⟩), (.int .i64 0)]) 56 rfl Try.underlying69 info131 rfl (by decide) (by decide) u15 xs0 ⟨y, 1, s, 1, cur, cash⟩ [.int .i64 y, .int .i64 1, .int .i64 s, .int .i64 1, .string cur, .int .i64 cash] (fun _ => True) (fun _ => False) rfl rfl (k131_mkM _ _ _ _) (fun _ h => h.elim) (fun _ _ => trivial) HQ.out.1 HQ.out.2.1 HQ.out.2.2.1 HQ.out.2.2.2 ?_; intro v1 w5 ho hb hg hat; rw [HX.out] at ho; obtain ⟨A5, c5, rfl, _, hC5⟩ := Kd.R_reads ho; have H5 := Lib.hid (And.intro hC5 hb); clear ho hb hg hat hC5))
      go_ret3
      rw [HE.out]
      exact ⟨A7, c7, rfl, ⟨H6.out.1, H6.out.2.1, H5.out.2.trans (H6.out.2.2.mono H5.out.2.size)⟩⟩
end Go.Proofs.Ytoknlpecbdlbfaa.PL

/- An act, as a row of eight cells. -/
namespace Go.Proofs.Ytoknlpecbdlbfaa.PL
open Go Go.RowKit Go.Proofs Go.Proofs.YtoknlpecbdlbfaaW.PrintWords Go.Proofs.YtoknlpecbdlbfaaW.PrintLast
structure S72 where
  f0 : Int
  f1 : Int
  f2 : Int
  f3 : Int
  f4 : ByteArray
  f5 : Int
  f6 : List S131
  f7 : List S79
def z72 : S72 := ⟨0, 0, 0, 0, (⟨#[]⟩ : ByteArray), 0, [], []⟩
def k72 : Kd S72 := Kd.iso (Kd.pair (Kd.int .i64) (Kd.pair (Kd.int .i64) (Kd.pair (Kd.int .i64) (Kd.pair (Kd.int .i64) (Kd.pair Kd.string (Kd.pair (Kd.int .i64) (Kd.pair (Kd.slice 131 k131) (Kd.slice 79 k79)))))))) (fun x : S72 => (x.f0, x.f1, x.f2, x.f3, x.f4, x.f5, x.f6, x.f7))
theorem k72_open {w : World} {x : S72} {cs : List Value} (h : k72.K w x cs) : ∃ (A : Option Addr) (c : Nat) (B : Option Addr) (d : Nat), cs = [.int .i64 x.f0, .int .i64 x.f1, .int .i64 x.f2, .int .i64 x.f3, .string x.f4, .int .i64 x.f5, .slice A x.f6.length c, .slice B x.f7.length d] ∧ x.f6.length ≤ c ∧ k131.C w A x.f6.length x.f6 ∧ x.f7.length ≤ d ∧ k79.C w B x.f7.length x.f7 := by
  obtain ⟨_, _, rfl, rfl, ⟨_, _, rfl, rfl, ⟨_, _, rfl, rfl, ⟨_, _, rfl, rfl, ⟨_, _, rfl, rfl, ⟨_, _, rfl, rfl, ⟨_, _, rfl, ⟨A, c, rfl, l1, g1⟩, ⟨B, d, rfl, l2, g2⟩⟩⟩⟩⟩⟩⟩⟩ := h
  exact ⟨A, c, B, d, rfl, l1, g1, l2, g2⟩
theorem k72_mk {w : World} (x : S72) {A : Option Addr} {c : Nat} {B : Option Addr} {d : Nat} (l1 : x.f6.length ≤ c) (g1 : k131.C w A x.f6.length x.f6) (l2 : x.f7.length ≤ d) (g2 : k79.C w B x.f7.length x.f7) :
    k72.K w x [.int .i64 x.f0, .int .i64 x.f1, .int .i64 x.f2, .int .i64 x.f3, .string x.f4, .int .i64 x.f5, .slice A x.f6.length c, .slice B x.f7.length d] :=
  ⟨[_], _, rfl, rfl, ⟨[_], _, rfl, rfl, ⟨[_], _, rfl, rfl, ⟨[_], _, rfl, rfl, ⟨[_], _, rfl, rfl, ⟨[_], _, rfl, rfl, ⟨[_], [_], rfl, ⟨A, c, rfl, l1, g1⟩, ⟨B, d, rfl, l2, g2⟩⟩⟩⟩⟩⟩⟩⟩
def rd_T72 (xs : List S72) (i : Int) : S72 := xs.getD i.toNat z72
theorem at_T72 {w : World} {A : Option Addr} {n : Nat} {xs : List S72} (h : Kd.C k72 w A n xs) (i : Int) (h0 : 0 ≤ i) (h1 : i < n) : ∃ (ad : Addr) (A6 : Option Addr) (c6 : Nat) (A7 : Option Addr) (c7 : Nat), A = some ad ∧
    w.cell? (ad.add (i.toNat * 8)) = some (.int .i64 (rd_T72 xs i).f0) ∧ w.cell? ⟨(ad.add (i.toNat * 8)).block, (ad.add (i.toNat * 8)).off + 1, none⟩ = some (.int .i64 (rd_T72 xs i).f1) ∧ w.cell? ⟨(ad.add (i.toNat * 8)).block, (ad.add (i.toNat * 8)).off + 2, none⟩ = some (.int .i64 (rd_T72 xs i).f2) ∧ w.cell? ⟨(ad.add (i.toNat * 8)).block, (ad.add (i.toNat * 8)).off + 3, none⟩ = some (.int .i64 (rd_T72 xs i).f3) ∧ w.cell? ⟨(ad.add (i.toNat * 8)).block, (ad.add (i.toNat * 8)).off + 4, none⟩ = some (.string (rd_T72 xs i).f4) ∧ w.cell? ⟨(ad.add (i.toNat * 8)).block, (ad.add (i.toNat * 8)).off + 5, none⟩ = some (.int .i64 (rd_T72 xs i).f5) ∧ w.cell? ⟨(ad.add (i.toNat * 8)).block, (ad.add (i.toNat * 8)).off + 6, none⟩ = some (.slice A6 (rd_T72 xs i).f6.length c6) ∧ w.cell? ⟨(ad.add (i.toNat * 8)).block, (ad.add (i.toNat * 8)).off + 7, none⟩ = some (.slice A7 (rd_T72 xs i).f7.length c7) ∧
    ((rd_T72 xs i).f6.length ≤ c6 ∧ k131.C w A6 (rd_T72 xs i).f6.length (rd_T72 xs i).f6 ∧ (rd_T72 xs i).f7.length ≤ c7 ∧ k79.C w A7 (rd_T72 xs i).f7.length (rd_T72 xs i).f7) := by
  obtain ⟨ad, c, e, _, hK, hc0⟩ := Kd.C_get h z72 i h0 h1
  have hc : ∀ j u, c[j]? = some u → w.cell? (ad.add (i.toNat * 8 + j)) = some u := hc0
  obtain ⟨A6, c6, A7, c7, rfl, g⟩ := k72_open hK
  exact ⟨ad, A6, c6, A7, c7, e, hc 0 _ rfl, by rw [← add_field _ _ 1 (by omega)]; exact hc 1 _ rfl, by rw [← add_field _ _ 2 (by omega)]; exact hc 2 _ rfl, by rw [← add_field _ _ 3 (by omega)]; exact hc 3 _ rfl, by rw [← add_field _ _ 4 (by omega)]; exact hc 4 _ rfl, by rw [← add_field _ _ 5 (by omega)]; exact hc 5 _ rfl, by rw [← add_field _ _ 6 (by omega)]; exact hc 6 _ rfl, by rw [← add_field _ _ 7 (by omega)]; exact hc 7 _ rfl, g⟩
end Go.Proofs.Ytoknlpecbdlbfaa.PL
