/- CustodyOf holds: whatever balances come in (more than a hundred are let go, as the statement says), they are members' books just where the document says so, and what is wrong with the others is the document's own answer; a clone of the books is the same list, whatever is brought to the others; and the chapter's example holds. No condition on the inputs. -/
import Derived.Test.YtoknlpecbdlbfaaSCOf34
import Derived.Test.YtoknlpecbdlbfaaSCOf32
import Derived.Deep.DeepCutAuto
import Derived.Test.YtoknlpecbdlbfaaSCOf31
import Derived.Test.YtoknlpecbdlbfaaRows
import Derived.WalkKit
import Derived.ProofKit
import Derived.OpenShut
import Derived.ShutString
import Derived.ChangeOld
import Derived.Below
import Derived.SizedLaws

-- CustodyOf, walked.
namespace Go.Proofs.Ytoknlpecbdlbfaa.PL
open Go Go.RowKit Go.Maps Go.Sort Go.Shelf Go.Proofs Go.Proofs.YtoknlpecbdlbfaaW.PrintWords Go.Proofs.YtoknlpecbdlbfaaW.PrintLast
theorem CU.apart {w w' : World} {p g b q : Nat} {M : List (S42 × Int)} (h : CU w p g b M) (hg : w.grownBy w' (some q)) (n1 : p ≠ q) (n2 : g ≠ q) (n3 : b ≠ q) : CU w' p g b M := by
  refine ⟨(hg.block p (Array.getElem?_eq_some_iff.1 h.blk).1 (by simpa using n1)).trans h.blk, ⟨(hg.block g (Array.getElem?_eq_some_iff.1 h.lg.blk).1 (by simpa using n2)).trans h.lg.blk, ?_⟩⟩
  obtain ⟨es, clock, hm, hf⟩ := h.lg.map
  exact ⟨es, clock, (hg.block b (Array.getElem?_eq_some_iff.1 hm).1 (by simpa using n3)).trans hm, hf⟩
theorem clone_apart {W W' : World} {q g b q2 g2 b2 : Nat} {M : List (S42 × Int)} (h : CU W q g b M) (h7 : CU W' q2 g2 b2 M) (hb : Below W.heap.size W W') (n3 : W.heap.size ≤ b2) (n2 : W.heap.size ≤ g2) (n1 : W.heap.size ≤ q2) : CU W' q g b M ∧ CU W' q2 g2 b2 M ∧ q2 ≠ b ∧ g2 ≠ b ∧ b2 ≠ b := by
  have hlt := h.lg.map.lt
  exact ⟨h.below hb, h7, by omega, by omega, by omega⟩
theorem bm_of {M : List (S42 × Int)} {L : List S82} (hr : Rep M L) (h : ofP none L = 0) : BM M := by
  obtain ⟨_, h2, _⟩ := ofP_ok L none h
  intro a
  rw [hr.same]
  by_cases hm : a ∈ keysL L
  · obtain ⟨x, hx, rfl⟩ := List.mem_map.1 hm
    rw [gL_mem hr.up hx]
    have hb := (h2 x hx).2
    unfold badN at hb
    constructor <;> (refine Int.not_lt.1 (fun h3 => hb ?_))
    · exact .inr (.inr (.inr h3))
    · exact .inr (.inr (.inl h3))
  · rw [gL_none hm]
    decide
/-- Four cells of a balance. -/
def L4 (ad : Addr) (k : Nat) (a0 a1 : Int) (a2 : ByteArray) (n : Int) (W : World) : Prop := W.cell? (ad.add (k * 4)) = some (.int .i64 a0) ∧ W.cell? ⟨(ad.add (k * 4)).block, (ad.add (k * 4)).off + 1, none⟩ = some (.int .i64 a1) ∧ W.cell? ⟨(ad.add (k * 4)).block, (ad.add (k * 4)).off + 2, none⟩ = some (.string a2) ∧ W.cell? ⟨(ad.add (k * 4)).block, (ad.add (k * 4)).off + 3, none⟩ = some (.int .i64 n)
theorem L4.below {ad : Addr} {k : Nat} {a0 a1 : Int} {a2 : ByteArray} {n : Int} {W W' : World} (h : L4 ad k a0 a1 a2 n W) (hb : Below W.heap.size W W') : L4 ad k a0 a1 a2 n W' :=
  ⟨cell_keep hb h.1, cell_keep hb h.2.1, cell_keep hb h.2.2.1, cell_keep hb h.2.2.2⟩
set_option maxRecDepth 100000 in
theorem cof_long (A : Option Addr) (c : Nat) (L : List S82) (w : World) (h : 100 < L.length) :
    Calls Try.prog 14 #[.slice A L.length c] w fun e w' => e = .returned (.bool true) ∧ Below w.heap.size w w' := by
  have p1 : ((L.length : Int) > 100) = True := eq_true (by omega)
  clear h
  go_enter Try.func14, Try.ntmps14
  go_wp2_with (go_at_call 38; refine (cawake_walk _).mono ?_; rintro e w2 ⟨rfl, H2⟩; replace H2 := Lib.hid H2)
  go_ret
  exact ⟨rfl, H2.out⟩
set_option maxRecDepth 100000 in
set_option maxHeartbeats 8000000 in
theorem clof_walk (A : Option Addr) (c : Nat) (L : List S82) (w : World) (hr : Kd.C k82 w A L.length L) (hc : L.length ≤ c) (hL : L.length ≤ 100) :
    Calls Try.prog 14 #[.slice A L.length c] w fun e w' => e = .returned (.bool true) ∧ Below w.heap.size w w' := by
  have p1 : ((L.length : Int) > 100) = False := eq_false (by omega)
  have HP := Lib.hid (And.intro hr hc)
  have HL := Lib.hid hL
  clear hr hc hL
  go_enter Try.func14, Try.ntmps14
  go_wp2_with (fail)
  go_loopg [3, 4] (L.length + 1) (fun kq v3 v4 w' => ∃ k : Nat, v4 = .int .i64 k ∧ Hid (kq + k = L.length + 1 ∧ k ≤ L.length ∧ Kd.R k82 44 w' w.heap.size (fun _ => True) v3 (L.take k) ∧ Below w.heap.size w w'))
  case atStart =>
    exact ⟨0, rfl, ⟨rfl, Nat.zero_le _, Kd.R_nil _ _ _ _ _, Below.refl _ _⟩⟩
  case round =>
    obtain ⟨k, rfl, HI⟩ := hrel
    by_cases hk : k < L.length
    · obtain ⟨ad, eA, x0, x1, x2, x3⟩ := at_T82 HP.out.1 (k : Int) (by omega) (by omega)
      simp only [Int.toNat_natCast] at x0 x1 x2 x3
      have e1 : rd_T82 L (k : Int) = L[k] := by
        unfold rd_T82
        simp [List.getD, hk]
      have htk : L.take (k + 1) = L.take k ++ [rd_T82 L (k : Int)] := by rw [List.take_succ_eq_append_getElem hk, e1]
      obtain ⟨⟨⟨a0, a1, a2⟩, n⟩, ha⟩ : ∃ a, rd_T82 L (k : Int) = a := ⟨_, rfl⟩
      rw [ha] at x0 x1 x2 x3 htk
      have hl64 : wrap64 ((k : Int) + 1) = ((k + 1 : Nat) : Int) := by
        have h3 := HL.out
        rw [wrap_id (by omega) (by omega)]; rfl
      have q1 : (0 ≤ (k : Int)) = True := eq_true (by omega)
      have q2 : ((k : Int) < (L.length : Int)) = True := eq_true (by omega)
      have hlen : (L.take k).length ≤ 100 := by
        have := HL.out
        rw [List.length_take]
        omega
      obtain ⟨xs0, hxs0⟩ : ∃ l, L.take k = l := ⟨_, rfl⟩
      have hR0 := HI.out.2.2.1
      rw [hxs0] at htk hlen hR0
      have HS0 := Lib.hid (show L4 ad k a0 a1 a2 n w from ⟨x0, x1, x2, x3⟩)
      have HT := Lib.hid htk
      have Hw := Lib.hid hl64
      have HK := Lib.hid hk
      have HQ := Lib.hid (show (xs0.length + 1) * 40 ≤ 140737488355328 by omega)
      have HR0 := Lib.hid hR0
      have h4 := HS0.out.below HI.out.2.2.2
      clear x0 x1 x2 x3
      obtain ⟨x0, x1, x2, x3⟩ := h4
      subst eA
      clear e1 htk ha hl64 hlen hxs0 hR0 hk
      go_wp2_with (fail)
      obtain ⟨G, hG⟩ : ∃ G, wr.heap.size = G := ⟨_, rfl⟩
      obtain ⟨W, hW⟩ : ∃ W, wr.alloc (.cells #[.int .i64 a0, .int .i64 a1, .string a2] 45) = W := ⟨_, rfl⟩
      have hb1 : Below wr.heap.size wr W.drew := by rw [← hW]; exact ((Below.refl _ _).alloc (Nat.le_refl _) _).drew
      have hx1 : W.drew.heap[G]? = some (.cells #[.int .i64 a0, .int .i64 a1, .string a2] 45 (0, 0)) := by rw [← hW, ← hG]; exact (Go.MapKept.heap_alloc wr _).1
      rw [hW, hG]
      have HBW := Lib.hid (HI.out.2.2.2.trans (hb1.mono HI.out.2.2.2.size))
      have HRW := Lib.hid (Kd.R_below HR0.out hb1)
      have HX1 := Lib.hid hx1
      have h4 := HS0.out.below HBW.out
      have hSD : W.drew.cell? ⟨G, 0, none⟩ = some (.int .i64 a0) ∧ W.drew.cell? ⟨G, 1, none⟩ = some (.int .i64 a1) ∧ W.drew.cell? ⟨G, 2, none⟩ = some (.string a2) ∧ W.drew.cell? ⟨(ad.add (k * 4)).block, (ad.add (k * 4)).off + 3, none⟩ = some (.int .i64 n) := ⟨cellA hx1 0, cellA hx1 1, cellA hx1 2, h4.2.2.2⟩
      have HSA := Lib.hid (show ∀ (w' : World) (o : Obj), (w'.cell? ⟨G, 0, none⟩ = some (.int .i64 a0) ∧ w'.cell? ⟨G, 1, none⟩ = some (.int .i64 a1) ∧ w'.cell? ⟨G, 2, none⟩ = some (.string a2) ∧ w'.cell? ⟨(ad.add (k * 4)).block, (ad.add (k * 4)).off + 3, none⟩ = some (.int .i64 n)) → ((w'.alloc o).cell? ⟨G, 0, none⟩ = some (.int .i64 a0) ∧ (w'.alloc o).cell? ⟨G, 1, none⟩ = some (.int .i64 a1) ∧ (w'.alloc o).cell? ⟨G, 2, none⟩ = some (.string a2) ∧ (w'.alloc o).cell? ⟨(ad.add (k * 4)).block, (ad.add (k * 4)).off + 3, none⟩ = some (.int .i64 n)) from fun w' o ⟨s0, s1, s2, s3⟩ => by
        have hb := (Below.refl w'.heap.size w').alloc (Nat.le_refl _) o
        exact ⟨cell_keep hb s0, cell_keep hb s1, cell_keep hb s2, cell_keep hb s3⟩)
      have HSG := Lib.hid (show ∀ (w6 : World), Below w.heap.size w w6 → W.drew.grownBy w6 u3.ownBlock → (w6.cell? ⟨G, 0, none⟩ = some (.int .i64 a0) ∧ w6.cell? ⟨G, 1, none⟩ = some (.int .i64 a1) ∧ w6.cell? ⟨G, 2, none⟩ = some (.string a2) ∧ w6.cell? ⟨(ad.add (k * 4)).block, (ad.add (k * 4)).off + 3, none⟩ = some (.int .i64 n)) from fun w6 hb hg => by
        have f1 : W.drew.heap[G]? = _ := HX1.out
        have e1 := hg.block G (Array.getElem?_eq_some_iff.1 f1).1 (Kd.R_ne HRW.out f1 (by decide))
        have f2 := e1.trans f1
        exact ⟨cellA f2 0, cellA f2 1, cellA f2 2, (HS0.out.below hb).2.2.2⟩)
      clear hb1 hx1 h4 hW hG x0 x1 x2 x3 HR0
      go_region_held3 (fun w' => w'.cell? ⟨G, 0, none⟩ = some (.int .i64 a0) ∧ w'.cell? ⟨G, 1, none⟩ = some (.int .i64 a1) ∧ w'.cell? ⟨G, 2, none⟩ = some (.string a2) ∧ w'.cell? ⟨(ad.add (k * 4)).block, (ad.add (k * 4)).off + 3, none⟩ = some (.int .i64 n))
        (first | assumption | exact HSA.out _ _ (by assumption))
        (first
          | (refine Kd.R_append_step k82 (w0 := w) (W := W.drew) w.heap.size (by rfl) (.tmp 24) (.tmp 38) 38 44 (.agg #[(.int .i64 0), (.int .i64 0), (.string ⟨#[]⟩), (.int .i64 0)]) 40 rfl Try.underlying38 info44 rfl (by decide) (by decide) u3 xs0 ⟨⟨a0, a1, a2⟩, n⟩ [.int .i64 a0, .int .i64 a1, .string a2, .int .i64 n] (fun _ => True) (fun _ => False) rfl rfl (k82_mkM _ _ _ _) (fun _ h => h.elim) (fun _ _ => trivial) HRW.out HBW.out HBW.out.size HQ.out ?_; intro v1 w6 ho hb hg hat; have kk6 := HSG.out w6 hb hg; have H6 := Lib.hid (And.intro ho hb); clear ho hb hg hat))
      go_wp2
      go_roundg (L.length - k)
      case measure => have := HI.out.1; have := HK.out; omega
      case rel =>
        refine ⟨k + 1, by rw [Hw.out], ⟨by have := HI.out.1; have := HK.out; omega, HK.out, ?_, H6.out.2⟩⟩
        rw [HT.out]
        exact H6.out.1
    · have q2 : ((k : Int) < (L.length : Int)) = False := eq_false (by omega)
      have hR0 := HI.out.2.2.1
      rw [List.take_of_length_le (by omega)] at hR0
      obtain ⟨A2, c2, rfl, hc2, hC2⟩ := Kd.R_reads hR0
      have HO := Lib.hid (cof_walk A2 c2 L wr hC2 hc2 HL.out)
      clear hR0 hc2 hC2 hk
      obtain ⟨v, hv⟩ : ∃ v, ofC L = v := ⟨_, rfl⟩
      by_cases cv : v = 0
      · have HO0 := Lib.hid (show Calls Try.prog 55 #[.slice A2 L.length c2] wr fun e w' => ∃ (q g b : Nat) (M : List (S42 × Int)), e = .returned (.tuple #[.pointer (some ⟨q, 0, none⟩), .int .i64 0]) ∧ Hid (CU w' q g b M ∧ Rep M L ∧ Below wr.heap.size wr w' ∧ wr.heap.size ≤ b) from by
          refine HO.out.mono ?_
          rintro e w' ⟨p, rfl, hb, hcase⟩
          rcases hcase with ⟨h1, _⟩ | ⟨h1, q, g, b, M, rfl, h2, h3, h4⟩
          · exact absurd (hv.trans cv) h1
          · exact ⟨q, g, b, M, by rw [h1], ⟨h2, h3, hb, h4⟩⟩)
        have HV := Lib.hid (hv.trans cv)
        have HOK := Lib.hid (show ofP none L = 0 from by
          have h1 := hv.trans cv
          unfold ofC at h1
          split at h1
          · exact absurd h1 (by decide)
          · unfold ofR at h1
            split at h1
            · exact absurd h1 ‹_›
            · rename_i h2
              exact Classical.not_not.1 h2)
        clear hv cv HO
        go_wp2_with (first
          | (go_at_call 38; refine (cawake_walk _).mono ?_; rintro e w9 ⟨rfl, H9⟩; replace H9 := Lib.hid H9)
          | (go_at_call 21; refine (same_any A10 A c10 c L _ H10.out.1 H10.out.2.2 (Kd.C_below (C82_grown (Kd.C_below HP.out.1 B7.out) H8.out.2 HCL.out.1.lg.map) H10.out.2.1) HP.out.2 (by have := HL.out; omega)).mono ?_; rintro e w11 ⟨rfl, H11⟩; replace H11 := Lib.hid H11)
          | (go_at_call 37; refine (ctold_gives (HCL.out.2.1.apart H8.out.2 HCL.out.2.2.1 HCL.out.2.2.2.1 HCL.out.2.2.2.2) H5.out.2.1 (by have := HL.out; omega)).mono ?_; rintro e w10 ⟨A10, c10, rfl, H10⟩)
          | (go_at_call 42; refine (bring_any HCL.out.1 (bm_of H5.out.2.1 HOK.out) (by rw [rep_length H5.out.2.1]; have := HL.out; omega) 1 5 ⟨#[69, 85, 82]⟩).mono ?_; rintro e w8 ⟨rfl, H8⟩)
          | (go_at_call 54; refine (cclone_any (H5.out.1.below H6.out)).mono ?_; rintro e w7 ⟨q2, g2, b2, rfl, H7⟩; have B7 := Lib.hid (B6.out.trans (H7.out.2.1.mono B6.out.size)); have HCL := Lib.hid (clone_apart (H5.out.1.below H6.out) H7.out.1 H7.out.2.1 H7.out.2.2.1 H7.out.2.2.2.1 H7.out.2.2.2.2))
          | (go_at_call 56; refine (rcof_any A c L _ (Kd.C_below HP.out.1 B5.out) HP.out.2 HL.out).mono ?_; rintro e w6 ⟨he, H6⟩; rw [HV.out] at he; subst he; have B6 := Lib.hid (B5.out.trans (H6.mono B5.out.size)); replace H6 := Lib.hid H6)
          | (go_at_call 55; refine HO0.out.mono ?_; rintro e w5 ⟨q, g, b, M, rfl, H5⟩; have B5 := Lib.hid (HI.out.2.2.2.trans (H5.out.2.2.1.mono HI.out.2.2.2.size))))
        go_ret
        have b8 := B7.out.grown H8.out.2 B7.out.size (by simp; exact Nat.le_trans HI.out.2.2.2.size H5.out.2.2.2)
        have b10 := b8.trans (H10.out.2.1.mono b8.size)
        have b11 := b10.trans (H11.out.mono b10.size)
        exact ⟨rfl, b11.trans (H9.out.mono b11.size)⟩
      · have HO0 := Lib.hid (show Calls Try.prog 55 #[.slice A2 L.length c2] wr fun e w' => e = .returned (.tuple #[.pointer none, .int .i64 v]) ∧ Below wr.heap.size wr w' from by
          refine HO.out.mono ?_
          rintro e w' ⟨p, rfl, hb, hcase⟩
          rcases hcase with ⟨_, rfl⟩ | ⟨h1, _⟩
          · exact ⟨by rw [hv], hb⟩
          · exact absurd (hv.symm.trans h1) cv)
        have HV := Lib.hid hv
        have f1 : (v != 0) = true := by simp [cv]
        have f2 : (v == 0) = false := by simp [cv]
        clear hv cv HO
        go_wp2_with (first
          | (go_at_call 38; refine (cawake_walk _).mono ?_; rintro e w9 ⟨rfl, H9⟩; replace H9 := Lib.hid H9)
          | (go_at_call 56; refine (rcof_any A c L _ (Kd.C_below HP.out.1 B5.out) HP.out.2 HL.out).mono ?_; rintro e w6 ⟨he, H6⟩; rw [HV.out] at he; subst he; have B6 := Lib.hid (B5.out.trans (H6.mono B5.out.size)); replace H6 := Lib.hid H6)
          | (go_at_call 55; refine HO0.out.mono ?_; rintro e w5 ⟨rfl, H5⟩; have B5 := Lib.hid (HI.out.2.2.2.trans (H5.mono HI.out.2.2.2.size)); replace H5 := Lib.hid H5))
        go_ret
        exact ⟨rfl, B6.out.trans (H9.out.mono B6.out.size)⟩
theorem clof_row (A : Option Addr) (c : Nat) (L : List S82) (w : World) (_ : QS 40 Q82 L) (hr : Kd.C k82 w A L.length L) (hc : L.length ≤ c) :
    Calls Try.prog 14 #[.slice A L.length c] w fun e w' => e = .returned (.bool true) ∧ Below w.heap.size w w' := by
  by_cases h : 100 < L.length
  · exact cof_long A c L w h
  · exact clof_walk A c L w hr hc (by omega)
end Go.Proofs.Ytoknlpecbdlbfaa.PL

namespace Go.Proofs.Ytoknlpecbdlbfaa.custodyOf
open Go Go.RowKit Go.ChangeShapes Go.WideShapes Go.ChangeAt Go.Proofs
open Go.ChangeMaps (open_string shut_string)
set_option linter.unusedVariables false
theorem own : ownKnob Try.prog.godebug = none := by kernel_rfl
set_option maxRecDepth 100000 in
theorem lifted (os : Os) (started : os.Started) (H : Type) (enc : TypeId × Value → H) :
    ReturnsInHanded {} Try.checked os 14 .any (Rows.custodyOfSpec.pre6 enc Try.prog Try.f14 Rows.custodyOfRow.domain false) (Rows.custodyOfSpec.post enc Try.prog Try.f14 false true false false) := by
  refine returnsInHanded_of_change_sized (C := Try.checked) own started (by kernel_rfl) Try.func14
    (ChangeSpec.witness6 (enc := enc) (C := Try.checked) false ⟨#[], #[.slice none 0 0], []⟩ 8 (by kernel_rfl) (by kernel_rfl) (by kernel_rfl) (by kernel_rfl)) ?_
  intro W base args ds gs before hval0 hW hcnd hsz0 _
  have hsz : (DataW.weightsEach Try.prog (Try.f14.params.toList ++ Rows.custodyOfSpec.plain.varTypes Try.prog) (ds ++ gs)).all (· ≤ reachBytes) = true := hsz0
  have hval : ∀ (j : Nat) t v, Try.f14.params[j]? = some t → args[j]? = some v → Value.okWide Try.prog W .any base t v := hval0
  have hW' := hW
  obtain ⟨p, q, hA0, hV, rfl, hfz, hnd⟩ := hW
  have hA : DataW.TrodAll enc Try.prog W 0 (fun _ => true) true Try.f14.params.toList args.toList ds p := hA0
  rw [Try.params14] at hA hval hsz
  obtain ⟨v0, vs0, d0, ds0, p0, q0, hargs, rfl, rfl, h0, r0⟩ := trodAll_cons hA
  obtain ⟨rfl, rfl, rfl⟩ := trodAll_nil r0
  obtain rfl : args = #[v0] := by cases args; simp_all
  obtain ⟨rfl, rfl⟩ := trodVars_none hV
  have k0 := h0
  have lt0 : ∀ x ∈ p0, x.block < W.heap.size := by obtain ⟨m, hm⟩ := k0; exact DataW.trod_lt m _ _ _ hm
  have sm0 : PL.Small 27 d0 := PL.small_arg hsz (j := 0) rfl rfl
  obtain ⟨a0, len0, cap0, rfl⟩ := okWide_slice Try.underlying27 (hval 0 27 v0 rfl rfl)
  obtain ⟨x0, rfl, hc0, hC0, hq0⟩ := PL.opened PL.opens27 h0 sm0
  clear hA0 hval0 hsz0 hsz
  refine (PL.clof_row a0 cap0 x0 W hq0 hC0 hc0).mono fun e W' ⟨he, bel⟩ => ?_
  subst he
  exact ⟨_, rfl, _, _, _, [], _, [], hW', trodAll_mk1 (shut_bool Try.underlying4 _), (trodAll_cons_mk (Below.trod PL.laidOut (by kernel_rfl) (of_decide_eq_true (by kernel_rfl)) k0 bel lt0) trodAll_mk0), rfl, bel.frame _, fun h => by cases h⟩
theorem over : Rows.custodyOfRow.holds Try.pinned (OpenSpec.ofChange Rows.custodyOfSpec) :=
  OpenClaim.holds_of_wide 14 Try.f14 rfl rfl rfl rfl rfl rfl rfl ⟨rfl, rfl, rfl, rfl, rfl⟩ rfl rfl rfl rfl rfl (by kernel_rfl) Try.func14 (by kernel_rfl)
    (of_decide_eq_true (by kernel_rfl)) (by unfold Func.isWrapper; first | (rw [if_pos (by decide +kernel)]; kernel_rfl) | (rw [if_neg (by decide +kernel)]; exact ⟨rfl, rfl⟩))
    (fun os started H enc _ => lifted os started H enc)
theorem proved : Rows.CustodyOfSaid := over
end Go.Proofs.Ytoknlpecbdlbfaa.custodyOf
namespace Go.Proofs.Ytoknlpecbdlbfaa
/-- The row, under a short name, for the claim. -/
theorem custodyOf_holds : Rows.CustodyOfSaid := custodyOf.proved
end Go.Proofs.Ytoknlpecbdlbfaa
