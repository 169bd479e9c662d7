/- LedgerPosts holds: whatever posts come in (more than forty of them, or more than three hundred entries, are let go, as the statement says), every post does on the program's ledger just what the document's own Post does, and all balances are the same behind each; and the chapter's example holds. No condition on the inputs. -/
import Derived.Test.YtoknlpecbdlbfaaG5
import Derived.Test.YtoknlpecbdlbfaaRows
import Derived.WalkKit
import Derived.ProofKit
import Derived.OpenShut
import Derived.ShutString
import Derived.ChangeOld
import Derived.Below
import Derived.SizedLaws

-- LedgerPosts, walked.
namespace Go.Proofs.Ytoknlpecbdlbfaa.PL
open Go Go.RowKit Go.Maps Go.Sort Go.Shelf Go.Proofs Go.Proofs.YtoknlpecbdlbfaaW.PrintWords Go.Proofs.YtoknlpecbdlbfaaW.PrintLast
set_option maxRecDepth 100000 in
set_option maxHeartbeats 2000000 in
theorem posts_walk (A : Option Addr) (c : Nat) (P : List (List S47)) (w : World) (hq : QS 24 (QS 72 Q47) P) (hr : Kd.C (Kd.slice 47 k47) w A P.length P) (hc : P.length ≤ c) :
    Calls Try.prog 3 #[.slice A P.length c] w fun e w' => e = .returned (.bool true) ∧ Below w.heap.size w w' := by
  obtain ⟨r, hs, hr2⟩ := short_any A c P w hq hr hc
  have HS := Lib.hid hs
  cases r with
  | false =>
    clear hs hr2 hq hr hc
    go_enter Try.func3, Try.ntmps3
    go_wp2_with (first
      | (go_at_call 15; refine HS.out.mono ?_; rintro e w1 ⟨rfl, H1⟩; replace H1 := Lib.hid H1)
      | (go_at_call 16; refine (awake_walk _).mono ?_; rintro e w2 ⟨rfl, H2⟩; replace H2 := Lib.hid H2))
    go_ret
    exact ⟨rfl, H1.out.trans (H2.out.mono H1.out.size)⟩
  | true =>
    have HP := Lib.hid (And.intro (hr2 rfl) (And.intro hr hc))
    clear hs hr2 hq hr hc
    go_enter Try.func3, Try.ntmps3
    go_wp2_with (first
      | (go_at_call 15; refine HS.out.mono ?_; rintro e w1 ⟨rfl, H1⟩; replace H1 := Lib.hid H1)
      | (go_at_call 17; refine (new_any _).mono ?_; rintro e w2 ⟨rfl, H2⟩; replace H2 := Lib.hid H2))
    go_loopg [4, 5, 6, 7, 8, 9, 10] (P.length + 1) (fun kq v4 v5 v6 v7 v8 v9 v10 w' => ∃ (k : Nat) (L : List S82) (A1 : Option Addr) (c1 : Nat) (M : List (S42 × Int)), v4 = .slice A1 L.length c1 ∧ v5 = .int .i64 k ∧ Hid (kq + k = P.length + 1 ∧ k ≤ P.length ∧ SG w w' (w1.heap.size + 1) w1.heap.size P k L A1 c1 M))
    case atStart =>
      refine ⟨0, [], none, 0, [], rfl, rfl, ⟨rfl, Nat.zero_le _, ?_⟩⟩
      exact ⟨H2.out.1, Rep.nil, BM.nil, ⟨rfl, by simp, fun h => absurd h (by simp)⟩, Nat.le_refl _, H1.out.trans (H2.out.2.mono H1.out.size), H1.out.size, Nat.zero_le _⟩
    case round =>
      obtain ⟨k, L, A1, c1, M, rfl, rfl, HI⟩ := hrel
      by_cases hk : k < P.length
      · have hP : Kd.C (Kd.slice 47 k47) wr A P.length P := Kd.C_below HP.out.2.1 HI.out.2.2.below
        obtain ⟨ad, A0, c0, eA, x0, x1, x2⟩ := at_L4 hP (k : Int) (by omega) (by omega)
        have e1 : rd_L4 P (k : Int) = P[k] := by
          unfold rd_L4
          simp [List.getD, hk]
        rw [e1] at x0 x1 x2
        simp only [Int.toNat_natCast] at x0
        have hx : P[k].length ≤ 300 := Nat.le_trans (totL_mem (List.getElem_mem hk)) HP.out.1.2
        have hLl : L.length ≤ 600 := Nat.le_trans HI.out.2.2.len (by have := totL_le P k; have := HP.out.1.2; omega)
        have hL' := pst_len hk HI.out.2.2.len
        obtain ⟨⟨L', n, f⟩, hR⟩ : ∃ R, pstL L 0 L (P[k].map toE) = R := ⟨_, rfl⟩
        rw [hR] at hL'
        replace hL' : L'.length ≤ 2 * totL (P.take (k + 1)) := hL'
        have hl64 : wrap64 ((k : Int) + 1) = ((k + 1 : Nat) : Int) := by
          have h3 := HP.out.1.1
          rw [wrap_id (by omega) (by omega)]; rfl
        obtain ⟨xs, hxs⟩ : ∃ xs, P[k] = xs := ⟨_, rfl⟩
        rw [hxs] at x0 x1 x2 hx hR
        have HX := Lib.hid x2
        have HXc := Lib.hid x1
        have HX3 := Lib.hid hx
        have HL6 := Lib.hid hLl
        have HL' := Lib.hid hL'
        have HR := Lib.hid hR
        have Hw := Lib.hid hl64
        have HK := Lib.hid hk
        have HM7 := Lib.hid (show L'.length ≤ 1000000 by have := totL_le P (k + 1); have := HP.out.1.2; have := HL'.out; omega)
        subst eA
        have p1 : (0 ≤ (k : Int)) = True := eq_true (by omega)
        have q1 : ((k : Int) < (P.length : Int)) = True := eq_true (by omega)
        clear e1 hP x1 x2 hx hLl hL' hR hl64 hxs hk
        go_wp2_with (first
          | (go_at_call 21; refine (same_any A6 A2 c6 c2 L' _ H6.out.1 H6.out.2.2 (Kd.C_below (C82_grown (Kd.C_below H3.out.1 H4.out.2) H5.out.2.2.2 (HI.out.2.2.lg.map.below (H3.out.2.2.trans (H4.out.2.mono H3.out.2.2.size)))) H6.out.2.1) H3.out.2.1 HM7.out).mono ?_; rintro e w7 ⟨rfl, H7⟩; replace H7 := Lib.hid H7)
          | (go_at_call 22; refine (told_gives H5.out.1 H5.out.2.1 HM7.out).mono ?_; rintro e w6 ⟨A6, c6, rfl, H6⟩)
          | (go_at_call 19; refine (post_both (HI.out.2.2.lg.below (H3.out.2.2.trans (H4.out.2.mono H3.out.2.2.size))) HI.out.2.2.rep HI.out.2.2.bm A4 c4 xs H4.out.1 (by have := HX3.out; omega) (by have := HL6.out; omega) _ HR.out).mono ?_; rintro e w5 ⟨M', rfl, H5⟩)
          | (go_at_call 20; refine (entries_any A0 c0 xs _ (Kd.C_below HX.out H3.out.2.2) HXc.out (by have := HX3.out; omega)).mono ?_; rintro e w4 ⟨A4, c4, rfl, H4⟩)
          | (go_at_call 18; refine (rpost_any A1 A0 c1 c0 L xs _ HI.out.2.2.hC HI.out.2.2.hc HX.out (by have := HX3.out; omega) (by have := HL6.out; omega) _ HR.out).mono ?_; rintro e w3 ⟨A2, c2, rfl, H3⟩; have y0 := cell_keep H3.out.2.2 x0))
        go_roundg (P.length - k)
        case measure => have := HI.out.1; have := HK.out; omega
        case rel =>
          have hb3 := H3.out.2.2
          have hb4 := hb3.trans (H4.out.2.mono hb3.size)
          have hbel := HI.out.2.2.below
          have h4 := hbel.trans (hb4.mono hbel.size)
          have h5 := h4.grown H5.out.2.2.2 h4.size (by have := HI.out.2.2.hb; simp; exact this)
          have h6 := h5.trans (H6.out.2.1.mono h5.size)
          have h7 := h6.trans (H7.out.mono h6.size)
          refine ⟨k + 1, L', A2, c2, M', rfl, by rw [Hw.out], ⟨by have := HI.out.1; have := HK.out; omega, HK.out, ?_⟩⟩
          have hC6 := Kd.C_below (C82_grown (Kd.C_below H3.out.1 H4.out.2) H5.out.2.2.2 (HI.out.2.2.lg.map.below hb4)) H6.out.2.1
          exact ⟨(H5.out.1.below H6.out.2.1).below H7.out, H5.out.2.1, H5.out.2.2.1, Kd.C_below hC6 H7.out, H3.out.2.1, h7, HI.out.2.2.hb, HL'.out⟩
      · have hk' : ((k : Int) < (P.length : Int)) = False := eq_false (by omega)
        have HK := Lib.hid hk
        clear hk
        go_wp2_with (go_at_call 16; refine (awake_walk _).mono ?_; rintro e w2 ⟨rfl, H2⟩; replace H2 := Lib.hid H2)
        go_ret
        exact ⟨rfl, HI.out.2.2.below.trans (H2.out.mono HI.out.2.2.below.size)⟩
theorem posts_row (A : Option Addr) (c : Nat) (P : List (List S47)) (w : World) (hq : QS 24 (QS 72 Q47) P) (hr : Kd.C (Kd.slice 47 k47) w A P.length P) (hc : P.length ≤ c) :
    Calls Try.prog 3 #[.slice A P.length c] w fun e w' => e = .returned (.bool true) ∧ Below w.heap.size w w' := posts_walk A c P w hq hr hc
end Go.Proofs.Ytoknlpecbdlbfaa.PL

/- LedgerPosts holds: whatever posts come in (more than forty of them, or more than three hundred entries, are let go, as the statement says), every post does on the program's ledger just what the document's own Post does, and all balances are the same behind each; and the chapter's example holds. No condition on the inputs. -/
namespace Go.Proofs.Ytoknlpecbdlbfaa.ledgerPosts
open Go Go.RowKit Go.ChangeShapes Go.WideShapes Go.ChangeAt Go.Proofs
open Go.ChangeMaps (open_string shut_string)
set_option linter.unusedVariables false
theorem own : ownKnob Try.prog.godebug = none := by kernel_rfl
set_option maxRecDepth 100000 in
theorem lifted (os : Os) (started : os.Started) (H : Type) (enc : TypeId × Value → H) :
    ReturnsInHanded {} Try.checked os 3 .any (Rows.ledgerPostsSpec.pre6 enc Try.prog Try.f3 Rows.ledgerPostsRow.domain false) (Rows.ledgerPostsSpec.post enc Try.prog Try.f3 false true false false) := by
  refine returnsInHanded_of_change_sized (C := Try.checked) own started (by kernel_rfl) Try.func3
    (ChangeSpec.witness6 (enc := enc) (C := Try.checked) false ⟨#[], #[.slice none 0 0], []⟩ 8 (by kernel_rfl) (by kernel_rfl) (by kernel_rfl) (by kernel_rfl)) ?_
  intro W base args ds gs before hval0 hW hcnd hsz0 _
  have hsz : (DataW.weightsEach Try.prog (Try.f3.params.toList ++ Rows.ledgerPostsSpec.plain.varTypes Try.prog) (ds ++ gs)).all (· ≤ reachBytes) = true := hsz0
  have hval : ∀ (j : Nat) t v, Try.f3.params[j]? = some t → args[j]? = some v → Value.okWide Try.prog W .any base t v := hval0
  have hW' := hW
  obtain ⟨p, q, hA0, hV, rfl, hfz, hnd⟩ := hW
  have hA : DataW.TrodAll enc Try.prog W 0 (fun _ => true) true Try.f3.params.toList args.toList ds p := hA0
  rw [Try.params3] at hA hval hsz
  obtain ⟨v0, vs0, d0, ds0, p0, q0, hargs, rfl, rfl, h0, r0⟩ := trodAll_cons hA
  obtain ⟨rfl, rfl, rfl⟩ := trodAll_nil r0
  obtain rfl : args = #[v0] := by cases args; simp_all
  obtain ⟨rfl, rfl⟩ := trodVars_none hV
  have k0 := h0
  have lt0 : ∀ x ∈ p0, x.block < W.heap.size := by obtain ⟨m, hm⟩ := k0; exact DataW.trod_lt m _ _ _ hm
  have sm0 : PL.Small 22 d0 := PL.small_arg hsz (j := 0) rfl rfl
  obtain ⟨a0, len0, cap0, rfl⟩ := okWide_slice Try.underlying22 (hval 0 22 v0 rfl rfl)
  obtain ⟨x0, rfl, hc0, hC0, hq0⟩ := PL.opened PL.opens22 h0 sm0
  clear hA0 hval0 hsz0 hsz
  refine (PL.posts_row a0 cap0 x0 W hq0 hC0 hc0).mono fun e W' ⟨he, bel⟩ => ?_
  subst he
  exact ⟨_, rfl, _, _, _, [], _, [], hW', trodAll_mk1 (shut_bool Try.underlying4 _), (trodAll_cons_mk (Below.trod PL.laidOut (by kernel_rfl) (of_decide_eq_true (by kernel_rfl)) k0 bel lt0) trodAll_mk0), rfl, bel.frame _, fun h => by cases h⟩
theorem over : Rows.ledgerPostsRow.holds Try.pinned (OpenSpec.ofChange Rows.ledgerPostsSpec) :=
  OpenClaim.holds_of_wide 3 Try.f3 rfl rfl rfl rfl rfl rfl rfl ⟨rfl, rfl, rfl, rfl, rfl⟩ rfl rfl rfl rfl rfl (by kernel_rfl) Try.func3 (by kernel_rfl)
    (of_decide_eq_true (by kernel_rfl)) (by unfold Func.isWrapper; first | (rw [if_pos (by decide +kernel)]; kernel_rfl) | (rw [if_neg (by decide +kernel)]; exact ⟨rfl, rfl⟩))
    (fun os started H enc _ => lifted os started H enc)
theorem proved : Rows.LedgerPostsSaid := over
end Go.Proofs.Ytoknlpecbdlbfaa.ledgerPosts
namespace Go.Proofs.Ytoknlpecbdlbfaa
/-- The row, under a short name, for the claim. -/
theorem ledgerPosts_holds : Rows.LedgerPostsSaid := ledgerPosts.proved
end Go.Proofs.Ytoknlpecbdlbfaa
