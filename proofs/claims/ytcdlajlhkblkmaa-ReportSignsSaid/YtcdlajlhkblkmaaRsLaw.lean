/- ReportSigns holds: for every number, width and day, report.Number and report.Date tell what the document's own functions tell, and the chapter's example holds (widths from 301 to 4096 are let go, as the statement says). No condition on the inputs. -/
import Derived.Test.YtcdlajlhkblkmaaRsD
namespace Go.Proofs.Ytcdlajlhkblkmaa.PReportSigns
open Go.RowKit Go.Proofs.YtcdlajlhkblkmaaW.PrintWords Go.Proofs.YtcdlajlhkblkmaaW.PrintLast Go.Proofs.YtcdlajlhkblkmaaW.PrintMore

theorem ref_number_any (n wd : Int) (h : -9223372036854775808 ≤ n) (h2 : n < 9223372036854775808) (w : World) :
    Calls Try.prog 16 #[.int .i64 n, .int .i64 wd] w fun e w' => e = .returned (.string (spaces (gap n wd) ++ num n)) ∧ Below w.heap.size w w' := by
  obtain ⟨k, hk⟩ := ref_number n wd h h2
  exact lombardref35_Number.calls k n wd _ w hk
theorem ref_date_any (n : Int) (w : World) :
    Calls Try.prog 18 #[.int .i64 n] w fun e w' => e = .returned (.string (dateS n)) ∧ Below w.heap.size w w' := by
  obtain ⟨k, hk⟩ := ref_date n
  exact lombardref35_Date.calls k n _ w hk
set_option maxRecDepth 100000 in
theorem law_any (n wd day : Int) (h : -9223372036854775808 ≤ n) (h2 : n < 9223372036854775808) (g : -9223372036854775808 ≤ wd) (g2 : wd < 9223372036854775808) (w : World) :
    Calls Try.prog 3 #[.int .i64 n, .int .i64 wd, .int .i64 day] w fun e w' => e = .returned (.bool true) ∧ Below w.heap.size w w' := by
  have N1 : ∀ w : World, Calls Try.prog 15 #[.int .i64 n, .int .i64 wd] w _ := fun w => number_any n wd h h2 g g2 w
  have N2 : ∀ w : World, Calls Try.prog 16 #[.int .i64 n, .int .i64 wd] w _ := fun w => ref_number_any n wd h h2 w
  have D1 : ∀ w : World, Calls Try.prog 17 #[.int .i64 day] w _ := fun w => date_any day w
  have D2 : ∀ w : World, Calls Try.prog 18 #[.int .i64 day] w _ := fun w => ref_date_any day w
  generalize spaces (gap n wd) ++ num n = s at N1 N2
  generalize dateS day = t at D1 D2
  have HN1 := Lib.hid N1
  have HN2 := Lib.hid N2
  have HD1 := Lib.hid D1
  have HD2 := Lib.hid D2
  clear N1 N2 D1 D2
  by_cases c : 300 < wd ∧ wd ≤ 4096
  · obtain ⟨c1, c2⟩ := c
    go_enter Try.func3, Try.ntmps3
    go_wp2_with (go_at_call 14; refine (awake_any _).mono ?_; rintro e w1 ⟨rfl, hb1⟩)
    go_ret
    exact ⟨rfl, hb1⟩
  · have c' : ¬ 300 < wd ∨ (300 < wd ∧ ¬ wd ≤ 4096) := by omega
    clear c
    rcases c' with c1 | ⟨c1, c2⟩
    · go_enter Try.func3, Try.ntmps3
      go_wp2_with (first | (go_at_call 15; refine (HN1.out _).mono ?_; rintro e w1 ⟨rfl, hb1⟩) | (go_at_call 16; refine (HN2.out _).mono ?_; rintro e w2 ⟨rfl, hb2⟩) | (go_at_call 17; refine (HD1.out _).mono ?_; rintro e w3 ⟨rfl, hb3⟩) | (go_at_call 18; refine (HD2.out _).mono ?_; rintro e w4 ⟨rfl, hb4⟩) | (go_at_call 14; refine (awake_any _).mono ?_; rintro e w5 ⟨rfl, hb5⟩))
      go_ret
      exact ⟨rfl, ((((hb1.trans (hb2.mono hb1.size)).trans (hb3.mono (Nat.le_trans hb1.size hb2.size))).trans (hb4.mono (Nat.le_trans (Nat.le_trans hb1.size hb2.size) hb3.size))).trans (hb5.mono (Nat.le_trans (Nat.le_trans (Nat.le_trans hb1.size hb2.size) hb3.size) hb4.size)))⟩
    · go_enter Try.func3, Try.ntmps3
      go_wp2_with (first | (go_at_call 15; refine (HN1.out _).mono ?_; rintro e w1 ⟨rfl, hb1⟩) | (go_at_call 16; refine (HN2.out _).mono ?_; rintro e w2 ⟨rfl, hb2⟩) | (go_at_call 17; refine (HD1.out _).mono ?_; rintro e w3 ⟨rfl, hb3⟩) | (go_at_call 18; refine (HD2.out _).mono ?_; rintro e w4 ⟨rfl, hb4⟩) | (go_at_call 14; refine (awake_any _).mono ?_; rintro e w5 ⟨rfl, hb5⟩))
      go_ret
      exact ⟨rfl, ((((hb1.trans (hb2.mono hb1.size)).trans (hb3.mono (Nat.le_trans hb1.size hb2.size))).trans (hb4.mono (Nat.le_trans (Nat.le_trans hb1.size hb2.size) hb3.size))).trans (hb5.mono (Nat.le_trans (Nat.le_trans (Nat.le_trans hb1.size hb2.size) hb3.size) hb4.size)))⟩
end Go.Proofs.Ytcdlajlhkblkmaa.PReportSigns

namespace Go.Proofs.Ytcdlajlhkblkmaa.reportSigns
open Go.ChangeShapes Go.WideShapes Go.ChangeAt Go.RowKit
open Go.ChangeMaps (open_string shut_string)
set_option linter.unusedVariables false
theorem own : ownKnob Try.prog.godebug = none := by kernel_rfl
theorem wf64 {x : Int} (h : (Lit.int IntKind.i64 x).wf = true) : -9223372036854775808 ≤ x ∧ x < 9223372036854775808 := by
  have := bounds_i64 h
  omega
set_option maxRecDepth 100000 in
theorem lifted (os : Os) (started : os.Started) (H : Type) (enc : TypeId × Value → H) :
    ReturnsInHanded {} Try.checked os 3 .any (Rows.reportSignsSpec.pre6 enc Try.prog Try.f3 Rows.reportSignsRow.domain false) (Rows.reportSignsSpec.post enc Try.prog Try.f3 false true false false) := by
  refine returnsInHanded_of_change_sized (C := Try.checked) own started (by kernel_rfl) Try.func3
    (ChangeSpec.witness6 (enc := enc) (C := Try.checked) false ⟨#[], #[.int .i64 0, .int .i64 0, .int .i64 0], []⟩ 8 (by kernel_rfl) (by kernel_rfl) (by kernel_rfl) (by kernel_rfl)) ?_
  intro W base args ds gs before hval0 hW hcnd hsz0 _
  have hsz : (DataW.weightsEach Try.prog (Try.f3.params.toList ++ Rows.reportSignsSpec.plain.varTypes Try.prog) (ds ++ gs)).all (· ≤ reachBytes) = true := hsz0
  have hval : ∀ (j : Nat) t v, Try.f3.params[j]? = some t → args[j]? = some v → Value.okWide Try.prog W .any base t v := hval0
  have hW' := hW
  obtain ⟨p, q, hA0, hV, rfl, hfz, hnd⟩ := hW
  have hA : DataW.TrodAll enc Try.prog W 0 (fun _ => true) true Try.f3.params.toList args.toList ds p := hA0
  rw [Try.params3] at hA hval hsz
  obtain ⟨v0, vs0, d0, ds0, p0, q0, hargs, rfl, rfl, h0, r0⟩ := trodAll_cons hA
  obtain ⟨v1, vs1, d1, ds1, p1, q1, rfl, rfl, rfl, h1, r1⟩ := trodAll_cons r0
  obtain ⟨v2, vs2, d2, ds2, p2, q2, rfl, rfl, rfl, h2, r2⟩ := trodAll_cons r1
  obtain ⟨rfl, rfl, rfl⟩ := trodAll_nil r2
  obtain rfl : args = #[v0, v1, v2] := by cases args; simp_all
  obtain ⟨rfl, rfl⟩ := trodVars_none hV
  obtain ⟨a0, rfl, rfl, rfl, w0⟩ := open_int Try.underlying3 (hval 0 3 v0 rfl rfl) h0
  obtain ⟨a1, rfl, rfl, rfl, w1⟩ := open_int Try.underlying3 (hval 1 3 v1 rfl rfl) h1
  obtain ⟨a2, rfl, rfl, rfl, w2⟩ := open_int Try.underlying3 (hval 2 3 v2 rfl rfl) h2
  clear hA0 hval0 hsz0 hsz
  refine (PReportSigns.law_any a0 a1 a2 (wf64 w0).1 (wf64 w0).2 (wf64 w1).1 (wf64 w1).2 W).mono fun e W' ⟨he, bel⟩ => ?_
  subst he
  exact ⟨_, rfl, _, _, _, [], _, [], hW', trodAll_mk1 (shut_bool Try.underlying4 _), (trodAll_cons_mk (shut_int Try.underlying3 w0) (trodAll_cons_mk (shut_int Try.underlying3 w1) (trodAll_cons_mk (shut_int Try.underlying3 w2) trodAll_mk0))), rfl, bel.frame _, fun h => by cases h⟩
theorem over : Rows.reportSignsRow.holds Try.pinned (OpenSpec.ofChange Rows.reportSignsSpec) :=
  OpenClaim.holds_of_wide 3 Try.f3 rfl rfl rfl rfl rfl rfl rfl ⟨rfl, rfl, rfl, rfl, rfl⟩ rfl rfl rfl rfl rfl (by kernel_rfl) Try.func3 (by kernel_rfl)
    (of_decide_eq_true (by kernel_rfl)) (by unfold Func.isWrapper; first | (rw [if_pos (by decide +kernel)]; kernel_rfl) | (rw [if_neg (by decide +kernel)]; exact ⟨rfl, rfl⟩))
    (fun os started H enc _ => lifted os started H enc)
theorem proved : Rows.ReportSignsSaid := over

#print axioms proved
end Go.Proofs.Ytcdlajlhkblkmaa.reportSigns
namespace Go.Proofs.Ytcdlajlhkblkmaa
/-- The row, under a short name, for the claim. -/
theorem reportSigns_holds : Rows.ReportSignsSaid := reportSigns.proved
end Go.Proofs.Ytcdlajlhkblkmaa
