/- CustodyWhole holds: whatever acts come in (more than forty acts, or acts of more than forty lines or lots, are let go, as the statement says), behind each the members together have of each thing just what came from outside, and none has less than nothing; and the chapter's example holds. No condition on the inputs. -/
import Derived.Test.YtoknlpecbdlbfaaSCWhole33
import Derived.Test.YtoknlpecbdlbfaaRows
import Derived.WalkKit
import Derived.ProofKit
import Derived.Deep.Slices
import Derived.Test.YtoknlpecbdlbfaaSCWhole32
import Derived.OpenShut
import Derived.ShutString
import Derived.ChangeOld
import Derived.Below
import Derived.SizedLaws

-- An act that comes in, and how long its lists are.
namespace Go.Proofs.Ytoknlpecbdlbfaa.PL
open Go Go.RowKit Go.ChangeShapes Go.WideShapes Go.Deep Go.Proofs Go.Proofs.YtoknlpecbdlbfaaW.PrintWords Go.Proofs.YtoknlpecbdlbfaaW.PrintLast
theorem one_le {H : Type} (d : DataW H) : 1 ≤ Rows.uptoBulk d := by
  cases d with
  | lit l => cases l <;> simp [Rows.uptoBulk]
  | nil => simp [Rows.uptoBulk]
  | ptr d => simp [Rows.uptoBulk]
  | slice elems spare => simp [Rows.uptoBulk]
  | agg parts => simp [Rows.uptoBulk]
  | iface t d => simp [Rows.uptoBulk]
  | map entries => simp [Rows.uptoBulk]
  | held h => simp [Rows.uptoBulk]
theorem length_le {H : Type} (l : List (DataW H)) : l.length ≤ Rows.uptoBulkAll l := by
  induction l with
  | nil => simp [Rows.uptoBulkAll]
  | cons x r ih => have := one_le x; simp only [Rows.uptoBulkAll, List.length_cons]; omega
theorem slice_le {H : Type} (elems spare : List (DataW H)) : elems.length ≤ Rows.uptoBulk (.slice elems spare) := by
  have h1 := length_le elems
  simp only [Rows.uptoBulk]
  omega
/-- Whatever cells are read at the type t are those of some x of the kind d, no longer than the datum's bulk. -/
def OpensB {α : Type} (d : Kd α) (t : TypeId) (β : α → Nat) : Prop :=
  ∀ {H : Type} (enc : TypeId × Value → H) (w : World) (base : Nat) (spare : Nat → Bool) (held : Bool) (n : Nat) (cs : List Value) (y : DataW H × List MemPlace), DataW.trod enc Try.prog w base spare held n t cs = some y → ∃ x : α, d.K w x cs ∧ β x ≤ Rows.uptoBulk y.1
theorem opensB_slice {α : Type} {d : Kd α} {t e : TypeId} (ht : Try.prog.underlying t = some (.slice e)) (hc : Try.prog.cellsOf e = d.sz) (h : OpensB d e (fun _ => 0)) : OpensB (Kd.slice e d) t List.length := by
  intro H enc w base spare held n cs y hy
  rcases open_slice ht hy with ⟨rfl, _⟩ | ⟨a, len, cap, m, n', D, Pl, rfl, hb, hl, hm, hmm, rfl, hi⟩
  · exact ⟨[], ⟨none, 0, rfl, Nat.le_refl _, rfl, by simp, fun h => absurd h (by simp)⟩, by simp⟩
  · have hlm : len ≤ m := by rw [hmm]; split <;> omega
    have hx : ∀ i : Fin len, ∃ x cs', w.cells? base (a.add (i.1 * Try.prog.cellsOf e)) (Try.prog.cellsOf e) = some cs' ∧ d.K w x cs' := by
      intro i
      obtain ⟨cs', h1, h2⟩ := hi i.1 (by have := i.2; omega)
      obtain ⟨x, h3, _⟩ := h enc w base spare held _ _ _ h2
      exact ⟨x, cs', h1, h3⟩
    obtain ⟨f, hf⟩ := Classical.axiomOfChoice hx
    refine ⟨List.ofFn f, ⟨some a, cap, by simp, by simpa using hl, by simp, by simp; unfold maxLen at hm; omega, fun _ => ⟨a, rfl, fun j p hj => ?_⟩⟩, ?_⟩
    · have hjl : j < len := by
        have := (List.getElem?_eq_some_iff.1 hj).1
        simpa using this
      obtain ⟨cs', h1, h2⟩ := hf ⟨j, hjl⟩
      have hp : p = f ⟨j, hjl⟩ := by
        have := (List.getElem?_eq_some_iff.1 hj).2
        simpa using this.symm
      subst hp
      obtain ⟨_, hcl, hat⟩ := World.cells?_some h1
      refine ⟨cs', by rw [hcl, hc], h2, fun i u hu => ?_⟩
      have hil : i < cs'.length := (List.getElem?_eq_some_iff.1 hu).1
      have h3 := hat i (by omega)
      rw [hu] at h3
      rw [← hc, ← Go.Deep.add_add]
      exact h3
    · have h9 := slice_le ((List.range len).map D) ((List.range (m - len)).map fun j => D (len + j))
      rw [List.length_map, List.length_range] at h9
      rw [List.length_ofFn]
      exact h9
theorem cells79' : Try.prog.cellsOf 79 = 2 := by kernel_rfl
theorem cells131' : Try.prog.cellsOf 131 = 6 := by kernel_rfl
theorem cells72' : Try.prog.cellsOf 72 = 8 := by kernel_rfl
theorem cells69' : Try.prog.cellsOf 69 = 1 := by kernel_rfl
theorem cells70' : Try.prog.cellsOf 70 = 1 := by kernel_rfl
theorem at_part {H : Type} {xs : List (DataW H × List MemPlace)} {k j : Nat} (h : xs.length = k) (hj : j < k) : ∃ y0, xs[j]? = some y0 := ⟨xs[j]'(by omega), List.getElem?_eq_getElem _⟩
theorem opens79 : OpensB k79 79 (fun _ => 0) := by
  intro H enc w base spare held n cs y hy
  obtain ⟨xs, n', _, rfl, hlen, hxl, hf⟩ := DataW.trod_struct Try.underlying79 hy
  obtain ⟨y0, e0⟩ := at_part (j := 0) hxl (by simp)
  obtain ⟨y1, e1⟩ := at_part (j := 1) hxl (by simp)
  obtain ⟨a0, h0, _⟩ := DataW.trod_string Try.underlying9 ((hf 0 _ rfl).trans e0)
  obtain ⟨a1, h1, _⟩ := DataW.trod_int Try.underlying3 ((hf 1 _ rfl).trans e1)
  rw [cells79'] at hlen
  replace h0 : (cs.drop 0).take (Try.prog.cellsOf 9) = _ := h0
  replace h1 : (cs.drop 1).take (Try.prog.cellsOf 3) = _ := h1
  rw [cells9'] at h0
  rw [cells3'] at h1
  refine ⟨⟨a0, a1⟩, ?_, Nat.zero_le _⟩
  have : cs = [.string a0, .int .i64 a1] := by
    clear hf hy hxl e0 e1
    match cs, hlen with
    | [c0, c1], _ =>
      simp at h0 h1
      simp [h0, h1]
  rw [this]
  exact k79_mk w ⟨a0, a1⟩
theorem opens131 : OpensB k131 131 (fun _ => 0) := by
  intro H enc w base spare held n cs y hy
  obtain ⟨xs, n', _, rfl, hlen, hxl, hf⟩ := DataW.trod_struct Try.underlying131 hy
  obtain ⟨y0, e0⟩ := at_part (j := 0) hxl (by simp)
  obtain ⟨y1, e1⟩ := at_part (j := 1) hxl (by simp)
  obtain ⟨y2, e2⟩ := at_part (j := 2) hxl (by simp)
  obtain ⟨y3, e3⟩ := at_part (j := 3) hxl (by simp)
  obtain ⟨y4, e4⟩ := at_part (j := 4) hxl (by simp)
  obtain ⟨y5, e5⟩ := at_part (j := 5) hxl (by simp)
  obtain ⟨a0, h0, _⟩ := DataW.trod_int Try.underlying3 ((hf 0 _ rfl).trans e0)
  obtain ⟨a1, h1, _⟩ := DataW.trod_int Try.underlying3 ((hf 1 _ rfl).trans e1)
  obtain ⟨a2, h2, _⟩ := DataW.trod_int Try.underlying3 ((hf 2 _ rfl).trans e2)
  obtain ⟨a3, h3, _⟩ := DataW.trod_int Try.underlying3 ((hf 3 _ rfl).trans e3)
  obtain ⟨a4, h4, _⟩ := DataW.trod_string Try.underlying9 ((hf 4 _ rfl).trans e4)
  obtain ⟨a5, h5, _⟩ := DataW.trod_int Try.underlying3 ((hf 5 _ rfl).trans e5)
  rw [cells131'] at hlen
  replace h0 : (cs.drop 0).take (Try.prog.cellsOf 3) = _ := h0
  replace h1 : (cs.drop 1).take (Try.prog.cellsOf 3) = _ := h1
  replace h2 : (cs.drop 2).take (Try.prog.cellsOf 3) = _ := h2
  replace h3 : (cs.drop 3).take (Try.prog.cellsOf 3) = _ := h3
  replace h4 : (cs.drop 4).take (Try.prog.cellsOf 9) = _ := h4
  replace h5 : (cs.drop 5).take (Try.prog.cellsOf 3) = _ := h5
  rw [cells3'] at h0 h1 h2 h3 h5
  rw [cells9'] at h4
  refine ⟨⟨a0, a1, a2, a3, a4, a5⟩, ?_, Nat.zero_le _⟩
  have : cs = [.int .i64 a0, .int .i64 a1, .int .i64 a2, .int .i64 a3, .string a4, .int .i64 a5] := by
    clear hf hy hxl e0 e1 e2 e3 e4 e5
    match cs, hlen with
    | [c0, c1, c2, c3, c4, c5], _ =>
      simp at h0 h1 h2 h3 h4 h5
      simp [h0, h1, h2, h3, h4, h5]
  rw [this]
  exact k131_mk w ⟨a0, a1, a2, a3, a4, a5⟩
theorem opens69 : OpensB (Kd.slice 131 k131) 69 List.length := opensB_slice Try.underlying69 cells131' opens131
theorem opens70 : OpensB (Kd.slice 79 k79) 70 List.length := opensB_slice Try.underlying70 cells79' opens79
end Go.Proofs.Ytoknlpecbdlbfaa.PL

/- Acts that come in. -/
namespace Go.Proofs.Ytoknlpecbdlbfaa.PL
open Go Go.RowKit Go.ChangeShapes Go.WideShapes Go.Deep Go.Proofs Go.Proofs.YtoknlpecbdlbfaaW.PrintWords Go.Proofs.YtoknlpecbdlbfaaW.PrintLast
set_option maxRecDepth 100000 in
theorem opens72 : OpensB k72 72 (fun _ => 0) := by
  intro H enc w base spare held n cs y hy
  obtain ⟨xs, n', _, rfl, hlen, hxl, hf⟩ := DataW.trod_struct Try.underlying72 hy
  obtain ⟨y0, e0⟩ := at_part (j := 0) hxl (by simp)
  obtain ⟨y1, e1⟩ := at_part (j := 1) hxl (by simp)
  obtain ⟨y2, e2⟩ := at_part (j := 2) hxl (by simp)
  obtain ⟨y3, e3⟩ := at_part (j := 3) hxl (by simp)
  obtain ⟨y4, e4⟩ := at_part (j := 4) hxl (by simp)
  obtain ⟨y5, e5⟩ := at_part (j := 5) hxl (by simp)
  obtain ⟨y6, e6⟩ := at_part (j := 6) hxl (by simp)
  obtain ⟨y7, e7⟩ := at_part (j := 7) hxl (by simp)
  obtain ⟨a0, h0, _⟩ := DataW.trod_int Try.underlying3 ((hf 0 _ rfl).trans e0)
  obtain ⟨a1, h1, _⟩ := DataW.trod_int Try.underlying3 ((hf 1 _ rfl).trans e1)
  obtain ⟨a2, h2, _⟩ := DataW.trod_int Try.underlying3 ((hf 2 _ rfl).trans e2)
  obtain ⟨a3, h3, _⟩ := DataW.trod_int Try.underlying3 ((hf 3 _ rfl).trans e3)
  obtain ⟨a4, h4, _⟩ := DataW.trod_string Try.underlying9 ((hf 4 _ rfl).trans e4)
  obtain ⟨a5, h5, _⟩ := DataW.trod_int Try.underlying3 ((hf 5 _ rfl).trans e5)
  obtain ⟨X, ⟨A, c, h6, l6, C6⟩, _⟩ := opens69 _ _ _ _ _ _ _ _ ((hf 6 _ rfl).trans e6)
  obtain ⟨T, ⟨B, d, h7, l7, C7⟩, _⟩ := opens70 _ _ _ _ _ _ _ _ ((hf 7 _ rfl).trans e7)
  rw [cells72'] at hlen
  replace h0 : (cs.drop 0).take (Try.prog.cellsOf 3) = _ := h0
  replace h1 : (cs.drop 1).take (Try.prog.cellsOf 3) = _ := h1
  replace h2 : (cs.drop 2).take (Try.prog.cellsOf 3) = _ := h2
  replace h3 : (cs.drop 3).take (Try.prog.cellsOf 3) = _ := h3
  replace h4 : (cs.drop 4).take (Try.prog.cellsOf 9) = _ := h4
  replace h5 : (cs.drop 5).take (Try.prog.cellsOf 3) = _ := h5
  replace h6 : (cs.drop 6).take (Try.prog.cellsOf 69) = _ := h6
  replace h7 : (cs.drop 7).take (Try.prog.cellsOf 70) = _ := h7
  rw [cells3'] at h0 h1 h2 h3 h5
  rw [cells9'] at h4
  rw [cells69'] at h6
  rw [cells70'] at h7
  refine ⟨⟨a0, a1, a2, a3, a4, a5, X, T⟩, ?_, Nat.zero_le _⟩
  have : cs = [.int .i64 a0, .int .i64 a1, .int .i64 a2, .int .i64 a3, .string a4, .int .i64 a5, .slice A X.length c, .slice B T.length d] := by
    clear hf hxl e0 e1 e2 e3 e4 e5 e6 e7 C6 C7 hy l6 l7
    match cs, hlen with
    | [v0, v1, v2, v3, v4, v5, v6, v7], _ =>
      simp at h0 h1 h2 h3 h4 h5 h6 h7
      simp [h0, h1, h2, h3, h4, h5, h6, h7]
  rw [this]
  exact k72_mk (w := w) ⟨a0, a1, a2, a3, a4, a5, X, T⟩ l6 C6 l7 C7
theorem opens65 : OpensB (Kd.slice 72 k72) 65 List.length := opensB_slice Try.underlying65 cells72' opens72
/-- A slice that comes in, as a row. -/
theorem openedB {α : Type} {d : Kd α} {t e : TypeId} (h : OpensB (Kd.slice e d) t List.length) {H : Type} {enc : TypeId × Value → H} {w : World} {base : Nat} {spare : Nat → Bool} {held : Bool} {a : Option Addr} {len cap : Nat} {y : DataW H} {p : List MemPlace}
    (hy : DataW.Trod enc Try.prog w base spare held t (.slice a len cap) y p) : ∃ xs : List α, len = xs.length ∧ xs.length ≤ cap ∧ Kd.C d w a xs.length xs := by
  obtain ⟨fuel, hf⟩ := hy
  obtain ⟨x, ⟨A, c, he, hl, hC⟩, _⟩ := h enc w base spare held fuel _ _ hf
  simp [Value.cells] at he
  obtain ⟨rfl, rfl, rfl⟩ := he
  exact ⟨x, rfl, hl, hC⟩
end Go.Proofs.Ytoknlpecbdlbfaa.PL

namespace Go.Proofs.Ytoknlpecbdlbfaa.custodyWhole
open Go Go.RowKit Go.ChangeShapes Go.WideShapes Go.ChangeAt Go.Proofs
open Go.ChangeMaps (open_string shut_string)
set_option linter.unusedVariables false
theorem own : ownKnob Try.prog.godebug = none := by kernel_rfl
set_option maxRecDepth 100000 in
theorem lifted (os : Os) (started : os.Started) (H : Type) (enc : TypeId × Value → H) :
    ReturnsInHanded {} Try.checked os 11 .any (Rows.custodyWholeSpec.pre6 enc Try.prog Try.f11 Rows.custodyWholeRow.domain false) (Rows.custodyWholeSpec.post enc Try.prog Try.f11 false true false false) := by
  refine returnsInHanded_of_change_sized (C := Try.checked) own started (by kernel_rfl) Try.func11
    (ChangeSpec.witness6 (enc := enc) (C := Try.checked) false ⟨#[], #[.slice none 0 0], []⟩ 8 (by kernel_rfl) (by kernel_rfl) (by kernel_rfl) (by kernel_rfl)) ?_
  intro W base args ds gs before hval0 hW hcnd hsz0 _
  have hsz : (DataW.weightsEach Try.prog (Try.f11.params.toList ++ Rows.custodyWholeSpec.plain.varTypes Try.prog) (ds ++ gs)).all (· ≤ reachBytes) = true := hsz0
  have hval : ∀ (j : Nat) t v, Try.f11.params[j]? = some t → args[j]? = some v → Value.okWide Try.prog W .any base t v := hval0
  have hW' := hW
  obtain ⟨p, q, hA0, hV, rfl, hfz, hnd⟩ := hW
  have hA : DataW.TrodAll enc Try.prog W 0 (fun _ => true) true Try.f11.params.toList args.toList ds p := hA0
  rw [Try.params11] at hA hval hsz
  obtain ⟨v0, vs0, d0, ds0, p0, q0, hargs, rfl, rfl, h0, r0⟩ := trodAll_cons hA
  obtain ⟨rfl, rfl, rfl⟩ := trodAll_nil r0
  obtain rfl : args = #[v0] := by cases args; simp_all
  obtain ⟨rfl, rfl⟩ := trodVars_none hV
  have k0 := h0
  have lt0 : ∀ x ∈ p0, x.block < W.heap.size := by obtain ⟨m, hm⟩ := k0; exact DataW.trod_lt m _ _ _ hm
  have sm0 : PL.Small 65 d0 := PL.small_arg hsz (j := 0) rfl rfl
  obtain ⟨a0, len0, cap0, rfl⟩ := okWide_slice Try.underlying65 (hval 0 65 v0 rfl rfl)
  obtain ⟨x0, rfl, hc0, hC0⟩ := PL.openedB PL.opens65 h0
  clear hA0 hval0 hsz0 hsz
  refine (PL.cwhole_row a0 cap0 x0 W hC0 hc0).mono fun e W' ⟨he, bel⟩ => ?_
  subst he
  exact ⟨_, rfl, _, _, _, [], _, [], hW', trodAll_mk1 (shut_bool Try.underlying4 _), (trodAll_cons_mk (Below.trod PL.laidOut (by kernel_rfl) (of_decide_eq_true (by kernel_rfl)) k0 bel lt0) trodAll_mk0), rfl, bel.frame _, fun h => by cases h⟩
theorem over : Rows.custodyWholeRow.holds Try.pinned (OpenSpec.ofChange Rows.custodyWholeSpec) :=
  OpenClaim.holds_of_wide 11 Try.f11 rfl rfl rfl rfl rfl rfl rfl ⟨rfl, rfl, rfl, rfl, rfl⟩ rfl rfl rfl rfl rfl (by kernel_rfl) Try.func11 (by kernel_rfl)
    (of_decide_eq_true (by kernel_rfl)) (by unfold Func.isWrapper; first | (rw [if_pos (by decide +kernel)]; kernel_rfl) | (rw [if_neg (by decide +kernel)]; exact ⟨rfl, rfl⟩))
    (fun os started H enc _ => lifted os started H enc)
theorem proved : Rows.CustodyWholeSaid := over
end Go.Proofs.Ytoknlpecbdlbfaa.custodyWhole
namespace Go.Proofs.Ytoknlpecbdlbfaa
/-- The row, under a short name, for the claim. -/
theorem custodyWhole_holds : Rows.CustodyWholeSaid := custodyWhole.proved
end Go.Proofs.Ytoknlpecbdlbfaa
