/- SnapBack holds: whatever view comes in (a view whose lists or texts are too long is let go, as the statement says), either its bytes are more than may be, and just that is told, or what is written is read as it was, to its end, and is written the same again; and the chapter's example holds. No condition on the inputs. -/
import Derived.Test.YthpgjeiglhdciaaSB43
import Derived.WalkKit
import Derived.ProofKit
import Derived.Deep.Slices
import Derived.Test.YthpgjeiglhdciaaRows
import Derived.OpenShut
import Derived.ShutString
import Derived.ChangeOld
import Derived.Below
import Derived.SizedLaws

set_option linter.unusedVariables false
set_option linter.unusedSimpArgs false
/- A view that comes in: what is read of it. (printed by gen_opens.py) -/
namespace Go.Proofs.Ythpgjeiglhdciaa.SN
open Go Go.RowKit Go.ChangeShapes Go.WideShapes Go.Deep Go.Proofs Go.Proofs.Ythpgjeiglhdciaa.PL Go.Proofs.YthpgjeiglhdciaaW.PrintWords Go.Proofs.YthpgjeiglhdciaaW.PrintLast
/-- Whatever cells are read at the type t are those of some x of the kind d, of which Q holds. -/
def OpensQ {α : Type} (d : Kd α) (t : TypeId) (Q : α → Prop) : Prop :=
  ∀ {H : Type} (enc : TypeId × Value → H) (w : World) (base : Nat) (spare : Nat → Bool) (held : Bool) (n : Nat) (cs : List Value) (y : DataW H × List MemPlace), DataW.trod enc Try.prog w base spare held n t cs = some y → ∃ x : α, d.K w x cs ∧ Q x
theorem opensQ_slice {α : Type} {d : Kd α} {t e : TypeId} {Q : α → Prop} (ht : Try.prog.underlying t = some (.slice e)) (hc : Try.prog.cellsOf e = d.sz) (h : OpensQ d e Q) : OpensQ (Kd.slice e d) t (fun xs => ∀ x ∈ xs, Q x) := by
  intro H enc w base spare held n cs y hy
  rcases open_slice ht hy with ⟨rfl, _⟩ | ⟨a, len, cap, m, n', D, Pl, rfl, hb, hl, hm, hmm, rfl, hi⟩
  · exact ⟨[], ⟨none, 0, rfl, Nat.le_refl _, rfl, by simp, fun h => absurd h (by simp)⟩, by simp⟩
  · have hlm : len ≤ m := by rw [hmm]; split <;> omega
    have hx : ∀ i : Fin len, ∃ x cs', w.cells? base (a.add (i.1 * Try.prog.cellsOf e)) (Try.prog.cellsOf e) = some cs' ∧ d.K w x cs' ∧ Q x := by
      intro i
      obtain ⟨cs', h1, h2⟩ := hi i.1 (by have := i.2; omega)
      obtain ⟨x, h3, h4⟩ := h enc w base spare held _ _ _ h2
      exact ⟨x, cs', h1, h3, h4⟩
    obtain ⟨f, hf⟩ := Classical.axiomOfChoice hx
    refine ⟨List.ofFn f, ⟨some a, cap, by simp, by simpa using hl, by simp, by simp; unfold maxLen at hm; omega, fun _ => ⟨a, rfl, fun j p hj => ?_⟩⟩, fun x hx => by
      obtain ⟨i, rfl⟩ := List.mem_ofFn.1 hx
      obtain ⟨_, _, _, h3⟩ := hf i
      exact h3⟩
    have hjl : j < len := by
      have := (List.getElem?_eq_some_iff.1 hj).1
      simpa using this
    obtain ⟨cs', h1, h2, _⟩ := hf ⟨j, hjl⟩
    have hp : p = f ⟨j, hjl⟩ := by
      have := (List.getElem?_eq_some_iff.1 hj).2
      simpa using this.symm
    subst hp
    obtain ⟨_, hcl, hat⟩ := World.cells?_some h1
    refine ⟨cs', by rw [hcl, hc], h2, fun i u hu => ?_⟩
    have hil : i < cs'.length := (List.getElem?_eq_some_iff.1 hu).1
    have h3 := hat i (by omega)
    rw [hu] at h3
    rw [← hc, ← Go.Deep.add_add]
    exact h3
theorem at_part {H : Type} {xs : List (DataW H × List MemPlace)} {k j : Nat} (h : xs.length = k) (hj : j < k) : ∃ y0, xs[j]? = some y0 := ⟨xs[j]'(by omega), List.getElem?_eq_getElem _⟩
theorem wf_i64 {a : Int} (h : (Lit.int .i64 a).wf = true) : I64 a := by
  unfold Lit.wf at h
  simp only [Bool.and_eq_true, decide_eq_true_eq] at h
  exact h
theorem opens_int : OpensQ (Kd.int .i64) 3 I64 := by
  intro H enc w base spare held n cs y hy
  obtain ⟨a0, h0, _, b0⟩ := DataW.trod_int Try.underlying3 hy
  exact ⟨a0, h0, wf_i64 b0⟩
theorem cellsQ3 : Try.prog.cellsOf 3 = 1 := by kernel_rfl
theorem cellsQ4 : Try.prog.cellsOf 4 = 1 := by kernel_rfl
theorem cellsQ9 : Try.prog.cellsOf 9 = 1 := by kernel_rfl
theorem cellsQ22 : Try.prog.cellsOf 22 = 1 := by kernel_rfl
theorem cellsQ23 : Try.prog.cellsOf 23 = 1 := by kernel_rfl
theorem cellsQ24 : Try.prog.cellsOf 24 = 1 := by kernel_rfl
theorem cellsQ25 : Try.prog.cellsOf 25 = 1 := by kernel_rfl
theorem cellsQ26 : Try.prog.cellsOf 26 = 1 := by kernel_rfl
theorem cellsQ27 : Try.prog.cellsOf 27 = 1 := by kernel_rfl
theorem cellsQ29 : Try.prog.cellsOf 29 = 2 := by kernel_rfl
theorem cellsQ30 : Try.prog.cellsOf 30 = 1 := by kernel_rfl
theorem cellsQ31 : Try.prog.cellsOf 31 = 1 := by kernel_rfl
theorem cellsQ33 : Try.prog.cellsOf 33 = 2 := by kernel_rfl
theorem cellsQ55 : Try.prog.cellsOf 55 = 5 := by kernel_rfl
theorem cellsQ57 : Try.prog.cellsOf 57 = 5 := by kernel_rfl
theorem cellsQ59 : Try.prog.cellsOf 59 = 6 := by kernel_rfl
theorem cellsQ60 : Try.prog.cellsOf 60 = 1 := by kernel_rfl
theorem cellsQ61 : Try.prog.cellsOf 61 = 1 := by kernel_rfl
theorem cellsQ63 : Try.prog.cellsOf 63 = 10 := by kernel_rfl
theorem cellsQ65 : Try.prog.cellsOf 65 = 3 := by kernel_rfl
theorem cellsQ67 : Try.prog.cellsOf 67 = 4 := by kernel_rfl
theorem cellsQ74 : Try.prog.cellsOf 74 = 1 := by kernel_rfl
theorem cellsQ76 : Try.prog.cellsOf 76 = 2 := by kernel_rfl
theorem cellsQ79 : Try.prog.cellsOf 79 = 4 := by kernel_rfl
theorem cellsQ115 : Try.prog.cellsOf 115 = 1 := by kernel_rfl
theorem cellsQ117 : Try.prog.cellsOf 117 = 11 := by kernel_rfl
theorem cellsQ119 : Try.prog.cellsOf 119 = 2 := by kernel_rfl
theorem cellsQ124 : Try.prog.cellsOf 124 = 3 := by kernel_rfl
theorem cellsQ127 : Try.prog.cellsOf 127 = 8 := by kernel_rfl
theorem cellsQ129 : Try.prog.cellsOf 129 = 2 := by kernel_rfl
def Q55 (x : S55) : Prop := I64 x.f0 ∧ I64 x.f2 ∧ I64 x.f3
def Q57 (x : S57) : Prop := I64 x.f1 ∧ I64 x.f2 ∧ I64 x.f3
def Q59 (x : S59) : Prop := Q57 x.f0 ∧ I64 x.f1
def Q65 (x : S65) : Prop := I64 x.f0 ∧ I64 x.f1
def Q67 (x : S67) : Prop := Q65 x.f0 ∧ I64 x.f1
def Q76 (x : S76) : Prop := I64 x.f0 ∧ ∀ y ∈ x.f1, lotO y
def Q79 (x : S79) : Prop := I64 x.f0 ∧ I64 x.f1 ∧ I64 x.f3
theorem opens124 : OpensQ k124 124 cutO := by
  intro H enc w base spare held n cs y hy
  obtain ⟨xs, n', _, rfl, hlen, hxl, hf⟩ := DataW.trod_struct Try.underlying124 hy
  obtain ⟨y0, e0⟩ := at_part (j := 0) hxl (by simp)
  obtain ⟨y1, e1⟩ := at_part (j := 1) hxl (by simp)
  obtain ⟨y2, e2⟩ := at_part (j := 2) hxl (by simp)
  obtain ⟨a0, h0, _, c0⟩ := DataW.trod_int Try.underlying3 ((hf 0 _ rfl).trans e0)
  have b0 := wf_i64 c0
  obtain ⟨a1, h1, _, c1⟩ := DataW.trod_int Try.underlying3 ((hf 1 _ rfl).trans e1)
  have b1 := wf_i64 c1
  obtain ⟨a2, h2, _, c2⟩ := DataW.trod_int Try.underlying3 ((hf 2 _ rfl).trans e2)
  have b2 := wf_i64 c2
  rw [cellsQ124] at hlen
  replace h0 : (cs.drop 0).take (Try.prog.cellsOf 3) = _ := h0
  replace h1 : (cs.drop 1).take (Try.prog.cellsOf 3) = _ := h1
  replace h2 : (cs.drop 2).take (Try.prog.cellsOf 3) = _ := h2
  rw [cellsQ3] at h0 h1 h2
  refine ⟨⟨a0, a1, a2⟩, ?_, ⟨b0, b1, b2⟩⟩
  have : cs = [.int .i64 a0, .int .i64 a1, .int .i64 a2] := by
    clear hf hxl hy e0 e1 e2 c0 c1 c2 b0 b1 b2
    match cs, hlen with
    | [v0, v1, v2], _ =>
      simp at h0 h1 h2
      simp [h0, h1, h2]
  rw [this]
  exact k124_mk w ⟨a0, a1, a2⟩
theorem opens60 : OpensQ (Kd.slice 124 k124) 60 (fun xs => ∀ x ∈ xs, cutO x) := opensQ_slice Try.underlying60 cellsQ124 opens124
theorem opens61 : OpensQ (Kd.slice 3 (Kd.int .i64)) 61 (fun xs => ∀ x ∈ xs, I64 x) := opensQ_slice Try.underlying61 cellsQ3 opens_int
theorem opens63 : OpensQ k63 63 basketsO := by
  intro H enc w base spare held n cs y hy
  obtain ⟨xs, n', _, rfl, hlen, hxl, hf⟩ := DataW.trod_struct Try.underlying63 hy
  obtain ⟨y0, e0⟩ := at_part (j := 0) hxl (by simp)
  obtain ⟨y1, e1⟩ := at_part (j := 1) hxl (by simp)
  obtain ⟨y2, e2⟩ := at_part (j := 2) hxl (by simp)
  obtain ⟨y3, e3⟩ := at_part (j := 3) hxl (by simp)
  obtain ⟨y4, e4⟩ := at_part (j := 4) hxl (by simp)
  obtain ⟨y5, e5⟩ := at_part (j := 5) hxl (by simp)
  obtain ⟨y6, e6⟩ := at_part (j := 6) hxl (by simp)
  obtain ⟨y7, e7⟩ := at_part (j := 7) hxl (by simp)
  obtain ⟨y8, e8⟩ := at_part (j := 8) hxl (by simp)
  obtain ⟨y9, e9⟩ := at_part (j := 9) hxl (by simp)
  obtain ⟨a0, h0, _, c0⟩ := DataW.trod_int Try.underlying3 ((hf 0 _ rfl).trans e0)
  have b0 := wf_i64 c0
  obtain ⟨a1, h1, _, c1⟩ := DataW.trod_int Try.underlying3 ((hf 1 _ rfl).trans e1)
  have b1 := wf_i64 c1
  obtain ⟨a2, h2, _, _⟩ := DataW.trod_string Try.underlying9 ((hf 2 _ rfl).trans e2)
  obtain ⟨a3, h3, _, c3⟩ := DataW.trod_int Try.underlying3 ((hf 3 _ rfl).trans e3)
  have b3 := wf_i64 c3
  obtain ⟨a4, h4, _, c4⟩ := DataW.trod_int Try.underlying3 ((hf 4 _ rfl).trans e4)
  have b4 := wf_i64 c4
  obtain ⟨a5, h5, _, c5⟩ := DataW.trod_int Try.underlying3 ((hf 5 _ rfl).trans e5)
  have b5 := wf_i64 c5
  obtain ⟨a6, ⟨A6, c6, h6, l6, C6⟩, b6⟩ := opens60 _ _ _ _ _ _ _ _ ((hf 6 _ rfl).trans e6)
  obtain ⟨a7, h7, _, c7⟩ := DataW.trod_int Try.underlying3 ((hf 7 _ rfl).trans e7)
  have b7 := wf_i64 c7
  obtain ⟨a8, h8, _, c8⟩ := DataW.trod_int Try.underlying3 ((hf 8 _ rfl).trans e8)
  have b8 := wf_i64 c8
  obtain ⟨a9, ⟨A9, c9, h9, l9, C9⟩, b9⟩ := opens61 _ _ _ _ _ _ _ _ ((hf 9 _ rfl).trans e9)
  rw [cellsQ63] at hlen
  replace h0 : (cs.drop 0).take (Try.prog.cellsOf 3) = _ := h0
  replace h1 : (cs.drop 1).take (Try.prog.cellsOf 3) = _ := h1
  replace h2 : (cs.drop 2).take (Try.prog.cellsOf 9) = _ := h2
  replace h3 : (cs.drop 3).take (Try.prog.cellsOf 3) = _ := h3
  replace h4 : (cs.drop 4).take (Try.prog.cellsOf 3) = _ := h4
  replace h5 : (cs.drop 5).take (Try.prog.cellsOf 3) = _ := h5
  replace h6 : (cs.drop 6).take (Try.prog.cellsOf 60) = _ := h6
  replace h7 : (cs.drop 7).take (Try.prog.cellsOf 3) = _ := h7
  replace h8 : (cs.drop 8).take (Try.prog.cellsOf 3) = _ := h8
  replace h9 : (cs.drop 9).take (Try.prog.cellsOf 61) = _ := h9
  rw [cellsQ3] at h0 h1 h3 h4 h5 h7 h8
  rw [cellsQ9] at h2
  rw [cellsQ60] at h6
  rw [cellsQ61] at h9
  refine ⟨⟨a0, a1, a2, a3, a4, a5, a6, a7, a8, a9⟩, ?_, ⟨⟨b0, b1, b3, b4, b5, b7, b8⟩, b6, b9⟩⟩
  have : cs = [.int .i64 a0, .int .i64 a1, .string a2, .int .i64 a3, .int .i64 a4, .int .i64 a5, .slice A6 a6.length c6, .int .i64 a7, .int .i64 a8, .slice A9 a9.length c9] := by
    clear hf hxl hy e0 e1 e2 e3 e4 e5 e6 e7 e8 e9 c0 c1 c3 c4 c5 l6 C6 c7 c8 l9 C9 b0 b1 b3 b4 b5 b6 b7 b8 b9
    match cs, hlen with
    | [v0, v1, v2, v3, v4, v5, v6, v7, v8, v9], _ =>
      simp at h0 h1 h2 h3 h4 h5 h6 h7 h8 h9
      simp [h0, h1, h2, h3, h4, h5, h6, h7, h8, h9]
  rw [this]
  exact k63_mk w ⟨a0, a1, a2, a3, a4, a5, a6, a7, a8, a9⟩ l6 C6 l9 C9
theorem opens55 : OpensQ k55 55 Q55 := by
  intro H enc w base spare held n cs y hy
  obtain ⟨xs, n', _, rfl, hlen, hxl, hf⟩ := DataW.trod_struct Try.underlying55 hy
  obtain ⟨y0, e0⟩ := at_part (j := 0) hxl (by simp)
  obtain ⟨y1, e1⟩ := at_part (j := 1) hxl (by simp)
  obtain ⟨y2, e2⟩ := at_part (j := 2) hxl (by simp)
  obtain ⟨y3, e3⟩ := at_part (j := 3) hxl (by simp)
  obtain ⟨y4, e4⟩ := at_part (j := 4) hxl (by simp)
  obtain ⟨a0, h0, _, c0⟩ := DataW.trod_int Try.underlying3 ((hf 0 _ rfl).trans e0)
  have b0 := wf_i64 c0
  obtain ⟨a1, h1, _, _⟩ := DataW.trod_string Try.underlying9 ((hf 1 _ rfl).trans e1)
  obtain ⟨a2, h2, _, c2⟩ := DataW.trod_int Try.underlying3 ((hf 2 _ rfl).trans e2)
  have b2 := wf_i64 c2
  obtain ⟨a3, h3, _, c3⟩ := DataW.trod_int Try.underlying3 ((hf 3 _ rfl).trans e3)
  have b3 := wf_i64 c3
  obtain ⟨a4, h4, _⟩ := DataW.trod_bool Try.underlying4 ((hf 4 _ rfl).trans e4)
  rw [cellsQ55] at hlen
  replace h0 : (cs.drop 0).take (Try.prog.cellsOf 3) = _ := h0
  replace h1 : (cs.drop 1).take (Try.prog.cellsOf 9) = _ := h1
  replace h2 : (cs.drop 2).take (Try.prog.cellsOf 3) = _ := h2
  replace h3 : (cs.drop 3).take (Try.prog.cellsOf 3) = _ := h3
  replace h4 : (cs.drop 4).take (Try.prog.cellsOf 4) = _ := h4
  rw [cellsQ3] at h0 h2 h3
  rw [cellsQ9] at h1
  rw [cellsQ4] at h4
  refine ⟨⟨a0, a1, a2, a3, a4⟩, ?_, ⟨b0, b2, b3⟩⟩
  have : cs = [.int .i64 a0, .string a1, .int .i64 a2, .int .i64 a3, .bool a4] := by
    clear hf hxl hy e0 e1 e2 e3 e4 c0 c2 c3 b0 b2 b3
    match cs, hlen with
    | [v0, v1, v2, v3, v4], _ =>
      simp at h0 h1 h2 h3 h4
      simp [h0, h1, h2, h3, h4]
  rw [this]
  exact k55_mk w ⟨a0, a1, a2, a3, a4⟩
theorem opens57 : OpensQ k57 57 Q57 := by
  intro H enc w base spare held n cs y hy
  obtain ⟨xs, n', _, rfl, hlen, hxl, hf⟩ := DataW.trod_struct Try.underlying57 hy
  obtain ⟨y0, e0⟩ := at_part (j := 0) hxl (by simp)
  obtain ⟨y1, e1⟩ := at_part (j := 1) hxl (by simp)
  obtain ⟨y2, e2⟩ := at_part (j := 2) hxl (by simp)
  obtain ⟨y3, e3⟩ := at_part (j := 3) hxl (by simp)
  obtain ⟨y4, e4⟩ := at_part (j := 4) hxl (by simp)
  obtain ⟨a0, h0, _, _⟩ := DataW.trod_string Try.underlying9 ((hf 0 _ rfl).trans e0)
  obtain ⟨a1, h1, _, c1⟩ := DataW.trod_int Try.underlying3 ((hf 1 _ rfl).trans e1)
  have b1 := wf_i64 c1
  obtain ⟨a2, h2, _, c2⟩ := DataW.trod_int Try.underlying3 ((hf 2 _ rfl).trans e2)
  have b2 := wf_i64 c2
  obtain ⟨a3, h3, _, c3⟩ := DataW.trod_int Try.underlying3 ((hf 3 _ rfl).trans e3)
  have b3 := wf_i64 c3
  obtain ⟨a4, h4, _, _⟩ := DataW.trod_string Try.underlying9 ((hf 4 _ rfl).trans e4)
  rw [cellsQ57] at hlen
  replace h0 : (cs.drop 0).take (Try.prog.cellsOf 9) = _ := h0
  replace h1 : (cs.drop 1).take (Try.prog.cellsOf 3) = _ := h1
  replace h2 : (cs.drop 2).take (Try.prog.cellsOf 3) = _ := h2
  replace h3 : (cs.drop 3).take (Try.prog.cellsOf 3) = _ := h3
  replace h4 : (cs.drop 4).take (Try.prog.cellsOf 9) = _ := h4
  rw [cellsQ9] at h0 h4
  rw [cellsQ3] at h1 h2 h3
  refine ⟨⟨a0, a1, a2, a3, a4⟩, ?_, ⟨b1, b2, b3⟩⟩
  have : cs = [.string a0, .int .i64 a1, .int .i64 a2, .int .i64 a3, .string a4] := by
    clear hf hxl hy e0 e1 e2 e3 e4 c1 c2 c3 b1 b2 b3
    match cs, hlen with
    | [v0, v1, v2, v3, v4], _ =>
      simp at h0 h1 h2 h3 h4
      simp [h0, h1, h2, h3, h4]
  rw [this]
  exact k57_mk w ⟨a0, a1, a2, a3, a4⟩
theorem opens59 : OpensQ k59 59 Q59 := by
  intro H enc w base spare held n cs y hy
  obtain ⟨xs, n', _, rfl, hlen, hxl, hf⟩ := DataW.trod_struct Try.underlying59 hy
  obtain ⟨y0, e0⟩ := at_part (j := 0) hxl (by simp)
  obtain ⟨y1, e1⟩ := at_part (j := 1) hxl (by simp)
  obtain ⟨a0, g0, b0⟩ := opens57 _ _ _ _ _ _ _ _ ((hf 0 _ rfl).trans e0)
  have h0 := k57_open g0
  obtain ⟨a1, h1, _, c1⟩ := DataW.trod_int Try.underlying3 ((hf 1 _ rfl).trans e1)
  have b1 := wf_i64 c1
  rw [cellsQ59] at hlen
  replace h0 : (cs.drop 0).take (Try.prog.cellsOf 57) = _ := h0
  replace h1 : (cs.drop 5).take (Try.prog.cellsOf 3) = _ := h1
  rw [cellsQ57] at h0
  rw [cellsQ3] at h1
  refine ⟨⟨a0, a1⟩, ?_, ⟨b0, b1⟩⟩
  have : cs = [.string a0.f0, .int .i64 a0.f1, .int .i64 a0.f2, .int .i64 a0.f3, .string a0.f4, .int .i64 a1] := by
    clear hf hxl hy e0 e1 g0 c1 b0 b1
    match cs, hlen with
    | [v0, v1, v2, v3, v4, v5], _ =>
      simp at h0 h1
      simp [h0, h1]
  rw [this]
  exact k59_mk w ⟨a0, a1⟩
theorem opens65 : OpensQ k65 65 Q65 := by
  intro H enc w base spare held n cs y hy
  obtain ⟨xs, n', _, rfl, hlen, hxl, hf⟩ := DataW.trod_struct Try.underlying65 hy
  obtain ⟨y0, e0⟩ := at_part (j := 0) hxl (by simp)
  obtain ⟨y1, e1⟩ := at_part (j := 1) hxl (by simp)
  obtain ⟨y2, e2⟩ := at_part (j := 2) hxl (by simp)
  obtain ⟨a0, h0, _, c0⟩ := DataW.trod_int Try.underlying3 ((hf 0 _ rfl).trans e0)
  have b0 := wf_i64 c0
  obtain ⟨a1, h1, _, c1⟩ := DataW.trod_int Try.underlying3 ((hf 1 _ rfl).trans e1)
  have b1 := wf_i64 c1
  obtain ⟨a2, h2, _, _⟩ := DataW.trod_string Try.underlying9 ((hf 2 _ rfl).trans e2)
  rw [cellsQ65] at hlen
  replace h0 : (cs.drop 0).take (Try.prog.cellsOf 3) = _ := h0
  replace h1 : (cs.drop 1).take (Try.prog.cellsOf 3) = _ := h1
  replace h2 : (cs.drop 2).take (Try.prog.cellsOf 9) = _ := h2
  rw [cellsQ3] at h0 h1
  rw [cellsQ9] at h2
  refine ⟨⟨a0, a1, a2⟩, ?_, ⟨b0, b1⟩⟩
  have : cs = [.int .i64 a0, .int .i64 a1, .string a2] := by
    clear hf hxl hy e0 e1 e2 c0 c1 b0 b1
    match cs, hlen with
    | [v0, v1, v2], _ =>
      simp at h0 h1 h2
      simp [h0, h1, h2]
  rw [this]
  exact k65_mk w ⟨a0, a1, a2⟩
theorem opens67 : OpensQ k67 67 Q67 := by
  intro H enc w base spare held n cs y hy
  obtain ⟨xs, n', _, rfl, hlen, hxl, hf⟩ := DataW.trod_struct Try.underlying67 hy
  obtain ⟨y0, e0⟩ := at_part (j := 0) hxl (by simp)
  obtain ⟨y1, e1⟩ := at_part (j := 1) hxl (by simp)
  obtain ⟨a0, g0, b0⟩ := opens65 _ _ _ _ _ _ _ _ ((hf 0 _ rfl).trans e0)
  have h0 := k65_open g0
  obtain ⟨a1, h1, _, c1⟩ := DataW.trod_int Try.underlying3 ((hf 1 _ rfl).trans e1)
  have b1 := wf_i64 c1
  rw [cellsQ67] at hlen
  replace h0 : (cs.drop 0).take (Try.prog.cellsOf 65) = _ := h0
  replace h1 : (cs.drop 3).take (Try.prog.cellsOf 3) = _ := h1
  rw [cellsQ65] at h0
  rw [cellsQ3] at h1
  refine ⟨⟨a0, a1⟩, ?_, ⟨b0, b1⟩⟩
  have : cs = [.int .i64 a0.f0, .int .i64 a0.f1, .string a0.f2, .int .i64 a1] := by
    clear hf hxl hy e0 e1 g0 c1 b0 b1
    match cs, hlen with
    | [v0, v1, v2, v3], _ =>
      simp at h0 h1
      simp [h0, h1]
  rw [this]
  exact k67_mk w ⟨a0, a1⟩
theorem opens127 : OpensQ k127 127 quotesO := by
  intro H enc w base spare held n cs y hy
  obtain ⟨xs, n', _, rfl, hlen, hxl, hf⟩ := DataW.trod_struct Try.underlying127 hy
  obtain ⟨y0, e0⟩ := at_part (j := 0) hxl (by simp)
  obtain ⟨y1, e1⟩ := at_part (j := 1) hxl (by simp)
  obtain ⟨y2, e2⟩ := at_part (j := 2) hxl (by simp)
  obtain ⟨y3, e3⟩ := at_part (j := 3) hxl (by simp)
  obtain ⟨y4, e4⟩ := at_part (j := 4) hxl (by simp)
  obtain ⟨y5, e5⟩ := at_part (j := 5) hxl (by simp)
  obtain ⟨y6, e6⟩ := at_part (j := 6) hxl (by simp)
  obtain ⟨y7, e7⟩ := at_part (j := 7) hxl (by simp)
  obtain ⟨a0, h0, _, c0⟩ := DataW.trod_int Try.underlying3 ((hf 0 _ rfl).trans e0)
  have b0 := wf_i64 c0
  obtain ⟨a1, h1, _, c1⟩ := DataW.trod_int Try.underlying3 ((hf 1 _ rfl).trans e1)
  have b1 := wf_i64 c1
  obtain ⟨a2, h2, _, c2⟩ := DataW.trod_int Try.underlying3 ((hf 2 _ rfl).trans e2)
  have b2 := wf_i64 c2
  obtain ⟨a3, h3, _, c3⟩ := DataW.trod_int Try.underlying3 ((hf 3 _ rfl).trans e3)
  have b3 := wf_i64 c3
  obtain ⟨a4, h4, _, c4⟩ := DataW.trod_int Try.underlying3 ((hf 4 _ rfl).trans e4)
  have b4 := wf_i64 c4
  obtain ⟨a5, h5, _, c5⟩ := DataW.trod_int Try.underlying3 ((hf 5 _ rfl).trans e5)
  have b5 := wf_i64 c5
  obtain ⟨a6, h6, _, c6⟩ := DataW.trod_int Try.underlying3 ((hf 6 _ rfl).trans e6)
  have b6 := wf_i64 c6
  obtain ⟨a7, h7, _, c7⟩ := DataW.trod_int Try.underlying3 ((hf 7 _ rfl).trans e7)
  have b7 := wf_i64 c7
  rw [cellsQ127] at hlen
  replace h0 : (cs.drop 0).take (Try.prog.cellsOf 3) = _ := h0
  replace h1 : (cs.drop 1).take (Try.prog.cellsOf 3) = _ := h1
  replace h2 : (cs.drop 2).take (Try.prog.cellsOf 3) = _ := h2
  replace h3 : (cs.drop 3).take (Try.prog.cellsOf 3) = _ := h3
  replace h4 : (cs.drop 4).take (Try.prog.cellsOf 3) = _ := h4
  replace h5 : (cs.drop 5).take (Try.prog.cellsOf 3) = _ := h5
  replace h6 : (cs.drop 6).take (Try.prog.cellsOf 3) = _ := h6
  replace h7 : (cs.drop 7).take (Try.prog.cellsOf 3) = _ := h7
  rw [cellsQ3] at h0 h1 h2 h3 h4 h5 h6 h7
  refine ⟨⟨a0, a1, a2, a3, a4, a5, a6, a7⟩, ?_, ⟨b0, b1, b2, b3, b4, b5, b6, b7⟩⟩
  have : cs = [.int .i64 a0, .int .i64 a1, .int .i64 a2, .int .i64 a3, .int .i64 a4, .int .i64 a5, .int .i64 a6, .int .i64 a7] := by
    clear hf hxl hy e0 e1 e2 e3 e4 e5 e6 e7 c0 c1 c2 c3 c4 c5 c6 c7 b0 b1 b2 b3 b4 b5 b6 b7
    match cs, hlen with
    | [v0, v1, v2, v3, v4, v5, v6, v7], _ =>
      simp at h0 h1 h2 h3 h4 h5 h6 h7
      simp [h0, h1, h2, h3, h4, h5, h6, h7]
  rw [this]
  exact k127_mk w ⟨a0, a1, a2, a3, a4, a5, a6, a7⟩
theorem opens129 : OpensQ k129 129 resetO := by
  intro H enc w base spare held n cs y hy
  obtain ⟨xs, n', _, rfl, hlen, hxl, hf⟩ := DataW.trod_struct Try.underlying129 hy
  obtain ⟨y0, e0⟩ := at_part (j := 0) hxl (by simp)
  obtain ⟨y1, e1⟩ := at_part (j := 1) hxl (by simp)
  obtain ⟨a0, h0, _, c0⟩ := DataW.trod_int Try.underlying3 ((hf 0 _ rfl).trans e0)
  have b0 := wf_i64 c0
  obtain ⟨a1, h1, _, c1⟩ := DataW.trod_int Try.underlying3 ((hf 1 _ rfl).trans e1)
  have b1 := wf_i64 c1
  rw [cellsQ129] at hlen
  replace h0 : (cs.drop 0).take (Try.prog.cellsOf 3) = _ := h0
  replace h1 : (cs.drop 1).take (Try.prog.cellsOf 3) = _ := h1
  rw [cellsQ3] at h0 h1
  refine ⟨⟨a0, a1⟩, ?_, ⟨b0, b1⟩⟩
  have : cs = [.int .i64 a0, .int .i64 a1] := by
    clear hf hxl hy e0 e1 c0 c1 b0 b1
    match cs, hlen with
    | [v0, v1], _ =>
      simp at h0 h1
      simp [h0, h1]
  rw [this]
  exact k129_mk w ⟨a0, a1⟩
theorem opens115 : OpensQ (Kd.slice 129 k129) 115 (fun xs => ∀ x ∈ xs, resetO x) := opensQ_slice Try.underlying115 cellsQ129 opens129
theorem opens117 : OpensQ k117 117 tradesO := by
  intro H enc w base spare held n cs y hy
  obtain ⟨xs, n', _, rfl, hlen, hxl, hf⟩ := DataW.trod_struct Try.underlying117 hy
  obtain ⟨y0, e0⟩ := at_part (j := 0) hxl (by simp)
  obtain ⟨y1, e1⟩ := at_part (j := 1) hxl (by simp)
  obtain ⟨y2, e2⟩ := at_part (j := 2) hxl (by simp)
  obtain ⟨y3, e3⟩ := at_part (j := 3) hxl (by simp)
  obtain ⟨y4, e4⟩ := at_part (j := 4) hxl (by simp)
  obtain ⟨y5, e5⟩ := at_part (j := 5) hxl (by simp)
  obtain ⟨y6, e6⟩ := at_part (j := 6) hxl (by simp)
  obtain ⟨y7, e7⟩ := at_part (j := 7) hxl (by simp)
  obtain ⟨y8, e8⟩ := at_part (j := 8) hxl (by simp)
  obtain ⟨y9, e9⟩ := at_part (j := 9) hxl (by simp)
  obtain ⟨y10, e10⟩ := at_part (j := 10) hxl (by simp)
  obtain ⟨a0, h0, _, c0⟩ := DataW.trod_int Try.underlying3 ((hf 0 _ rfl).trans e0)
  have b0 := wf_i64 c0
  obtain ⟨a1, h1, _, c1⟩ := DataW.trod_int Try.underlying3 ((hf 1 _ rfl).trans e1)
  have b1 := wf_i64 c1
  obtain ⟨a2, h2, _, c2⟩ := DataW.trod_int Try.underlying3 ((hf 2 _ rfl).trans e2)
  have b2 := wf_i64 c2
  obtain ⟨a3, h3, _, c3⟩ := DataW.trod_int Try.underlying3 ((hf 3 _ rfl).trans e3)
  have b3 := wf_i64 c3
  obtain ⟨a4, h4, _, c4⟩ := DataW.trod_int Try.underlying3 ((hf 4 _ rfl).trans e4)
  have b4 := wf_i64 c4
  obtain ⟨a5, h5, _, c5⟩ := DataW.trod_int Try.underlying3 ((hf 5 _ rfl).trans e5)
  have b5 := wf_i64 c5
  obtain ⟨a6, h6, _, c6⟩ := DataW.trod_int Try.underlying3 ((hf 6 _ rfl).trans e6)
  have b6 := wf_i64 c6
  obtain ⟨a7, h7, _, c7⟩ := DataW.trod_int Try.underlying3 ((hf 7 _ rfl).trans e7)
  have b7 := wf_i64 c7
  obtain ⟨a8, ⟨A8, c8, h8, l8, C8⟩, b8⟩ := opens115 _ _ _ _ _ _ _ _ ((hf 8 _ rfl).trans e8)
  obtain ⟨a9, h9, _, c9⟩ := DataW.trod_int Try.underlying3 ((hf 9 _ rfl).trans e9)
  have b9 := wf_i64 c9
  obtain ⟨a10, h10, _⟩ := DataW.trod_bool Try.underlying4 ((hf 10 _ rfl).trans e10)
  rw [cellsQ117] at hlen
  replace h0 : (cs.drop 0).take (Try.prog.cellsOf 3) = _ := h0
  replace h1 : (cs.drop 1).take (Try.prog.cellsOf 3) = _ := h1
  replace h2 : (cs.drop 2).take (Try.prog.cellsOf 3) = _ := h2
  replace h3 : (cs.drop 3).take (Try.prog.cellsOf 3) = _ := h3
  replace h4 : (cs.drop 4).take (Try.prog.cellsOf 3) = _ := h4
  replace h5 : (cs.drop 5).take (Try.prog.cellsOf 3) = _ := h5
  replace h6 : (cs.drop 6).take (Try.prog.cellsOf 3) = _ := h6
  replace h7 : (cs.drop 7).take (Try.prog.cellsOf 3) = _ := h7
  replace h8 : (cs.drop 8).take (Try.prog.cellsOf 115) = _ := h8
  replace h9 : (cs.drop 9).take (Try.prog.cellsOf 3) = _ := h9
  replace h10 : (cs.drop 10).take (Try.prog.cellsOf 4) = _ := h10
  rw [cellsQ3] at h0 h1 h2 h3 h4 h5 h6 h7 h9
  rw [cellsQ115] at h8
  rw [cellsQ4] at h10
  refine ⟨⟨a0, a1, a2, a3, a4, a5, a6, a7, a8, a9, a10⟩, ?_, ⟨⟨b0, b1, b2, b3, b4, b5, b6, b7, b9⟩, b8⟩⟩
  have : cs = [.int .i64 a0, .int .i64 a1, .int .i64 a2, .int .i64 a3, .int .i64 a4, .int .i64 a5, .int .i64 a6, .int .i64 a7, .slice A8 a8.length c8, .int .i64 a9, .bool a10] := by
    clear hf hxl hy e0 e1 e2 e3 e4 e5 e6 e7 e8 e9 e10 c0 c1 c2 c3 c4 c5 c6 c7 l8 C8 c9 b0 b1 b2 b3 b4 b5 b6 b7 b8 b9
    match cs, hlen with
    | [v0, v1, v2, v3, v4, v5, v6, v7, v8, v9, v10], _ =>
      simp at h0 h1 h2 h3 h4 h5 h6 h7 h8 h9 h10
      simp [h0, h1, h2, h3, h4, h5, h6, h7, h8, h9, h10]
  rw [this]
  exact k117_mk w ⟨a0, a1, a2, a3, a4, a5, a6, a7, a8, a9, a10⟩ l8 C8
theorem opens119 : OpensQ k119 119 lotO := by
  intro H enc w base spare held n cs y hy
  obtain ⟨xs, n', _, rfl, hlen, hxl, hf⟩ := DataW.trod_struct Try.underlying119 hy
  obtain ⟨y0, e0⟩ := at_part (j := 0) hxl (by simp)
  obtain ⟨y1, e1⟩ := at_part (j := 1) hxl (by simp)
  obtain ⟨a0, h0, _, _⟩ := DataW.trod_string Try.underlying9 ((hf 0 _ rfl).trans e0)
  obtain ⟨a1, h1, _, c1⟩ := DataW.trod_int Try.underlying3 ((hf 1 _ rfl).trans e1)
  have b1 := wf_i64 c1
  rw [cellsQ119] at hlen
  replace h0 : (cs.drop 0).take (Try.prog.cellsOf 9) = _ := h0
  replace h1 : (cs.drop 1).take (Try.prog.cellsOf 3) = _ := h1
  rw [cellsQ9] at h0
  rw [cellsQ3] at h1
  refine ⟨⟨a0, a1⟩, ?_, b1⟩
  have : cs = [.string a0, .int .i64 a1] := by
    clear hf hxl hy e0 e1 c1 b1
    match cs, hlen with
    | [v0, v1], _ =>
      simp at h0 h1
      simp [h0, h1]
  rw [this]
  exact k119_mk w ⟨a0, a1⟩
theorem opens74 : OpensQ (Kd.slice 119 k119) 74 (fun xs => ∀ x ∈ xs, lotO x) := opensQ_slice Try.underlying74 cellsQ119 opens119
theorem opens76 : OpensQ k76 76 Q76 := by
  intro H enc w base spare held n cs y hy
  obtain ⟨xs, n', _, rfl, hlen, hxl, hf⟩ := DataW.trod_struct Try.underlying76 hy
  obtain ⟨y0, e0⟩ := at_part (j := 0) hxl (by simp)
  obtain ⟨y1, e1⟩ := at_part (j := 1) hxl (by simp)
  obtain ⟨a0, h0, _, c0⟩ := DataW.trod_int Try.underlying3 ((hf 0 _ rfl).trans e0)
  have b0 := wf_i64 c0
  obtain ⟨a1, ⟨A1, c1, h1, l1, C1⟩, b1⟩ := opens74 _ _ _ _ _ _ _ _ ((hf 1 _ rfl).trans e1)
  rw [cellsQ76] at hlen
  replace h0 : (cs.drop 0).take (Try.prog.cellsOf 3) = _ := h0
  replace h1 : (cs.drop 1).take (Try.prog.cellsOf 74) = _ := h1
  rw [cellsQ3] at h0
  rw [cellsQ74] at h1
  refine ⟨⟨a0, a1⟩, ?_, ⟨b0, b1⟩⟩
  have : cs = [.int .i64 a0, .slice A1 a1.length c1] := by
    clear hf hxl hy e0 e1 c0 l1 C1 b0 b1
    match cs, hlen with
    | [v0, v1], _ =>
      simp at h0 h1
      simp [h0, h1]
  rw [this]
  exact k76_mk w ⟨a0, a1⟩ l1 C1
theorem opens79 : OpensQ k79 79 Q79 := by
  intro H enc w base spare held n cs y hy
  obtain ⟨xs, n', _, rfl, hlen, hxl, hf⟩ := DataW.trod_struct Try.underlying79 hy
  obtain ⟨y0, e0⟩ := at_part (j := 0) hxl (by simp)
  obtain ⟨y1, e1⟩ := at_part (j := 1) hxl (by simp)
  obtain ⟨y2, e2⟩ := at_part (j := 2) hxl (by simp)
  obtain ⟨y3, e3⟩ := at_part (j := 3) hxl (by simp)
  obtain ⟨a0, h0, _, c0⟩ := DataW.trod_int Try.underlying3 ((hf 0 _ rfl).trans e0)
  have b0 := wf_i64 c0
  obtain ⟨a1, h1, _, c1⟩ := DataW.trod_int Try.underlying3 ((hf 1 _ rfl).trans e1)
  have b1 := wf_i64 c1
  obtain ⟨a2, h2, _, _⟩ := DataW.trod_string Try.underlying9 ((hf 2 _ rfl).trans e2)
  obtain ⟨a3, h3, _, c3⟩ := DataW.trod_int Try.underlying3 ((hf 3 _ rfl).trans e3)
  have b3 := wf_i64 c3
  rw [cellsQ79] at hlen
  replace h0 : (cs.drop 0).take (Try.prog.cellsOf 3) = _ := h0
  replace h1 : (cs.drop 1).take (Try.prog.cellsOf 3) = _ := h1
  replace h2 : (cs.drop 2).take (Try.prog.cellsOf 9) = _ := h2
  replace h3 : (cs.drop 3).take (Try.prog.cellsOf 3) = _ := h3
  rw [cellsQ3] at h0 h1 h3
  rw [cellsQ9] at h2
  refine ⟨⟨a0, a1, a2, a3⟩, ?_, ⟨b0, b1, b3⟩⟩
  have : cs = [.int .i64 a0, .int .i64 a1, .string a2, .int .i64 a3] := by
    clear hf hxl hy e0 e1 e2 e3 c0 c1 c3 b0 b1 b3
    match cs, hlen with
    | [v0, v1, v2, v3], _ =>
      simp at h0 h1 h2 h3
      simp [h0, h1, h2, h3]
  rw [this]
  exact k79_mk w ⟨a0, a1, a2, a3⟩
theorem opens22 : OpensQ (Kd.slice 55 k55) 22 (fun xs => ∀ x ∈ xs, Q55 x) := opensQ_slice Try.underlying22 cellsQ55 opens55
theorem opens23 : OpensQ (Kd.slice 59 k59) 23 (fun xs => ∀ x ∈ xs, Q59 x) := opensQ_slice Try.underlying23 cellsQ59 opens59
theorem opens24 : OpensQ (Kd.slice 63 k63) 24 (fun xs => ∀ x ∈ xs, basketsO x) := opensQ_slice Try.underlying24 cellsQ63 opens63
theorem opens25 : OpensQ (Kd.slice 67 k67) 25 (fun xs => ∀ x ∈ xs, Q67 x) := opensQ_slice Try.underlying25 cellsQ67 opens67
theorem opens26 : OpensQ (Kd.slice 127 k127) 26 (fun xs => ∀ x ∈ xs, quotesO x) := opensQ_slice Try.underlying26 cellsQ127 opens127
theorem opens27 : OpensQ (Kd.slice 117 k117) 27 (fun xs => ∀ x ∈ xs, tradesO x) := opensQ_slice Try.underlying27 cellsQ117 opens117
theorem opens30 : OpensQ (Kd.slice 76 k76) 30 (fun xs => ∀ x ∈ xs, Q76 x) := opensQ_slice Try.underlying30 cellsQ76 opens76
theorem opens31 : OpensQ (Kd.slice 79 k79) 31 (fun xs => ∀ x ∈ xs, Q79 x) := opensQ_slice Try.underlying31 cellsQ79 opens79
set_option maxRecDepth 100000 in
theorem opened35 {r : Reach} {b0 : Nat} {H : Type} {enc : TypeId × Value → H} {w : World} {base : Nat} {spare : Nat → Bool} {held : Bool} {v : Value} {y : DataW H} {p : List MemPlace}
    (hv : Value.okWide Try.prog w r b0 35 v) (hy : DataW.Trod enc Try.prog w base spare held 35 v y p) :
    ∃ (V : VR) (A1 A2 A3 A4 A5 A6 A8 A9 A10 : Option Addr) (c1 c2 c3 c4 c5 c6 c8 c9 c10 : Nat), v = .agg #[.int .i64 V.day, .slice A1 V.members.length c1, .slice A2 V.known.length c2, .slice A3 V.baskets.length c3, .slice A4 V.balances.length c4, .slice A5 V.quotes.length c5, .slice A6 V.trades.length c6, .int .i64 V.next, .slice A8 V.covers.length c8, .slice A9 V.inn.length c9, .slice A10 V.outs.length c10] ∧ RL w V A1 A2 A3 A4 A5 A6 A8 A9 A10 ∧ RC V c1 c2 c3 c4 c5 c6 c8 c9 c10 ∧ VO (ofV V) := by
  obtain ⟨vs, rfl, hsz⟩ := okWide_struct Try.underlying35 hv
  obtain ⟨fuel, hf0⟩ := hy
  obtain ⟨cs, hcs⟩ : ∃ cs, Value.cells (.agg vs) = cs := ⟨_, rfl⟩
  have hcl : vs.toList = cs.toList := by rw [← hcs]; simp [Value.cells]
  rw [hcs] at hf0
  obtain ⟨xs, n', _, hyy, hlen, hxl, hf⟩ := DataW.trod_struct Try.underlying35 hf0
  obtain ⟨y0, e0⟩ := at_part (j := 0) hxl (by simp)
  obtain ⟨y1, e1⟩ := at_part (j := 1) hxl (by simp)
  obtain ⟨y2, e2⟩ := at_part (j := 2) hxl (by simp)
  obtain ⟨y3, e3⟩ := at_part (j := 3) hxl (by simp)
  obtain ⟨y4, e4⟩ := at_part (j := 4) hxl (by simp)
  obtain ⟨y5, e5⟩ := at_part (j := 5) hxl (by simp)
  obtain ⟨y6, e6⟩ := at_part (j := 6) hxl (by simp)
  obtain ⟨y7, e7⟩ := at_part (j := 7) hxl (by simp)
  obtain ⟨y8, e8⟩ := at_part (j := 8) hxl (by simp)
  obtain ⟨a0, h0, _, q0⟩ := DataW.trod_int Try.underlying3 ((hf 0 _ rfl).trans e0)
  obtain ⟨X1, ⟨A1, c1, h1, l1, C1⟩, q1⟩ := opens22 _ _ _ _ _ _ _ _ ((hf 1 _ rfl).trans e1)
  obtain ⟨X2, ⟨A2, c2, h2, l2, C2⟩, q2⟩ := opens23 _ _ _ _ _ _ _ _ ((hf 2 _ rfl).trans e2)
  obtain ⟨X3, ⟨A3, c3, h3, l3, C3⟩, q3⟩ := opens24 _ _ _ _ _ _ _ _ ((hf 3 _ rfl).trans e3)
  obtain ⟨X4, ⟨A4, c4, h4, l4, C4⟩, q4⟩ := opens25 _ _ _ _ _ _ _ _ ((hf 4 _ rfl).trans e4)
  obtain ⟨X5, ⟨A5, c5, h5, l5, C5⟩, q5⟩ := opens26 _ _ _ _ _ _ _ _ ((hf 5 _ rfl).trans e5)
  obtain ⟨X8, ⟨A8, c8, h8, l8, C8⟩, q8⟩ := opens30 _ _ _ _ _ _ _ _ ((hf 7 _ rfl).trans e7)
  have t6 := (hf 6 _ rfl).trans e6
  have t8 := (hf 8 _ rfl).trans e8
  obtain ⟨us, m1, _, _, hlen6, hul, hg⟩ := DataW.trod_struct Try.underlying29 t6
  obtain ⟨ts, m2, _, _, hlen8, htl, hk⟩ := DataW.trod_struct Try.underlying33 t8
  obtain ⟨u0, d0⟩ := at_part (j := 0) hul (by simp)
  obtain ⟨u1, d1⟩ := at_part (j := 1) hul (by simp)
  obtain ⟨g0, f0⟩ := at_part (j := 0) htl (by simp)
  obtain ⟨g1, f1⟩ := at_part (j := 1) htl (by simp)
  obtain ⟨X6, ⟨A6, c6, h6, l6, C6⟩, q6⟩ := opens27 _ _ _ _ _ _ _ _ ((hg 0 _ rfl).trans d0)
  obtain ⟨a7, h7, _, q7⟩ := DataW.trod_int Try.underlying3 ((hg 1 _ rfl).trans d1)
  obtain ⟨X9, ⟨A9, c9, h9, l9, C9⟩, q9⟩ := opens31 _ _ _ _ _ _ _ _ ((hk 0 _ rfl).trans f0)
  obtain ⟨X10, ⟨A10, c10, h10, l10, C10⟩, q10⟩ := opens31 _ _ _ _ _ _ _ _ ((hk 1 _ rfl).trans f1)
  have hl35 : Try.prog.cellsOf 35 = 11 := by kernel_rfl
  rw [hl35, ← hcl] at hlen
  obtain ⟨l⟩ := vs
  replace h0 : (cs.toList.drop 0).take (Try.prog.cellsOf 3) = _ := h0
  rw [cellsQ3, ← hcl] at h0
  replace h1 : (cs.toList.drop 1).take (Try.prog.cellsOf 22) = _ := h1
  rw [cellsQ22, ← hcl] at h1
  replace h2 : (cs.toList.drop 2).take (Try.prog.cellsOf 23) = _ := h2
  rw [cellsQ23, ← hcl] at h2
  replace h3 : (cs.toList.drop 3).take (Try.prog.cellsOf 24) = _ := h3
  rw [cellsQ24, ← hcl] at h3
  replace h4 : (cs.toList.drop 4).take (Try.prog.cellsOf 25) = _ := h4
  rw [cellsQ25, ← hcl] at h4
  replace h5 : (cs.toList.drop 5).take (Try.prog.cellsOf 26) = _ := h5
  rw [cellsQ26, ← hcl] at h5
  replace h8 : (cs.toList.drop 8).take (Try.prog.cellsOf 30) = _ := h8
  rw [cellsQ30, ← hcl] at h8
  replace h6 : (((cs.toList.drop 6).take (Try.prog.cellsOf 29)).drop 0).take (Try.prog.cellsOf 27) = _ := h6
  rw [cellsQ27, cellsQ29, ← hcl] at h6
  replace h7 : (((cs.toList.drop 6).take (Try.prog.cellsOf 29)).drop 1).take (Try.prog.cellsOf 3) = _ := h7
  rw [cellsQ3, cellsQ29, ← hcl] at h7
  replace h9 : (((cs.toList.drop 9).take (Try.prog.cellsOf 33)).drop 0).take (Try.prog.cellsOf 31) = _ := h9
  rw [cellsQ31, cellsQ33, ← hcl] at h9
  replace h10 : (((cs.toList.drop 9).take (Try.prog.cellsOf 33)).drop 1).take (Try.prog.cellsOf 31) = _ := h10
  rw [cellsQ31, cellsQ33, ← hcl] at h10
  refine ⟨⟨a0, X1, X2, X3, X4, X5, X6, a7, X8, X9, X10⟩, A1, A2, A3, A4, A5, A6, A8, A9, A10, c1, c2, c3, c4, c5, c6, c8, c9, c10, ?_, ⟨C1, C2, C3, C4, C5, C6, C8, C9, C10⟩, ⟨l1, l2, l3, l4, l5, l6, l8, l9, l10⟩, ⟨wf_i64 q0, wf_i64 q7, ?_, ?_, ?_, q3, ?_, q5, q6, ?_, ?_, ?_⟩⟩
  · have : l = [.int .i64 a0, .slice A1 X1.length c1, .slice A2 X2.length c2, .slice A3 X3.length c3, .slice A4 X4.length c4, .slice A5 X5.length c5, .slice A6 X6.length c6, .int .i64 a7, .slice A8 X8.length c8, .slice A9 X9.length c9, .slice A10 X10.length c10] := by
      clear hf hf0 hxl hg hk hul htl t6 t8 hlen6 hlen8 hcl hcs hsz hyy hv d0 d1 f0 f1 e0 e1 e2 e3 e4 e5 e6 e7 e8 C1 C2 C3 C4 C5 C6 C8 C9 C10 l1 l2 l3 l4 l5 l6 l8 l9 l10 q0 q1 q2 q3 q4 q5 q6 q7 q8 q9 q10
      match l, hlen with
      | [v0, v1, v2, v3, v4, v5, v6, v7, v8, v9, v10], _ =>
        simp at h0 h1 h2 h3 h4 h5 h6 h7 h8 h9 h10
        simp [h0, h1, h2, h3, h4, h5, h6, h7, h8, h9, h10]
    rw [this]
  · intro x hx
    obtain ⟨z, hz, rfl⟩ := List.mem_map.1 (show x ∈ X1.map m68 from hx)
    exact q1 z hz
  · intro x hx
    obtain ⟨z, hz, rfl⟩ := List.mem_map.1 (show x ∈ X2.map a57 from hx)
    exact (q2 z hz).1
  · intro x hx
    obtain ⟨z, hz, rfl⟩ := List.mem_map.1 (show x ∈ X2.map p70 from hx)
    exact (q2 z hz).2
  · intro x hx
    obtain ⟨z, hz, rfl⟩ := List.mem_map.1 (show x ∈ X4.map b73 from hx)
    exact ⟨(q4 z hz).1.1, (q4 z hz).1.2, (q4 z hz).2⟩
  · intro x hx
    obtain ⟨z, hz, rfl⟩ := List.mem_map.1 (show x ∈ X8.map c77 from hx)
    exact q8 z hz
  · intro x hx
    obtain ⟨z, hz, rfl⟩ := List.mem_map.1 (show x ∈ X9.map l80 from hx)
    exact q9 z hz
  · intro x hx
    obtain ⟨z, hz, rfl⟩ := List.mem_map.1 (show x ∈ X10.map l80 from hx)
    exact q10 z hz
end Go.Proofs.Ythpgjeiglhdciaa.SN

namespace Go.Proofs.Ythpgjeiglhdciaa.snapBack
open Go Go.RowKit Go.ChangeShapes Go.WideShapes Go.ChangeAt Go.Proofs
open Go.ChangeMaps (open_string shut_string)
set_option linter.unusedVariables false
theorem laidOut : laidOutB Try.prog = true := by kernel_rfl
theorem own : ownKnob Try.prog.godebug = none := by kernel_rfl
set_option maxRecDepth 100000 in
theorem lifted (os : Os) (started : os.Started) (H : Type) (enc : TypeId × Value → H) :
    ReturnsInHanded {} Try.checked os 3 .any (Rows.snapBackSpec.pre6 enc Try.prog Try.f3 Rows.snapBackRow.domain false) (Rows.snapBackSpec.post enc Try.prog Try.f3 false true false false) := by
  refine returnsInHanded_of_change_sized (C := Try.checked) own started (by kernel_rfl) Try.func3
    (ChangeSpec.witness6 (enc := enc) (C := Try.checked) false ⟨#[], #[.agg #[.int .i64 0, .slice none 0 0, .slice none 0 0, .slice none 0 0, .slice none 0 0, .slice none 0 0, .slice none 0 0, .int .i64 0, .slice none 0 0, .slice none 0 0, .slice none 0 0]], []⟩ 8 (by kernel_rfl) (by kernel_rfl) (by kernel_rfl) (by kernel_rfl)) ?_
  intro W base args ds gs before hval0 hW hcnd hsz0 _
  have hsz : (DataW.weightsEach Try.prog (Try.f3.params.toList ++ Rows.snapBackSpec.plain.varTypes Try.prog) (ds ++ gs)).all (· ≤ reachBytes) = true := hsz0
  have hval : ∀ (j : Nat) t v, Try.f3.params[j]? = some t → args[j]? = some v → Value.okWide Try.prog W .any base t v := hval0
  have hW' := hW
  obtain ⟨p, q, hA0, hV, rfl, hfz, hnd⟩ := hW
  have hA : DataW.TrodAll enc Try.prog W 0 (fun _ => true) true Try.f3.params.toList args.toList ds p := hA0
  rw [Try.params3] at hA hval hsz
  obtain ⟨v0, vs0, d0, ds0, p0, q0, hargs, rfl, rfl, h0, r0⟩ := trodAll_cons hA
  obtain ⟨rfl, rfl, rfl⟩ := trodAll_nil r0
  obtain rfl : args = #[v0] := by cases args; simp_all
  obtain ⟨rfl, rfl⟩ := trodVars_none hV
  have k0 := h0
  have lt0 : ∀ x ∈ p0, x.block < W.heap.size := by obtain ⟨m, hm⟩ := k0; exact DataW.trod_lt m _ _ _ hm
  obtain ⟨V, A1, A2, A3, A4, A5, A6, A8, A9, A10, c1, c2, c3, c4, c5, c6, c8, c9, c10, rfl, hL, hC, hO⟩ := SN.opened35 (hval 0 35 v0 rfl rfl) h0
  clear hA0 hval0 hsz0 hsz
  refine (SN.back_any hL hC hO).mono fun e W' ⟨he, bel⟩ => ?_
  subst he
  exact ⟨_, rfl, _, _, _, [], _, [], hW', trodAll_mk1 (shut_bool Try.underlying4 _), (trodAll_cons_mk (Below.trod laidOut (by kernel_rfl) (of_decide_eq_true (by kernel_rfl)) k0 bel lt0) trodAll_mk0), rfl, bel.frame _, fun h => by cases h⟩
theorem over : Rows.snapBackRow.holds Try.pinned (OpenSpec.ofChange Rows.snapBackSpec) :=
  OpenClaim.holds_of_wide 3 Try.f3 rfl rfl rfl rfl rfl rfl rfl ⟨rfl, rfl, rfl, rfl, rfl⟩ rfl rfl rfl rfl rfl (by kernel_rfl) Try.func3 (by kernel_rfl)
    (of_decide_eq_true (by kernel_rfl)) (by unfold Func.isWrapper; first | (rw [if_pos (by decide +kernel)]; kernel_rfl) | (rw [if_neg (by decide +kernel)]; exact ⟨rfl, rfl⟩))
    (fun os started H enc _ => lifted os started H enc)
theorem proved : Rows.SnapBackSaid := over
end Go.Proofs.Ythpgjeiglhdciaa.snapBack
namespace Go.Proofs.Ythpgjeiglhdciaa
/-- The row, under a short name, for the claim. -/
theorem snapBack_holds : Rows.SnapBackSaid := snapBack.proved
end Go.Proofs.Ythpgjeiglhdciaa
