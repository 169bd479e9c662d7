/- What comes in; a post on both sides. -/
import Derived.Test.YtoknlpecbdlbfaaPLx0
import Derived.WalkKit
import Derived.ProofKit
import Derived.Deep.Slices
import Derived.SizedLaws
import Derived.Test.YtoknlpecbdlbfaaG1
import Derived.Test.YtoknlpecbdlbfaaG4

/- Arguments that come in: slices of structs, and slices of these, read as rows. -/
namespace Go.Proofs.Ytoknlpecbdlbfaa.PL
open Go Go.RowKit Go.ChangeShapes Go.WideShapes Go.Deep Go.Proofs Go.Proofs.YtoknlpecbdlbfaaW.PrintWords Go.Proofs.YtoknlpecbdlbfaaW.PrintLast
/-- No part of the datum is greater than the form's reach. -/
def Small {H : Type} (t : TypeId) (d : DataW H) : Prop := ∀ m ∈ DataW.weights Try.prog t d, m ≤ reachBytes
/-- Whatever cells are read at the type t are those of some x of the kind d, of which Q holds. -/
def Opens {α : Type} (d : Kd α) (t : TypeId) (Q : α → Prop) : Prop :=
  ∀ {H : Type} (enc : TypeId × Value → H) (w : World) (base : Nat) (spare : Nat → Bool) (held : Bool) (n : Nat) (cs : List Value) (y : DataW H × List MemPlace), DataW.trod enc Try.prog w base spare held n t cs = some y → Small t y.1 → ∃ x : α, d.K w x cs ∧ Q x
theorem mem_weightsAll {H : Type} {P : Program} {e : TypeId} {m : Nat} {d : DataW H} (hm : m ∈ DataW.weights P e d) : ∀ {l : List (DataW H)}, d ∈ l → m ∈ DataW.weightsAll P e l
  | [], h => by simp at h
  | a :: r, h => by
    unfold DataW.weightsAll
    rcases List.mem_cons.1 h with rfl | h
    · exact List.mem_append_left _ hm
    · exact List.mem_append_right _ (mem_weightsAll hm h)
/-- A slice whose elements are so. -/
def QS {α : Type} (B : Nat) (Q : α → Prop) (xs : List α) : Prop := xs.length * B ≤ 140737488351232 ∧ ∀ x ∈ xs, Q x
theorem opens_slice {α : Type} {d : Kd α} {t e : TypeId} {Q : α → Prop} {B : Nat} (ht : Try.prog.underlying t = some (.slice e)) (hc : Try.prog.cellsOf e = d.sz) (hB : Try.prog.bytesOf e = B) (h : Opens d e Q) : Opens (Kd.slice e d) t (QS B Q) := by
  intro H enc w base spare held n cs y hy hs
  rcases open_slice ht hy with ⟨rfl, _⟩ | ⟨a, len, cap, m, n', D, Pl, rfl, hb, hl, hm, hmm, rfl, hi⟩
  · exact ⟨[], ⟨none, 0, rfl, Nat.le_refl _, rfl, by simp, fun h => absurd h (by simp)⟩, by simp, by simp⟩
  · have hlm : len ≤ m := by rw [hmm]; split <;> omega
    have hw : ∀ i, i < len → Small e (D i) := by
      intro i hi q hq
      refine hs q ?_
      simp only [DataW.weights, ht]
      exact List.mem_cons_of_mem _ (List.mem_append_left _ (mem_weightsAll hq (List.mem_map.2 ⟨i, by simpa using hi, rfl⟩)))
    have hlen : len * B ≤ 140737488351232 := by
      have h1 := hs ((len + (m - len)) * Try.prog.bytesOf e) (by
        simp only [DataW.weights, ht]
        simp)
      rw [hB] at h1
      exact Nat.le_trans (Nat.mul_le_mul_right _ (by omega)) h1
    have hx : ∀ i : Fin len, ∃ x cs', w.cells? base (a.add (i.1 * Try.prog.cellsOf e)) (Try.prog.cellsOf e) = some cs' ∧ d.K w x cs' ∧ Q x := by
      intro i
      obtain ⟨cs', h1, h2⟩ := hi i.1 (by have := i.2; omega)
      obtain ⟨x, h3, h4⟩ := h enc w base spare held _ _ _ h2 (hw i.1 i.2)
      exact ⟨x, cs', h1, h3, h4⟩
    obtain ⟨f, hf⟩ := Classical.axiomOfChoice hx
    refine ⟨List.ofFn f, ⟨some a, cap, by simp, by simpa using hl, by simp, by simp; unfold maxLen at hm; omega, fun _ => ⟨a, rfl, fun j p hj => ?_⟩⟩, by simpa using hlen, fun x hx => by
      obtain ⟨i, rfl⟩ := List.mem_ofFn.1 hx
      obtain ⟨_, _, _, h3⟩ := hf i
      exact h3⟩
    have hjl : j < len := by
      have := (List.getElem?_eq_some_iff.1 hj).1
      simpa using this
    obtain ⟨cs', h1, h2, _⟩ := hf ⟨j, hjl⟩
    have hp : p = f ⟨j, hjl⟩ := by
      have := (List.getElem?_eq_some_iff.1 hj).2
      simpa using this.symm
    subst hp
    obtain ⟨_, hcl, hat⟩ := World.cells?_some h1
    refine ⟨cs', by rw [hcl, hc], h2, fun i u hu => ?_⟩
    have hil : i < cs'.length := (List.getElem?_eq_some_iff.1 hu).1
    have h3 := hat i (by omega)
    rw [hu] at h3
    rw [← hc, ← Go.Deep.add_add]
    exact h3
theorem cells45' : Try.prog.cellsOf 45 = 3 := by kernel_rfl
theorem cells47' : Try.prog.cellsOf 47 = 7 := by kernel_rfl
theorem cells82' : Try.prog.cellsOf 82 = 4 := by kernel_rfl
theorem cells30' : Try.prog.cellsOf 30 = 1 := by kernel_rfl
theorem cells3' : Try.prog.cellsOf 3 = 1 := by kernel_rfl
theorem cells9' : Try.prog.cellsOf 9 = 1 := by kernel_rfl
theorem bytes47' : Try.prog.bytesOf 47 = 72 := by kernel_rfl
theorem bytes82' : Try.prog.bytesOf 82 = 40 := by kernel_rfl
theorem bytes30' : Try.prog.bytesOf 30 = 24 := by kernel_rfl
/-- Each of the account's parts is well formed. -/
def Q45 (a : S45) : Prop := (Lit.int .i64 a.f0).wf = true ∧ (Lit.int .i64 a.f1).wf = true ∧ a.f2.size ≤ 140737488351232
def Q47 (x : S47) : Prop := Q45 x.f0 ∧ Q45 x.f1 ∧ (Lit.int .i64 x.f2).wf = true
def Q82 (x : S82) : Prop := Q45 x.f0 ∧ (Lit.int .i64 x.f1).wf = true
theorem small_part {H : Type} {t : TypeId} {fs : Array Field} (ht : Try.prog.underlying t = some (.struct fs)) {ys : List (DataW H × List MemPlace)} (h : Small t (DataW.agg (ys.map (·.1)))) (j : Nat) {f : Field} (hf : fs[j]? = some f) {y : DataW H × List MemPlace} (hy : ys[j]? = some y) : Small f.type y.1 := by
  intro m hm
  refine h m ?_
  simp only [DataW.weights, ht]
  exact DataW.weights_mem_each (j := j) (by simp [hf]) (by simp [hy]) m hm
theorem opens45 : Opens k45 45 Q45 := by
  intro H enc w base spare held n cs y hy hs
  obtain ⟨xs, n', _, rfl, hlen, hxl, hf⟩ := DataW.trod_struct Try.underlying45 hy
  have hx0 : ∃ y0, xs[0]? = some y0 := ⟨xs[0]'(by rw [hxl]; simp), List.getElem?_eq_getElem _⟩
  have hx1 : ∃ y0, xs[1]? = some y0 := ⟨xs[1]'(by rw [hxl]; simp), List.getElem?_eq_getElem _⟩
  have hx2 : ∃ y0, xs[2]? = some y0 := ⟨xs[2]'(by rw [hxl]; simp), List.getElem?_eq_getElem _⟩
  obtain ⟨y0, e0⟩ := hx0
  obtain ⟨y1, e1⟩ := hx1
  obtain ⟨y2, e2⟩ := hx2
  obtain ⟨a0, h0, _, b0⟩ := DataW.trod_int Try.underlying3 ((hf 0 _ rfl).trans e0)
  obtain ⟨a1, h1, _, b1⟩ := DataW.trod_int Try.underlying3 ((hf 1 _ rfl).trans e1)
  obtain ⟨a2, h2, d2, _⟩ := DataW.trod_string Try.underlying9 ((hf 2 _ rfl).trans e2)
  have b2 : a2.size ≤ 140737488351232 := by
    have h3 := small_part Try.underlying45 hs 2 rfl e2
    rw [d2] at h3
    have h4 := h3 a2.data.toList.length (by simp [DataW.weights])
    rw [Array.length_toList] at h4
    exact h4
  rw [cells45'] at hlen
  replace h0 : (cs.drop 0).take (Try.prog.cellsOf 3) = _ := h0
  replace h1 : (cs.drop 1).take (Try.prog.cellsOf 3) = _ := h1
  replace h2 : (cs.drop 2).take (Try.prog.cellsOf 9) = _ := h2
  rw [cells3'] at h0 h1
  rw [cells9'] at h2
  refine ⟨⟨a0, a1, a2⟩, ?_, b0, b1, b2⟩
  have : cs = [.int .i64 a0, .int .i64 a1, .string a2] := by
    clear hf hy hxl
    match cs, hlen with
    | [c0, c1, c2], _ =>
      simp at h0 h1 h2
      simp [h0, h1, h2]
  rw [this]
  exact k45_mk w ⟨a0, a1, a2⟩
theorem k45_inv {w : World} {x : S45} {cs : List Value} (h : k45.K w x cs) : cs = [.int .i64 x.f0, .int .i64 x.f1, .string x.f2] := k45_open h
theorem opens47 : Opens k47 47 Q47 := by
  intro H enc w base spare held n cs y hy hs
  obtain ⟨xs, n', _, rfl, hlen, hxl, hf⟩ := DataW.trod_struct Try.underlying47 hy
  have hx0 : ∃ y0, xs[0]? = some y0 := ⟨xs[0]'(by rw [hxl]; simp), List.getElem?_eq_getElem _⟩
  have hx1 : ∃ y0, xs[1]? = some y0 := ⟨xs[1]'(by rw [hxl]; simp), List.getElem?_eq_getElem _⟩
  have hx2 : ∃ y0, xs[2]? = some y0 := ⟨xs[2]'(by rw [hxl]; simp), List.getElem?_eq_getElem _⟩
  obtain ⟨y0, e0⟩ := hx0
  obtain ⟨y1, e1⟩ := hx1
  obtain ⟨y2, e2⟩ := hx2
  obtain ⟨a0, h0, b0⟩ := opens45 _ _ _ _ _ _ _ _ ((hf 0 _ rfl).trans e0) (small_part Try.underlying47 hs 0 rfl e0)
  obtain ⟨a1, h1, b1⟩ := opens45 _ _ _ _ _ _ _ _ ((hf 1 _ rfl).trans e1) (small_part Try.underlying47 hs 1 rfl e1)
  obtain ⟨a2, h2, _, b2⟩ := DataW.trod_int Try.underlying3 ((hf 2 _ rfl).trans e2)
  have h0' := k45_inv h0
  have h1' := k45_inv h1
  rw [cells47'] at hlen
  replace h0' : (cs.drop 0).take (Try.prog.cellsOf 45) = _ := h0'
  replace h1' : (cs.drop 3).take (Try.prog.cellsOf 45) = _ := h1'
  replace h2 : (cs.drop 6).take (Try.prog.cellsOf 3) = _ := h2
  rw [cells45'] at h0' h1'
  rw [cells3'] at h2
  refine ⟨⟨a0, a1, a2⟩, ?_, b0, b1, b2⟩
  have : cs = [.int .i64 a0.f0, .int .i64 a0.f1, .string a0.f2, .int .i64 a1.f0, .int .i64 a1.f1, .string a1.f2, .int .i64 a2] := by
    clear hf hy hxl h0 h1 e0 e1 e2 hs
    match cs, hlen with
    | [c0, c1, c2, c3, c4, c5, c6], _ =>
      simp at h0' h1' h2
      simp [h0', h1', h2]
  rw [this]
  exact k47_mk w ⟨a0, a1, a2⟩
theorem opens82 : Opens k82 82 Q82 := by
  intro H enc w base spare held n cs y hy hs
  obtain ⟨xs, n', _, rfl, hlen, hxl, hf⟩ := DataW.trod_struct Try.underlying82 hy
  have hx0 : ∃ y0, xs[0]? = some y0 := ⟨xs[0]'(by rw [hxl]; simp), List.getElem?_eq_getElem _⟩
  have hx1 : ∃ y0, xs[1]? = some y0 := ⟨xs[1]'(by rw [hxl]; simp), List.getElem?_eq_getElem _⟩
  obtain ⟨y0, e0⟩ := hx0
  obtain ⟨y1, e1⟩ := hx1
  obtain ⟨a0, h0, b0⟩ := opens45 _ _ _ _ _ _ _ _ ((hf 0 _ rfl).trans e0) (small_part Try.underlying82 hs 0 rfl e0)
  obtain ⟨a1, h1, _, b1⟩ := DataW.trod_int Try.underlying3 ((hf 1 _ rfl).trans e1)
  have h0' := k45_inv h0
  rw [cells82'] at hlen
  replace h0' : (cs.drop 0).take (Try.prog.cellsOf 45) = _ := h0'
  replace h1 : (cs.drop 3).take (Try.prog.cellsOf 3) = _ := h1
  rw [cells45'] at h0'
  rw [cells3'] at h1
  refine ⟨⟨a0, a1⟩, ?_, b0, b1⟩
  have : cs = [.int .i64 a0.f0, .int .i64 a0.f1, .string a0.f2, .int .i64 a1] := by
    clear hf hy hxl h0 e0 e1 hs
    match cs, hlen with
    | [c0, c1, c2, c3], _ =>
      simp at h0' h1
      simp [h0', h1]
  rw [this]
  exact k82_mk w ⟨a0, a1⟩
theorem opens30 : Opens (Kd.slice 47 k47) 30 (QS 72 Q47) := opens_slice Try.underlying30 cells47' bytes47' opens47
theorem opens22 : Opens (Kd.slice 30 (Kd.slice 47 k47)) 22 (QS 24 (QS 72 Q47)) := opens_slice Try.underlying22 cells30' bytes30' opens30
theorem opens27 : Opens (Kd.slice 82 k82) 27 (QS 40 Q82) := opens_slice Try.underlying27 cells82' bytes82' opens82
/-- Argument j's datum is small. -/
theorem small_arg {H : Type} {ts : List TypeId} {ds : List (DataW H)} (hsz : (DataW.weightsEach Try.prog ts ds).all (· ≤ reachBytes) = true) {j : Nat} {t : TypeId} {d : DataW H} (ht : ts[j]? = some t) (hd : ds[j]? = some d) : Small t d := by
  intro m hm
  have := List.all_eq_true.1 hsz _ (DataW.weights_mem_each ht hd m hm)
  simpa using this
/-- A slice that comes in, as a row. -/
theorem opened {α : Type} {d : Kd α} {t e : TypeId} {Q : List α → Prop} (h : Opens (Kd.slice e d) t Q) {H : Type} {enc : TypeId × Value → H} {w : World} {base : Nat} {spare : Nat → Bool} {held : Bool} {a : Option Addr} {len cap : Nat} {y : DataW H} {p : List MemPlace}
    (hy : DataW.Trod enc Try.prog w base spare held t (.slice a len cap) y p) (hs : Small t y) : ∃ xs : List α, len = xs.length ∧ xs.length ≤ cap ∧ Kd.C d w a xs.length xs ∧ Q xs := by
  obtain ⟨fuel, hf⟩ := hy
  obtain ⟨x, ⟨A, c, he, hl, hC⟩, hq⟩ := h enc w base spare held fuel _ _ hf hs
  simp [Value.cells] at he
  obtain ⟨rfl, rfl, rfl⟩ := he
  exact ⟨x, rfl, hl, hC, hq⟩
set_option maxRecDepth 100000 in
/-- An account that comes in. -/
theorem opened45 {r : Reach} {b0 : Nat} {H : Type} {enc : TypeId × Value → H} {w : World} {base : Nat} {spare : Nat → Bool} {held : Bool} {v : Value} {y : DataW H} {p : List MemPlace}
    (hv : Value.okWide Try.prog w r b0 45 v) (hy : DataW.Trod enc Try.prog w base spare held 45 v y p) (hs : Small 45 y) : ∃ x : S45, v = .agg #[.int .i64 x.f0, .int .i64 x.f1, .string x.f2] ∧ Q45 x := by
  obtain ⟨cs, rfl, hsz⟩ := okWide_struct Try.underlying45 hv
  obtain ⟨fuel, hf⟩ := hy
  obtain ⟨x, hK, hq⟩ := opens45 enc w base spare held fuel _ _ hf hs
  have h := k45_inv hK
  simp [Value.cells] at h
  exact ⟨x, by rw [← h], hq⟩
end Go.Proofs.Ytoknlpecbdlbfaa.PL

/- short, as a plain law. -/
namespace Go.Proofs.Ytoknlpecbdlbfaa.PL
open Go Go.RowKit Go.Proofs Go.Proofs.YtoknlpecbdlbfaaW.PrintWords Go.Proofs.YtoknlpecbdlbfaaW.PrintLast
/-- How many entries all posts have. -/
def totL (l : List (List S47)) : Nat := (l.map List.length).sum
theorem totL_take {l : List (List S47)} {i : Nat} (h : i < l.length) : totL (l.take (i + 1)) = totL (l.take i) + l[i].length := by
  unfold totL
  rw [List.take_succ_eq_append_getElem h, List.map_append, List.sum_append]
  simp
theorem totL_mem {l : List (List S47)} {x : List S47} (h : x ∈ l) : x.length ≤ totL l := by
  induction l with
  | nil => simp at h
  | cons a r ih =>
    have e : totL (a :: r) = a.length + totL r := by simp [totL]
    rcases List.mem_cons.1 h with rfl | h
    · omega
    · have := ih h; omega
theorem short_l0 (l : List (List S47)) (hL : l.length ≤ 140737488351232) (hx : ∀ x ∈ l, x.length ≤ 140737488351232) : ∀ (k i n : Nat), l.length - i + 1 ≤ k → i ≤ l.length → n = totL (l.take i) → n ≤ 300 + 140737488351232 →
    ∃ r, lombardlaw11_short.l0 k l (n : Int) (i : Int) = some r ∧ (r = true → l.length ≤ 40 ∧ totL l ≤ 300)
  | 0, _, _, hk, _, _, _ => by omega
  | k + 1, i, n, hk, hi, hn, hb => by
    unfold lombardlaw11_short.l0
    by_cases h : i < l.length
    · have h' : ((i : Int) < (l.length : Int)) := by omega
      rw [if_pos h']
      by_cases h40 : (i : Int) ≤ 40
      · rw [if_pos h40]
        by_cases h300 : (n : Int) ≤ 300
        · rw [if_pos h300, if_pos (by omega)]
          have e1 : rd_L4 l (i : Int) = l[i] := by
            unfold rd_L4
            simp [List.getD, h]
          have hl := hx l[i] (List.getElem_mem h)
          have e2 : wrap64 ((n : Int) + (((rd_L4 l (i : Int)).length : Nat) : Int)) = ((n + l[i].length : Nat) : Int) := by
            rw [e1, wrap_id (by omega) (by omega)]
            rfl
          have e3 : wrap64 ((i : Int) + 1) = ((i + 1 : Nat) : Int) := by
            rw [wrap_id (by omega) (by omega)]
            rfl
          rw [e2, e3]
          exact short_l0 l hL hx k (i + 1) (n + l[i].length) (by omega) h (by rw [totL_take h, hn]) (by omega)
        · rw [if_neg h300]
          split
          · refine ⟨_, rfl, fun hr => ?_⟩
            exact absurd (of_decide_eq_true hr) h300
          · exact ⟨_, rfl, fun hr => by cases hr⟩
      · rw [if_neg h40, if_neg (by omega)]
        exact ⟨_, rfl, fun hr => by cases hr⟩
    · have h' : ¬ ((i : Int) < (l.length : Int)) := by omega
      rw [if_neg h']
      have hi' : i = l.length := by omega
      rw [hi', List.take_length] at hn
      split
      · refine ⟨_, rfl, fun hr => ?_⟩
        have := of_decide_eq_true hr
        omega
      · exact ⟨_, rfl, fun hr => by cases hr⟩
theorem short_f (l : List (List S47)) (hq : QS 24 (QS 72 Q47) l) : ∃ r, lombardlaw11_short.f (l.length + 1) l = some r ∧ (r = true → l.length ≤ 40 ∧ totL l ≤ 300) :=
  short_l0 l (by have := hq.1; omega) (fun x hx => by have := (hq.2 x hx).1; omega) (l.length + 1) 0 0 (by omega) (by omega) rfl (by omega)
theorem short_any (A0 : Option Addr) (c0 : Nat) (l : List (List S47)) (w : World) (hq : QS 24 (QS 72 Q47) l) (hr : Kd.C (Kd.slice 47 k47) w A0 l.length l) (hc : l.length ≤ c0) :
    ∃ r, Calls Try.prog 15 #[.slice A0 l.length c0] w (fun e w' => e = .returned (.bool r) ∧ Below w.heap.size w w') ∧ (r = true → l.length ≤ 40 ∧ totL l ≤ 300) := by
  obtain ⟨r, h1, h2⟩ := short_f l hq
  exact ⟨r, (lombardlaw11_short.calls _ A0 c0 l r w hr hc h1).mono (fun e w' h => ⟨h.1, h.2.below⟩), h2⟩
end Go.Proofs.Ytoknlpecbdlbfaa.PL

/- What things the document's list has, as the program's compaction. -/
namespace Go.Proofs.Ytoknlpecbdlbfaa.PL
open Go Go.RowKit Go.Maps Go.Sort Go.Shelf Go.Proofs Go.Proofs.YtoknlpecbdlbfaaW.PrintWords Go.Proofs.YtoknlpecbdlbfaaW.PrintLast
/-- The balances' things. -/
def thingsOf (L : List S82) : List ByteArray := L.map (fun b => b.f0.f2)
theorem bl_inj {s t : ByteArray} (h : bl s = bl t) : s = t := by
  apply ByteArray.ext
  exact Array.toList_inj.1 h
theorem toList_iff (s t : ByteArray) : s.toList = t.toList ↔ s = t := by
  constructor
  · intro h
    rw [ByteArray.toList_eq, ByteArray.toList_eq] at h
    exact bl_inj h
  · rintro rfl; rfl
theorem at_bl (L : List S82) {i : Nat} (h : i < L.length) : ((thingsOf L).map bl).toArray[i]! = bl (rd_T82 L (i : Int)).f0.f2 := by
  have e : rd_T82 L (i : Int) = L[i] := by
    unfold rd_T82
    simp [List.getD, h]
  rw [e]
  rw [getElem!_pos _ i (by simpa [thingsOf] using h)]
  simp [thingsOf]
theorem keeps_iff (L : List S82) {i : Nat} (h : i < L.length) : Lib.keeps ((thingsOf L).map bl).toArray i = true ↔ i = 0 ∨ ¬ (rd_T82 L (i : Int)).f0.f2.toList = (rd_T82 L ((i - 1 : Nat) : Int)).f0.f2.toList := by
  unfold Lib.keeps
  rw [decide_eq_true_iff, at_bl L h, at_bl L (i := i - 1) (by omega), toList_iff]
  constructor
  · rintro (h1 | h1)
    · exact .inl h1
    · exact .inr (fun h2 => h1 (by rw [h2]))
  · rintro (h1 | h1)
    · exact .inl h1
    · exact .inr (fun h2 => h1 (bl_inj h2))
theorem things_l0 (L : List S82) (hL : L.length ≤ 1000000) : ∀ (k i m : Nat) (out : List ByteArray), m + 1 ≤ k → i + m = L.length → out.length ≤ i →
    lombardref11_Things.l0 k L out (i : Int) = some (out ++ (((List.range' i m).filter (Lib.keeps ((thingsOf L).map bl).toArray)).map (fun j : Nat => (rd_T82 L (j : Int)).f0.f2)))
  | 0, _, _, _, hk, _, _ => by omega
  | k + 1, i, 0, out, hk, hi, ho => by
    unfold lombardref11_Things.l0
    rw [if_neg (by omega)]
    simp
  | k + 1, i, m + 1, out, hk, hi, ho => by
    have hw : wrap64 ((i : Int) + 1) = ((i + 1 : Nat) : Int) := by
      rw [wrap_id (by omega) (by omega)]; rfl
    have hil : i < L.length := by omega
    have hkeep : ∀ b, Lib.keeps ((thingsOf L).map bl).toArray i = b → (List.range' i (m + 1)).filter (Lib.keeps ((thingsOf L).map bl).toArray) = (if b then i :: (List.range' (i + 1) m).filter (Lib.keeps ((thingsOf L).map bl).toArray) else (List.range' (i + 1) m).filter (Lib.keeps ((thingsOf L).map bl).toArray)) := by
      intro b hb
      rw [List.range'_succ, List.filter_cons, hb]
    have hyes : Lib.keeps ((thingsOf L).map bl).toArray i = true → lombardref11_Things.l0 k L (out ++ [(rd_T82 L (i : Int)).f0.f2]) (wrap64 ((i : Int) + 1)) = some (out ++ (((List.range' i (m + 1)).filter (Lib.keeps ((thingsOf L).map bl).toArray)).map (fun j : Nat => (rd_T82 L (j : Int)).f0.f2))) := by
      intro hb
      rw [hkeep _ hb, hw, things_l0 L hL k (i + 1) m _ (by omega) (by omega) (by simp; omega)]
      simp
    have hno : Lib.keeps ((thingsOf L).map bl).toArray i = false → lombardref11_Things.l0 k L out (wrap64 ((i : Int) + 1)) = some (out ++ (((List.range' i (m + 1)).filter (Lib.keeps ((thingsOf L).map bl).toArray)).map (fun j : Nat => (rd_T82 L (j : Int)).f0.f2))) := by
      intro hb
      rw [hkeep _ hb, hw, things_l0 L hL k (i + 1) m _ (by omega) (by omega) (by omega)]
      simp
    unfold lombardref11_Things.l0
    rw [if_pos (by omega)]
    by_cases h0 : i = 0
    · rw [if_pos (by omega), if_pos (by omega), if_pos (by omega)]
      exact hyes ((keeps_iff L hil).2 (.inl h0))
    · have hw1 : wrap64 ((i : Int) - 1) = ((i - 1 : Nat) : Int) := by
        rw [wrap_id (by omega) (by omega)]
        omega
      rw [if_neg (by omega), if_pos (by omega), hw1, if_pos (by omega), if_pos (by omega)]
      by_cases he : (rd_T82 L (i : Int)).f0.f2.toList = (rd_T82 L ((i - 1 : Nat) : Int)).f0.f2.toList
      · rw [if_pos he]
        refine hno ?_
        cases hb : Lib.keeps ((thingsOf L).map bl).toArray i with
        | false => rfl
        | true =>
          rcases (keeps_iff L hil).1 hb with h1 | h1
          · exact absurd h1 h0
          · exact absurd he h1
      · rw [if_neg he, if_pos (by omega)]
        exact hyes ((keeps_iff L hil).2 (.inr he))
theorem things_f (L : List S82) (hL : L.length ≤ 1000000) : lombardref11_Things.f (L.length + 1) L = some (compB (thingsOf L)) := by
  unfold lombardref11_Things.f
  rw [show (0 : Int) = ((0 : Nat) : Int) from rfl, things_l0 L hL (L.length + 1) 0 L.length [] (by omega) (by omega) (by simp)]
  congr 1
  unfold compB Lib.compact Lib.compactUpTo
  rw [List.nil_append, List.map_map, List.length_map, List.range_eq_range']
  have e : (thingsOf L).length = L.length := by simp [thingsOf]
  rw [e]
  refine List.map_congr_left fun j hj => ?_
  have hj' : j < L.length := by
    have := (List.mem_filter.1 hj).1
    rw [List.mem_range'] at this
    omega
  show _ = (⟨(((thingsOf L).map bl).toArray[j]!).toArray⟩ : ByteArray)
  rw [at_bl L hj']
  unfold bl
  simp
/-- Texts: a list is itself. -/
theorem texts_l0 (L : List ByteArray) (hL : L.length ≤ 1000000) : ∀ (k i m : Nat), m + 1 ≤ k → i + m = L.length → lombardref07_Texts.l0 k L L (i : Int) = some true
  | 0, _, _, hk, _ => by omega
  | k + 1, i, 0, hk, hi => by
    unfold lombardref07_Texts.l0
    rw [if_neg (by omega)]
  | k + 1, i, m + 1, hk, hi => by
    have hw : wrap64 ((i : Int) + 1) = ((i + 1 : Nat) : Int) := by
      rw [wrap_id (by omega) (by omega)]; rfl
    unfold lombardref07_Texts.l0
    rw [if_pos (by omega), if_pos (by omega), if_pos (by omega), if_pos rfl, hw]
    exact texts_l0 L hL k (i + 1) m (by omega) (by omega)
theorem texts_f (L : List ByteArray) (hL : L.length ≤ 1000000) : lombardref07_Texts.f (L.length + 1) L L = some true := by
  unfold lombardref07_Texts.f
  rw [if_pos rfl]
  exact texts_l0 L hL _ 0 L.length (by omega) (by omega)
theorem compB_length (xs : List ByteArray) : (compB xs).length ≤ xs.length := by
  rw [len_comp]
  exact Nat.le_trans (compact_le _) (by simp)
/-! How many balances there are. -/
theorem length_pstL : ∀ (x : List S107) (L0 : List S82) (n : Nat) (L : List S82) (c : Nat), L0.length ≤ c → L.length + 2 * x.length ≤ c → (pstL L0 n L x).1.length ≤ c
  | [], L0, n, L, c, _, h => by
    unfold pstL
    simpa using h
  | e :: r, L0, n, L, c, h0, h => by
    unfold pstL
    have hm := length_mvL L e
    simp only [List.length_cons] at h
    split
    · exact length_pstL r L0 (n + 1) (mvL L e).1 c h0 (by omega)
    · exact h0
end Go.Proofs.Ytoknlpecbdlbfaa.PL

/- A post on both sides: the contracts as the laws' rounds want them. -/
namespace Go.Proofs.Ytoknlpecbdlbfaa.PL
open Go Go.RowKit Go.Maps Go.Sort Go.Shelf Go.Proofs Go.Proofs.YtoknlpecbdlbfaaW.PrintWords Go.Proofs.YtoknlpecbdlbfaaW.PrintLast
theorem C82_grown {w w' : World} {b : Nat} {A : Option Addr} {n : Nat} {l : List S82} (h : Kd.C k82 w A n l) (hg : w.grownBy w' (some b)) {M : List (S42 × Int)} (hb : LM w b M) : Kd.C k82 w' A n l := by
  obtain ⟨es, clock, hb, _⟩ := hb
  refine ⟨h.1, h.2.1, fun hn => ?_⟩
  obtain ⟨ad, e, hc⟩ := h.2.2 hn
  refine ⟨ad, e, fun j p hp => ?_⟩
  obtain ⟨cs, h1, h2, h3⟩ := hc j p hp
  refine ⟨cs, h1, ?_, fun i u hu => ?_⟩
  · obtain rfl := k82_open h2
    exact k82_mk _ _
  · have h4 := h3 i u hu
    have hne : (ad.add (j * k82.sz + i)).block ≠ b := by
      intro e
      unfold World.cell? at h4
      rw [e, hb] at h4
      cases h4
    exact (World.cell?_of_block (hg.block _ (World.block_lt_of_cell? w _ h4) (by simpa using hne))).trans h4
theorem told_gives {g b : Nat} {M : List (S42 × Int)} {L : List S82} {w : World} (h : LG w g b M) (hr : Rep M L) (hs : L.length ≤ 1000000) :
    Calls Try.prog 22 #[.pointer (some ⟨g, 0, none⟩)] w fun o w' => ∃ (A : Option Addr) (c : Nat), o = .returned (.slice A L.length c) ∧ Hid (Kd.C k82 w' A L.length L ∧ Below w.heap.size w w' ∧ L.length ≤ c) :=
  (told_walk _ w L (all_gives h hr (by omega)) (by omega)).slice
theorem entries_any (A : Option Addr) (c : Nat) (xs : List S47) (w : World) (hr : Kd.C k47 w A xs.length xs) (hc : xs.length ≤ c) (hl : xs.length < 1954687338268) :
    Calls Try.prog 20 #[.slice A xs.length c] w fun o w' => ∃ (A' : Option Addr) (c' : Nat), o = .returned (.slice A' xs.length c') ∧ Hid (Kd.C k107 w' A' xs.length (xs.map toE) ∧ Below w.heap.size w w') := by
  refine (lombardlaw11_entries.calls _ A c xs (xs.map toE) w hr hc (entries_f xs hl)).mono ?_
  rintro e w' ⟨v, rfl, h1, h2⟩
  obtain ⟨A', c', rfl, h3, h4⟩ := Kd.R_reads h1
  rw [List.length_map] at h4 ⊢
  exact ⟨A', c', rfl, h4, h2⟩
theorem post_both {g b : Nat} {M : List (S42 × Int)} {L : List S82} {w : World} (h : LG w g b M) (hr : Rep M L) (hB : BM M) (A : Option Addr) (c : Nat) (xs : List S47) (hC : Kd.C k107 w A xs.length (xs.map toE)) (hx : xs.length ≤ 4096) (hL : L.length ≤ 1000000) (R : List S82 × Int × Int) (hR : pstL L 0 L (xs.map toE) = R) :
    Calls Try.prog 19 #[.pointer (some ⟨g, 0, none⟩), .slice A xs.length c] w fun e w' => ∃ M', e = .returned (.tuple #[.int .i64 R.2.1, .int .i64 R.2.2]) ∧ Hid (LG w' g b M' ∧ Rep M' R.1 ∧ BM M' ∧ w.grownBy w' (some b)) := by
  have hlen := rep_length hr
  have h1 := post_any h hB A c (xs.map toE) (by rw [List.length_map]; exact hC) (by rw [List.length_map]; exact hx) (by rw [List.length_map]; unfold maxLen; omega)
  rw [List.length_map] at h1
  obtain ⟨e1, e2, e3, e4⟩ := rep_post0 hr hB (xs.map toE)
  subst hR
  rw [e1, e2] at h1
  exact h1.mono (fun e w' ⟨a, b, c⟩ => ⟨_, a, b, e3, e4, c⟩)
theorem same_any (A1 A2 : Option Addr) (c1 c2 : Nat) (L : List S82) (w : World) (h1 : Kd.C k82 w A1 L.length L) (h2 : L.length ≤ c1) (h3 : Kd.C k82 w A2 L.length L) (h4 : L.length ≤ c2) (hL : L.length ≤ 1000000) :
    Calls Try.prog 21 #[.slice A1 L.length c1, .slice A2 L.length c2] w fun e w' => e = .returned (.bool true) ∧ Below w.heap.size w w' :=
  (lombardref11_Same.calls _ A1 c1 L A2 c2 L true w h1 h2 h3 h4 (same_f L (by omega))).mono (fun _ _ h => ⟨h.1, h.2.below⟩)
theorem rpost_any (A B : Option Addr) (c d : Nat) (L : List S82) (xs : List S47) (w : World) (hC : Kd.C k82 w A L.length L) (hc : L.length ≤ c) (hX : Kd.C k47 w B xs.length xs) (hx : xs.length ≤ 4096) (hL : L.length ≤ 1000000) (R : List S82 × Int × Int) (hR : pstL L 0 L (xs.map toE) = R) :
    Calls Try.prog 18 #[.slice A L.length c, .slice B xs.length d] w fun o w' => ∃ (A' : Option Addr) (c' : Nat), o = .returned (.tuple #[.slice A' R.1.length c', .int .i64 R.2.1, .int .i64 R.2.2]) ∧ Hid (Kd.C k82 w' A' R.1.length R.1 ∧ R.1.length ≤ c' ∧ Below w.heap.size w w') :=
  (rpost_walk A B c d L xs w hC hc hX hx hL R hR).mono (fun _ _ ⟨A', c', h1, h2, h3, h4⟩ => ⟨A', c', h1, h2, h3, h4⟩)
/-- What stands at the head of a law's round: P's first k posts are done on both sides. -/
structure SG (w w' : World) (g b : Nat) (P : List (List S47)) (k : Nat) (L : List S82) (A : Option Addr) (c : Nat) (M : List (S42 × Int)) : Prop where
  lg : LG w' g b M
  rep : Rep M L
  bm : BM M
  hC : Kd.C k82 w' A L.length L
  hc : L.length ≤ c
  below : Below w.heap.size w w'
  hb : w.heap.size ≤ b
  len : L.length ≤ 2 * totL (P.take k)
theorem totL_le (l : List (List S47)) (k : Nat) : totL (l.take k) ≤ totL l := by
  unfold totL
  conv => rhs; rw [← List.take_append_drop k l]
  rw [List.map_append, List.sum_append]
  omega
theorem pst_len {P : List (List S47)} {k : Nat} (hk : k < P.length) {L : List S82} (h : L.length ≤ 2 * totL (P.take k)) : (pstL L 0 L (P[k].map toE)).1.length ≤ 2 * totL (P.take (k + 1)) := by
  rw [totL_take hk]
  exact length_pstL _ L 0 L _ (by omega) (by rw [List.length_map]; omega)
theorem cell_keep {w w' : World} (h : Below w.heap.size w w') {p : Addr} {v : Value} (hc : w.cell? p = some v) : w'.cell? p = some v := (h.cell (World.block_lt_of_cell? w _ hc)).trans hc
end Go.Proofs.Ytoknlpecbdlbfaa.PL
