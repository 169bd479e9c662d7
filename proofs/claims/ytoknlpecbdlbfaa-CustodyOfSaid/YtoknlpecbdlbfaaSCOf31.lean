/- Part 31 of the proof's texts: what the theorem needs of them. -/
import Derived.Test.YtoknlpecbdlbfaaSCOf15
import Derived.WalkKit
import Derived.ProofKit
import Derived.Deep.Slices
import Derived.SizedLaws
import Derived.Test.YtoknlpecbdlbfaaSCOf30
import Derived.Test.YtoknlpecbdlbfaaSCOf26
import Derived.Test.YtoknlpecbdlbfaaSCOf27

/- Arguments that come in: slices of structs, and slices of these, read as rows. -/
namespace Go.Proofs.Ytoknlpecbdlbfaa.PL
open Go Go.RowKit Go.ChangeShapes Go.WideShapes Go.Deep Go.Proofs Go.Proofs.YtoknlpecbdlbfaaW.PrintWords Go.Proofs.YtoknlpecbdlbfaaW.PrintLast
/-- No part of the datum is greater than the form's reach. -/
def Small {H : Type} (t : TypeId) (d : DataW H) : Prop := ∀ m ∈ DataW.weights Try.prog t d, m ≤ reachBytes
/-- Whatever cells are read at the type t are those of some x of the kind d, of which Q holds. -/
def Opens {α : Type} (d : Kd α) (t : TypeId) (Q : α → Prop) : Prop :=
  ∀ {H : Type} (enc : TypeId × Value → H) (w : World) (base : Nat) (spare : Nat → Bool) (held : Bool) (n : Nat) (cs : List Value) (y : DataW H × List MemPlace), DataW.trod enc Try.prog w base spare held n t cs = some y → Small t y.1 → ∃ x : α, d.K w x cs ∧ Q x
theorem mem_weightsAll {H : Type} {P : Program} {e : TypeId} {m : Nat} {d : DataW H} (hm : m ∈ DataW.weights P e d) : ∀ {l : List (DataW H)}, d ∈ l → m ∈ DataW.weightsAll P e l
  | [], h => by simp at h
  | a :: r, h => by
    unfold DataW.weightsAll
    rcases List.mem_cons.1 h with rfl | h
    · exact List.mem_append_left _ hm
    · exact List.mem_append_right _ (mem_weightsAll hm h)
/-- A slice whose elements are so. -/
def QS {α : Type} (B : Nat) (Q : α → Prop) (xs : List α) : Prop := xs.length * B ≤ 140737488351232 ∧ ∀ x ∈ xs, Q x
theorem opens_slice {α : Type} {d : Kd α} {t e : TypeId} {Q : α → Prop} {B : Nat} (ht : Try.prog.underlying t = some (.slice e)) (hc : Try.prog.cellsOf e = d.sz) (hB : Try.prog.bytesOf e = B) (h : Opens d e Q) : Opens (Kd.slice e d) t (QS B Q) := by
  intro H enc w base spare held n cs y hy hs
  rcases open_slice ht hy with ⟨rfl, _⟩ | ⟨a, len, cap, m, n', D, Pl, rfl, hb, hl, hm, hmm, rfl, hi⟩
  · exact ⟨[], ⟨none, 0, rfl, Nat.le_refl _, rfl, by simp, fun h => absurd h (by simp)⟩, by simp, by simp⟩
  · have hlm : len ≤ m := by rw [hmm]; split <;> omega
    have hw : ∀ i, i < len → Small e (D i) := by
      intro i hi q hq
      refine hs q ?_
      simp only [DataW.weights, ht]
      exact List.mem_cons_of_mem _ (List.mem_append_left _ (mem_weightsAll hq (List.mem_map.2 ⟨i, by simpa using hi, rfl⟩)))
    have hlen : len * B ≤ 140737488351232 := by
      have h1 := hs ((len + (m - len)) * Try.prog.bytesOf e) (by
        simp only [DataW.weights, ht]
        simp)
      rw [hB] at h1
      exact Nat.le_trans (Nat.mul_le_mul_right _ (by omega)) h1
    have hx : ∀ i : Fin len, ∃ x cs', w.cells? base (a.add (i.1 * Try.prog.cellsOf e)) (Try.prog.cellsOf e) = some cs' ∧ d.K w x cs' ∧ Q x := by
      intro i
      obtain ⟨cs', h1, h2⟩ := hi i.1 (by have := i.2; omega)
      obtain ⟨x, h3, h4⟩ := h enc w base spare held _ _ _ h2 (hw i.1 i.2)
      exact ⟨x, cs', h1, h3, h4⟩
    obtain ⟨f, hf⟩ := Classical.axiomOfChoice hx
    refine ⟨List.ofFn f, ⟨some a, cap, by simp, by simpa using hl, by simp, by simp; unfold maxLen at hm; omega, fun _ => ⟨a, rfl, fun j p hj => ?_⟩⟩, by simpa using hlen, fun x hx => by
      obtain ⟨i, rfl⟩ := List.mem_ofFn.1 hx
      obtain ⟨_, _, _, h3⟩ := hf i
      exact h3⟩
    have hjl : j < len := by
      have := (List.getElem?_eq_some_iff.1 hj).1
      simpa using this
    obtain ⟨cs', h1, h2, _⟩ := hf ⟨j, hjl⟩
    have hp : p = f ⟨j, hjl⟩ := by
      have := (List.getElem?_eq_some_iff.1 hj).2
      simpa using this.symm
    subst hp
    obtain ⟨_, hcl, hat⟩ := World.cells?_some h1
    refine ⟨cs', by rw [hcl, hc], h2, fun i u hu => ?_⟩
    have hil : i < cs'.length := (List.getElem?_eq_some_iff.1 hu).1
    have h3 := hat i (by omega)
    rw [hu] at h3
    rw [← hc, ← Go.Deep.add_add]
    exact h3
theorem cells45' : Try.prog.cellsOf 45 = 3 := by kernel_rfl
theorem cells82' : Try.prog.cellsOf 82 = 4 := by kernel_rfl
theorem cells3' : Try.prog.cellsOf 3 = 1 := by kernel_rfl
theorem cells9' : Try.prog.cellsOf 9 = 1 := by kernel_rfl
theorem bytes82' : Try.prog.bytesOf 82 = 40 := by kernel_rfl
/-- Each of the account's parts is well formed. -/
def Q45 (a : S45) : Prop := (Lit.int .i64 a.f0).wf = true ∧ (Lit.int .i64 a.f1).wf = true ∧ a.f2.size ≤ 140737488351232
def Q82 (x : S82) : Prop := Q45 x.f0 ∧ (Lit.int .i64 x.f1).wf = true
theorem small_part {H : Type} {t : TypeId} {fs : Array Field} (ht : Try.prog.underlying t = some (.struct fs)) {ys : List (DataW H × List MemPlace)} (h : Small t (DataW.agg (ys.map (·.1)))) (j : Nat) {f : Field} (hf : fs[j]? = some f) {y : DataW H × List MemPlace} (hy : ys[j]? = some y) : Small f.type y.1 := by
  intro m hm
  refine h m ?_
  simp only [DataW.weights, ht]
  exact DataW.weights_mem_each (j := j) (by simp [hf]) (by simp [hy]) m hm
theorem opens45 : Opens k45 45 Q45 := by
  intro H enc w base spare held n cs y hy hs
  obtain ⟨xs, n', _, rfl, hlen, hxl, hf⟩ := DataW.trod_struct Try.underlying45 hy
  have hx0 : ∃ y0, xs[0]? = some y0 := ⟨xs[0]'(by rw [hxl]; simp), List.getElem?_eq_getElem _⟩
  have hx1 : ∃ y0, xs[1]? = some y0 := ⟨xs[1]'(by rw [hxl]; simp), List.getElem?_eq_getElem _⟩
  have hx2 : ∃ y0, xs[2]? = some y0 := ⟨xs[2]'(by rw [hxl]; simp), List.getElem?_eq_getElem _⟩
  obtain ⟨y0, e0⟩ := hx0
  obtain ⟨y1, e1⟩ := hx1
  obtain ⟨y2, e2⟩ := hx2
  obtain ⟨a0, h0, _, b0⟩ := DataW.trod_int Try.underlying3 ((hf 0 _ rfl).trans e0)
  obtain ⟨a1, h1, _, b1⟩ := DataW.trod_int Try.underlying3 ((hf 1 _ rfl).trans e1)
  obtain ⟨a2, h2, d2, _⟩ := DataW.trod_string Try.underlying9 ((hf 2 _ rfl).trans e2)
  have b2 : a2.size ≤ 140737488351232 := by
    have h3 := small_part Try.underlying45 hs 2 rfl e2
    rw [d2] at h3
    have h4 := h3 a2.data.toList.length (by simp [DataW.weights])
    rw [Array.length_toList] at h4
    exact h4
  rw [cells45'] at hlen
  replace h0 : (cs.drop 0).take (Try.prog.cellsOf 3) = _ := h0
  replace h1 : (cs.drop 1).take (Try.prog.cellsOf 3) = _ := h1
  replace h2 : (cs.drop 2).take (Try.prog.cellsOf 9) = _ := h2
  rw [cells3'] at h0 h1
  rw [cells9'] at h2
  refine ⟨⟨a0, a1, a2⟩, ?_, b0, b1, b2⟩
  have : cs = [.int .i64 a0, .int .i64 a1, .string a2] := by
    clear hf hy hxl
    match cs, hlen with
    | [c0, c1, c2], _ =>
      simp at h0 h1 h2
      simp [h0, h1, h2]
  rw [this]
  exact k45_mk w ⟨a0, a1, a2⟩
theorem k45_inv {w : World} {x : S45} {cs : List Value} (h : k45.K w x cs) : cs = [.int .i64 x.f0, .int .i64 x.f1, .string x.f2] := k45_open h
theorem opens82 : Opens k82 82 Q82 := by
  intro H enc w base spare held n cs y hy hs
  obtain ⟨xs, n', _, rfl, hlen, hxl, hf⟩ := DataW.trod_struct Try.underlying82 hy
  have hx0 : ∃ y0, xs[0]? = some y0 := ⟨xs[0]'(by rw [hxl]; simp), List.getElem?_eq_getElem _⟩
  have hx1 : ∃ y0, xs[1]? = some y0 := ⟨xs[1]'(by rw [hxl]; simp), List.getElem?_eq_getElem _⟩
  obtain ⟨y0, e0⟩ := hx0
  obtain ⟨y1, e1⟩ := hx1
  obtain ⟨a0, h0, b0⟩ := opens45 _ _ _ _ _ _ _ _ ((hf 0 _ rfl).trans e0) (small_part Try.underlying82 hs 0 rfl e0)
  obtain ⟨a1, h1, _, b1⟩ := DataW.trod_int Try.underlying3 ((hf 1 _ rfl).trans e1)
  have h0' := k45_inv h0
  rw [cells82'] at hlen
  replace h0' : (cs.drop 0).take (Try.prog.cellsOf 45) = _ := h0'
  replace h1 : (cs.drop 3).take (Try.prog.cellsOf 3) = _ := h1
  rw [cells45'] at h0'
  rw [cells3'] at h1
  refine ⟨⟨a0, a1⟩, ?_, b0, b1⟩
  have : cs = [.int .i64 a0.f0, .int .i64 a0.f1, .string a0.f2, .int .i64 a1] := by
    clear hf hy hxl h0 e0 e1 hs
    match cs, hlen with
    | [c0, c1, c2, c3], _ =>
      simp at h0' h1
      simp [h0', h1]
  rw [this]
  exact k82_mk w ⟨a0, a1⟩
theorem opens27 : Opens (Kd.slice 82 k82) 27 (QS 40 Q82) := opens_slice Try.underlying27 cells82' bytes82' opens82
/-- Argument j's datum is small. -/
theorem small_arg {H : Type} {ts : List TypeId} {ds : List (DataW H)} (hsz : (DataW.weightsEach Try.prog ts ds).all (· ≤ reachBytes) = true) {j : Nat} {t : TypeId} {d : DataW H} (ht : ts[j]? = some t) (hd : ds[j]? = some d) : Small t d := by
  intro m hm
  have := List.all_eq_true.1 hsz _ (DataW.weights_mem_each ht hd m hm)
  simpa using this
/-- A slice that comes in, as a row. -/
theorem opened {α : Type} {d : Kd α} {t e : TypeId} {Q : List α → Prop} (h : Opens (Kd.slice e d) t Q) {H : Type} {enc : TypeId × Value → H} {w : World} {base : Nat} {spare : Nat → Bool} {held : Bool} {a : Option Addr} {len cap : Nat} {y : DataW H} {p : List MemPlace}
    (hy : DataW.Trod enc Try.prog w base spare held t (.slice a len cap) y p) (hs : Small t y) : ∃ xs : List α, len = xs.length ∧ xs.length ≤ cap ∧ Kd.C d w a xs.length xs ∧ Q xs := by
  obtain ⟨fuel, hf⟩ := hy
  obtain ⟨x, ⟨A, c, he, hl, hC⟩, hq⟩ := h enc w base spare held fuel _ _ hf hs
  simp [Value.cells] at he
  obtain ⟨rfl, rfl, rfl⟩ := he
  exact ⟨x, rfl, hl, hC, hq⟩
end Go.Proofs.Ytoknlpecbdlbfaa.PL

/- A post on both sides: the contracts as the laws' rounds want them. -/
namespace Go.Proofs.Ytoknlpecbdlbfaa.PL
open Go Go.RowKit Go.Maps Go.Sort Go.Shelf Go.Proofs Go.Proofs.YtoknlpecbdlbfaaW.PrintWords Go.Proofs.YtoknlpecbdlbfaaW.PrintLast
theorem C82_grown {w w' : World} {b : Nat} {A : Option Addr} {n : Nat} {l : List S82} (h : Kd.C k82 w A n l) (hg : w.grownBy w' (some b)) {M : List (S42 × Int)} (hb : LM w b M) : Kd.C k82 w' A n l := by
  obtain ⟨es, clock, hb, _⟩ := hb
  refine ⟨h.1, h.2.1, fun hn => ?_⟩
  obtain ⟨ad, e, hc⟩ := h.2.2 hn
  refine ⟨ad, e, fun j p hp => ?_⟩
  obtain ⟨cs, h1, h2, h3⟩ := hc j p hp
  refine ⟨cs, h1, ?_, fun i u hu => ?_⟩
  · obtain rfl := k82_open h2
    exact k82_mk _ _
  · have h4 := h3 i u hu
    have hne : (ad.add (j * k82.sz + i)).block ≠ b := by
      intro e
      unfold World.cell? at h4
      rw [e, hb] at h4
      cases h4
    exact (World.cell?_of_block (hg.block _ (World.block_lt_of_cell? w _ h4) (by simpa using hne))).trans h4
theorem same_any (A1 A2 : Option Addr) (c1 c2 : Nat) (L : List S82) (w : World) (h1 : Kd.C k82 w A1 L.length L) (h2 : L.length ≤ c1) (h3 : Kd.C k82 w A2 L.length L) (h4 : L.length ≤ c2) (hL : L.length ≤ 1000000) :
    Calls Try.prog 21 #[.slice A1 L.length c1, .slice A2 L.length c2] w fun e w' => e = .returned (.bool true) ∧ Below w.heap.size w w' :=
  (lombardref11_Same.calls _ A1 c1 L A2 c2 L true w h1 h2 h3 h4 (same_f L (by omega))).mono (fun _ _ h => ⟨h.1, h.2.below⟩)
theorem cell_keep {w w' : World} (h : Below w.heap.size w w') {p : Addr} {v : Value} (hc : w.cell? p = some v) : w'.cell? p = some v := (h.cell (World.block_lt_of_cell? w _ hc)).trans hc
end Go.Proofs.Ytoknlpecbdlbfaa.PL

-- Entries turned about take back what they did: the plain law.
namespace Go.Proofs.Ytoknlpecbdlbfaa.PL
open Go Go.RowKit Go.Maps Go.Sort Go.Shelf Go.Proofs Go.Proofs.YtoknlpecbdlbfaaW.PrintWords Go.Proofs.YtoknlpecbdlbfaaW.PrintLast
/-- None but the world has less than nothing. -/
def NN (M : List (S42 × Int)) : Prop := ∀ a, a.f0 ≠ 0 → 0 ≤ getM M a
/-- Two maps that have the same. -/
def Eqv (M M' : List (S42 × Int)) : Prop := ∀ a, getM M a = getM M' a
theorem Eqv.put {M M' : List (S42 × Int)} (h : Eqv M M') (a : S42) (n : Int) : Eqv (putM M a n) (putM M' a n) := by
  intro c
  rw [getM_putM, getM_putM, h c]
theorem NN.nil : NN [] := fun a _ => by simp [getM]
theorem NN.of {M M' : List (S42 × Int)} (h : NN M) (he : Eqv M' M) : NN M' := fun a ha => by rw [he a]; exact h a ha
theorem NN.put {M : List (S42 × Int)} (h : NN M) (a : S42) {n : Int} (hn : a.f0 ≠ 0 → 0 ≤ n) : NN (putM M a n) := by
  intro c hc
  rw [getM_putM]
  split
  · rename_i e
    subst e
    exact hn hc
  · exact h c hc
theorem Eqv.back (M : List (S42 × Int)) (a : S42) (m : Int) : Eqv (putM (putM M a (getM M a - m)) a (getM M a - m + m)) M := by
  intro c
  rw [getM_putM, getM_putM]
  split
  · rename_i e
    subst e
    omega
  · rfl
theorem NN.move {M : List (S42 × Int)} (h : NN M) (e : S107) : NN (moveM M e).1 := by
  unfold moveM
  split
  · exact h
  · rename_i hck
    have hck' := check_good (Classical.not_not.1 hck)
    split
    · exact h
    · rename_i hf
      split
      · exact h
      · split
        · exact h.of (Eqv.back M e.f0 e.f2)
        · have h1 : NN (putM M e.f0 (getM M e.f0 - e.f2)) := h.put _ (fun hz => by
            refine Classical.byContradiction fun hc => hf ⟨hz, ?_⟩
            omega)
          exact h1.put _ (fun hz => by have := h1 e.f1 hz; have := hck'.1; omega)
theorem getM_move {M : List (S42 × Int)} {e : S107} (h : (moveM M e).2 = 0) (a : S42) : getM (moveM M e).1 a = if a = e.f1 then (if e.f1 = e.f0 then getM M e.f0 else getM M e.f1 + e.f2) else if a = e.f0 then getM M e.f0 - e.f2 else getM M a := by
  rw [move_ok h, getM_putM, getM_putM, getM_putM]
  split
  · split
    · omega
    · rfl
  · rfl
/-- All entries are done. -/
def allOk (M : List (S42 × Int)) : List S107 → Prop
  | [] => True
  | e :: r => (moveM M e).2 = 0 ∧ allOk (moveM M e).1 r
/-- What they come to. -/
def fin (M : List (S42 × Int)) : List S107 → List (S42 × Int)
  | [] => M
  | e :: r => fin (moveM M e).1 r
theorem post_allOk : ∀ (l done : List S107) (M : List (S42 × Int)), (postL done M l).2.2 = 0 → allOk M l ∧ (postL done M l).1 = fin M l
  | [], _, _, _ => ⟨trivial, rfl⟩
  | e :: r, done, M, h => by
    unfold postL at h ⊢
    by_cases c : (moveM M e).2 = 0
    · rw [if_pos c] at h ⊢
      obtain ⟨h1, h2⟩ := post_allOk r (e :: done) _ h
      exact ⟨⟨c, h1⟩, h2⟩
    · rw [if_neg c] at h
      exact absurd h c
theorem fin_NN : ∀ (l : List S107) (M : List (S42 × Int)), NN M → NN (fin M l)
  | [], _, h => h
  | e :: r, _, h => fin_NN r _ (h.move e)
/-- A post that can't be done leaves the document's list. -/
theorem pst_fail : ∀ (x : List S107) (L0 : List S82) (n : Nat) (L : List S82), (pstL L0 n L x).2.2 ≠ 0 → (pstL L0 n L x).1 = L0
  | [], L0, n, L, h => by
    unfold pstL at h
    exact absurd rfl h
  | e :: r, L0, n, L, h => by
    unfold pstL at h ⊢
    by_cases c : (mvL L e).2 = 0
    · rw [if_pos c] at h ⊢
      exact pst_fail r L0 (n + 1) _ h
    · rw [if_neg c]
/-- NN holds behind every post. -/
theorem NN.post {M : List (S42 × Int)} {L : List S82} (hr : Rep M L) (hB : BM M) (hn : NN M) (l : List S107) : NN (postL [] M l).1 := by
  obtain ⟨e1, e2, e3, e4⟩ := rep_post0 hr hB l
  by_cases c : (postL [] M l).2.2 = 0
  · rw [(post_allOk l [] M c).2]
    exact fin_NN l M hn
  · rw [e2] at c
    have h1 := pst_fail l L 0 L c
    rw [h1] at e3
    refine hn.of (fun a => ?_)
    rw [e3.same, hr.same]
end Go.Proofs.Ytoknlpecbdlbfaa.PL

-- LedgerBack, walked.
namespace Go.Proofs.Ytoknlpecbdlbfaa.PL
open Go Go.RowKit Go.Maps Go.Sort Go.Shelf Go.Proofs Go.Proofs.YtoknlpecbdlbfaaW.PrintWords Go.Proofs.YtoknlpecbdlbfaaW.PrintLast
/-- A map, the document's list, and what is known of both. -/
structure St (M : List (S42 × Int)) (L : List S82) : Prop where
  rep : Rep M L
  bm : BM M
  nn : NN M
theorem St.nil : St [] [] := ⟨Rep.nil, BM.nil, NN.nil⟩
theorem St.post {M : List (S42 × Int)} {L : List S82} (h : St M L) (l : List S107) : St (postL [] M l).1 (pstL L 0 L l).1 := by
  obtain ⟨e1, e2, e3, e4⟩ := rep_post0 h.rep h.bm l
  exact ⟨e3, e4, h.nn.post h.rep h.bm l⟩
theorem St.fail {M : List (S42 × Int)} {L : List S82} (h : St M L) (l : List S107) (hf : (postL [] M l).2.2 ≠ 0) : Rep (postL [] M l).1 L := by
  obtain ⟨e1, e2, e3, e4⟩ := rep_post0 h.rep h.bm l
  rw [e2] at hf
  rw [pst_fail l L 0 L hf] at e3
  exact e3
theorem clone_hid {g b : Nat} {M : List (S42 × Int)} {w : World} (h : LG w g b M) :
    Calls Try.prog 24 #[.pointer (some ⟨g, 0, none⟩)] w fun e w' => e = .returned (.pointer (some ⟨w.heap.size + 1, 0, none⟩)) ∧ Hid (LG w' (w.heap.size + 1) w.heap.size M ∧ Below w.heap.size w w') :=
  clone_any h
/-- What is told at the end: the ledger, its two clones, and what was told before. -/
structure XS (w : World) (g b gy by' gz bz : Nat) (Mx My Mz : List (S42 × Int)) (L1 L2 : List S82) (A1 A2 : Option Addr) (c1 c2 : Nat) (W : World) : Prop where
  x : LG W g b Mx
  y : LG W gy by' My
  z : LG W gz bz Mz
  rx : Rep Mx L1
  ry : Rep My L1
  rz : Rep Mz L2
  l1 : L1.length ≤ 1000000
  l2 : L2.length ≤ 1000000
  was : Kd.C k82 W A1 L1.length L1
  cw : L1.length ≤ c1
  now : Kd.C k82 W A2 L2.length L2
  cn : L2.length ≤ c2
  bl : Below w.heap.size w W
theorem XS.step {w : World} {g b gy by' gz bz : Nat} {Mx My Mz : List (S42 × Int)} {L1 L2 : List S82} {A1 A2 : Option Addr} {c1 c2 : Nat} {W W' : World} (h : XS w g b gy by' gz bz Mx My Mz L1 L2 A1 A2 c1 c2 W) (hb : Below W.heap.size W W') : XS w g b gy by' gz bz Mx My Mz L1 L2 A1 A2 c1 c2 W' :=
  ⟨h.x.below hb, h.y.below hb, h.z.below hb, h.rx, h.ry, h.rz, h.l1, h.l2, Kd.C_below h.was hb, h.cw, Kd.C_below h.now hb, h.cn, h.bl.trans (hb.mono h.bl.size)⟩
end Go.Proofs.Ytoknlpecbdlbfaa.PL

-- Custody: New, made, Bring, walked.
namespace Go.Proofs.Ytoknlpecbdlbfaa.PL
open Go Go.RowKit Go.Maps Go.Sort Go.Shelf Go.Proofs Go.Proofs.YtoknlpecbdlbfaaW.PrintWords Go.Proofs.YtoknlpecbdlbfaaW.PrintLast
/-- Block p holds a Custody over the ledger at g. -/
structure CU (w : World) (p g b : Nat) (M : List (S42 × Int)) : Prop where
  blk : w.heap[p]? = some (.cells #[.pointer (some ⟨g, 0, none⟩)] 102 (0, 0))
  lg : LG w g b M
theorem CU.cell {w : World} {p g b : Nat} {M : List (S42 × Int)} (h : CU w p g b M) : w.cell? ⟨p, 0, none⟩ = some (.pointer (some ⟨g, 0, none⟩)) := by
  unfold World.cell?
  rw [h.blk]
  rfl
theorem CU.lt {w : World} {p g b : Nat} {M : List (S42 × Int)} (h : CU w p g b M) : p < w.heap.size := (Array.getElem?_eq_some_iff.1 h.blk).1
theorem CU.ne {w : World} {p g b : Nat} {M : List (S42 × Int)} (h : CU w p g b M) : p ≠ b := fun e => by
  obtain ⟨es, clock, hb, _⟩ := h.lg.map
  have h1 := h.blk
  rw [e, hb] at h1
  cases h1
theorem CU.below {w w' : World} {p g b : Nat} {M : List (S42 × Int)} (h : CU w p g b M) (hb : Below w.heap.size w w') : CU w' p g b M := ⟨(hb.block p h.lt).trans h.blk, h.lg.below hb⟩
theorem CU.turn {w w' : World} {p g b : Nat} {M M' : List (S42 × Int)} (h : CU w p g b M) (hg : w.grownBy w' (some b)) (hl : LG w' g b M') : CU w' p g b M' := ⟨(hg.block p h.lt (by simpa using h.ne)).trans h.blk, hl⟩
set_option maxRecDepth 100000 in
theorem cmade_any {w : World} {p g b : Nat} {M : List (S42 × Int)} (h : CU w p g b M) : Calls Try.prog 74 #[.pointer (some ⟨p, 0, none⟩)] w fun e w' => e = .returned (.bool true) ∧ w = w' := by
  have hc := h.cell
  clear h
  go_enter Try.func74, Try.ntmps74
  go_wp2
  go_ret
  exact ⟨rfl, rfl⟩
/-- p is no Custody in w. -/
def NoCU (w : World) (p : Value) : Prop := p = .pointer none ∨ ∃ q : Nat, p = .pointer (some ⟨q, 0, none⟩) ∧ w.cell? ⟨q, 0, none⟩ = some (.pointer none)
theorem NoCU.below {w w' : World} {p : Value} (h : NoCU w p) (hb : Below w.heap.size w w') : NoCU w' p := by
  rcases h with rfl | ⟨g, rfl, hc⟩
  · exact .inl rfl
  · exact .inr ⟨g, rfl, cell_keep hb hc⟩
set_option maxRecDepth 100000 in
theorem cnew_any (w : World) : Calls Try.prog 34 #[] w fun e w' => ∃ p g b, e = .returned (.pointer (some ⟨p, 0, none⟩)) ∧ Hid (CU w' p g b [] ∧ Below w.heap.size w w' ∧ w.heap.size ≤ b ∧ w.heap.size ≤ p ∧ w.heap.size ≤ g) := by
  go_enter Try.func34, Try.ntmps34
  go_wp2_with (go_at_call 17; refine (new_any _).mono ?_; rintro e w1 ⟨rfl, H1⟩; replace H1 := Lib.hid H1)
  go_ret
  have hb : Below w1.heap.size w1 (w1.alloc (.cells #[.pointer (some ⟨w.heap.size + 1, 0, none⟩)] 102)) := (Below.refl _ _).alloc (Nat.le_refl _) _
  exact ⟨w1.heap.size, w.heap.size + 1, w.heap.size, rfl, ⟨⟨(Go.MapKept.heap_alloc w1 _).1, H1.out.1.below hb⟩, H1.out.2.trans (hb.mono H1.out.2.size), Nat.le_refl _, H1.out.2.size, by omega⟩⟩
/-- No such member, or book. -/
def wrB (m b : Int) : Bool := decide (m < 1 ∨ 32 < m ∨ b < 1 ∨ 4 < b)
theorem wr_f (m b : Int) : custody_wrong.f m b = some (wrB m b) := by
  unfold custody_wrong.f wrB
  by_cases h1 : m < 1
  · rw [if_pos h1]; simp [h1]
  · rw [if_neg h1]
    by_cases h2 : m > 32
    · rw [if_pos h2]
      congr 1
      exact (decide_eq_true (by omega)).symm
    · rw [if_neg h2]
      by_cases h3 : b < 1
      · rw [if_pos h3]; simp [h3]
      · rw [if_neg h3]
        congr 1
        exact decide_eq_decide.2 (by omega)
theorem wr_any (m b : Int) (w : World) : Calls Try.prog 75 #[.int .i64 m, .int .i64 b] w fun e w' => e = .returned (.bool (wrB m b)) ∧ Below w.heap.size w w' :=
  (custody_wrong.calls m b _ w (wr_f m b)).mono (fun _ _ h => ⟨h.1, h.2.below⟩)
theorem acc_any (m b : Int) (t : ByteArray) (w : World) : Calls Try.prog 76 #[.int .i64 m, .int .i64 b, .string t] w fun e w' => e = .returned (.agg #[.int .i64 m, .int .i64 b, .string t]) ∧ Below w.heap.size w w' :=
  custody_account.calls m b t m b t w rfl
/-- A post of one entry that has just been laid. -/
theorem post_one {W : World} {g b : Nat} {M : List (S42 × Int)} (h : LG W g b M) (hB : BM M) (hm : M.length ≤ 1000000000) (e : S107) :
    Calls Try.prog 19 #[.pointer (some ⟨g, 0, none⟩), .slice (some ⟨W.heap.size, 0, none⟩) 1 1] (W.alloc (.cells #[.int .i64 e.f0.f0, .int .i64 e.f0.f1, .string e.f0.f2, .int .i64 e.f1.f0, .int .i64 e.f1.f1, .string e.f1.f2, .int .i64 e.f2] 107)) fun o w' => o = .returned (.tuple #[.int .i64 (postL [] M [e]).2.1, .int .i64 (postL [] M [e]).2.2]) ∧ Hid (LG w' g b (postL [] M [e]).1 ∧ W.grownBy w' (some b)) := by
  have hb : Below W.heap.size W (W.alloc (.cells ([e].flatMap c7).toArray 107)) := (Below.refl _ _).alloc (Nat.le_refl _) _
  have h1 := post_any (h.below hb) hB (some ⟨W.heap.size, 0, none⟩) 1 [e] (C107_new W _ (by unfold maxLen; simp)) (by simp) (by unfold maxLen; simp; omega)
  exact h1.mono (fun _ w' ⟨a, b, c⟩ => ⟨a, b, grown_box0 _ c⟩)
/-- What Bring posts. -/
def brE (m : Int) (t : ByteArray) (q : Int) : S107 := if q < 0 then ⟨⟨m, 1, t⟩, ⟨0, 0, t⟩, -q⟩ else ⟨⟨0, 0, t⟩, ⟨m, 1, t⟩, q⟩
/-- Bring. -/
def brL (M : List (S42 × Int)) (m : Int) (t : ByteArray) (q : Int) : List (S42 × Int) × Int := if wrB m 1 = true then (M, 22) else if q < -1125899906842624 then (M, 1) else ((postL [] M [brE m t q]).1, (postL [] M [brE m t q]).2.2)
set_option maxRecDepth 100000 in
set_option maxHeartbeats 1000000 in
theorem bring_any {w : World} {p g b : Nat} {M : List (S42 × Int)} (h : CU w p g b M) (hB : BM M) (hm : M.length ≤ 1000000000) (m q : Int) (t : ByteArray) :
    Calls Try.prog 42 #[.pointer (some ⟨p, 0, none⟩), .int .i64 m, .string t, .int .i64 q] w fun e w' => e = .returned (.int .i64 (brL M m t q).2) ∧ Hid (CU w' p g b (brL M m t q).1 ∧ w.grownBy w' (some b)) := by
  have hnone : ∀ w', Below w.heap.size w w' → w.grownBy w' (some b) := fun w' hb => ⟨hb.os, hb.tape, hb.output, hb.size, fun k hk _ => hb.block k hk⟩
  cases hw : wrB m 1 with
  | true =>
    have HWR := Lib.hid (show ∀ W, Calls Try.prog 75 #[.int .i64 m, .int .i64 1] W fun e w' => e = .returned (.bool true) ∧ Below W.heap.size W w' from fun W => by rw [← hw]; exact wr_any m 1 W)
    have HU := Lib.hid h
    have hr : brL M m t q = (M, 22) := by unfold brL; rw [if_pos hw]
    have HN := Lib.hid hnone
    rw [hr]
    clear h hw hnone hr
    go_enter Try.func42, Try.ntmps42
    go_wp2_with (first
      | (go_at_call 75; refine (HWR.out _).mono ?_; rintro e w2 ⟨rfl, H2⟩; replace H2 := Lib.hid H2)
      | (go_at_call 74; refine (cmade_any HU.out).mono ?_; rintro e w1 ⟨rfl, rfl⟩))
    go_ret
    exact ⟨rfl, ⟨HU.out.below H2.out, HN.out _ H2.out⟩⟩
  | false =>
    have HWR := Lib.hid (show ∀ W, Calls Try.prog 75 #[.int .i64 m, .int .i64 1] W fun e w' => e = .returned (.bool false) ∧ Below W.heap.size W w' from fun W => by rw [← hw]; exact wr_any m 1 W)
    have HU := Lib.hid h
    have HN := Lib.hid hnone
    have HBM := Lib.hid (And.intro hB hm)
    by_cases c1 : q < 0
    · have f1 : (q < 0) = True := eq_true c1
      by_cases c2 : q < -1125899906842624
      · have f2 : (q < -1125899906842624) = True := eq_true c2
        have hr : brL M m t q = (M, 1) := by unfold brL; rw [if_neg (by rw [hw]; simp), if_pos c2]
        rw [hr]
        clear h hw hnone hr c1 c2
        go_enter Try.func42, Try.ntmps42
        go_wp2_with (first
          | (go_at_call 76; refine (acc_any _ _ _ _).mono ?_; rintro e w3 ⟨rfl, H3⟩; replace H3 := Lib.hid H3)
          | (go_at_call 75; refine (HWR.out _).mono ?_; rintro e w2 ⟨rfl, H2⟩; replace H2 := Lib.hid H2)
          | (go_at_call 74; refine (cmade_any HU.out).mono ?_; rintro e w1 ⟨rfl, rfl⟩))
        go_ret
        have hb := (H2.out.trans (H3.out.mono H2.out.size)).alloc (Nat.le_trans H2.out.size H3.out.size) (.cells #[.int .i64 0, .int .i64 0, .string t, .int .i64 m, .int .i64 1, .string t, .int .i64 q] 107)
        exact ⟨rfl, ⟨HU.out.below hb, HN.out _ hb⟩⟩
      · have f2 : (q < -1125899906842624) = False := eq_false c2
        have hr : brL M m t q = ((postL [] M [⟨⟨m, 1, t⟩, ⟨0, 0, t⟩, -q⟩]).1, (postL [] M [⟨⟨m, 1, t⟩, ⟨0, 0, t⟩, -q⟩]).2.2) := by unfold brL brE; rw [if_neg (by rw [hw]; simp), if_neg c2, if_pos c1]
        have hneg : wrap64 (-q) = -q := wrap_id (by omega) (by omega)
        rw [hr]
        obtain ⟨⟨M', n', f'⟩, hR⟩ : ∃ R, postL [] M [⟨⟨m, 1, t⟩, ⟨0, 0, t⟩, -q⟩] = R := ⟨_, rfl⟩
        have HPO := Lib.hid (show ∀ W, LG W g b M → Calls Try.prog 19 #[.pointer (some ⟨g, 0, none⟩), .slice (some ⟨W.heap.size, 0, none⟩) 1 1] (W.alloc (.cells #[.int .i64 m, .int .i64 1, .string t, .int .i64 0, .int .i64 0, .string t, .int .i64 (-q)] 107)) fun o w' => o = .returned (.tuple #[.int .i64 n', .int .i64 f']) ∧ Hid (LG w' g b M' ∧ W.grownBy w' (some b)) from fun W hL => by
          have h9 := post_one hL HBM.out.1 HBM.out.2 ⟨⟨m, 1, t⟩, ⟨0, 0, t⟩, -q⟩
          rw [hR] at h9
          exact h9)
        rw [hR]
        clear h hw hnone hr c1 c2 hR
        go_enter Try.func42, Try.ntmps42
        go_wp2_with (first
          | (go_at_call 76; refine (acc_any _ _ _ _).mono ?_; rintro e w3 ⟨rfl, H3⟩; replace H3 := Lib.hid H3)
          | (go_at_call 75; refine (HWR.out _).mono ?_; rintro e w2 ⟨rfl, H2⟩; replace H2 := Lib.hid H2)
          | (go_at_call 74; refine (cmade_any HU.out).mono ?_; rintro e w1 ⟨rfl, rfl⟩))
        obtain ⟨W, hW⟩ : ∃ W, W = w3.alloc (.cells #[.int .i64 m, .int .i64 1, .string t, .int .i64 0, .int .i64 0, .string t, .int .i64 (-q)] 107) := ⟨_, rfl⟩
        have hb := (H2.out.trans (H3.out.mono H2.out.size)).alloc (Nat.le_trans H2.out.size H3.out.size) (.cells #[.int .i64 m, .int .i64 1, .string t, .int .i64 0, .int .i64 0, .string t, .int .i64 (-q)] 107)
        rw [← hW] at hb
        have k0 : W.cell? ⟨w3.heap.size, 0, none⟩ = some (.int .i64 m) := by rw [hW]; simp
        have k1 : W.cell? ⟨w3.heap.size, 1, none⟩ = some (.int .i64 1) := by rw [hW]; simp
        have k2 : W.cell? ⟨w3.heap.size, 2, none⟩ = some (.string t) := by rw [hW]; simp
        have k3 : W.cell? ⟨w3.heap.size, 3, none⟩ = some (.int .i64 0) := by rw [hW]; simp
        have k4 : W.cell? ⟨w3.heap.size, 4, none⟩ = some (.int .i64 0) := by rw [hW]; simp
        have k5 : W.cell? ⟨w3.heap.size, 5, none⟩ = some (.string t) := by rw [hW]; simp
        have k6 : W.cell? ⟨w3.heap.size, 6, none⟩ = some (.int .i64 (-q)) := by rw [hW]; simp
        rw [← hW]
        have hcu := HU.out.below hb
        have kc := hcu.cell
        have HCU := Lib.hid (And.intro hcu hb)
        clear hW hb hcu
        have hGb : w3.heap.size ≠ b := by
          have h9 := (HU.out.below H2.out).below H3.out
          have := h9.lg.map.lt
          omega
        have hGl : w3.heap.size < W.heap.size := World.block_lt_of_cell? W _ k0
        generalize w3.heap.size = G at k0 k1 k2 k3 k4 k5 k6 hGb hGl ⊢
        have hSD : W.drew.cell? ⟨p, 0, none⟩ = some (.pointer (some ⟨g, 0, none⟩)) ∧ W.drew.cell? ⟨G, 0, none⟩ = some (.int .i64 m) ∧ W.drew.cell? ⟨G, 1, none⟩ = some (.int .i64 1) ∧ W.drew.cell? ⟨G, 2, none⟩ = some (.string t) ∧ W.drew.cell? ⟨G, 3, none⟩ = some (.int .i64 0) ∧ W.drew.cell? ⟨G, 4, none⟩ = some (.int .i64 0) ∧ W.drew.cell? ⟨G, 5, none⟩ = some (.string t) ∧ W.drew.cell? ⟨G, 6, none⟩ = some (.int .i64 (-q)) := ⟨kc, k0, k1, k2, k3, k4, k5, k6⟩
        have HSA := Lib.hid (show ∀ (w' : World) (o : Obj), (w'.cell? ⟨p, 0, none⟩ = some (.pointer (some ⟨g, 0, none⟩)) ∧ w'.cell? ⟨G, 0, none⟩ = some (.int .i64 m) ∧ w'.cell? ⟨G, 1, none⟩ = some (.int .i64 1) ∧ w'.cell? ⟨G, 2, none⟩ = some (.string t) ∧ w'.cell? ⟨G, 3, none⟩ = some (.int .i64 0) ∧ w'.cell? ⟨G, 4, none⟩ = some (.int .i64 0) ∧ w'.cell? ⟨G, 5, none⟩ = some (.string t) ∧ w'.cell? ⟨G, 6, none⟩ = some (.int .i64 (-q))) → ((w'.alloc o).cell? ⟨p, 0, none⟩ = some (.pointer (some ⟨g, 0, none⟩)) ∧ (w'.alloc o).cell? ⟨G, 0, none⟩ = some (.int .i64 m) ∧ (w'.alloc o).cell? ⟨G, 1, none⟩ = some (.int .i64 1) ∧ (w'.alloc o).cell? ⟨G, 2, none⟩ = some (.string t) ∧ (w'.alloc o).cell? ⟨G, 3, none⟩ = some (.int .i64 0) ∧ (w'.alloc o).cell? ⟨G, 4, none⟩ = some (.int .i64 0) ∧ (w'.alloc o).cell? ⟨G, 5, none⟩ = some (.string t) ∧ (w'.alloc o).cell? ⟨G, 6, none⟩ = some (.int .i64 (-q))) from fun w' o ⟨s0, s1, s2, s3, s4, s5, s6, s7⟩ =>
          ⟨cell_keep ((Below.refl _ _).alloc (Nat.le_refl _) _) s0, cell_keep ((Below.refl _ _).alloc (Nat.le_refl _) _) s1, cell_keep ((Below.refl _ _).alloc (Nat.le_refl _) _) s2, cell_keep ((Below.refl _ _).alloc (Nat.le_refl _) _) s3, cell_keep ((Below.refl _ _).alloc (Nat.le_refl _) _) s4, cell_keep ((Below.refl _ _).alloc (Nat.le_refl _) _) s5, cell_keep ((Below.refl _ _).alloc (Nat.le_refl _) _) s6, cell_keep ((Below.refl _ _).alloc (Nat.le_refl _) _) s7⟩)
        have HSG := Lib.hid (show ∀ w5 : World, LG w5 g b M' → W.drew.grownBy w5 (some b) → (w5.cell? ⟨p, 0, none⟩ = some (.pointer (some ⟨g, 0, none⟩)) ∧ w5.cell? ⟨G, 0, none⟩ = some (.int .i64 m) ∧ w5.cell? ⟨G, 1, none⟩ = some (.int .i64 1) ∧ w5.cell? ⟨G, 2, none⟩ = some (.string t) ∧ w5.cell? ⟨G, 3, none⟩ = some (.int .i64 0) ∧ w5.cell? ⟨G, 4, none⟩ = some (.int .i64 0) ∧ w5.cell? ⟨G, 5, none⟩ = some (.string t) ∧ w5.cell? ⟨G, 6, none⟩ = some (.int .i64 (-q))) from fun w5 hl hg => by
          have h8 := hg.block G hGl (by simpa using hGb)
          have hcd : CU W.drew p g b M := ⟨HCU.out.1.blk, HCU.out.1.lg.blk, HCU.out.1.lg.map.move rfl⟩
          exact ⟨(hcd.turn hg hl).cell, (World.cell?_of_block (a := ⟨G, 0, none⟩) h8).trans k0, (World.cell?_of_block (a := ⟨G, 1, none⟩) h8).trans k1, (World.cell?_of_block (a := ⟨G, 2, none⟩) h8).trans k2, (World.cell?_of_block (a := ⟨G, 3, none⟩) h8).trans k3, (World.cell?_of_block (a := ⟨G, 4, none⟩) h8).trans k4, (World.cell?_of_block (a := ⟨G, 5, none⟩) h8).trans k5, (World.cell?_of_block (a := ⟨G, 6, none⟩) h8).trans k6⟩)
        clear k0 k1 k2 k3 k4 k5 k6 kc hGb hGl
        go_region_held3 (fun w' => w'.cell? ⟨p, 0, none⟩ = some (.pointer (some ⟨g, 0, none⟩)) ∧ w'.cell? ⟨G, 0, none⟩ = some (.int .i64 m) ∧ w'.cell? ⟨G, 1, none⟩ = some (.int .i64 1) ∧ w'.cell? ⟨G, 2, none⟩ = some (.string t) ∧ w'.cell? ⟨G, 3, none⟩ = some (.int .i64 0) ∧ w'.cell? ⟨G, 4, none⟩ = some (.int .i64 0) ∧ w'.cell? ⟨G, 5, none⟩ = some (.string t) ∧ w'.cell? ⟨G, 6, none⟩ = some (.int .i64 (-q)))
          (first | assumption | exact HSA.out _ _ (by assumption))
          (first | (go_at_call 19; refine (HPO.out W.drew ⟨HCU.out.1.lg.blk, HCU.out.1.lg.map.move rfl⟩).mono ?_; rintro e w5 ⟨rfl, H5⟩; have kk := HSG.out w5 H5.out.1 H5.out.2))
        go_wp2
        go_ret
        have hcd : CU W.drew p g b M := ⟨HCU.out.1.blk, HCU.out.1.lg.blk, HCU.out.1.lg.map.move rfl⟩
        have hgd := HN.out _ HCU.out.2.drew
        exact ⟨rfl, ⟨hcd.turn H5.out.2 H5.out.1, hgd.andThen H5.out.2 (fun _ hj => .inr hj)⟩⟩
    · have f1 : (q < 0) = False := eq_false c1
      have hr : brL M m t q = ((postL [] M [⟨⟨0, 0, t⟩, ⟨m, 1, t⟩, q⟩]).1, (postL [] M [⟨⟨0, 0, t⟩, ⟨m, 1, t⟩, q⟩]).2.2) := by unfold brL brE; rw [if_neg (by rw [hw]; simp), if_neg (by omega), if_neg c1]
      rw [hr]
      obtain ⟨⟨M', n', f'⟩, hR⟩ : ∃ R, postL [] M [⟨⟨0, 0, t⟩, ⟨m, 1, t⟩, q⟩] = R := ⟨_, rfl⟩
      have HPO := Lib.hid (show ∀ W, LG W g b M → Calls Try.prog 19 #[.pointer (some ⟨g, 0, none⟩), .slice (some ⟨W.heap.size, 0, none⟩) 1 1] (W.alloc (.cells #[.int .i64 0, .int .i64 0, .string t, .int .i64 m, .int .i64 1, .string t, .int .i64 q] 107)) fun o w' => o = .returned (.tuple #[.int .i64 n', .int .i64 f']) ∧ Hid (LG w' g b M' ∧ W.grownBy w' (some b)) from fun W hL => by
        have h9 := post_one hL HBM.out.1 HBM.out.2 ⟨⟨0, 0, t⟩, ⟨m, 1, t⟩, q⟩
        rw [hR] at h9
        exact h9)
      rw [hR]
      clear h hw hnone hr c1 hR
      go_enter Try.func42, Try.ntmps42
      go_wp2_with (first
        | (go_at_call 76; refine (acc_any _ _ _ _).mono ?_; rintro e w3 ⟨rfl, H3⟩; replace H3 := Lib.hid H3)
        | (go_at_call 75; refine (HWR.out _).mono ?_; rintro e w2 ⟨rfl, H2⟩; replace H2 := Lib.hid H2)
        | (go_at_call 74; refine (cmade_any HU.out).mono ?_; rintro e w1 ⟨rfl, rfl⟩))
      obtain ⟨W, hW⟩ : ∃ W, W = w3.alloc (.cells #[.int .i64 0, .int .i64 0, .string t, .int .i64 m, .int .i64 1, .string t, .int .i64 q] 107) := ⟨_, rfl⟩
      have hb := (H2.out.trans (H3.out.mono H2.out.size)).alloc (Nat.le_trans H2.out.size H3.out.size) (.cells #[.int .i64 0, .int .i64 0, .string t, .int .i64 m, .int .i64 1, .string t, .int .i64 q] 107)
      rw [← hW] at hb
      have k0 : W.cell? ⟨w3.heap.size, 0, none⟩ = some (.int .i64 0) := by rw [hW]; simp
      have k1 : W.cell? ⟨w3.heap.size, 1, none⟩ = some (.int .i64 0) := by rw [hW]; simp
      have k2 : W.cell? ⟨w3.heap.size, 2, none⟩ = some (.string t) := by rw [hW]; simp
      have k3 : W.cell? ⟨w3.heap.size, 3, none⟩ = some (.int .i64 m) := by rw [hW]; simp
      have k4 : W.cell? ⟨w3.heap.size, 4, none⟩ = some (.int .i64 1) := by rw [hW]; simp
      have k5 : W.cell? ⟨w3.heap.size, 5, none⟩ = some (.string t) := by rw [hW]; simp
      have k6 : W.cell? ⟨w3.heap.size, 6, none⟩ = some (.int .i64 q) := by rw [hW]; simp
      rw [← hW]
      have hcu := HU.out.below hb
      have kc := hcu.cell
      have HCU := Lib.hid (And.intro hcu hb)
      clear hW hb hcu
      have hGb : w3.heap.size ≠ b := by
        have h9 := (HU.out.below H2.out).below H3.out
        have := h9.lg.map.lt
        omega
      have hGl : w3.heap.size < W.heap.size := World.block_lt_of_cell? W _ k0
      generalize w3.heap.size = G at k0 k1 k2 k3 k4 k5 k6 hGb hGl ⊢
      have hSD : W.drew.cell? ⟨p, 0, none⟩ = some (.pointer (some ⟨g, 0, none⟩)) ∧ W.drew.cell? ⟨G, 0, none⟩ = some (.int .i64 0) ∧ W.drew.cell? ⟨G, 1, none⟩ = some (.int .i64 0) ∧ W.drew.cell? ⟨G, 2, none⟩ = some (.string t) ∧ W.drew.cell? ⟨G, 3, none⟩ = some (.int .i64 m) ∧ W.drew.cell? ⟨G, 4, none⟩ = some (.int .i64 1) ∧ W.drew.cell? ⟨G, 5, none⟩ = some (.string t) ∧ W.drew.cell? ⟨G, 6, none⟩ = some (.int .i64 q) := ⟨kc, k0, k1, k2, k3, k4, k5, k6⟩
      have HSA := Lib.hid (show ∀ (w' : World) (o : Obj), (w'.cell? ⟨p, 0, none⟩ = some (.pointer (some ⟨g, 0, none⟩)) ∧ w'.cell? ⟨G, 0, none⟩ = some (.int .i64 0) ∧ w'.cell? ⟨G, 1, none⟩ = some (.int .i64 0) ∧ w'.cell? ⟨G, 2, none⟩ = some (.string t) ∧ w'.cell? ⟨G, 3, none⟩ = some (.int .i64 m) ∧ w'.cell? ⟨G, 4, none⟩ = some (.int .i64 1) ∧ w'.cell? ⟨G, 5, none⟩ = some (.string t) ∧ w'.cell? ⟨G, 6, none⟩ = some (.int .i64 q)) → ((w'.alloc o).cell? ⟨p, 0, none⟩ = some (.pointer (some ⟨g, 0, none⟩)) ∧ (w'.alloc o).cell? ⟨G, 0, none⟩ = some (.int .i64 0) ∧ (w'.alloc o).cell? ⟨G, 1, none⟩ = some (.int .i64 0) ∧ (w'.alloc o).cell? ⟨G, 2, none⟩ = some (.string t) ∧ (w'.alloc o).cell? ⟨G, 3, none⟩ = some (.int .i64 m) ∧ (w'.alloc o).cell? ⟨G, 4, none⟩ = some (.int .i64 1) ∧ (w'.alloc o).cell? ⟨G, 5, none⟩ = some (.string t) ∧ (w'.alloc o).cell? ⟨G, 6, none⟩ = some (.int .i64 q)) from fun w' o ⟨s0, s1, s2, s3, s4, s5, s6, s7⟩ =>
        ⟨cell_keep ((Below.refl _ _).alloc (Nat.le_refl _) _) s0, cell_keep ((Below.refl _ _).alloc (Nat.le_refl _) _) s1, cell_keep ((Below.refl _ _).alloc (Nat.le_refl _) _) s2, cell_keep ((Below.refl _ _).alloc (Nat.le_refl _) _) s3, cell_keep ((Below.refl _ _).alloc (Nat.le_refl _) _) s4, cell_keep ((Below.refl _ _).alloc (Nat.le_refl _) _) s5, cell_keep ((Below.refl _ _).alloc (Nat.le_refl _) _) s6, cell_keep ((Below.refl _ _).alloc (Nat.le_refl _) _) s7⟩)
      have HSG := Lib.hid (show ∀ w5 : World, LG w5 g b M' → W.drew.grownBy w5 (some b) → (w5.cell? ⟨p, 0, none⟩ = some (.pointer (some ⟨g, 0, none⟩)) ∧ w5.cell? ⟨G, 0, none⟩ = some (.int .i64 0) ∧ w5.cell? ⟨G, 1, none⟩ = some (.int .i64 0) ∧ w5.cell? ⟨G, 2, none⟩ = some (.string t) ∧ w5.cell? ⟨G, 3, none⟩ = some (.int .i64 m) ∧ w5.cell? ⟨G, 4, none⟩ = some (.int .i64 1) ∧ w5.cell? ⟨G, 5, none⟩ = some (.string t) ∧ w5.cell? ⟨G, 6, none⟩ = some (.int .i64 q)) from fun w5 hl hg => by
        have h8 := hg.block G hGl (by simpa using hGb)
        have hcd : CU W.drew p g b M := ⟨HCU.out.1.blk, HCU.out.1.lg.blk, HCU.out.1.lg.map.move rfl⟩
        exact ⟨(hcd.turn hg hl).cell, (World.cell?_of_block (a := ⟨G, 0, none⟩) h8).trans k0, (World.cell?_of_block (a := ⟨G, 1, none⟩) h8).trans k1, (World.cell?_of_block (a := ⟨G, 2, none⟩) h8).trans k2, (World.cell?_of_block (a := ⟨G, 3, none⟩) h8).trans k3, (World.cell?_of_block (a := ⟨G, 4, none⟩) h8).trans k4, (World.cell?_of_block (a := ⟨G, 5, none⟩) h8).trans k5, (World.cell?_of_block (a := ⟨G, 6, none⟩) h8).trans k6⟩)
      clear k0 k1 k2 k3 k4 k5 k6 kc hGb hGl
      go_region_held3 (fun w' => w'.cell? ⟨p, 0, none⟩ = some (.pointer (some ⟨g, 0, none⟩)) ∧ w'.cell? ⟨G, 0, none⟩ = some (.int .i64 0) ∧ w'.cell? ⟨G, 1, none⟩ = some (.int .i64 0) ∧ w'.cell? ⟨G, 2, none⟩ = some (.string t) ∧ w'.cell? ⟨G, 3, none⟩ = some (.int .i64 m) ∧ w'.cell? ⟨G, 4, none⟩ = some (.int .i64 1) ∧ w'.cell? ⟨G, 5, none⟩ = some (.string t) ∧ w'.cell? ⟨G, 6, none⟩ = some (.int .i64 q))
        (first | assumption | exact HSA.out _ _ (by assumption))
        (first | (go_at_call 19; refine (HPO.out W.drew ⟨HCU.out.1.lg.blk, HCU.out.1.lg.map.move rfl⟩).mono ?_; rintro e w5 ⟨rfl, H5⟩; have kk := HSG.out w5 H5.out.1 H5.out.2))
      go_wp2
      go_ret
      have hcd : CU W.drew p g b M := ⟨HCU.out.1.blk, HCU.out.1.lg.blk, HCU.out.1.lg.map.move rfl⟩
      have hgd := HN.out _ HCU.out.2.drew
      exact ⟨rfl, ⟨hcd.turn H5.out.2 H5.out.1, hgd.andThen H5.out.2 (fun _ hj => .inr hj)⟩⟩
end Go.Proofs.Ytoknlpecbdlbfaa.PL

-- Custody: Position, walked.
namespace Go.Proofs.Ytoknlpecbdlbfaa.PL
open Go Go.RowKit Go.Maps Go.Sort Go.Shelf Go.Proofs Go.Proofs.YtoknlpecbdlbfaaW.PrintWords Go.Proofs.YtoknlpecbdlbfaaW.PrintLast
/-- The three boxes that Position's closure holds. -/
def B3 (w : World) (x y z p : Nat) (m : Int) (t : ByteArray) : Prop := w.cell? ⟨x, 0, none⟩ = some (.pointer (some ⟨p, 0, none⟩)) ∧ w.cell? ⟨y, 0, none⟩ = some (.int .i64 m) ∧ w.cell? ⟨z, 0, none⟩ = some (.string t)
theorem B3.below {w w' : World} {x y z p : Nat} {m : Int} {t : ByteArray} (h : B3 w x y z p m t) (hb : Below w.heap.size w w') : B3 w' x y z p m t := ⟨cell_keep hb h.1, cell_keep hb h.2.1, cell_keep hb h.2.2⟩
set_option maxRecDepth 100000 in
set_option maxHeartbeats 1000000 in
theorem at_any {w : World} {p g b : Nat} {M : List (S42 × Int)} (h : CU w p g b M) {x y z : Nat} {m : Int} {t : ByteArray} (h3 : B3 w x y z p m t) (k : Int) (ha : Wfa ⟨m, k, t⟩) :
    Calls Try.prog 77 #[.int .i64 k, .pointer (some ⟨x, 0, none⟩), .pointer (some ⟨y, 0, none⟩), .pointer (some ⟨z, 0, none⟩)] w fun e w' => e = .returned (.int .i64 (getM M ⟨m, k, t⟩)) ∧ Below w.heap.size w w' := by
  have hd : CU w.drew p g b M := ⟨h.blk, h.lg.blk, h.lg.map.move rfl⟩
  have HD := Lib.hid hd
  have HA := Lib.hid ha
  obtain ⟨c1, c2, c3⟩ := h3
  have c0 := h.cell
  have hSD : w.drew.cell? ⟨x, 0, none⟩ = some (.pointer (some ⟨p, 0, none⟩)) ∧ w.drew.cell? ⟨y, 0, none⟩ = some (.int .i64 m) ∧ w.drew.cell? ⟨z, 0, none⟩ = some (.string t) ∧ w.drew.cell? ⟨p, 0, none⟩ = some (.pointer (some ⟨g, 0, none⟩)) := ⟨c1, c2, c3, c0⟩
  have HSB := Lib.hid (show ∀ w1 w2 : World, Below w1.heap.size w1 w2 → (w1.cell? ⟨x, 0, none⟩ = some (.pointer (some ⟨p, 0, none⟩)) ∧ w1.cell? ⟨y, 0, none⟩ = some (.int .i64 m) ∧ w1.cell? ⟨z, 0, none⟩ = some (.string t) ∧ w1.cell? ⟨p, 0, none⟩ = some (.pointer (some ⟨g, 0, none⟩))) → (w2.cell? ⟨x, 0, none⟩ = some (.pointer (some ⟨p, 0, none⟩)) ∧ w2.cell? ⟨y, 0, none⟩ = some (.int .i64 m) ∧ w2.cell? ⟨z, 0, none⟩ = some (.string t) ∧ w2.cell? ⟨p, 0, none⟩ = some (.pointer (some ⟨g, 0, none⟩))) from fun w1 w2 hb ⟨s0, s1, s2, s3⟩ => ⟨cell_keep hb s0, cell_keep hb s1, cell_keep hb s2, cell_keep hb s3⟩)
  have HS0 := Lib.hid hSD
  clear h hd ha
  go_enter Try.func77, Try.ntmps77
  go_wp2
  go_region_held3 (fun w' => w'.cell? ⟨x, 0, none⟩ = some (.pointer (some ⟨p, 0, none⟩)) ∧ w'.cell? ⟨y, 0, none⟩ = some (.int .i64 m) ∧ w'.cell? ⟨z, 0, none⟩ = some (.string t) ∧ w'.cell? ⟨p, 0, none⟩ = some (.pointer (some ⟨g, 0, none⟩)))
    (first | assumption)
    (first
      | (go_at_call 25; refine (balance_any (HD.out.below H2.out).lg (a := ⟨m, k, t⟩) HA.out).mono ?_; rintro e w3 ⟨rfl, H3⟩; have kk3 := HSB.out _ _ H3 (HSB.out _ _ H2.out HS0.out); replace H3 := Lib.hid H3)
      | (go_at_call 76; refine (acc_any _ _ _ _).mono ?_; rintro e w2 ⟨rfl, H2⟩; have kk2 := HSB.out _ _ H2 HS0.out; replace H2 := Lib.hid H2))
  go_wp2
  go_ret
  have hb := (Below.refl w.heap.size w).drew
  have hb2 := hb.trans (H2.out.mono hb.size)
  exact ⟨rfl, hb2.trans (H3.out.mono hb2.size)⟩
theorem cell4 {W : World} {k : Nat} {v0 v1 v2 v3 : Value} {t : TypeId} (h : W.heap[k]? = some (.cells #[v0, v1, v2, v3] t (0, 0))) : W.cell? ⟨k, 0, none⟩ = some v0 ∧ W.cell? ⟨k, 1, none⟩ = some v1 ∧ W.cell? ⟨k, 2, none⟩ = some v2 ∧ W.cell? ⟨k, 3, none⟩ = some v3 := by
  refine ⟨?_, ?_, ?_, ?_⟩ <;> (unfold World.cell?; rw [h]; rfl)
theorem froz4 {W : World} {k : Nat} {v0 v1 v2 v3 : Value} {t : TypeId} (h : W.heap[k]? = some (.cells #[v0, v1, v2, v3] t (0, 0))) : W.frozen? ⟨k, 0, none⟩ = false ∧ W.frozen? ⟨k, 1, none⟩ = false ∧ W.frozen? ⟨k, 2, none⟩ = false ∧ W.frozen? ⟨k, 3, none⟩ = false := by
  refine ⟨?_, ?_, ?_, ?_⟩ <;> simp [World.frozen?, h]
set_option maxRecDepth 100000 in
set_option maxHeartbeats 1000000 in
theorem pos_any {w : World} {p g b : Nat} {M : List (S42 × Int)} (h : CU w p g b M) (m : Int) (t : ByteArray) (hm : (Lit.int .i64 m).wf = true) (ht : t.size ≤ maxLen) :
    Calls Try.prog 47 #[.pointer (some ⟨p, 0, none⟩), .int .i64 m, .string t] w fun e w' => e = .returned (.agg #[.int .i64 (getM M ⟨m, 1, t⟩), .int .i64 (getM M ⟨m, 2, t⟩), .int .i64 (getM M ⟨m, 3, t⟩), .int .i64 (getM M ⟨m, 4, t⟩)]) ∧ Below w.heap.size w w' := by
  have H1 := Lib.hid (show Wfa ⟨m, 1, t⟩ from ⟨hm, by kernel_rfl, ht⟩)
  have H2 := Lib.hid (show Wfa ⟨m, 2, t⟩ from ⟨hm, by kernel_rfl, ht⟩)
  have H3 := Lib.hid (show Wfa ⟨m, 3, t⟩ from ⟨hm, by kernel_rfl, ht⟩)
  have H4 := Lib.hid (show Wfa ⟨m, 4, t⟩ from ⟨hm, by kernel_rfl, ht⟩)
  obtain ⟨W0, hW0⟩ : ∃ W0, W0 = (((w.alloc (.cells #[.pointer (some ⟨p, 0, none⟩)] 66)).alloc (.cells #[.int .i64 m] 3)).alloc (.cells #[.string t] 9)).alloc (.cells #[.int .i64 0, .int .i64 0, .int .i64 0, .int .i64 0] 93) := ⟨_, rfl⟩
  have hb0 : Below w.heap.size w W0 := by
    rw [hW0]
    exact ((((Below.refl _ _).alloc (Nat.le_refl _) _).alloc (by simp) _).alloc (by simp; omega) _).alloc (by simp; omega) _
  have hbox : B3 W0 w.heap.size (w.heap.size + 1) (w.heap.size + 1 + 1) p m t ∧ W0.heap[w.heap.size + 1 + 1 + 1]? = some (.cells #[.int .i64 0, .int .i64 0, .int .i64 0, .int .i64 0] 93 (0, 0)) := by
    have e1 : (w.alloc (.cells #[.pointer (some ⟨p, 0, none⟩)] 66)).heap.size = w.heap.size + 1 := by simp
    have e2 : ((w.alloc (.cells #[.pointer (some ⟨p, 0, none⟩)] 66)).alloc (.cells #[.int .i64 m] 3)).heap.size = w.heap.size + 1 + 1 := by simp
    have e3 : (((w.alloc (.cells #[.pointer (some ⟨p, 0, none⟩)] 66)).alloc (.cells #[.int .i64 m] 3)).alloc (.cells #[.string t] 9)).heap.size = w.heap.size + 1 + 1 + 1 := by simp
    have hA := Go.MapKept.heap_alloc w (.cells #[.pointer (some ⟨p, 0, none⟩)] 66)
    have hB := Go.MapKept.heap_alloc (w.alloc (.cells #[.pointer (some ⟨p, 0, none⟩)] 66)) (.cells #[.int .i64 m] 3)
    have hC := Go.MapKept.heap_alloc ((w.alloc (.cells #[.pointer (some ⟨p, 0, none⟩)] 66)).alloc (.cells #[.int .i64 m] 3)) (.cells #[.string t] 9)
    have hD := Go.MapKept.heap_alloc (((w.alloc (.cells #[.pointer (some ⟨p, 0, none⟩)] 66)).alloc (.cells #[.int .i64 m] 3)).alloc (.cells #[.string t] 9)) (.cells #[.int .i64 0, .int .i64 0, .int .i64 0, .int .i64 0] 93)
    rw [e1] at hB
    rw [e2] at hC
    rw [e3] at hD
    rw [← hW0] at hD
    have g0 := (hD.2 w.heap.size (by omega)).trans ((hC.2 w.heap.size (by omega)).trans ((hB.2 w.heap.size (by omega)).trans hA.1))
    have g1 := (hD.2 (w.heap.size + 1) (by omega)).trans ((hC.2 (w.heap.size + 1) (by omega)).trans hB.1)
    have g2 := (hD.2 (w.heap.size + 1 + 1) (by omega)).trans hC.1
    have cat : ∀ {k : Nat} {v : Value} {ty : TypeId}, W0.heap[k]? = some (.cells #[v] ty (0, 0)) → W0.cell? ⟨k, 0, none⟩ = some v := fun {k v ty} h => by
      unfold World.cell?
      rw [h]
      rfl
    exact ⟨⟨cat g0, cat g1, cat g2⟩, hD.1⟩
  have HU := Lib.hid (h.below hb0)
  have HB0 := Lib.hid (And.intro hb0 hbox)
  clear h hm ht hb0 hbox
  go_enter Try.func47, Try.ntmps47
  go_wp2_with (first
    | (go_at_call 77; refine (at_any (((HU.out.below K2.out).below K3.out).below K4.out) (((HB0.out.2.1.below K2.out).below K3.out).below K4.out) 4 H4.out).mono ?_; rintro e w5 ⟨rfl, K5⟩
       have hr5 : w5.heap[w.heap.size + 1 + 1 + 1]? = some (.cells #[.int .i64 0, .int .i64 0, .int .i64 0, .int .i64 0] 93 (0, 0)) := by
         have l0 := (Array.getElem?_eq_some_iff.1 HB0.out.2.2).1
         have l2 := Nat.lt_of_lt_of_le l0 K2.out.size
         have l3 := Nat.lt_of_lt_of_le l2 K3.out.size
         have l4 := Nat.lt_of_lt_of_le l3 K4.out.size
         exact (K5.block _ l4).trans ((K4.out.block _ l3).trans ((K3.out.block _ l2).trans ((K2.out.block _ l0).trans HB0.out.2.2)))
       obtain ⟨d0, d1, d2, d3⟩ := cell4 hr5
       obtain ⟨z0, z1, z2, z3⟩ := froz4 hr5
       have HR5 := Lib.hid hr5
       clear hr5
       replace K5 := Lib.hid K5)
    | (go_at_call 77; refine (at_any ((HU.out.below K2.out).below K3.out) ((HB0.out.2.1.below K2.out).below K3.out) 3 H3.out).mono ?_; rintro e w4 ⟨rfl, K4⟩; replace K4 := Lib.hid K4)
    | (go_at_call 77; refine (at_any (HU.out.below K2.out) (HB0.out.2.1.below K2.out) 2 H2.out).mono ?_; rintro e w3 ⟨rfl, K3⟩; replace K3 := Lib.hid K3)
    | (go_at_call 77; rw [← hW0]; refine (at_any HU.out HB0.out.2.1 1 H1.out).mono ?_; rintro e w2 ⟨rfl, K2⟩; replace K2 := Lib.hid K2)
    | (go_at_call 74; rw [← hW0]; refine (cmade_any HU.out).mono ?_; rintro e w1 ⟨rfl, rfl⟩))
  refine bodyPost_ret (results_cell_row rfl _ _ (w.heap.size + 1 + 1 + 1) 93 #[.int .i64 (getM M ⟨m, 1, t⟩), .int .i64 (getM M ⟨m, 2, t⟩), .int .i64 (getM M ⟨m, 3, t⟩), .int .i64 (getM M ⟨m, 4, t⟩)] (0, 0) _ rfl (by
    refine blk_put (cs := #[.int .i64 (getM M ⟨m, 1, t⟩), .int .i64 (getM M ⟨m, 2, t⟩), .int .i64 (getM M ⟨m, 3, t⟩), .int .i64 0]) ?_ 3 _ rfl
    refine blk_put (cs := #[.int .i64 (getM M ⟨m, 1, t⟩), .int .i64 (getM M ⟨m, 2, t⟩), .int .i64 0, .int .i64 0]) ?_ 2 _ rfl
    refine blk_put (cs := #[.int .i64 (getM M ⟨m, 1, t⟩), .int .i64 0, .int .i64 0, .int .i64 0]) ?_ 1 _ rfl
    refine blk_put (cs := #[.int .i64 0, .int .i64 0, .int .i64 0, .int .i64 0]) ?_ 0 _ rfl
    exact HR5.out) Try.underlying93 rfl (by kernel_rfl)) rfl ?_
  have b2 := HB0.out.1.trans (K2.out.mono HB0.out.1.size)
  have b3 := b2.trans (K3.out.mono b2.size)
  have b4 := b3.trans (K4.out.mono b3.size)
  have b5 := b4.trans (K5.out.mono b4.size)
  exact ⟨rfl, (((b5.setCell (by simp; omega) _).setCell (by simp; omega) _).setCell (by simp; omega) _).setCell (by simp; omega) _⟩
end Go.Proofs.Ytoknlpecbdlbfaa.PL
