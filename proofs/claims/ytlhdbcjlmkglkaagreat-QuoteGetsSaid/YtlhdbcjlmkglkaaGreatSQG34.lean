/- Part 34 of the proof's texts: what the theorem needs of them. -/
import Derived.Test.YtlhdbcjlmkglkaaGreatSQG32
import Derived.Test.YtlhdbcjlmkglkaaGreatSQG33
import Derived.Test.YtlhdbcjlmkglkaaGreatSQG20
import Derived.WalkKit
import Derived.ProofKit
import Derived.Deep.Slices
import Derived.SizedLaws

set_option linter.unusedVariables false
set_option linter.unusedSimpArgs false
/- Chapter 21's example. -/
set_option linter.unusedSimpArgs false
set_option linter.unusedVariables false
namespace Go.Proofs.YtlhdbcjlmkglkaaGreat.Q
open Go Go.RowKit Go.Proofs Go.Proofs.YtlhdbcjlmkglkaaGreat.PL Go.Proofs.YtlhdbcjlmkglkaaGreatW.PrintWords
theorem BO.kept {B p : Nat} {A : Option Addr} {c : Nat} {xs : List S24} {w W : World} {g' : Option Nat} (h : BO B p A c xs w) (hf : Fr p (Value.slice A xs.length c).ownBlock g' w W) : Below B w W :=
  ⟨hf.os, hf.tape, hf.output, hf.size, fun k hk => hf.block k (Nat.lt_of_lt_of_le hk (Nat.le_trans h.le (Nat.le_of_lt h.bd.lt))) (fun e => by have := h.le; omega) (fun e => by have h1 := Kd.R_base h.r k e.symm; omega)⟩
/-- Add, beside a block of no board. -/
theorem add_keep (B p sl : Nat) (x : S24) (A : Option Addr) (c : Nat) (xs : List S24) (w : World) (h : BO B p A c xs w) (hlen : xs.length ≤ 1000000) (hx : chkB x xs = 0) (hsl : sl < w.heap.size) (hp : sl ≠ p) (hne : (Value.slice A xs.length c).ownBlock ≠ some sl) :
    Calls Tryz.prog 26 #[.pointer (some ⟨p, 0, none⟩), qA x] w fun e w' => e = .returned (.int .i64 0) ∧ ∃ A' c', BO B p A' c' (xs ++ [x]) w' ∧ (Value.slice A' (xs ++ [x]).length c').ownBlock ≠ some sl ∧ sl < w'.heap.size ∧ w'.heap[sl]? = w.heap[sl]? ∧ Below B w w' :=
  (add_yes B p x A c xs w h hlen hx).mono fun e w' ⟨he, A', c', hb, hf⟩ => ⟨he, A', c', hb, (by
    rw [List.length_append, List.length_singleton]
    intro e
    rcases hf.own with h1 | h1 | ⟨b, h1, h2⟩
    · exact hne (h1.symm.trans e)
    · rw [h1] at e; cases e
    · rw [h1] at e; injection e with e; omega), Nat.lt_of_lt_of_le hsl hf.size, hf.block sl hsl hp (fun e => hne e.symm), h.kept hf⟩
theorem two_C (W : World) (x y : S83) : Kd.C k83 (W.alloc (.cells #[.int .i64 x.f0, .int .i64 x.f1, .int .i64 x.f2, .int .i64 y.f0, .int .i64 y.f1, .int .i64 y.f2] 83)) (some ⟨W.heap.size, 0, none⟩) 2 [x, y] := by
  refine ⟨rfl, by omega, fun _ => ⟨⟨W.heap.size, 0, none⟩, rfl, fun j p hj => ?_⟩⟩
  match j, hj with
  | 0, hj =>
    obtain rfl := Option.some.inj hj
    refine ⟨[.int .i64 x.f0, .int .i64 x.f1, .int .i64 x.f2], rfl, k83_mk _ _, fun i u hu => ?_⟩
    have e : (⟨W.heap.size, 0, none⟩ : Addr).add (0 * k83.sz + i) = ⟨W.heap.size, i, none⟩ := by simp [Addr.add]; omega
    rw [e]
    match i, hu with
    | 0, hu => exact cell_new W _ 83 0 u hu
    | 1, hu => exact cell_new W _ 83 1 u hu
    | 2, hu => exact cell_new W _ 83 2 u hu
    | i + 3, hu => cases hu
  | 1, hj =>
    obtain rfl := Option.some.inj hj
    refine ⟨[.int .i64 y.f0, .int .i64 y.f1, .int .i64 y.f2], rfl, k83_mk _ _, fun i u hu => ?_⟩
    have e : (⟨W.heap.size, 0, none⟩ : Addr).add (1 * k83.sz + i) = ⟨W.heap.size, 3 + i, none⟩ := by simp [Addr.add, show k83.sz = 3 from rfl]
    rw [e]
    match i, hu with
    | 0, hu => exact cell_new W _ 83 3 u hu
    | 1, hu => exact cell_new W _ 83 4 u hu
    | 2, hu => exact cell_new W _ 83 5 u hu
    | i + 3, hu => cases hu
  | j + 2, hj => cases hj
def ex1 : S24 := ⟨1, 1, 1, 1, 5, 300, 0, 0⟩
def ex2 : S24 := ⟨2, 1, 1, 1, 5, 200, 0, 0⟩
def ex3 : S24 := ⟨3, 1, 1, 1, 5, 300, 0, 0⟩
theorem ex_side : sideL 1 0 0 1 [ex1, ex2, ex3] = [ex2, ex1, ex3] := by rfl
theorem ex_lev : levL [ex2, ex1, ex3] = [⟨200, 5, 1⟩, ⟨300, 10, 2⟩] := by kernel_rfl
theorem ex_f : lombardlaw21_levels.f 3 [⟨200, 5, 1⟩, ⟨300, 10, 2⟩] [⟨200, 5, 1⟩, ⟨300, 10, 2⟩] = some true := by kernel_rfl
theorem sl_cells {W : World} {sl : Nat} (h : W.heap[sl]? = some (.cells #[.int .i64 300, .int .i64 200, .int .i64 300] 3 (0, 0))) : W.cell? ⟨sl, 0, none⟩ = some (.int .i64 300) ∧ W.cell? ⟨sl, 1, none⟩ = some (.int .i64 200) ∧ W.cell? ⟨sl, 2, none⟩ = some (.int .i64 300) := by
  refine ⟨?_, ?_, ?_⟩ <;> simp [World.cell?, h]
theorem row3 {W : World} {B : Nat} {ok : Nat → Prop} {A : Option Addr} {c : Nat} {x y z : S24} (h : Kd.R k24 24 W B ok (.slice A 3 c) [x, y, z]) : ∃ g, A = some ⟨g, 0, none⟩ ∧ W.cell? ⟨g, 0, none⟩ = some (.int .i64 x.f0) ∧ W.cell? ⟨g, 8, none⟩ = some (.int .i64 y.f0) ∧ W.cell? ⟨g, 16, none⟩ = some (.int .i64 z.f0) := by
  obtain ⟨g, rfl⟩ := R_some h (by simp)
  have hC := row_C h rfl
  exact ⟨g, rfl, (row_at hC (k := 0) (by simp)).1, (row_at hC (k := 1) (by simp)).1, (row_at hC (k := 2) (by simp)).1⟩
set_option maxHeartbeats 400000 in
set_option maxRecDepth 1000000 in
theorem awake21_walk (w : World) : Calls Tryz.prog 14 #[] w fun e w' => e = .returned (.bool true) ∧ Below w.heap.size w w' := by
  have hu24 := Tryz.underlying24
  have hu38 := Tryz.underlying38
  have hu83 := Tryz.underlying83
  have hCN := new_any w
  go_enter Tryz.func14, Tryz.ntmps14
  go_wp2_with (go_at_call 7; refine hCN.mono ?_; rintro e W1 ⟨rfl, bo1, bl1⟩; have HB1 := Lib.hid bo1; have HL1 := Lib.hid bl1; clear bo1 bl1)
  clear hCN
  refine wp_loop_rounds 4 ?_
  rw [rounds_succ]
  have hb0 : ∀ V, W1.alloc (.cells #[.int .i64 300, .int .i64 200, .int .i64 300] 3) = V → Below W1.heap.size W1 V ∧ W1.heap.size < V.heap.size ∧ V.heap[W1.heap.size]? = some (.cells #[.int .i64 300, .int .i64 200, .int .i64 300] 3 (0, 0)) := by
    rintro V rfl
    exact ⟨below_alloc (Below.refl _ _) _, by simp, by unfold World.alloc; simp⟩
  generalize hV : W1.alloc (.cells #[.int .i64 300, .int .i64 200, .int .i64 300] 3) = V0
  obtain ⟨v1, v2, v3⟩ := hb0 V0 hV
  have hsp : W1.heap.size ≠ w.heap.size := by have := HB1.out.bd.lt; omega
  have HSP := Lib.hid hsp
  have HV := Lib.hid (And.intro v1 (And.intro v2 v3))
  obtain ⟨z0, z1, z2⟩ := sl_cells v3
  have HA1 := Lib.hid (show Calls Tryz.prog 26 #[.pointer (some ⟨w.heap.size, 0, none⟩), .agg #[.int .i64 1, .int .i64 1, .int .i64 1, .int .i64 1, .int .i64 5, .int .i64 300, .int .i64 0, .int .i64 0]] V0 fun e w' => e = .returned (.int .i64 0) ∧ ∃ A' c', BO w.heap.size w.heap.size A' c' ([] ++ [ex1]) w' ∧ (Value.slice A' ([] ++ [ex1] : List S24).length c').ownBlock ≠ some W1.heap.size ∧ W1.heap.size < w'.heap.size ∧ w'.heap[W1.heap.size]? = V0.heap[W1.heap.size]? ∧ Below w.heap.size V0 w' from add_keep w.heap.size w.heap.size W1.heap.size ex1 none 0 [] V0 (HB1.out.below v1) (by simp) (by kernel_rfl) v2 hsp (by intro e; cases e))
  clear hb0 hV v1 v2 v3 hsp
  go_wp2_with (go_at_call 26; refine HA1.out.mono ?_; rintro e W2 ⟨rfl, A2, c2, bo2, ne2, sz2, k2, bl2⟩; have HB2 := Lib.hid bo2; have HN2 := Lib.hid (And.intro ne2 (And.intro sz2 (And.intro (k2.trans HV.out.2.2) bl2))); clear bo2 ne2 sz2 k2 bl2)
  rw [rounds_succ]
  clear z0 z1 z2
  obtain ⟨z0, z1, z2⟩ := sl_cells HN2.out.2.2.1
  have HA2 := Lib.hid (show Calls Tryz.prog 26 #[.pointer (some ⟨w.heap.size, 0, none⟩), .agg #[.int .i64 2, .int .i64 1, .int .i64 1, .int .i64 1, .int .i64 5, .int .i64 200, .int .i64 0, .int .i64 0]] W2 fun e w' => e = .returned (.int .i64 0) ∧ ∃ A' c', BO w.heap.size w.heap.size A' c' ([ex1] ++ [ex2]) w' ∧ (Value.slice A' ([ex1] ++ [ex2] : List S24).length c').ownBlock ≠ some W1.heap.size ∧ W1.heap.size < w'.heap.size ∧ w'.heap[W1.heap.size]? = W2.heap[W1.heap.size]? ∧ Below w.heap.size W2 w' from add_keep w.heap.size w.heap.size W1.heap.size ex2 A2 c2 [ex1] W2 HB2.out (by simp) (by kernel_rfl) HN2.out.2.1 HSP.out HN2.out.1)
  go_wp2_with (go_at_call 26; refine HA2.out.mono ?_; rintro e W3 ⟨rfl, A3, c3, bo3, ne3, sz3, k3, bl3⟩; have HB3 := Lib.hid bo3; have HN3 := Lib.hid (And.intro ne3 (And.intro sz3 (And.intro (k3.trans HN2.out.2.2.1) bl3))); clear bo3 ne3 sz3 k3 bl3)
  rw [rounds_succ]
  clear z0 z1 z2
  obtain ⟨z0, z1, z2⟩ := sl_cells HN3.out.2.2.1
  have HA3 := Lib.hid (show Calls Tryz.prog 26 #[.pointer (some ⟨w.heap.size, 0, none⟩), .agg #[.int .i64 3, .int .i64 1, .int .i64 1, .int .i64 1, .int .i64 5, .int .i64 300, .int .i64 0, .int .i64 0]] W3 fun e w' => e = .returned (.int .i64 0) ∧ ∃ A' c', BO w.heap.size w.heap.size A' c' ([ex1, ex2] ++ [ex3]) w' ∧ (Value.slice A' ([ex1, ex2] ++ [ex3] : List S24).length c').ownBlock ≠ some W1.heap.size ∧ W1.heap.size < w'.heap.size ∧ w'.heap[W1.heap.size]? = W3.heap[W1.heap.size]? ∧ Below w.heap.size W3 w' from add_keep w.heap.size w.heap.size W1.heap.size ex3 A3 c3 [ex1, ex2] W3 HB3.out (by simp) (by kernel_rfl) HN3.out.2.1 HSP.out HN3.out.1)
  go_wp2_with (go_at_call 26; refine HA3.out.mono ?_; rintro e W4 ⟨rfl, A4, c4, bo4, ne4, sz4, k4, bl4⟩; have HB4 := Lib.hid bo4; have HL4 := Lib.hid bl4; clear bo4 ne4 sz4 k4 bl4)
  rw [rounds_succ]
  clear z0 z1 z2
  have HS := Lib.hid (show Calls Tryz.prog 32 #[.pointer (some ⟨w.heap.size, 0, none⟩), .agg #[.int .i64 1, .int .i64 0, .int .i64 0], .int .i64 1] W4 fun e w' => ∃ A' c', e = .returned (.slice A' 3 c') ∧ Kd.R k24 24 w' W4.heap.size (fun _ => True) (.slice A' 3 c') [ex2, ex1, ex3] ∧ Below W4.heap.size W4 w' from by
    have := side_any w.heap.size w.heap.size 1 0 0 1 A4 c4 [ex1, ex2, ex3] W4 HB4.out (by simp)
    rw [ex_side] at this
    exact this)
  have HLV := Lib.hid (show ∀ W, Below W4.heap.size W4 W → Calls Tryz.prog 42 #[.pointer (some ⟨w.heap.size, 0, none⟩), .agg #[.int .i64 1, .int .i64 0, .int .i64 0], .int .i64 1] W fun e w' => ∃ A' c', e = .returned (.slice A' 2 c') ∧ Kd.R k123 123 w' W.heap.size (fun _ => True) (.slice A' 2 c') [⟨200, 5, 1⟩, ⟨300, 10, 2⟩] ∧ Below W.heap.size W w' from fun W hb => by
    have := levels_any w.heap.size w.heap.size 1 0 0 1 A4 c4 [ex1, ex2, ex3] W (HB4.out.below hb) (by simp)
    rw [ex_side, ex_lev] at this
    exact this)
  have HEND := Lib.hid (fun (W6 : World) (A6 : Option Addr) (c6 : Nat) (hr : Kd.R k123 123 W6 W6.heap.size (fun _ => True) (.slice A6 2 c6) [⟨200, 5, 1⟩, ⟨300, 10, 2⟩]) => trivial)
  go_wp2_with (first
    | (have Y6 := HR6; go_at_call 41; refine (lombardlaw21_levels.calls 3 A6 c6 [⟨200, 5, 1⟩, ⟨300, 10, 2⟩] _ 2 [⟨200, 5, 1⟩, ⟨300, 10, 2⟩] true _ (Kd.C_below (Kd.R_reads' HR6.out).2.2 (below_alloc (Below.refl _ _) _)) (Kd.R_reads' HR6.out).2.1 (two_C _ ⟨200, 5, 1⟩ ⟨300, 10, 2⟩) (Nat.le_refl _) ex_f).mono ?_; rintro e W7 ⟨rfl, ⟨nd, rfl⟩⟩)
    | (have Y5 := HR5; go_at_call 42; refine (HLV.out _ HB5.out).mono ?_; rintro e W6 ⟨A6, c6, rfl, hr6, hb6⟩; have HR6 := Lib.hid hr6; have HB6 := Lib.hid hb6; clear hr6 hb6)
    | (go_at_call 32; refine HS.out.mono ?_; rintro e W5 ⟨A5, c5, rfl, hr5, hb5⟩; obtain ⟨g5, rfl, y0, y1, y2⟩ := row3 hr5; have HR5 := Lib.hid hr5; have HB5 := Lib.hid hb5; clear hr5 hb5))
  go_ret
  have q4 : Below w.heap.size w W4 := (((HL1.out.trans (HV.out.1.mono HL1.out.size)).trans HN2.out.2.2.2).trans HN3.out.2.2.2).trans HL4.out
  exact ⟨rfl, bl2 (bl2 (bl2 q4 HB5.out) HB6.out) (pw_below_drewN (below_alloc (Below.refl _ _) _) nd)⟩
end Go.Proofs.YtlhdbcjlmkglkaaGreat.Q

/- Arguments that come in: quotes, acts. -/
set_option linter.unusedSimpArgs false
set_option linter.unusedVariables false
namespace Go.Proofs.YtlhdbcjlmkglkaaGreat.Q
open Go Go.RowKit Go.ChangeShapes Go.WideShapes Go.Deep Go.Proofs Go.Proofs.YtlhdbcjlmkglkaaGreat.PL Go.Proofs.YtlhdbcjlmkglkaaGreatW.PrintWords Go.Proofs.YtlhdbcjlmkglkaaGreatW.PrintLast
/-- No part of the datum is greater than the form's reach. -/
def Small {H : Type} (t : TypeId) (d : DataW H) : Prop := ∀ m ∈ DataW.weights Tryz.prog t d, m ≤ reachBytes
/-- Whatever cells are read at the type t are those of some x of the kind d, of which Q holds. -/
def Opens {α : Type} (d : Kd α) (t : TypeId) (Q : α → Prop) : Prop :=
  ∀ {H : Type} (enc : TypeId × Value → H) (w : World) (base : Nat) (spare : Nat → Bool) (held : Bool) (n : Nat) (cs : List Value) (y : DataW H × List MemPlace), DataW.trod enc Tryz.prog w base spare held n t cs = some y → Small t y.1 → ∃ x : α, d.K w x cs ∧ Q x
theorem mem_weightsAll {H : Type} {P : Program} {e : TypeId} {m : Nat} {d : DataW H} (hm : m ∈ DataW.weights P e d) : ∀ {l : List (DataW H)}, d ∈ l → m ∈ DataW.weightsAll P e l
  | [], h => by simp at h
  | a :: r, h => by
    unfold DataW.weightsAll
    rcases List.mem_cons.1 h with rfl | h
    · exact List.mem_append_left _ hm
    · exact List.mem_append_right _ (mem_weightsAll hm h)
/-- A slice whose elements are so. -/
def QS {α : Type} (B : Nat) (Q : α → Prop) (xs : List α) : Prop := xs.length * B ≤ 140737488351232 ∧ ∀ x ∈ xs, Q x
theorem opens_slice {α : Type} {d : Kd α} {t e : TypeId} {Q : α → Prop} {B : Nat} (ht : Tryz.prog.underlying t = some (.slice e)) (hc : Tryz.prog.cellsOf e = d.sz) (hB : Tryz.prog.bytesOf e = B) (h : Opens d e Q) : Opens (Kd.slice e d) t (QS B Q) := by
  intro H enc w base spare held n cs y hy hs
  rcases open_slice ht hy with ⟨rfl, _⟩ | ⟨a, len, cap, m, n', D, Pl, rfl, hb, hl, hm, hmm, rfl, hi⟩
  · exact ⟨[], ⟨none, 0, rfl, Nat.le_refl _, rfl, by simp, fun h => absurd h (by simp)⟩, by simp, by simp⟩
  · have hlm : len ≤ m := by rw [hmm]; split <;> omega
    have hw : ∀ i, i < len → Small e (D i) := by
      intro i hi q hq
      refine hs q ?_
      simp only [DataW.weights, ht]
      exact List.mem_cons_of_mem _ (List.mem_append_left _ (mem_weightsAll hq (List.mem_map.2 ⟨i, by simpa using hi, rfl⟩)))
    have hlen : len * B ≤ 140737488351232 := by
      have h1 := hs ((len + (m - len)) * Tryz.prog.bytesOf e) (by
        simp only [DataW.weights, ht]
        simp)
      rw [hB] at h1
      exact Nat.le_trans (Nat.mul_le_mul_right _ (by omega)) h1
    have hx : ∀ i : Fin len, ∃ x cs', w.cells? base (a.add (i.1 * Tryz.prog.cellsOf e)) (Tryz.prog.cellsOf e) = some cs' ∧ d.K w x cs' ∧ Q x := by
      intro i
      obtain ⟨cs', h1, h2⟩ := hi i.1 (by have := i.2; omega)
      obtain ⟨x, h3, h4⟩ := h enc w base spare held _ _ _ h2 (hw i.1 i.2)
      exact ⟨x, cs', h1, h3, h4⟩
    obtain ⟨f, hf⟩ := Classical.axiomOfChoice hx
    refine ⟨List.ofFn f, ⟨some a, cap, by simp, by simpa using hl, by simp, by simp; unfold maxLen at hm; omega, fun _ => ⟨a, rfl, fun j p hj => ?_⟩⟩, by simpa using hlen, fun x hx => by
      obtain ⟨i, rfl⟩ := List.mem_ofFn.1 hx
      obtain ⟨_, _, _, h3⟩ := hf i
      exact h3⟩
    have hjl : j < len := by
      have := (List.getElem?_eq_some_iff.1 hj).1
      simpa using this
    obtain ⟨cs', h1, h2, _⟩ := hf ⟨j, hjl⟩
    have hp : p = f ⟨j, hjl⟩ := by
      have := (List.getElem?_eq_some_iff.1 hj).2
      simpa using this.symm
    subst hp
    obtain ⟨_, hcl, hat⟩ := World.cells?_some h1
    refine ⟨cs', by rw [hcl, hc], h2, fun i u hu => ?_⟩
    have hil : i < cs'.length := (List.getElem?_eq_some_iff.1 hu).1
    have h3 := hat i (by omega)
    rw [hu] at h3
    rw [← hc, ← Go.Deep.add_add]
    exact h3
theorem small_part {H : Type} {t : TypeId} {fs : Array Field} (ht : Tryz.prog.underlying t = some (.struct fs)) {ys : List (DataW H × List MemPlace)} (h : Small t (DataW.agg (ys.map (·.1)))) (j : Nat) {f : Field} (hf : fs[j]? = some f) {y : DataW H × List MemPlace} (hy : ys[j]? = some y) : Small f.type y.1 := by
  intro m hm
  refine h m ?_
  simp only [DataW.weights, ht]
  exact DataW.weights_mem_each (j := j) (by simp [hf]) (by simp [hy]) m hm
theorem cells24' : Tryz.prog.cellsOf 24 = 8 := by kernel_rfl
theorem cells31' : Tryz.prog.cellsOf 31 = 11 := by kernel_rfl
theorem cells3' : Tryz.prog.cellsOf 3 = 1 := by kernel_rfl
theorem bytes31' : Tryz.prog.bytesOf 31 = 88 := by kernel_rfl
def Any_ {α : Type} (_ : α) : Prop := True
theorem opens24 : Opens k24 24 Any_ := by
  intro H enc w base spare held n cs y hy hs
  obtain ⟨xs, n', _, rfl, hlen, hxl, hf⟩ := DataW.trod_struct Tryz.underlying24 hy
  obtain ⟨y0, e0⟩ : ∃ y0, xs[0]? = some y0 := ⟨xs[0]'(by rw [hxl]; simp), List.getElem?_eq_getElem _⟩
  obtain ⟨y1, e1⟩ : ∃ y0, xs[1]? = some y0 := ⟨xs[1]'(by rw [hxl]; simp), List.getElem?_eq_getElem _⟩
  obtain ⟨y2, e2⟩ : ∃ y0, xs[2]? = some y0 := ⟨xs[2]'(by rw [hxl]; simp), List.getElem?_eq_getElem _⟩
  obtain ⟨y3, e3⟩ : ∃ y0, xs[3]? = some y0 := ⟨xs[3]'(by rw [hxl]; simp), List.getElem?_eq_getElem _⟩
  obtain ⟨y4, e4⟩ : ∃ y0, xs[4]? = some y0 := ⟨xs[4]'(by rw [hxl]; simp), List.getElem?_eq_getElem _⟩
  obtain ⟨y5, e5⟩ : ∃ y0, xs[5]? = some y0 := ⟨xs[5]'(by rw [hxl]; simp), List.getElem?_eq_getElem _⟩
  obtain ⟨y6, e6⟩ : ∃ y0, xs[6]? = some y0 := ⟨xs[6]'(by rw [hxl]; simp), List.getElem?_eq_getElem _⟩
  obtain ⟨y7, e7⟩ : ∃ y0, xs[7]? = some y0 := ⟨xs[7]'(by rw [hxl]; simp), List.getElem?_eq_getElem _⟩
  obtain ⟨a0, h0, _, _⟩ := DataW.trod_int Tryz.underlying3 ((hf 0 _ rfl).trans e0)
  obtain ⟨a1, h1, _, _⟩ := DataW.trod_int Tryz.underlying3 ((hf 1 _ rfl).trans e1)
  obtain ⟨a2, h2, _, _⟩ := DataW.trod_int Tryz.underlying3 ((hf 2 _ rfl).trans e2)
  obtain ⟨a3, h3, _, _⟩ := DataW.trod_int Tryz.underlying3 ((hf 3 _ rfl).trans e3)
  obtain ⟨a4, h4, _, _⟩ := DataW.trod_int Tryz.underlying3 ((hf 4 _ rfl).trans e4)
  obtain ⟨a5, h5, _, _⟩ := DataW.trod_int Tryz.underlying3 ((hf 5 _ rfl).trans e5)
  obtain ⟨a6, h6, _, _⟩ := DataW.trod_int Tryz.underlying3 ((hf 6 _ rfl).trans e6)
  obtain ⟨a7, h7, _, _⟩ := DataW.trod_int Tryz.underlying3 ((hf 7 _ rfl).trans e7)
  rw [cells24'] at hlen
  replace h0 : (cs.drop 0).take (Tryz.prog.cellsOf 3) = _ := h0
  replace h1 : (cs.drop 1).take (Tryz.prog.cellsOf 3) = _ := h1
  replace h2 : (cs.drop 2).take (Tryz.prog.cellsOf 3) = _ := h2
  replace h3 : (cs.drop 3).take (Tryz.prog.cellsOf 3) = _ := h3
  replace h4 : (cs.drop 4).take (Tryz.prog.cellsOf 3) = _ := h4
  replace h5 : (cs.drop 5).take (Tryz.prog.cellsOf 3) = _ := h5
  replace h6 : (cs.drop 6).take (Tryz.prog.cellsOf 3) = _ := h6
  replace h7 : (cs.drop 7).take (Tryz.prog.cellsOf 3) = _ := h7
  rw [cells3'] at h0 h1 h2 h3 h4 h5 h6 h7
  refine ⟨⟨a0, a1, a2, a3, a4, a5, a6, a7⟩, ?_, trivial⟩
  have : cs = [.int .i64 a0, .int .i64 a1, .int .i64 a2, .int .i64 a3, .int .i64 a4, .int .i64 a5, .int .i64 a6, .int .i64 a7] := by
    clear hf hy hxl
    match cs, hlen with
    | [c0, c1, c2, c3, c4, c5, c6, c7], _ =>
      simp at h0 h1 h2 h3 h4 h5 h6 h7
      simp [h0, h1, h2, h3, h4, h5, h6, h7]
  rw [this]
  exact k24_mk w ⟨a0, a1, a2, a3, a4, a5, a6, a7⟩
def kAct : Kd Act11 := Kd.iso (Kd.pair (Kd.int .i64) (Kd.pair k24 (Kd.pair (Kd.int .i64) (Kd.int .i64)))) (fun x : Act11 => (x.kind, x.q, x.a, x.b))
def actL (x : Act11) : List Value := [.int .i64 x.kind, .int .i64 x.q.f0, .int .i64 x.q.f1, .int .i64 x.q.f2, .int .i64 x.q.f3, .int .i64 x.q.f4, .int .i64 x.q.f5, .int .i64 x.q.f6, .int .i64 x.q.f7, .int .i64 x.a, .int .i64 x.b]
theorem kAct_open {w : World} {x : Act11} {cs : List Value} (h : kAct.K w x cs) : cs = actL x := by
  obtain ⟨_, _, rfl, rfl, ⟨_, _, rfl, h2, ⟨_, _, rfl, rfl, rfl⟩⟩⟩ := h
  obtain rfl := k24_open h2
  rfl
theorem kAct_mk (w : World) (x : Act11) : kAct.K w x (actL x) := ⟨[.int .i64 x.kind], [.int .i64 x.q.f0, .int .i64 x.q.f1, .int .i64 x.q.f2, .int .i64 x.q.f3, .int .i64 x.q.f4, .int .i64 x.q.f5, .int .i64 x.q.f6, .int .i64 x.q.f7, .int .i64 x.a, .int .i64 x.b], rfl, rfl, ⟨_, [.int .i64 x.a, .int .i64 x.b], rfl, k24_mk w x.q, ⟨[.int .i64 x.a], [.int .i64 x.b], rfl, rfl, rfl⟩⟩⟩
theorem opens31 : Opens kAct 31 Any_ := by
  intro H enc w base spare held n cs y hy hs
  obtain ⟨xs, n', _, rfl, hlen, hxl, hf⟩ := DataW.trod_struct Tryz.underlying31 hy
  obtain ⟨y0, e0⟩ : ∃ y0, xs[0]? = some y0 := ⟨xs[0]'(by rw [hxl]; simp), List.getElem?_eq_getElem _⟩
  obtain ⟨y1, e1⟩ : ∃ y0, xs[1]? = some y0 := ⟨xs[1]'(by rw [hxl]; simp), List.getElem?_eq_getElem _⟩
  obtain ⟨y2, e2⟩ : ∃ y0, xs[2]? = some y0 := ⟨xs[2]'(by rw [hxl]; simp), List.getElem?_eq_getElem _⟩
  obtain ⟨y3, e3⟩ : ∃ y0, xs[3]? = some y0 := ⟨xs[3]'(by rw [hxl]; simp), List.getElem?_eq_getElem _⟩
  obtain ⟨a0, h0, _, _⟩ := DataW.trod_int Tryz.underlying3 ((hf 0 _ rfl).trans e0)
  obtain ⟨a2, h2, _, _⟩ := DataW.trod_int Tryz.underlying3 ((hf 2 _ rfl).trans e2)
  obtain ⟨a3, h3, _, _⟩ := DataW.trod_int Tryz.underlying3 ((hf 3 _ rfl).trans e3)
  obtain ⟨a1, h1, _⟩ := opens24 _ _ _ _ _ _ _ _ ((hf 1 _ rfl).trans e1) (small_part Tryz.underlying31 hs 1 rfl e1)
  have h1' := k24_open h1
  rw [cells31'] at hlen
  replace h0 : (cs.drop 0).take (Tryz.prog.cellsOf 3) = _ := h0
  replace h1' : (cs.drop 1).take (Tryz.prog.cellsOf 24) = _ := h1'
  replace h2 : (cs.drop 9).take (Tryz.prog.cellsOf 3) = _ := h2
  replace h3 : (cs.drop 10).take (Tryz.prog.cellsOf 3) = _ := h3
  rw [cells3'] at h0 h2 h3
  rw [cells24'] at h1'
  refine ⟨⟨a0, a1, a2, a3⟩, ?_, trivial⟩
  have : cs = actL ⟨a0, a1, a2, a3⟩ := by
    clear hf hy hxl h1 e0 e1 hs
    unfold actL
    match cs, hlen with
    | [c0, c1, c2, c3, c4, c5, c6, c7, c8, c9, c10], _ =>
      simp at h0 h1' h2 h3
      simp [h0, h1', h2, h3]
  rw [this]
  exact kAct_mk w ⟨a0, a1, a2, a3⟩
theorem opens22 : Opens (Kd.slice 31 kAct) 22 (QS 88 Any_) := opens_slice Tryz.underlying22 cells31' bytes31' opens31
/-- Argument j's datum is small. -/
theorem small_arg {H : Type} {ts : List TypeId} {ds : List (DataW H)} (hsz : (DataW.weightsEach Tryz.prog ts ds).all (· ≤ reachBytes) = true) {j : Nat} {t : TypeId} {d : DataW H} (ht : ts[j]? = some t) (hd : ds[j]? = some d) : Small t d := by
  intro m hm
  have := List.all_eq_true.1 hsz _ (DataW.weights_mem_each ht hd m hm)
  simpa using this
/-- A slice that comes in, as a row. -/
theorem opened {α : Type} {d : Kd α} {t e : TypeId} {Q : List α → Prop} (h : Opens (Kd.slice e d) t Q) {H : Type} {enc : TypeId × Value → H} {w : World} {base : Nat} {spare : Nat → Bool} {held : Bool} {a : Option Addr} {len cap : Nat} {y : DataW H} {p : List MemPlace}
    (hy : DataW.Trod enc Tryz.prog w base spare held t (.slice a len cap) y p) (hs : Small t y) : ∃ xs : List α, len = xs.length ∧ xs.length ≤ cap ∧ Kd.C d w a xs.length xs ∧ Q xs := by
  obtain ⟨fuel, hf⟩ := hy
  obtain ⟨x, ⟨A, c, he, hl, hC⟩, hq⟩ := h enc w base spare held fuel _ _ hf hs
  simp [Value.cells] at he
  obtain ⟨rfl, rfl, rfl⟩ := he
  exact ⟨x, rfl, hl, hC, hq⟩
set_option maxRecDepth 100000 in
/-- A quote that comes in. -/
theorem opened24 {r : Reach} {b0 : Nat} {H : Type} {enc : TypeId × Value → H} {w : World} {base : Nat} {spare : Nat → Bool} {held : Bool} {v : Value} {y : DataW H} {p : List MemPlace}
    (hv : Value.okWide Tryz.prog w r b0 24 v) (hy : DataW.Trod enc Tryz.prog w base spare held 24 v y p) (hs : Small 24 y) : ∃ x : S24, v = qA x := by
  obtain ⟨cs, rfl, hsz⟩ := okWide_struct Tryz.underlying24 hv
  obtain ⟨fuel, hf⟩ := hy
  obtain ⟨x, hK, _⟩ := opens24 enc w base spare held fuel _ _ hf hs
  have h := k24_open hK
  simp [Value.cells] at h
  exact ⟨x, by first | (rw [h]; rfl) | (subst h; rfl) | (rw [show cs = #[.int .i64 x.f0, .int .i64 x.f1, .int .i64 x.f2, .int .i64 x.f3, .int .i64 x.f4, .int .i64 x.f5, .int .i64 x.f6, .int .i64 x.f7] by cases cs; simp_all]; rfl)⟩
/-- An act by its place. -/
def rdAct (xs : List Act11) (k : Nat) : Act11 := xs.getD k ⟨0, z24, 0, 0⟩
theorem act_at {W : World} {A : Option Addr} {k : Nat} {xs : List Act11} (hC : Kd.C kAct W A xs.length xs) (hk : k < xs.length) : ∃ ad : Addr, A = some ad ∧ W.cell? (ad.add (k * 11)) = some (.int .i64 (rdAct xs k).kind) ∧ W.cell? ⟨(ad.add (k * 11)).block, (ad.add (k * 11)).off + 1, none⟩ = some (.int .i64 (rdAct xs k).q.f0) ∧ W.cell? ⟨(ad.add (k * 11)).block, (ad.add (k * 11)).off + 2, none⟩ = some (.int .i64 (rdAct xs k).q.f1) ∧ W.cell? ⟨(ad.add (k * 11)).block, (ad.add (k * 11)).off + 3, none⟩ = some (.int .i64 (rdAct xs k).q.f2) ∧ W.cell? ⟨(ad.add (k * 11)).block, (ad.add (k * 11)).off + 4, none⟩ = some (.int .i64 (rdAct xs k).q.f3) ∧ W.cell? ⟨(ad.add (k * 11)).block, (ad.add (k * 11)).off + 5, none⟩ = some (.int .i64 (rdAct xs k).q.f4) ∧ W.cell? ⟨(ad.add (k * 11)).block, (ad.add (k * 11)).off + 6, none⟩ = some (.int .i64 (rdAct xs k).q.f5) ∧ W.cell? ⟨(ad.add (k * 11)).block, (ad.add (k * 11)).off + 7, none⟩ = some (.int .i64 (rdAct xs k).q.f6) ∧ W.cell? ⟨(ad.add (k * 11)).block, (ad.add (k * 11)).off + 8, none⟩ = some (.int .i64 (rdAct xs k).q.f7) ∧ W.cell? ⟨(ad.add (k * 11)).block, (ad.add (k * 11)).off + 9, none⟩ = some (.int .i64 (rdAct xs k).a) ∧ W.cell? ⟨(ad.add (k * 11)).block, (ad.add (k * 11)).off + 10, none⟩ = some (.int .i64 (rdAct xs k).b) := by
  obtain ⟨ad, c, e, _, hK, hc1⟩ := Kd.C_get hC ⟨0, z24, 0, 0⟩ (k : Int) (by omega) (by omega)
  obtain rfl := kAct_open hK
  rw [Int.toNat_natCast] at hc1
  have hc0 : ∀ j u, (actL (rdAct xs k))[j]? = some u → W.cell? (ad.add (k * 11 + j)) = some u := hc1
  exact ⟨ad, e, hc0 0 _ rfl, by rw [← add_field _ _ 1 (by omega)]; exact hc0 1 _ rfl, by rw [← add_field _ _ 2 (by omega)]; exact hc0 2 _ rfl, by rw [← add_field _ _ 3 (by omega)]; exact hc0 3 _ rfl, by rw [← add_field _ _ 4 (by omega)]; exact hc0 4 _ rfl, by rw [← add_field _ _ 5 (by omega)]; exact hc0 5 _ rfl, by rw [← add_field _ _ 6 (by omega)]; exact hc0 6 _ rfl, by rw [← add_field _ _ 7 (by omega)]; exact hc0 7 _ rfl, by rw [← add_field _ _ 8 (by omega)]; exact hc0 8 _ rfl, by rw [← add_field _ _ 9 (by omega)]; exact hc0 9 _ rfl, by rw [← add_field _ _ 10 (by omega)]; exact hc0 10 _ rfl⟩
end Go.Proofs.YtlhdbcjlmkglkaaGreat.Q
