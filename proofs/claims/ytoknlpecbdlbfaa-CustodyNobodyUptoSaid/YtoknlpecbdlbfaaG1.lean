/- The ledger's map in memory, and the ledger's own functions, walked. -/
import Derived.Test.YtoknlpecbdlbfaaPLx0
import Derived.Maps.OwnSet
import Derived.Maps.Range
import Derived.DeepKeys4
import Derived.WideKeyArgs2
import Derived.WalkLawsBesides
import Derived.Deep.RegionHeld3
import Derived.Lib.Hide
import Derived.WalkSpells
import Derived.StillTailTactics
import Derived.Deep.DrawnRows
import Derived.OpenShut
import Derived.Sort.AtCall
import Derived.Deep.DeepMust

/- The ledger's map in memory: what a block that holds a map of accounts reads as, and what a look-up, a store and a delete do to it. -/
namespace Go.Proofs.Ytoknlpecbdlbfaa.PL
open Go.RowKit Go.Maps Go.MapKept
open Go.ChangeMaps (setBlock)
open Go.WideElems (Fit rd rd_mk rd_key rd_val other_key)

theorem laidOut : laidOutB Try.prog = true := by kernel_rfl
theorem row42 : (42 : TypeId) < Try.prog.types.size := of_decide_eq_true (by kernel_rfl)
theorem wide42 : (match Try.prog.underlying 42 with | some (.array _ _) | some (.struct _) => true | _ => false) = true := by kernel_rfl
set_option maxRecDepth 100000 in
theorem law42 : Keyed Try.prog 42 := Keyed.of_law (deep_law_laid laidOut (m := 3) (by omega) row42 (by kernel_rfl) wide42)
set_option maxRecDepth 100000 in
theorem ktype42 : Try.prog.keyType 42 = true := by kernel_rfl
theorem cells3 : Try.prog.cellsOf 3 = 1 := by kernel_rfl
theorem cells9 : Try.prog.cellsOf 9 = 1 := by kernel_rfl
theorem cells42 : Try.prog.cellsOf 42 = 3 := by kernel_rfl

/-- An account's value. -/
def kv (a : S42) : Value := .agg #[.int .i64 a.f0, .int .i64 a.f1, .string a.f2]
structure Wfa (a : S42) : Prop where
  h0 : (Lit.int .i64 a.f0).wf = true
  h1 : (Lit.int .i64 a.f1).wf = true
  h2 : a.f2.size ≤ maxLen
theorem kv_inj {a b : S42} (h : kv a = kv b) : a = b := by
  obtain ⟨a0, a1, a2⟩ := a
  obtain ⟨b0, b1, b2⟩ := b
  simp only [kv, Value.agg.injEq, Array.mk.injEq, List.cons.injEq, Value.int.injEq, Value.string.injEq, and_true, true_and] at h
  obtain ⟨rfl, rfl, rfl⟩ := h
  rfl
theorem keyOf_kv {a : S42} (h : Wfa a) : ∃ l, keyOf Try.prog 42 (kv a) = some l := by
  have hf : (kv a).formed Try.prog 42 = true := by simp [Value.formed, Try.underlying42, cells42, kv]
  obtain ⟨m, hm⟩ : ∃ m, Try.prog.types.size = m + 2 := by
    have h42 : 42 < Try.prog.types.size := row42
    exact ⟨Try.prog.types.size - 2, by omega⟩
  unfold keyOf
  rw [hm]
  simp only [Try.underlying42, ktype42, hf, Bool.and_true, if_true]
  simp [kv, Value.cells, Program.keyLits, Try.underlying42, Try.underlying3, Try.underlying9, cells42, cells3, cells9, h.h0, h.h1, h.h2]
instance : DecidableEq S42 := fun a b => decidable_of_iff (a.f0 = b.f0 ∧ a.f1 = b.f1 ∧ a.f2 = b.f2) (by
  constructor
  · rintro ⟨h0, h1, h2⟩
    cases a; cases b
    simp_all
  · rintro rfl
    exact ⟨rfl, rfl, rfl⟩)
/-- What an account has; a store; a delete: over the list of the map's entries. -/
def getM : List (S42 × Int) → S42 → Int
  | [], _ => 0
  | p :: r, a => if p.1 = a then p.2 else getM r a
def setM (M : List (S42 × Int)) (a : S42) (n : Int) : List (S42 × Int) := if a ∈ M.map Prod.fst then M.map (fun p => if p.1 = a then (a, n) else p) else M ++ [(a, n)]
def delM (M : List (S42 × Int)) (a : S42) : List (S42 × Int) := M.filter (fun p => !decide (p.1 = a))
theorem getM_none {M : List (S42 × Int)} {a : S42} (h : a ∉ M.map Prod.fst) : getM M a = 0 := by
  induction M with
  | nil => rfl
  | cons p r ih =>
    simp only [List.map_cons, List.mem_cons, not_or] at h
    unfold getM
    rw [if_neg (fun e => h.1 e.symm), ih h.2]
theorem getM_at {M : List (S42 × Int)} (hn : (M.map Prod.fst).Nodup) : ∀ {j : Nat} {a : S42} {n : Int}, M[j]? = some (a, n) → getM M a = n := by
  induction M with
  | nil => intro j a n h; simp at h
  | cons p r ih =>
    intro j a n h
    simp only [List.map_cons, List.nodup_cons] at hn
    unfold getM
    cases j with
    | zero =>
      simp at h
      subst h
      rw [if_pos rfl]
    | succ j =>
      simp at h
      have hm : a ∈ r.map Prod.fst := List.mem_map.2 ⟨(a, n), List.mem_of_getElem? h, rfl⟩
      rw [if_neg (fun e => hn.1 (by rw [e]; exact hm)), ih hn.2 h]
theorem setM_at {M : List (S42 × Int)} (hn : (M.map Prod.fst).Nodup) {j : Nat} {a : S42} {n m : Int} (h : M[j]? = some (a, n)) : setM M a m = M.set j (a, m) := by
  have hm : a ∈ M.map Prod.fst := List.mem_map.2 ⟨(a, n), List.mem_of_getElem? h, rfl⟩
  unfold setM
  rw [if_pos hm]
  clear hm
  induction M generalizing j with
  | nil => simp at h
  | cons p r ih =>
    simp only [List.map_cons, List.nodup_cons] at hn
    cases j with
    | zero =>
      simp at h
      subst h
      simp only [List.map_cons, if_true, List.set_cons_zero, List.cons.injEq, true_and]
      have : ∀ q ∈ r, (if q.1 = a then (a, m) else q) = q := by
        intro q hq
        rw [if_neg]
        intro e
        exact hn.1 (List.mem_map.2 ⟨q, hq, e⟩)
      rw [List.map_congr_left this]; simp
    | succ j =>
      simp at h
      have hm : a ∈ r.map Prod.fst := List.mem_map.2 ⟨(a, n), List.mem_of_getElem? h, rfl⟩
      rw [List.map_cons, if_neg (fun e => hn.1 (by rw [e]; exact hm)), List.set_cons_succ, ih hn.2 h]
theorem delM_at {M : List (S42 × Int)} (hn : (M.map Prod.fst).Nodup) {j : Nat} {a : S42} {n : Int} (h : M[j]? = some (a, n)) : delM M a = M.eraseIdx j := by
  unfold delM
  refine Go.ChangeMaps.filter_eq_eraseIdx (fun p : S42 × Int => decide (p.1 = a)) M j (a, n) h (by simp) ?_
  have := (List.pairwise_map (f := Prod.fst) (R := fun x y : S42 => x ≠ y) (l := M)).1 hn
  refine this.imp ?_
  intro x y hne
  simp only [decide_eq_true_eq]
  rintro ⟨e1, e2⟩
  exact hne (e1.trans e2.symm)
theorem delM_none {M : List (S42 × Int)} {a : S42} (h : a ∉ M.map Prod.fst) : delM M a = M := by
  unfold delM
  refine List.filter_eq_self.2 (fun p hp => ?_)
  simp only [Bool.not_eq_true', decide_eq_false_iff_not]
  intro e
  exact h (List.mem_map.2 ⟨p, hp, e⟩)

/-- Block b holds the map M (in the order in which the entries lie). -/
def LM (w : World) (b : Nat) (M : List (S42 × Int)) : Prop :=
  ∃ es clock, w.heap[b]? = some (.map es clock) ∧ Fit (H := Unit) Try.prog 42 (plainElem Try.prog 3) es clock ∧ es.toList.map (fun e => (e.key, e.val)) = M.map (fun p => (kv p.1, Value.int .i64 p.2))
theorem LM.lt {w : World} {b : Nat} {M : List (S42 × Int)} (h : LM w b M) : b < w.heap.size := by
  obtain ⟨es, clock, hb, _⟩ := h
  exact (Array.getElem?_eq_some_iff.1 hb).1
theorem LM.move {w w' : World} {b : Nat} {M : List (S42 × Int)} (h : LM w b M) (hm : w'.heap[b]? = w.heap[b]?) : LM w' b M := by
  obtain ⟨es, clock, hb, rest⟩ := h
  exact ⟨es, clock, hm.trans hb, rest⟩
theorem LM.grown {w w' : World} {b : Nat} {M : List (S42 × Int)} {row : Option Nat} (h : LM w b M) (hg : w.grownBy w' row) (hr : some b ≠ row) : LM w' b M := h.move (hg.block b h.lt hr)
theorem LM.below {w w' : World} {b : Nat} {M : List (S42 × Int)} (h : LM w b M) (hb : Below w.heap.size w w') : LM w' b M := h.move (hb.block b h.lt)
theorem LM.get {es : Array MapEntry} {M : List (S42 × Int)} (hM : es.toList.map (fun e => (e.key, e.val)) = M.map (fun p => (kv p.1, Value.int .i64 p.2))) {j : Nat} {e : MapEntry} (h : es.toList[j]? = some e) : ∃ p, M[j]? = some p ∧ e.key = kv p.1 ∧ e.val = .int .i64 p.2 := by
  have h1 : (es.toList.map (fun e => (e.key, e.val)))[j]? = some (e.key, e.val) := by rw [List.getElem?_map, h]; rfl
  rw [hM, List.getElem?_map] at h1
  cases hp : M[j]? with
  | none => rw [hp] at h1; cases h1
  | some p =>
    rw [hp] at h1
    simp at h1
    exact ⟨p, rfl, h1.1.symm, h1.2.symm⟩
theorem LM.nodup_of {es : Array MapEntry} {clock : Nat} {M : List (S42 × Int)} (F : Fit (H := Unit) Try.prog 42 (plainElem Try.prog 3) es clock) (hM : es.toList.map (fun e => (e.key, e.val)) = M.map (fun p => (kv p.1, Value.int .i64 p.2))) : (M.map Prod.fst).Nodup := by
  have hn : es.toList.Pairwise (fun x y => x.key ≠ y.key) := ((stamped_iff es clock).1 F.stamped).2.2
  have h1 : (es.toList.map (fun e => (e.key, e.val))).Pairwise (fun x y => x.1 ≠ y.1) := List.pairwise_map.2 hn
  rw [hM] at h1
  exact List.pairwise_map.2 ((List.pairwise_map.1 h1).imp (fun hne e => hne (by show kv _ = kv _; rw [e])))
theorem LM.nodup {w : World} {b : Nat} {M : List (S42 × Int)} (h : LM w b M) : (M.map Prod.fst).Nodup := by
  obtain ⟨es, clock, hb, F, hM⟩ := h
  exact LM.nodup_of F hM
theorem LM.none_of {es : Array MapEntry} {M : List (S42 × Int)} {a : S42} (hM : es.toList.map (fun e => (e.key, e.val)) = M.map (fun p => (kv p.1, Value.int .i64 p.2))) (h : ∀ e ∈ es.toList, e.key ≠ kv a) : a ∉ M.map Prod.fst := by
  intro hm
  obtain ⟨p, hp, rfl⟩ := List.mem_map.1 hm
  have : (kv p.1, Value.int .i64 p.2) ∈ es.toList.map (fun e => (e.key, e.val)) := by rw [hM]; exact List.mem_map.2 ⟨p, hp, rfl⟩
  obtain ⟨e, he, hee⟩ := List.mem_map.1 this
  exact h e he (by simp at hee; exact hee.1)
theorem zero3 (w : World) : (zeroValue 3).run Try.prog w = .ok (.int .i64 0) w := by kernel_rfl
/-- x.m[a]. -/
theorem LM.lookup {w : World} {b : Nat} {M : List (S42 × Int)} (h : LM w b M) {a : S42} (ha : Wfa a) : (Instr.lookup 60 (.map (some b)) (kv a) false).run Try.prog w = .ok (.int .i64 (getM M a)) w := by
  obtain ⟨es, clock, hb, F, hM⟩ := h
  obtain ⟨l, hkey⟩ := keyOf_kv ha
  have hn := LM.nodup_of F hM
  rcases law42.find w hkey es.toList F.keys with ⟨h1, h2⟩ | ⟨j, e0, h1, h2, h3⟩
  · rw [getM_none (LM.none_of hM h2)]
    simp [Instr.lookup, run_underlying Try.underlying60, MapKept.run_getObj_map hb, law42.check w _ hkey, h1, zero3 w, Result.andThen]
  · obtain ⟨p, hp, e1, e2⟩ := LM.get hM h2
    obtain rfl : p.1 = a := kv_inj (e1.symm.trans h3)
    rw [getM_at hn (n := p.2) hp]
    simp [Instr.lookup, run_underlying Try.underlying60, MapKept.run_getObj_map hb, law42.check w _ hkey, h1, e2, Result.andThen]
theorem grown_setBlock {w : World} {b : Nat} {es es' : Array MapEntry} {clock clock' : Nat} (hb : w.heap[b]? = some (.map es clock)) : w.grownBy (setBlock w b (.map es' clock')) (some b) :=
  ⟨rfl, rfl, rfl, by simp [setBlock], fun k _ hk => Go.ChangeMaps.heap_setBlock_other hb _ (fun e => hk (by rw [e]))⟩
/-- x.m[a] = n. -/
theorem LM.store {w : World} {b : Nat} {M : List (S42 × Int)} (h : LM w b M) {a : S42} (ha : Wfa a) {n : Int} (hn : (Lit.int .i64 n).wf = true) (hroom : M.length < maxLen) :
    ∃ w', (Instr.mapUpdate 60 (.map (some b)) (kv a) (.int .i64 n)).run Try.prog w = .ok () w' ∧ LM w' b (setM M a n) ∧ w.grownBy w' (some b) ∧ w'.heap.size = w.heap.size := by
  obtain ⟨es, clock, hb, F, hM⟩ := h
  obtain ⟨l, hkey⟩ := keyOf_kv ha
  have hnd := LM.nodup_of F hM
  have hlen : es.size = M.length := by have := congrArg List.length hM; simpa using this
  have hv : plainElem (H := Unit) Try.prog 3 (.int .i64 n) = some (.lit (.int .i64 n), []) := plainElem_int Try.underlying3 hn
  rcases law42.find w hkey es.toList F.keys with ⟨h1, h2⟩ | ⟨j, e0, h1, h2, h3⟩
  · refine ⟨setBlock w b (.map (es.push ⟨kv a, .int .i64 n, clock⟩) (clock + 1)), ?_, ⟨_, _, Go.ChangeMaps.heap_setBlock_same hb _, ⟨by simp; omega, stamped_push F.stamped h2, ?_⟩, ?_⟩, grown_setBlock hb, by simp [setBlock]⟩
    · simp [Instr.mapUpdate, run_underlying Try.underlying60, MapKept.run_getObj_map hb, law42.check w false hkey, h1, MapKept.run_setObj_map _ hb, Result.andThen, setBlock]
    · intro x hx
      simp only [Array.toList_push, List.mem_append, List.mem_singleton] at hx
      rcases hx with hx | rfl
      · exact F.reads x hx
      · exact ⟨_, rd_mk hkey hv⟩
    · unfold setM
      rw [if_neg (LM.none_of hM h2), Array.toList_push, List.map_append, List.map_append, hM]
      rfl
  · have hj : es[j]? = some e0 := by simpa using h2
    obtain ⟨p, hp, e1, e2⟩ := LM.get hM h2
    obtain rfl : p.1 = a := kv_inj (e1.symm.trans h3)
    have hkeyf : ∀ e', es[j]? = some e' → ({ e' with key := kv p.1, val := .int .i64 n } : MapEntry).key = e'.key := fun e' he' => by rw [hj] at he'; cases he'; exact h3.symm
    have hlist : (es.modify j (fun e' => { e' with key := kv p.1, val := .int .i64 n })).toList = es.toList.set j { e0 with key := kv p.1, val := .int .i64 n } := by rw [Array.toList_modify, Go.ChangeMaps.modify_eq_set _ _ _ _ h2]
    refine ⟨setBlock w b (.map (es.modify j (fun e' => { e' with key := kv p.1, val := .int .i64 n })) clock), ?_, ⟨_, _, Go.ChangeMaps.heap_setBlock_same hb _, ⟨by simpa using F.size, stamped_modify F.stamped _ _ (fun _ _ => rfl) (fun e' _ he' => hkeyf e' he'), ?_⟩, ?_⟩, grown_setBlock hb, by simp [setBlock]⟩
    · simp [Instr.mapUpdate, run_underlying Try.underlying60, MapKept.run_getObj_map hb, law42.check w false hkey, h1, hj, h3, law42.stays w hkey, MapKept.run_setObj_map _ hb, Result.andThen, setBlock]
    · intro x hx
      rw [hlist] at hx
      rcases List.mem_or_eq_of_mem_set hx with hx | rfl
      · exact F.reads x hx
      · exact ⟨_, rd_mk hkey hv⟩
    · rw [hlist, List.map_set, hM, setM_at hnd (n := p.2) hp, List.map_set]
/-- delete(x.m, a). -/
theorem LM.drop {w : World} {b : Nat} {M : List (S42 × Int)} (h : LM w b M) {a : S42} (ha : Wfa a) (ty : TypeId) :
    ∃ w', (Builtin.delete_ #[60, 42] ty #[.map (some b), kv a]).run Try.prog w = .ok (.tuple #[]) w' ∧ LM w' b (delM M a) ∧ w.grownBy w' (some b) ∧ w'.heap.size = w.heap.size := by
  obtain ⟨es, clock, hb, F, hM⟩ := h
  obtain ⟨l, hkey⟩ := keyOf_kv ha
  have hnd := LM.nodup_of F hM
  rcases law42.find w hkey es.toList F.keys with ⟨h1, h2⟩ | ⟨j, e0, h1, h2, h3⟩
  · refine ⟨setBlock w b (.map es clock), ?_, ⟨_, _, Go.ChangeMaps.heap_setBlock_same hb _, F, ?_⟩, grown_setBlock hb, by simp [setBlock]⟩
    · simp [Builtin.delete_, run_underlying Try.underlying60, MapKept.run_getObj_map hb, law42.check w _ hkey, h1, MapKept.run_setObj_map _ hb, Result.andThen, setBlock]
    · rw [delM_none (LM.none_of hM h2), hM]
  · obtain ⟨p, hp, e1, e2⟩ := LM.get hM h2
    obtain rfl : p.1 = a := kv_inj (e1.symm.trans h3)
    have hjl : j < es.size := by have := (List.getElem?_eq_some_iff.1 h2).1; simpa using this
    have hl : (es.eraseIdxIfInBounds j).toList = es.toList.eraseIdx j := by
      unfold Array.eraseIdxIfInBounds
      rw [dif_pos hjl, Array.toList_eraseIdx]
    refine ⟨setBlock w b (.map (es.eraseIdxIfInBounds j) clock), ?_, ⟨_, _, Go.ChangeMaps.heap_setBlock_same hb _, ⟨?_, stamped_erase F.stamped j, ?_⟩, ?_⟩, grown_setBlock hb, by simp [setBlock]⟩
    · simp [Builtin.delete_, run_underlying Try.underlying60, MapKept.run_getObj_map hb, law42.check w _ hkey, h1, MapKept.run_setObj_map _ hb, Result.andThen, setBlock]
    · have := F.size
      have h4 : (es.eraseIdxIfInBounds j).size = (es.toList.eraseIdx j).length := by rw [← hl, Array.length_toList]
      rw [h4]
      have := List.length_eraseIdx_le es.toList j
      simp at this
      omega
    · intro x hx
      rw [hl] at hx
      exact F.reads x (List.mem_of_mem_eraseIdx hx)
    · rw [hl, Go.ChangeMaps.map_eraseIdx, hM, delM_at hnd (n := p.2) hp, Go.ChangeMaps.map_eraseIdx]
end Go.Proofs.Ytoknlpecbdlbfaa.PL

namespace Go.Proofs.Ytoknlpecbdlbfaa.PL
open Go.RowKit Go.Proofs.YtoknlpecbdlbfaaW.PrintWords Go.Proofs.YtoknlpecbdlbfaaW.PrintLast Go.Proofs.YtoknlpecbdlbfaaW.PrintMore
attribute [local go_sem] max2_int min2_int max_two min_two max_three min_three max_four min_four   -- for this text's walks alone
set_option linter.unusedVariables false
set_option linter.unusedSimpArgs false

/-! ### lombardlaw11_short: function 15 -/
def lombardlaw11_short.l0 : Nat → List (List (S47)) → Int → Int → Option (Bool)
  | 0, _, _, _ => none
  | k + 1, x0, x3, x4 => if x4 < (x0.length : Int) then (if x4 ≤ 40 then (if x3 ≤ 300 then (if 0 ≤ x4 then (lombardlaw11_short.l0 k x0 (wrap64 (x3 + ((rd_L4 x0 x4).length : Int))) (wrap64 (x4 + 1))) else (none)) else (if (x0.length : Int) ≤ 40 then (some (decide (x3 ≤ 300))) else (some false))) else (if (x0.length : Int) ≤ 40 then (some (decide (x3 ≤ 300))) else (some false))) else (if (x0.length : Int) ≤ 40 then (some (decide (x3 ≤ 300))) else (some false))
def lombardlaw11_short.f (k : Nat) (l0 : List (List (S47))) : Option (Bool) := lombardlaw11_short.l0 k l0 0 0
theorem lombardlaw11_short.mono_l : ∀ k, (∀ y0 y1 y2, LeO (lombardlaw11_short.l0 k y0 y1 y2) (lombardlaw11_short.l0 (k + 1) y0 y1 y2))
  | 0 => fun _ _ _ r h => by simp [lombardlaw11_short.l0] at h
  | k + 1 => by
    have ih0 := lombardlaw11_short.mono_l k
    · intro y0 y1 y2
      unfold lombardlaw11_short.l0
      repeat' first
      | (with_reducible exact ih0 _ _ _)
      | (with_reducible exact LeO.refl _)
      | (with_reducible exact LeO.none _)
      | (with_reducible refine LeO.ite ?_ ?_)
      | (with_reducible refine LeO.bind ?_ (fun _ => ?_))
      | exact ih0 _ _ _
      | exact LeO.none _
      | refine LeO.ite ?_ ?_
      | refine LeO.bind ?_ (fun _ => ?_)
theorem lombardlaw11_short.mono : ∀ a0 k, LeO (lombardlaw11_short.f k a0) (lombardlaw11_short.f (k + 1) a0) := by
  intro a0 k
  have ih0 := lombardlaw11_short.mono_l k
  unfold lombardlaw11_short.f
  repeat' first
      | (with_reducible exact ih0 _ _ _)
      | (with_reducible exact LeO.refl _)
      | (with_reducible exact LeO.none _)
      | (with_reducible refine LeO.ite ?_ ?_)
      | (with_reducible refine LeO.bind ?_ (fun _ => ?_))
      | exact ih0 _ _ _
      | exact LeO.none _
      | refine LeO.ite ?_ ?_
      | refine LeO.bind ?_ (fun _ => ?_)
set_option maxHeartbeats 8000000 in
set_option maxRecDepth 100000 in
theorem lombardlaw11_short.calls (k : Nat) (A0 : Option Addr) (c0 : Nat) (l0 : List (List (S47))) (r : Bool) (w : World) (hr0 : Kd.C (Kd.slice 47 k47) w A0 l0.length l0) (hc0 : l0.length ≤ c0) (h : lombardlaw11_short.f k l0 = some r) :
    Calls Try.prog 15 #[.slice A0 l0.length c0] w fun e w' => e = .returned (.bool r) ∧ Drawn0 w w' := by
  have HR0 := Aside0.mk hr0
  have HC0 := Aside0.mk hc0
  clear hr0 hc0
  have H : (lombardlaw11_short.l0 k l0 0 0) = some r := h
  clear h
  have H' := Aside0.mk H
  clear H
  go_enter Try.func15, Try.ntmps15
  go_wp2
  go_loopg [3, 4] k (fun kq v3 v4 w' => ∃ (x3_1 : Int) (x4_1 : Int), v3 = .int .i64 x3_1 ∧ v4 = .int .i64 x4_1 ∧ Aside0 (lombardlaw11_short.l0 kq l0 x3_1 x4_1 = some r) ∧ Aside0 (kq ≤ k) ∧ Drawn0 w w')
  case atStart => exact ⟨(0), (0), (by first | rfl | (simp; done) | (simp [*]; done)), (by first | rfl | (simp; done) | (simp [*]; done)), H', ⟨Nat.le_refl _⟩, by repeat (first | exact Drawn0.refl _ | apply Drawn0.step)⟩
  case round =>
    clear H'
    try clear c1
    obtain ⟨x3_1, x4_1, rfl, rfl, HA, HK1, ⟨m1, rfl⟩⟩ := hrel
    cases gk with
    | zero => exact absurd HA.out (by simp [lombardlaw11_short.l0])
    | succ k1 =>
      have H := HA.out
      clear HA
      simp only [lombardlaw11_short.l0] at H
      by_cases c2 : x4_1 < (l0.length : Int)
      · rw [if_pos c2] at H
        have c2b0 : decide (x4_1 < (l0.length : Int)) = true := decide_eq_true c2
        clear c2
        by_cases c3 : x4_1 ≤ 40
        · rw [if_pos c3] at H
          have c3b0 : decide (x4_1 ≤ 40) = true := decide_eq_true c3
          clear c3
          by_cases c4 : x3_1 ≤ 300
          · rw [if_pos c4] at H
            have c4b0 : decide (x3_1 ≤ 300) = true := decide_eq_true c4
            clear c4
            by_cases c5 : 0 ≤ x4_1
            · rw [if_pos c5] at H
              have c5b0 : decide (0 ≤ x4_1) = true := decide_eq_true c5
              clear c5
              have H' := Aside0.mk H
              clear H
              have p101 : 0 ≤ (x4_1 : Int) := of_decide_eq_true (by first | (with_reducible assumption) | assumption)
              have q101 : x4_1 < (l0.length : Int) := of_decide_eq_true (by first | (with_reducible assumption) | assumption)
              obtain ⟨ad101, A101_0, c101_0, e101, hx101_0, hl101_0, hi101_0⟩ := at_L4 HR0.out x4_1 p101 q101
              cases e101
              have HR101_0 := Aside0.mk hi101_0
              have HC101_0 := Aside0.mk hl101_0
              clear hi101_0 hl101_0
              replace p101 := eq_true p101
              replace q101 := eq_true q101
              go_wp2
              go_roundg k1
              case measure => have := HK1.out; omega
              case rel => exact ⟨(wrap64 (x3_1 + ((rd_L4 l0 x4_1).length : Int))), (wrap64 (x4_1 + 1)), (by first | rfl | (simp; done) | (simp [*]; done)), (by first | rfl | (simp; done) | (simp [*]; done)), H', ⟨by have := HK1.out; omega⟩, by repeat (first | exact Drawn0.refl _ | apply Drawn0.step)⟩
            · rw [if_neg c5] at H
              exact absurd H (by simp)
          · rw [if_neg c4] at H
            have c4b0 : decide (x3_1 ≤ 300) = false := decide_eq_false c4
            clear c4
            by_cases c6 : (l0.length : Int) ≤ 40
            · rw [if_pos c6] at H
              have c6b0 : decide ((l0.length : Int) ≤ 40) = true := decide_eq_true c6
              have c6b1 : decide (l0.length ≤ 40) = true := decide_eq_true (by omega)
              clear c6
              obtain rfl := Option.some.inj H
              go_wp2
              go_ret
              exact ⟨by first | rfl | (simp; done) | (simp [*]; done), by repeat (first | exact Drawn0.refl _ | apply Drawn0.step)⟩
            · rw [if_neg c6] at H
              have c6b0 : decide ((l0.length : Int) ≤ 40) = false := decide_eq_false c6
              have c6b1 : decide (l0.length ≤ 40) = false := decide_eq_false (by omega)
              clear c6
              obtain rfl := Option.some.inj H
              go_wp2
              go_ret
              exact ⟨by first | rfl | (simp; done) | (simp [*]; done), by repeat (first | exact Drawn0.refl _ | apply Drawn0.step)⟩
        · rw [if_neg c3] at H
          have c3b0 : decide (x4_1 ≤ 40) = false := decide_eq_false c3
          clear c3
          by_cases c7 : (l0.length : Int) ≤ 40
          · rw [if_pos c7] at H
            have c7b0 : decide ((l0.length : Int) ≤ 40) = true := decide_eq_true c7
            have c7b1 : decide (l0.length ≤ 40) = true := decide_eq_true (by omega)
            clear c7
            obtain rfl := Option.some.inj H
            go_wp2
            go_ret
            exact ⟨by first | rfl | (simp; done) | (simp [*]; done), by repeat (first | exact Drawn0.refl _ | apply Drawn0.step)⟩
          · rw [if_neg c7] at H
            have c7b0 : decide ((l0.length : Int) ≤ 40) = false := decide_eq_false c7
            have c7b1 : decide (l0.length ≤ 40) = false := decide_eq_false (by omega)
            clear c7
            obtain rfl := Option.some.inj H
            go_wp2
            go_ret
            exact ⟨by first | rfl | (simp; done) | (simp [*]; done), by repeat (first | exact Drawn0.refl _ | apply Drawn0.step)⟩
      · rw [if_neg c2] at H
        have c2b0 : decide (x4_1 < (l0.length : Int)) = false := decide_eq_false c2
        clear c2
        by_cases c8 : (l0.length : Int) ≤ 40
        · rw [if_pos c8] at H
          have c8b0 : decide ((l0.length : Int) ≤ 40) = true := decide_eq_true c8
          have c8b1 : decide (l0.length ≤ 40) = true := decide_eq_true (by omega)
          clear c8
          obtain rfl := Option.some.inj H
          go_wp2
          go_ret
          exact ⟨by first | rfl | (simp; done) | (simp [*]; done), by repeat (first | exact Drawn0.refl _ | apply Drawn0.step)⟩
        · rw [if_neg c8] at H
          have c8b0 : decide ((l0.length : Int) ≤ 40) = false := decide_eq_false c8
          have c8b1 : decide (l0.length ≤ 40) = false := decide_eq_false (by omega)
          clear c8
          obtain rfl := Option.some.inj H
          go_wp2
          go_ret
          exact ⟨by first | rfl | (simp; done) | (simp [*]; done), by repeat (first | exact Drawn0.refl _ | apply Drawn0.step)⟩

-- NOT PRINTED: function 17 (ledger_New)

-- NOT PRINTED: function 58 (ledger_Ledger_made)

-- NOT PRINTED: function 60 (ledger_Ledger_put)

/-! ### ledger_good: function 70 -/
def ledger_good.j0 : Nat → Bool → Int → Int → ByteArray → Option (Int)
  | 0, _, _, _, _ => none
  | k + 1, x3, x103000, x103001, x103002 => if x3 = true then (some 22) else (if x103002.toList = ([] : List UInt8) then (some 21) else (if (x103002.size : Int) > 40 then (some 21) else (some 0)))
def ledger_good.f (k : Nat) (a0_0 : Int) (a0_1 : Int) (a0_2 : ByteArray) : Option (Int) := if a0_0 < 0 then (ledger_good.j0 k true a0_0 a0_1 a0_2) else (if a0_0 > 64 then (ledger_good.j0 k true a0_0 a0_1 a0_2) else (if a0_1 < 0 then (ledger_good.j0 k true a0_0 a0_1 a0_2) else (ledger_good.j0 k (decide (a0_1 > 1125899906842624)) a0_0 a0_1 a0_2)))
theorem ledger_good.mono_l : ∀ k, (∀ y0 y1 y2 y3, LeO (ledger_good.j0 k y0 y1 y2 y3) (ledger_good.j0 (k + 1) y0 y1 y2 y3))
  | 0 => fun _ _ _ _ r h => by simp [ledger_good.j0] at h
  | k + 1 => by
    have ih0 := ledger_good.mono_l k
    · intro y0 y1 y2 y3
      unfold ledger_good.j0
      repeat' first
      | (with_reducible exact ih0 _ _ _ _)
      | (with_reducible exact LeO.refl _)
      | (with_reducible exact LeO.none _)
      | (with_reducible refine LeO.ite ?_ ?_)
      | (with_reducible refine LeO.bind ?_ (fun _ => ?_))
      | exact ih0 _ _ _ _
      | exact LeO.none _
      | refine LeO.ite ?_ ?_
      | refine LeO.bind ?_ (fun _ => ?_)
theorem ledger_good.mono : ∀ a0 a1 a2 k, LeO (ledger_good.f k a0 a1 a2) (ledger_good.f (k + 1) a0 a1 a2) := by
  intro a0 a1 a2 k
  have ih0 := ledger_good.mono_l k
  unfold ledger_good.f
  repeat' first
      | (with_reducible exact ih0 _ _ _ _)
      | (with_reducible exact LeO.refl _)
      | (with_reducible exact LeO.none _)
      | (with_reducible refine LeO.ite ?_ ?_)
      | (with_reducible refine LeO.bind ?_ (fun _ => ?_))
      | exact ih0 _ _ _ _
      | exact LeO.none _
      | refine LeO.ite ?_ ?_
      | refine LeO.bind ?_ (fun _ => ?_)
set_option maxHeartbeats 8000000 in
set_option maxRecDepth 100000 in
theorem ledger_good.calls (k : Nat) (a0_0 : Int) (a0_1 : Int) (a0_2 : ByteArray) (r : Int) (w : World) (h : ledger_good.f k a0_0 a0_1 a0_2 = some r) :
    Calls Try.prog 70 #[.agg #[.int .i64 a0_0, .int .i64 a0_1, .string a0_2]] w fun e w' => e = .returned (.int .i64 r) ∧ Below w.heap.size w w' := by
  have hu42 := Try.underlying42
  have HB := Aside0.mk (Below.refl w.heap.size w)
  have H : (if a0_0 < 0 then (ledger_good.j0 k true a0_0 a0_1 a0_2) else (if a0_0 > 64 then (ledger_good.j0 k true a0_0 a0_1 a0_2) else (if a0_1 < 0 then (ledger_good.j0 k true a0_0 a0_1 a0_2) else (ledger_good.j0 k (decide (a0_1 > 1125899906842624)) a0_0 a0_1 a0_2)))) = some r := h
  clear h
  have HC2 := Aside0.mk H
  clear H
  go_enter Try.func70, Try.ntmps70
  go_upto_region 1 with (first | ((with_reducible refine gate_dst (N := 1) rfl ?_); (try (refine gate_guard (by rfl) ?_; dsimp only)); refine box_event ?hg (N := 1) ?hd (cs := #[.int .i64 a0_0, .int .i64 a0_1, .string a0_2]) (t := 42) ?hr ?_; (case hd => rfl); (case hg => rfl); (case hr => first | (go_simp; done) | (go_simp; rfl)); intro gb102 hg w3 hbox hb; have n0_ := Aside0.mk (below_step (by repeat (first | (with_reducible first | exact HB.out | apply below_alloc | apply pw_below_drewN | apply below_drew1) | exact HB.out)) hb); have n1_ := Aside0.mk (hbox); have n2_ := Aside0.mk ((by rw [hg]; exact (below_size (by repeat (first | (with_reducible first | exact HB.out | apply below_alloc | apply pw_below_drewN | apply below_drew1) | exact HB.out))) : w.heap.size ≤ gb102)); have n3_ := Aside0.mk ((by rw [hg]; exact (below_size (by repeat (first | (with_reducible first | exact HB.out | apply below_alloc | apply pw_below_drewN | apply below_drew1) | exact HB.out))) : w.heap.size ≤ gb102)); clear HB; have HB := n0_; have BK102 := n1_; have GW102 := n2_; have GE102 := n3_; clear n0_ n1_ n2_ n3_; clear hb hbox hg))
  (try simp only [Act.put, List.setIfInBounds_toArray, List.set_cons_zero, List.set_cons_succ])
  go_cut [3] (fun v3 wc => ∃ (kq : Nat) (x3_1 : Bool), v3 = .bool x3_1 ∧ Aside0 (ledger_good.j0 kq x3_1 a0_0 a0_1 a0_2 = some r) ∧ Aside0 (kq ≤ k) ∧ Aside0 (wc.heap[gb102]? = some (.cells #[.int .i64 a0_0, .int .i64 a0_1, .string a0_2] 42 (0, 0))) ∧ Aside0 (Below w.heap.size w wc))
  case first =>
    have H := HC2.out
    clear HC2
    by_cases c4 : a0_0 < 0
    · rw [if_pos c4] at H
      have c4b0 : decide (a0_0 < 0) = true := decide_eq_true c4
      clear c4
      (first | rw [c4b0] | (simp only [i64_w, i32_w]; rw [c4b0]) | skip)
      have H' := Aside0.mk H
      clear H
      have hcz5_0 : w3.cell? ⟨gb102, 0, none⟩ = some (.int .i64 a0_0) := (blk_cell BK102.out 0).trans rfl
      have hcz5_1 : w3.cell? ⟨gb102, 1, none⟩ = some (.int .i64 a0_1) := (blk_cell BK102.out 1).trans rfl
      have hcz5_2 : w3.cell? ⟨gb102, 2, none⟩ = some (.string a0_2) := (blk_cell BK102.out 2).trans rfl
      have hfz5_0 := blk_frozen BK102.out 0
      have hfz5_1 := blk_frozen BK102.out 1
      have hfz5_2 := blk_frozen BK102.out 2
      go_wp2
      go_meet
      case rel => exact ⟨_, (true), (by first | rfl | (simp; done) | (simp [*]; done)), H', ⟨by first | omega | exact Nat.le_refl _⟩, ⟨by (with_reducible repeat (first | refine blk_drewN ?_ _ | refine blk_drew ?_ | refine blk_alloc ?_ _)); exact BK102.out⟩, ⟨by repeat (first | (with_reducible first | exact HB.out | apply below_alloc | apply pw_below_drewN | apply below_drew1 | refine below_set ?_ GE102.out) | exact HB.out)⟩⟩
    · rw [if_neg c4] at H
      have c4b0 : decide (a0_0 < 0) = false := decide_eq_false c4
      clear c4
      (first | rw [c4b0] | (simp only [i64_w, i32_w]; rw [c4b0]) | skip)
      by_cases c6 : a0_0 > 64
      · rw [if_pos c6] at H
        have c6b0 : decide (64 < a0_0) = true := decide_eq_true c6
        clear c6
        have H' := Aside0.mk H
        clear H
        have hcz7_0 : w3.cell? ⟨gb102, 0, none⟩ = some (.int .i64 a0_0) := (blk_cell BK102.out 0).trans rfl
        have hcz7_1 : w3.cell? ⟨gb102, 1, none⟩ = some (.int .i64 a0_1) := (blk_cell BK102.out 1).trans rfl
        have hcz7_2 : w3.cell? ⟨gb102, 2, none⟩ = some (.string a0_2) := (blk_cell BK102.out 2).trans rfl
        have hfz7_0 := blk_frozen BK102.out 0
        have hfz7_1 := blk_frozen BK102.out 1
        have hfz7_2 := blk_frozen BK102.out 2
        go_wp2
        go_meet
        case rel => exact ⟨_, (true), (by first | rfl | (simp; done) | (simp [*]; done)), H', ⟨by first | omega | exact Nat.le_refl _⟩, ⟨by (with_reducible repeat (first | refine blk_drewN ?_ _ | refine blk_drew ?_ | refine blk_alloc ?_ _)); exact BK102.out⟩, ⟨by repeat (first | (with_reducible first | exact HB.out | apply below_alloc | apply pw_below_drewN | apply below_drew1 | refine below_set ?_ GE102.out) | exact HB.out)⟩⟩
      · rw [if_neg c6] at H
        have c6b0 : decide (64 < a0_0) = false := decide_eq_false c6
        clear c6
        by_cases c8 : a0_1 < 0
        · rw [if_pos c8] at H
          have c8b0 : decide (a0_1 < 0) = true := decide_eq_true c8
          clear c8
          have H' := Aside0.mk H
          clear H
          have hcz9_0 : w3.cell? ⟨gb102, 0, none⟩ = some (.int .i64 a0_0) := (blk_cell BK102.out 0).trans rfl
          have hcz9_1 : w3.cell? ⟨gb102, 1, none⟩ = some (.int .i64 a0_1) := (blk_cell BK102.out 1).trans rfl
          have hcz9_2 : w3.cell? ⟨gb102, 2, none⟩ = some (.string a0_2) := (blk_cell BK102.out 2).trans rfl
          have hfz9_0 := blk_frozen BK102.out 0
          have hfz9_1 := blk_frozen BK102.out 1
          have hfz9_2 := blk_frozen BK102.out 2
          go_wp2
          go_meet
          case rel => exact ⟨_, (true), (by first | rfl | (simp; done) | (simp [*]; done)), H', ⟨by first | omega | exact Nat.le_refl _⟩, ⟨by (with_reducible repeat (first | refine blk_drewN ?_ _ | refine blk_drew ?_ | refine blk_alloc ?_ _)); exact BK102.out⟩, ⟨by repeat (first | (with_reducible first | exact HB.out | apply below_alloc | apply pw_below_drewN | apply below_drew1 | refine below_set ?_ GE102.out) | exact HB.out)⟩⟩
        · rw [if_neg c8] at H
          have c8b0 : decide (a0_1 < 0) = false := decide_eq_false c8
          clear c8
          have H' := Aside0.mk H
          clear H
          have hcz10_0 : w3.cell? ⟨gb102, 0, none⟩ = some (.int .i64 a0_0) := (blk_cell BK102.out 0).trans rfl
          have hcz10_1 : w3.cell? ⟨gb102, 1, none⟩ = some (.int .i64 a0_1) := (blk_cell BK102.out 1).trans rfl
          have hcz10_2 : w3.cell? ⟨gb102, 2, none⟩ = some (.string a0_2) := (blk_cell BK102.out 2).trans rfl
          have hfz10_0 := blk_frozen BK102.out 0
          have hfz10_1 := blk_frozen BK102.out 1
          have hfz10_2 := blk_frozen BK102.out 2
          go_wp2
          go_meet
          case rel => exact ⟨_, (decide (a0_1 > 1125899906842624)), (by first | rfl | (simp; done) | (simp [*]; done)), H', ⟨by first | omega | exact Nat.le_refl _⟩, ⟨by (with_reducible repeat (first | refine blk_drewN ?_ _ | refine blk_drew ?_ | refine blk_alloc ?_ _)); exact BK102.out⟩, ⟨by repeat (first | (with_reducible first | exact HB.out | apply below_alloc | apply pw_below_drewN | apply below_drew1 | refine below_set ?_ GE102.out) | exact HB.out)⟩⟩
  case rest =>
    clear HC2
    try clear p2
    try clear c4
    try clear c4b0
    try clear c6
    try clear c6b0
    try clear c7
    try clear c8
    try clear c8b0
    try clear hcz10_0
    try clear hcz10_1
    try clear hcz10_2
    try clear hcz5_0
    try clear hcz5_1
    try clear hcz5_2
    try clear hcz7_0
    try clear hcz7_1
    try clear hcz7_2
    try clear hcz9_0
    try clear hcz9_1
    try clear hcz9_2
    try clear hfz10_0
    try clear hfz10_1
    try clear hfz10_2
    try clear hfz5_0
    try clear hfz5_1
    try clear hfz5_2
    try clear hfz7_0
    try clear hfz7_1
    try clear hfz7_2
    try clear hfz9_0
    try clear hfz9_1
    try clear hfz9_2
    obtain ⟨kq, x3_1, rfl, HA, HJ1, BK102, HB⟩ := hcut
    cases kq with
    | zero => exact absurd HA.out (by simp [ledger_good.j0])
    | succ kj1 =>
      have H := HA.out
      clear HA
      simp only [ledger_good.j0] at H
      by_cases c11 : x3_1 = true
      · subst c11
        have H1 : (some 22) = some r := by rw [if_pos rfl] at H; exact H
        clear H
        have H := H1
        clear H1
        obtain rfl := Option.some.inj H
        go_wp2
        go_ret
        exact ⟨by first | rfl | (simp [errW_none, errW_some] <;> rfl) | (simp [*, errW_none, errW_some] <;> rfl), by repeat (first | (with_reducible first | exact HB.out | apply below_alloc | apply pw_below_drewN | apply below_drew1 | refine below_set ?_ GE102.out) | exact HB.out)⟩
      · replace c11 := Bool.eq_false_iff.mpr c11
        subst c11
        have H1 : (if a0_2.toList = ([] : List UInt8) then (some 21) else (if (a0_2.size : Int) > 40 then (some 21) else (some 0))) = some r := by rw [if_neg (show ¬ (false = true) by decide)] at H; exact H
        clear H
        have H := H1
        clear H1
        by_cases c12 : a0_2.toList = ([] : List UInt8)
        · rw [if_pos c12] at H
          have c12b0 : (a0_2.toList == ([] : List UInt8)) = true := beq_iff_eq.mpr c12
          have c12b1 : (a0_2.toList != ([] : List UInt8)) = false := bne_eq_false_iff_eq.mpr c12
          clear c12
          obtain rfl := Option.some.inj H
          have hcz13_0 : wc.cell? ⟨gb102, 0, none⟩ = some (.int .i64 a0_0) := (blk_cell BK102.out 0).trans rfl
          have hcz13_1 : wc.cell? ⟨gb102, 1, none⟩ = some (.int .i64 a0_1) := (blk_cell BK102.out 1).trans rfl
          have hcz13_2 : wc.cell? ⟨gb102, 2, none⟩ = some (.string a0_2) := (blk_cell BK102.out 2).trans rfl
          have hfz13_0 := blk_frozen BK102.out 0
          have hfz13_1 := blk_frozen BK102.out 1
          have hfz13_2 := blk_frozen BK102.out 2
          go_wp2
          go_ret
          exact ⟨by first | rfl | (simp [errW_none, errW_some] <;> rfl) | (simp [*, errW_none, errW_some] <;> rfl), by repeat (first | (with_reducible first | exact HB.out | apply below_alloc | apply pw_below_drewN | apply below_drew1 | refine below_set ?_ GE102.out) | exact HB.out)⟩
        · rw [if_neg c12] at H
          have c12b0 : (a0_2.toList == ([] : List UInt8)) = false := beq_eq_false_iff_ne.mpr c12
          have c12b1 : (a0_2.toList != ([] : List UInt8)) = true := bne_iff_ne.mpr c12
          by_cases c14 : (a0_2.size : Int) > 40
          · rw [if_pos c14] at H
            have c14b0 : decide (40 < (a0_2.size : Int)) = true := decide_eq_true c14
            have c14b1 : decide (40 < a0_2.size) = true := decide_eq_true (by omega)
            clear c14
            obtain rfl := Option.some.inj H
            have hcz15_0 : wc.cell? ⟨gb102, 0, none⟩ = some (.int .i64 a0_0) := (blk_cell BK102.out 0).trans rfl
            have hcz15_1 : wc.cell? ⟨gb102, 1, none⟩ = some (.int .i64 a0_1) := (blk_cell BK102.out 1).trans rfl
            have hcz15_2 : wc.cell? ⟨gb102, 2, none⟩ = some (.string a0_2) := (blk_cell BK102.out 2).trans rfl
            have hfz15_0 := blk_frozen BK102.out 0
            have hfz15_1 := blk_frozen BK102.out 1
            have hfz15_2 := blk_frozen BK102.out 2
            go_wp2
            go_ret
            exact ⟨by first | rfl | (simp [errW_none, errW_some] <;> rfl) | (simp [*, errW_none, errW_some] <;> rfl), by repeat (first | (with_reducible first | exact HB.out | apply below_alloc | apply pw_below_drewN | apply below_drew1 | refine below_set ?_ GE102.out) | exact HB.out)⟩
          · rw [if_neg c14] at H
            have c14b0 : decide (40 < (a0_2.size : Int)) = false := decide_eq_false c14
            have c14b1 : decide (40 < a0_2.size) = false := decide_eq_false (by omega)
            clear c14
            obtain rfl := Option.some.inj H
            have hcz16_0 : wc.cell? ⟨gb102, 0, none⟩ = some (.int .i64 a0_0) := (blk_cell BK102.out 0).trans rfl
            have hcz16_1 : wc.cell? ⟨gb102, 1, none⟩ = some (.int .i64 a0_1) := (blk_cell BK102.out 1).trans rfl
            have hcz16_2 : wc.cell? ⟨gb102, 2, none⟩ = some (.string a0_2) := (blk_cell BK102.out 2).trans rfl
            have hfz16_0 := blk_frozen BK102.out 0
            have hfz16_1 := blk_frozen BK102.out 1
            have hfz16_2 := blk_frozen BK102.out 2
            go_wp2
            go_ret
            exact ⟨by first | rfl | (simp [errW_none, errW_some] <;> rfl) | (simp [*, errW_none, errW_some] <;> rfl), by repeat (first | (with_reducible first | exact HB.out | apply below_alloc | apply pw_below_drewN | apply below_drew1 | refine below_set ?_ GE102.out) | exact HB.out)⟩

/-! ### ledger_check: function 80 -/
def ledger_check.j0 : Nat → Bool → Int → Int → ByteArray → Int → Int → ByteArray → Int → Option (Int)
  | 0, _, _, _, _, _, _, _, _ => none
  | k + 1, x12, x104000, x104001, x104002, x104003, x104004, x104005, x104006 => if x12 = true then (some 1) else ((ledger_good.f k x104000 x104001 x104002).bind fun t104 => (if t104 = 0 then ((ledger_good.f k x104003 x104004 x104005).bind fun t105 => (if t105 = 0 then (if x104002.toList = x104005.toList then (some 0) else (some 21)) else (some t105))) else (some t104)))
def ledger_check.f (k : Nat) (a0_0 : Int) (a0_1 : Int) (a0_2 : ByteArray) (a0_3 : Int) (a0_4 : Int) (a0_5 : ByteArray) (a0_6 : Int) : Option (Int) := if a0_6 < 1 then (ledger_check.j0 k true a0_0 a0_1 a0_2 a0_3 a0_4 a0_5 a0_6) else (ledger_check.j0 k (decide (a0_6 > 1125899906842624)) a0_0 a0_1 a0_2 a0_3 a0_4 a0_5 a0_6)
theorem ledger_check.mono_l : ∀ k, (∀ y0 y1 y2 y3 y4 y5 y6 y7, LeO (ledger_check.j0 k y0 y1 y2 y3 y4 y5 y6 y7) (ledger_check.j0 (k + 1) y0 y1 y2 y3 y4 y5 y6 y7))
  | 0 => fun _ _ _ _ _ _ _ _ r h => by simp [ledger_check.j0] at h
  | k + 1 => by
    have ih0 := ledger_check.mono_l k
    · intro y0 y1 y2 y3 y4 y5 y6 y7
      unfold ledger_check.j0
      repeat' first
      | (with_reducible exact ih0 _ _ _ _ _ _ _ _)
      | (with_reducible exact ledger_good.mono _ _ _ _)
      | (with_reducible exact LeO.refl _)
      | (with_reducible exact LeO.none _)
      | (with_reducible refine LeO.ite ?_ ?_)
      | (with_reducible refine LeO.bind ?_ (fun _ => ?_))
      | exact ih0 _ _ _ _ _ _ _ _
      | exact ledger_good.mono _ _ _ _
      | exact LeO.none _
      | refine LeO.ite ?_ ?_
      | refine LeO.bind ?_ (fun _ => ?_)
theorem ledger_check.mono : ∀ a0 a1 a2 a3 a4 a5 a6 k, LeO (ledger_check.f k a0 a1 a2 a3 a4 a5 a6) (ledger_check.f (k + 1) a0 a1 a2 a3 a4 a5 a6) := by
  intro a0 a1 a2 a3 a4 a5 a6 k
  have ih0 := ledger_check.mono_l k
  unfold ledger_check.f
  repeat' first
      | (with_reducible exact ih0 _ _ _ _ _ _ _ _)
      | (with_reducible exact ledger_good.mono _ _ _ _)
      | (with_reducible exact LeO.refl _)
      | (with_reducible exact LeO.none _)
      | (with_reducible refine LeO.ite ?_ ?_)
      | (with_reducible refine LeO.bind ?_ (fun _ => ?_))
      | exact ih0 _ _ _ _ _ _ _ _
      | exact ledger_good.mono _ _ _ _
      | exact LeO.none _
      | refine LeO.ite ?_ ?_
      | refine LeO.bind ?_ (fun _ => ?_)
set_option maxHeartbeats 8000000 in
set_option maxRecDepth 100000 in
theorem ledger_check.calls (k : Nat) (a0_0 : Int) (a0_1 : Int) (a0_2 : ByteArray) (a0_3 : Int) (a0_4 : Int) (a0_5 : ByteArray) (a0_6 : Int) (r : Int) (w : World) (h : ledger_check.f k a0_0 a0_1 a0_2 a0_3 a0_4 a0_5 a0_6 = some r) :
    Calls Try.prog 80 #[.agg #[.int .i64 a0_0, .int .i64 a0_1, .string a0_2, .int .i64 a0_3, .int .i64 a0_4, .string a0_5, .int .i64 a0_6]] w fun e w' => e = .returned (.int .i64 r) ∧ Below w.heap.size w w' := by
  have hu107 := Try.underlying107
  have hu42 := Try.underlying42
  have HB := Aside0.mk (Below.refl w.heap.size w)
  have H : (if a0_6 < 1 then (ledger_check.j0 k true a0_0 a0_1 a0_2 a0_3 a0_4 a0_5 a0_6) else (ledger_check.j0 k (decide (a0_6 > 1125899906842624)) a0_0 a0_1 a0_2 a0_3 a0_4 a0_5 a0_6)) = some r := h
  clear h
  have HC2 := Aside0.mk H
  clear H
  go_enter Try.func80, Try.ntmps80
  go_upto_region 1 with (first | ((with_reducible refine gate_dst (N := 1) rfl ?_); refine box_event ?hg (N := 1) ?hd (cs := #[.int .i64 a0_0, .int .i64 a0_1, .string a0_2, .int .i64 a0_3, .int .i64 a0_4, .string a0_5, .int .i64 a0_6]) (t := 107) ?hr ?_; (case hd => rfl); (case hg => rfl); (case hr => first | (go_simp; done) | (go_simp; rfl)); intro gb103 hg w3 hbox hb; have n0_ := Aside0.mk (below_step (by repeat (first | (with_reducible first | exact HB.out | apply below_alloc | apply pw_below_drewN | apply below_drew1) | exact HB.out)) hb); have n1_ := Aside0.mk (hbox); have n2_ := Aside0.mk ((by rw [hg]; exact (below_size (by repeat (first | (with_reducible first | exact HB.out | apply below_alloc | apply pw_below_drewN | apply below_drew1) | exact HB.out))) : w.heap.size ≤ gb103)); have n3_ := Aside0.mk ((by rw [hg]; exact (below_size (by repeat (first | (with_reducible first | exact HB.out | apply below_alloc | apply pw_below_drewN | apply below_drew1) | exact HB.out))) : w.heap.size ≤ gb103)); clear HB; have HB := n0_; have BK103 := n1_; have GW103 := n2_; have GE103 := n3_; clear n0_ n1_ n2_ n3_; clear hb hbox hg))
  (try simp only [Act.put, List.setIfInBounds_toArray, List.set_cons_zero, List.set_cons_succ])
  go_cut [12] (fun v12 wc => ∃ (kq : Nat) (x12_1 : Bool), v12 = .bool x12_1 ∧ Aside0 (ledger_check.j0 kq x12_1 a0_0 a0_1 a0_2 a0_3 a0_4 a0_5 a0_6 = some r) ∧ Aside0 (kq ≤ k) ∧ Aside0 (wc.heap[gb103]? = some (.cells #[.int .i64 a0_0, .int .i64 a0_1, .string a0_2, .int .i64 a0_3, .int .i64 a0_4, .string a0_5, .int .i64 a0_6] 107 (0, 0))) ∧ Aside0 (Below w.heap.size w wc))
  case first =>
    have H := HC2.out
    clear HC2
    by_cases c4 : a0_6 < 1
    · rw [if_pos c4] at H
      have c4b0 : decide (a0_6 < 1) = true := decide_eq_true c4
      clear c4
      (first | rw [c4b0] | (simp only [i64_w, i32_w]; rw [c4b0]) | skip)
      have H' := Aside0.mk H
      clear H
      have hcz5_0 : w3.cell? ⟨gb103, 0, none⟩ = some (.int .i64 a0_0) := (blk_cell BK103.out 0).trans rfl
      have hcz5_1 : w3.cell? ⟨gb103, 1, none⟩ = some (.int .i64 a0_1) := (blk_cell BK103.out 1).trans rfl
      have hcz5_2 : w3.cell? ⟨gb103, 2, none⟩ = some (.string a0_2) := (blk_cell BK103.out 2).trans rfl
      have hcz5_3 : w3.cell? ⟨gb103, 3, none⟩ = some (.int .i64 a0_3) := (blk_cell BK103.out 3).trans rfl
      have hcz5_4 : w3.cell? ⟨gb103, 4, none⟩ = some (.int .i64 a0_4) := (blk_cell BK103.out 4).trans rfl
      have hcz5_5 : w3.cell? ⟨gb103, 5, none⟩ = some (.string a0_5) := (blk_cell BK103.out 5).trans rfl
      have hcz5_6 : w3.cell? ⟨gb103, 6, none⟩ = some (.int .i64 a0_6) := (blk_cell BK103.out 6).trans rfl
      have hfz5_0 := blk_frozen BK103.out 0
      have hfz5_1 := blk_frozen BK103.out 1
      have hfz5_2 := blk_frozen BK103.out 2
      have hfz5_3 := blk_frozen BK103.out 3
      have hfz5_4 := blk_frozen BK103.out 4
      have hfz5_5 := blk_frozen BK103.out 5
      have hfz5_6 := blk_frozen BK103.out 6
      go_wp2
      go_meet
      case rel => exact ⟨_, (true), (by first | rfl | (simp; done) | (simp [*]; done)), H', ⟨by first | omega | exact Nat.le_refl _⟩, ⟨by (with_reducible repeat (first | refine blk_drewN ?_ _ | refine blk_drew ?_ | refine blk_alloc ?_ _)); exact BK103.out⟩, ⟨by repeat (first | (with_reducible first | exact HB.out | apply below_alloc | apply pw_below_drewN | apply below_drew1 | refine below_set ?_ GE103.out) | exact HB.out)⟩⟩
    · rw [if_neg c4] at H
      have c4b0 : decide (a0_6 < 1) = false := decide_eq_false c4
      clear c4
      (first | rw [c4b0] | (simp only [i64_w, i32_w]; rw [c4b0]) | skip)
      have H' := Aside0.mk H
      clear H
      have hcz6_0 : w3.cell? ⟨gb103, 0, none⟩ = some (.int .i64 a0_0) := (blk_cell BK103.out 0).trans rfl
      have hcz6_1 : w3.cell? ⟨gb103, 1, none⟩ = some (.int .i64 a0_1) := (blk_cell BK103.out 1).trans rfl
      have hcz6_2 : w3.cell? ⟨gb103, 2, none⟩ = some (.string a0_2) := (blk_cell BK103.out 2).trans rfl
      have hcz6_3 : w3.cell? ⟨gb103, 3, none⟩ = some (.int .i64 a0_3) := (blk_cell BK103.out 3).trans rfl
      have hcz6_4 : w3.cell? ⟨gb103, 4, none⟩ = some (.int .i64 a0_4) := (blk_cell BK103.out 4).trans rfl
      have hcz6_5 : w3.cell? ⟨gb103, 5, none⟩ = some (.string a0_5) := (blk_cell BK103.out 5).trans rfl
      have hcz6_6 : w3.cell? ⟨gb103, 6, none⟩ = some (.int .i64 a0_6) := (blk_cell BK103.out 6).trans rfl
      have hfz6_0 := blk_frozen BK103.out 0
      have hfz6_1 := blk_frozen BK103.out 1
      have hfz6_2 := blk_frozen BK103.out 2
      have hfz6_3 := blk_frozen BK103.out 3
      have hfz6_4 := blk_frozen BK103.out 4
      have hfz6_5 := blk_frozen BK103.out 5
      have hfz6_6 := blk_frozen BK103.out 6
      go_wp2
      go_meet
      case rel => exact ⟨_, (decide (a0_6 > 1125899906842624)), (by first | rfl | (simp; done) | (simp [*]; done)), H', ⟨by first | omega | exact Nat.le_refl _⟩, ⟨by (with_reducible repeat (first | refine blk_drewN ?_ _ | refine blk_drew ?_ | refine blk_alloc ?_ _)); exact BK103.out⟩, ⟨by repeat (first | (with_reducible first | exact HB.out | apply below_alloc | apply pw_below_drewN | apply below_drew1 | refine below_set ?_ GE103.out) | exact HB.out)⟩⟩
  case rest =>
    clear HC2
    try clear p2
    try clear c4
    try clear c4b0
    try clear hcz5_0
    try clear hcz5_1
    try clear hcz5_2
    try clear hcz5_3
    try clear hcz5_4
    try clear hcz5_5
    try clear hcz5_6
    try clear hcz6_0
    try clear hcz6_1
    try clear hcz6_2
    try clear hcz6_3
    try clear hcz6_4
    try clear hcz6_5
    try clear hcz6_6
    try clear hfz5_0
    try clear hfz5_1
    try clear hfz5_2
    try clear hfz5_3
    try clear hfz5_4
    try clear hfz5_5
    try clear hfz5_6
    try clear hfz6_0
    try clear hfz6_1
    try clear hfz6_2
    try clear hfz6_3
    try clear hfz6_4
    try clear hfz6_5
    try clear hfz6_6
    obtain ⟨kq, x12_1, rfl, HA, HJ1, BK103, HB⟩ := hcut
    cases kq with
    | zero => exact absurd HA.out (by simp [ledger_check.j0])
    | succ kj1 =>
      have H := HA.out
      clear HA
      simp only [ledger_check.j0] at H
      by_cases c7 : x12_1 = true
      · subst c7
        have H1 : (some 1) = some r := by rw [if_pos rfl] at H; exact H
        clear H
        have H := H1
        clear H1
        obtain rfl := Option.some.inj H
        go_wp2
        go_ret
        exact ⟨by first | rfl | (simp [errW_none, errW_some] <;> rfl) | (simp [*, errW_none, errW_some] <;> rfl), by repeat (first | (with_reducible first | exact HB.out | apply below_alloc | apply pw_below_drewN | apply below_drew1 | refine below_set ?_ GE103.out) | exact HB.out)⟩
      · replace c7 := Bool.eq_false_iff.mpr c7
        subst c7
        have H1 : ((ledger_good.f kj1 a0_0 a0_1 a0_2).bind fun t104 => (if t104 = 0 then ((ledger_good.f kj1 a0_3 a0_4 a0_5).bind fun t105 => (if t105 = 0 then (if a0_2.toList = a0_5.toList then (some 0) else (some 21)) else (some t105))) else (some t104))) = some r := by rw [if_neg (show ¬ (false = true) by decide)] at H; exact H
        clear H
        have H := H1
        clear H1
        replace H := Option.bind_eq_some_iff.mp H
        obtain ⟨t104, A80, H⟩ := H
        replace H : (if t104 = 0 then ((ledger_good.f kj1 a0_3 a0_4 a0_5).bind fun t105 => (if t105 = 0 then (if a0_2.toList = a0_5.toList then (some 0) else (some 21)) else (some t105))) else (some t104)) = some r := H
        have A8 := Aside0.mk A80
        clear A80
        by_cases c9 : t104 = 0
        · rw [if_pos c9] at H
          have c9b0 : (t104 == 0) = true := beq_iff_eq.mpr c9
          have c9b1 : (t104 != 0) = false := bne_eq_false_iff_eq.mpr c9
          clear c9
          replace H := Option.bind_eq_some_iff.mp H
          obtain ⟨t105, A100, H⟩ := H
          replace H : (if t105 = 0 then (if a0_2.toList = a0_5.toList then (some 0) else (some 21)) else (some t105)) = some r := H
          have A10 := Aside0.mk A100
          clear A100
          by_cases c11 : t105 = 0
          · rw [if_pos c11] at H
            have c11b0 : (t105 == 0) = true := beq_iff_eq.mpr c11
            have c11b1 : (t105 != 0) = false := bne_eq_false_iff_eq.mpr c11
            clear c11
            by_cases c12 : a0_2.toList = a0_5.toList
            · rw [if_pos c12] at H
              have c12b0 : (a0_2.toList == a0_5.toList) = true := beq_iff_eq.mpr c12
              have c12b1 : (a0_2.toList != a0_5.toList) = false := bne_eq_false_iff_eq.mpr c12
              clear c12
              obtain rfl := Option.some.inj H
              have hcz13_0 : wc.cell? ⟨gb103, 0, none⟩ = some (.int .i64 a0_0) := (blk_cell BK103.out 0).trans rfl
              have hcz13_1 : wc.cell? ⟨gb103, 1, none⟩ = some (.int .i64 a0_1) := (blk_cell BK103.out 1).trans rfl
              have hcz13_2 : wc.cell? ⟨gb103, 2, none⟩ = some (.string a0_2) := (blk_cell BK103.out 2).trans rfl
              have hcz13_3 : wc.cell? ⟨gb103, 3, none⟩ = some (.int .i64 a0_3) := (blk_cell BK103.out 3).trans rfl
              have hcz13_4 : wc.cell? ⟨gb103, 4, none⟩ = some (.int .i64 a0_4) := (blk_cell BK103.out 4).trans rfl
              have hcz13_5 : wc.cell? ⟨gb103, 5, none⟩ = some (.string a0_5) := (blk_cell BK103.out 5).trans rfl
              have hcz13_6 : wc.cell? ⟨gb103, 6, none⟩ = some (.int .i64 a0_6) := (blk_cell BK103.out 6).trans rfl
              have hfz13_0 := blk_frozen BK103.out 0
              have hfz13_1 := blk_frozen BK103.out 1
              have hfz13_2 := blk_frozen BK103.out 2
              have hfz13_3 := blk_frozen BK103.out 3
              have hfz13_4 := blk_frozen BK103.out 4
              have hfz13_5 := blk_frozen BK103.out 5
              have hfz13_6 := blk_frozen BK103.out 6
              go_wp2_with (first | ((with_reducible refine gate_callee (f := 70) rfl ?_); refine goesL_ (some 15) rfl rfl Try.func70 (by kernel_rfl) rfl #[.agg #[.int .i64 a0_0, .int .i64 a0_1, .string a0_2]] rfl (by (try simp only [List.map_toArray, List.map_cons, List.map_nil]); first | done | rfl | (simp only [List.length_drop, List.length_take]; rfl)) ?_; (with_reducible refine (ledger_good.calls kj1 a0_0 a0_1 a0_2 t104 _ A8.out).mono ?_); rintro e w14 ⟨rfl, hb⟩; refine ⟨_, rfl, ?_⟩; have n0_ := Aside0.mk (blk_below (g := gb103) (o := .cells #[.int .i64 a0_0, .int .i64 a0_1, .string a0_2, .int .i64 a0_3, .int .i64 a0_4, .string a0_5, .int .i64 a0_6] 107 (0, 0)) (by (with_reducible repeat (first | refine blk_drewN ?_ _ | refine blk_drew ?_ | refine blk_alloc ?_ _)); exact BK103.out) hb); have n1_ := Aside0.mk (below_step (by repeat (first | (with_reducible first | exact HB.out | apply below_alloc | apply pw_below_drewN | apply below_drew1 | refine below_set ?_ GE103.out) | exact HB.out)) hb); clear BK103; clear HB; have BK103 := n0_; have HB := n1_; clear n0_ n1_; (try clear hb); (try clear hb2); (try clear hk); (try clear hi); have hcz15_0 : w14.cell? ⟨gb103, 0, none⟩ = some (.int .i64 a0_0) := (blk_cell BK103.out 0).trans rfl; have hcz15_1 : w14.cell? ⟨gb103, 1, none⟩ = some (.int .i64 a0_1) := (blk_cell BK103.out 1).trans rfl; have hcz15_2 : w14.cell? ⟨gb103, 2, none⟩ = some (.string a0_2) := (blk_cell BK103.out 2).trans rfl; have hcz15_3 : w14.cell? ⟨gb103, 3, none⟩ = some (.int .i64 a0_3) := (blk_cell BK103.out 3).trans rfl; have hcz15_4 : w14.cell? ⟨gb103, 4, none⟩ = some (.int .i64 a0_4) := (blk_cell BK103.out 4).trans rfl; have hcz15_5 : w14.cell? ⟨gb103, 5, none⟩ = some (.string a0_5) := (blk_cell BK103.out 5).trans rfl; have hcz15_6 : w14.cell? ⟨gb103, 6, none⟩ = some (.int .i64 a0_6) := (blk_cell BK103.out 6).trans rfl; have hfz15_0 := blk_frozen BK103.out 0; have hfz15_1 := blk_frozen BK103.out 1; have hfz15_2 := blk_frozen BK103.out 2; have hfz15_3 := blk_frozen BK103.out 3; have hfz15_4 := blk_frozen BK103.out 4; have hfz15_5 := blk_frozen BK103.out 5; have hfz15_6 := blk_frozen BK103.out 6) | ((with_reducible refine gate_callee (f := 70) rfl ?_); refine goesL_ (some 21) rfl rfl Try.func70 (by kernel_rfl) rfl #[.agg #[.int .i64 a0_3, .int .i64 a0_4, .string a0_5]] rfl (by (try simp only [List.map_toArray, List.map_cons, List.map_nil]); first | done | rfl | (simp only [List.length_drop, List.length_take]; rfl)) ?_; (with_reducible refine (ledger_good.calls kj1 a0_3 a0_4 a0_5 t105 _ A10.out).mono ?_); rintro e w16 ⟨rfl, hb⟩; refine ⟨_, rfl, ?_⟩; have n0_ := Aside0.mk (blk_below (g := gb103) (o := .cells #[.int .i64 a0_0, .int .i64 a0_1, .string a0_2, .int .i64 a0_3, .int .i64 a0_4, .string a0_5, .int .i64 a0_6] 107 (0, 0)) (by (with_reducible repeat (first | refine blk_drewN ?_ _ | refine blk_drew ?_ | refine blk_alloc ?_ _)); exact BK103.out) hb); have n1_ := Aside0.mk (below_step (by repeat (first | (with_reducible first | exact HB.out | apply below_alloc | apply pw_below_drewN | apply below_drew1 | refine below_set ?_ GE103.out) | exact HB.out)) hb); clear BK103; clear HB; have BK103 := n0_; have HB := n1_; clear n0_ n1_; (try clear hb); (try clear hb2); (try clear hk); (try clear hi); have hcz17_0 : w16.cell? ⟨gb103, 0, none⟩ = some (.int .i64 a0_0) := (blk_cell BK103.out 0).trans rfl; have hcz17_1 : w16.cell? ⟨gb103, 1, none⟩ = some (.int .i64 a0_1) := (blk_cell BK103.out 1).trans rfl; have hcz17_2 : w16.cell? ⟨gb103, 2, none⟩ = some (.string a0_2) := (blk_cell BK103.out 2).trans rfl; have hcz17_3 : w16.cell? ⟨gb103, 3, none⟩ = some (.int .i64 a0_3) := (blk_cell BK103.out 3).trans rfl; have hcz17_4 : w16.cell? ⟨gb103, 4, none⟩ = some (.int .i64 a0_4) := (blk_cell BK103.out 4).trans rfl; have hcz17_5 : w16.cell? ⟨gb103, 5, none⟩ = some (.string a0_5) := (blk_cell BK103.out 5).trans rfl; have hcz17_6 : w16.cell? ⟨gb103, 6, none⟩ = some (.int .i64 a0_6) := (blk_cell BK103.out 6).trans rfl; have hfz17_0 := blk_frozen BK103.out 0; have hfz17_1 := blk_frozen BK103.out 1; have hfz17_2 := blk_frozen BK103.out 2; have hfz17_3 := blk_frozen BK103.out 3; have hfz17_4 := blk_frozen BK103.out 4; have hfz17_5 := blk_frozen BK103.out 5; have hfz17_6 := blk_frozen BK103.out 6))
              go_ret
              exact ⟨by first | rfl | (simp [errW_none, errW_some] <;> rfl) | (simp [*, errW_none, errW_some] <;> rfl), by repeat (first | (with_reducible first | exact HB.out | apply below_alloc | apply pw_below_drewN | apply below_drew1 | refine below_set ?_ GE103.out) | exact HB.out)⟩
            · rw [if_neg c12] at H
              have c12b0 : (a0_2.toList == a0_5.toList) = false := beq_eq_false_iff_ne.mpr c12
              have c12b1 : (a0_2.toList != a0_5.toList) = true := bne_iff_ne.mpr c12
              obtain rfl := Option.some.inj H
              have hcz18_0 : wc.cell? ⟨gb103, 0, none⟩ = some (.int .i64 a0_0) := (blk_cell BK103.out 0).trans rfl
              have hcz18_1 : wc.cell? ⟨gb103, 1, none⟩ = some (.int .i64 a0_1) := (blk_cell BK103.out 1).trans rfl
              have hcz18_2 : wc.cell? ⟨gb103, 2, none⟩ = some (.string a0_2) := (blk_cell BK103.out 2).trans rfl
              have hcz18_3 : wc.cell? ⟨gb103, 3, none⟩ = some (.int .i64 a0_3) := (blk_cell BK103.out 3).trans rfl
              have hcz18_4 : wc.cell? ⟨gb103, 4, none⟩ = some (.int .i64 a0_4) := (blk_cell BK103.out 4).trans rfl
              have hcz18_5 : wc.cell? ⟨gb103, 5, none⟩ = some (.string a0_5) := (blk_cell BK103.out 5).trans rfl
              have hcz18_6 : wc.cell? ⟨gb103, 6, none⟩ = some (.int .i64 a0_6) := (blk_cell BK103.out 6).trans rfl
              have hfz18_0 := blk_frozen BK103.out 0
              have hfz18_1 := blk_frozen BK103.out 1
              have hfz18_2 := blk_frozen BK103.out 2
              have hfz18_3 := blk_frozen BK103.out 3
              have hfz18_4 := blk_frozen BK103.out 4
              have hfz18_5 := blk_frozen BK103.out 5
              have hfz18_6 := blk_frozen BK103.out 6
              go_wp2_with (first | ((with_reducible refine gate_callee (f := 70) rfl ?_); refine goesL_ (some 15) rfl rfl Try.func70 (by kernel_rfl) rfl #[.agg #[.int .i64 a0_0, .int .i64 a0_1, .string a0_2]] rfl (by (try simp only [List.map_toArray, List.map_cons, List.map_nil]); first | done | rfl | (simp only [List.length_drop, List.length_take]; rfl)) ?_; (with_reducible refine (ledger_good.calls kj1 a0_0 a0_1 a0_2 t104 _ A8.out).mono ?_); rintro e w19 ⟨rfl, hb⟩; refine ⟨_, rfl, ?_⟩; have n0_ := Aside0.mk (blk_below (g := gb103) (o := .cells #[.int .i64 a0_0, .int .i64 a0_1, .string a0_2, .int .i64 a0_3, .int .i64 a0_4, .string a0_5, .int .i64 a0_6] 107 (0, 0)) (by (with_reducible repeat (first | refine blk_drewN ?_ _ | refine blk_drew ?_ | refine blk_alloc ?_ _)); exact BK103.out) hb); have n1_ := Aside0.mk (below_step (by repeat (first | (with_reducible first | exact HB.out | apply below_alloc | apply pw_below_drewN | apply below_drew1 | refine below_set ?_ GE103.out) | exact HB.out)) hb); clear BK103; clear HB; have BK103 := n0_; have HB := n1_; clear n0_ n1_; (try clear hb); (try clear hb2); (try clear hk); (try clear hi); have hcz20_0 : w19.cell? ⟨gb103, 0, none⟩ = some (.int .i64 a0_0) := (blk_cell BK103.out 0).trans rfl; have hcz20_1 : w19.cell? ⟨gb103, 1, none⟩ = some (.int .i64 a0_1) := (blk_cell BK103.out 1).trans rfl; have hcz20_2 : w19.cell? ⟨gb103, 2, none⟩ = some (.string a0_2) := (blk_cell BK103.out 2).trans rfl; have hcz20_3 : w19.cell? ⟨gb103, 3, none⟩ = some (.int .i64 a0_3) := (blk_cell BK103.out 3).trans rfl; have hcz20_4 : w19.cell? ⟨gb103, 4, none⟩ = some (.int .i64 a0_4) := (blk_cell BK103.out 4).trans rfl; have hcz20_5 : w19.cell? ⟨gb103, 5, none⟩ = some (.string a0_5) := (blk_cell BK103.out 5).trans rfl; have hcz20_6 : w19.cell? ⟨gb103, 6, none⟩ = some (.int .i64 a0_6) := (blk_cell BK103.out 6).trans rfl; have hfz20_0 := blk_frozen BK103.out 0; have hfz20_1 := blk_frozen BK103.out 1; have hfz20_2 := blk_frozen BK103.out 2; have hfz20_3 := blk_frozen BK103.out 3; have hfz20_4 := blk_frozen BK103.out 4; have hfz20_5 := blk_frozen BK103.out 5; have hfz20_6 := blk_frozen BK103.out 6) | ((with_reducible refine gate_callee (f := 70) rfl ?_); refine goesL_ (some 21) rfl rfl Try.func70 (by kernel_rfl) rfl #[.agg #[.int .i64 a0_3, .int .i64 a0_4, .string a0_5]] rfl (by (try simp only [List.map_toArray, List.map_cons, List.map_nil]); first | done | rfl | (simp only [List.length_drop, List.length_take]; rfl)) ?_; (with_reducible refine (ledger_good.calls kj1 a0_3 a0_4 a0_5 t105 _ A10.out).mono ?_); rintro e w21 ⟨rfl, hb⟩; refine ⟨_, rfl, ?_⟩; have n0_ := Aside0.mk (blk_below (g := gb103) (o := .cells #[.int .i64 a0_0, .int .i64 a0_1, .string a0_2, .int .i64 a0_3, .int .i64 a0_4, .string a0_5, .int .i64 a0_6] 107 (0, 0)) (by (with_reducible repeat (first | refine blk_drewN ?_ _ | refine blk_drew ?_ | refine blk_alloc ?_ _)); exact BK103.out) hb); have n1_ := Aside0.mk (below_step (by repeat (first | (with_reducible first | exact HB.out | apply below_alloc | apply pw_below_drewN | apply below_drew1 | refine below_set ?_ GE103.out) | exact HB.out)) hb); clear BK103; clear HB; have BK103 := n0_; have HB := n1_; clear n0_ n1_; (try clear hb); (try clear hb2); (try clear hk); (try clear hi); have hcz22_0 : w21.cell? ⟨gb103, 0, none⟩ = some (.int .i64 a0_0) := (blk_cell BK103.out 0).trans rfl; have hcz22_1 : w21.cell? ⟨gb103, 1, none⟩ = some (.int .i64 a0_1) := (blk_cell BK103.out 1).trans rfl; have hcz22_2 : w21.cell? ⟨gb103, 2, none⟩ = some (.string a0_2) := (blk_cell BK103.out 2).trans rfl; have hcz22_3 : w21.cell? ⟨gb103, 3, none⟩ = some (.int .i64 a0_3) := (blk_cell BK103.out 3).trans rfl; have hcz22_4 : w21.cell? ⟨gb103, 4, none⟩ = some (.int .i64 a0_4) := (blk_cell BK103.out 4).trans rfl; have hcz22_5 : w21.cell? ⟨gb103, 5, none⟩ = some (.string a0_5) := (blk_cell BK103.out 5).trans rfl; have hcz22_6 : w21.cell? ⟨gb103, 6, none⟩ = some (.int .i64 a0_6) := (blk_cell BK103.out 6).trans rfl; have hfz22_0 := blk_frozen BK103.out 0; have hfz22_1 := blk_frozen BK103.out 1; have hfz22_2 := blk_frozen BK103.out 2; have hfz22_3 := blk_frozen BK103.out 3; have hfz22_4 := blk_frozen BK103.out 4; have hfz22_5 := blk_frozen BK103.out 5; have hfz22_6 := blk_frozen BK103.out 6))
              go_ret
              exact ⟨by first | rfl | (simp [errW_none, errW_some] <;> rfl) | (simp [*, errW_none, errW_some] <;> rfl), by repeat (first | (with_reducible first | exact HB.out | apply below_alloc | apply pw_below_drewN | apply below_drew1 | refine below_set ?_ GE103.out) | exact HB.out)⟩
          · rw [if_neg c11] at H
            have c11b0 : (t105 == 0) = false := beq_eq_false_iff_ne.mpr c11
            have c11b1 : (t105 != 0) = true := bne_iff_ne.mpr c11
            obtain rfl := Option.some.inj H
            have hcz23_0 : wc.cell? ⟨gb103, 0, none⟩ = some (.int .i64 a0_0) := (blk_cell BK103.out 0).trans rfl
            have hcz23_1 : wc.cell? ⟨gb103, 1, none⟩ = some (.int .i64 a0_1) := (blk_cell BK103.out 1).trans rfl
            have hcz23_2 : wc.cell? ⟨gb103, 2, none⟩ = some (.string a0_2) := (blk_cell BK103.out 2).trans rfl
            have hcz23_3 : wc.cell? ⟨gb103, 3, none⟩ = some (.int .i64 a0_3) := (blk_cell BK103.out 3).trans rfl
            have hcz23_4 : wc.cell? ⟨gb103, 4, none⟩ = some (.int .i64 a0_4) := (blk_cell BK103.out 4).trans rfl
            have hcz23_5 : wc.cell? ⟨gb103, 5, none⟩ = some (.string a0_5) := (blk_cell BK103.out 5).trans rfl
            have hcz23_6 : wc.cell? ⟨gb103, 6, none⟩ = some (.int .i64 a0_6) := (blk_cell BK103.out 6).trans rfl
            have hfz23_0 := blk_frozen BK103.out 0
            have hfz23_1 := blk_frozen BK103.out 1
            have hfz23_2 := blk_frozen BK103.out 2
            have hfz23_3 := blk_frozen BK103.out 3
            have hfz23_4 := blk_frozen BK103.out 4
            have hfz23_5 := blk_frozen BK103.out 5
            have hfz23_6 := blk_frozen BK103.out 6
            go_wp2_with (first | ((with_reducible refine gate_callee (f := 70) rfl ?_); refine goesL_ (some 15) rfl rfl Try.func70 (by kernel_rfl) rfl #[.agg #[.int .i64 a0_0, .int .i64 a0_1, .string a0_2]] rfl (by (try simp only [List.map_toArray, List.map_cons, List.map_nil]); first | done | rfl | (simp only [List.length_drop, List.length_take]; rfl)) ?_; (with_reducible refine (ledger_good.calls kj1 a0_0 a0_1 a0_2 t104 _ A8.out).mono ?_); rintro e w24 ⟨rfl, hb⟩; refine ⟨_, rfl, ?_⟩; have n0_ := Aside0.mk (blk_below (g := gb103) (o := .cells #[.int .i64 a0_0, .int .i64 a0_1, .string a0_2, .int .i64 a0_3, .int .i64 a0_4, .string a0_5, .int .i64 a0_6] 107 (0, 0)) (by (with_reducible repeat (first | refine blk_drewN ?_ _ | refine blk_drew ?_ | refine blk_alloc ?_ _)); exact BK103.out) hb); have n1_ := Aside0.mk (below_step (by repeat (first | (with_reducible first | exact HB.out | apply below_alloc | apply pw_below_drewN | apply below_drew1 | refine below_set ?_ GE103.out) | exact HB.out)) hb); clear BK103; clear HB; have BK103 := n0_; have HB := n1_; clear n0_ n1_; (try clear hb); (try clear hb2); (try clear hk); (try clear hi); have hcz25_0 : w24.cell? ⟨gb103, 0, none⟩ = some (.int .i64 a0_0) := (blk_cell BK103.out 0).trans rfl; have hcz25_1 : w24.cell? ⟨gb103, 1, none⟩ = some (.int .i64 a0_1) := (blk_cell BK103.out 1).trans rfl; have hcz25_2 : w24.cell? ⟨gb103, 2, none⟩ = some (.string a0_2) := (blk_cell BK103.out 2).trans rfl; have hcz25_3 : w24.cell? ⟨gb103, 3, none⟩ = some (.int .i64 a0_3) := (blk_cell BK103.out 3).trans rfl; have hcz25_4 : w24.cell? ⟨gb103, 4, none⟩ = some (.int .i64 a0_4) := (blk_cell BK103.out 4).trans rfl; have hcz25_5 : w24.cell? ⟨gb103, 5, none⟩ = some (.string a0_5) := (blk_cell BK103.out 5).trans rfl; have hcz25_6 : w24.cell? ⟨gb103, 6, none⟩ = some (.int .i64 a0_6) := (blk_cell BK103.out 6).trans rfl; have hfz25_0 := blk_frozen BK103.out 0; have hfz25_1 := blk_frozen BK103.out 1; have hfz25_2 := blk_frozen BK103.out 2; have hfz25_3 := blk_frozen BK103.out 3; have hfz25_4 := blk_frozen BK103.out 4; have hfz25_5 := blk_frozen BK103.out 5; have hfz25_6 := blk_frozen BK103.out 6) | ((with_reducible refine gate_callee (f := 70) rfl ?_); refine goesL_ (some 21) rfl rfl Try.func70 (by kernel_rfl) rfl #[.agg #[.int .i64 a0_3, .int .i64 a0_4, .string a0_5]] rfl (by (try simp only [List.map_toArray, List.map_cons, List.map_nil]); first | done | rfl | (simp only [List.length_drop, List.length_take]; rfl)) ?_; (with_reducible refine (ledger_good.calls kj1 a0_3 a0_4 a0_5 t105 _ A10.out).mono ?_); rintro e w26 ⟨rfl, hb⟩; refine ⟨_, rfl, ?_⟩; have n0_ := Aside0.mk (blk_below (g := gb103) (o := .cells #[.int .i64 a0_0, .int .i64 a0_1, .string a0_2, .int .i64 a0_3, .int .i64 a0_4, .string a0_5, .int .i64 a0_6] 107 (0, 0)) (by (with_reducible repeat (first | refine blk_drewN ?_ _ | refine blk_drew ?_ | refine blk_alloc ?_ _)); exact BK103.out) hb); have n1_ := Aside0.mk (below_step (by repeat (first | (with_reducible first | exact HB.out | apply below_alloc | apply pw_below_drewN | apply below_drew1 | refine below_set ?_ GE103.out) | exact HB.out)) hb); clear BK103; clear HB; have BK103 := n0_; have HB := n1_; clear n0_ n1_; (try clear hb); (try clear hb2); (try clear hk); (try clear hi)))
            go_ret
            exact ⟨by first | rfl | (simp [errW_none, errW_some] <;> rfl) | (simp [*, errW_none, errW_some] <;> rfl), by repeat (first | (with_reducible first | exact HB.out | apply below_alloc | apply pw_below_drewN | apply below_drew1 | refine below_set ?_ GE103.out) | exact HB.out)⟩
        · rw [if_neg c9] at H
          have c9b0 : (t104 == 0) = false := beq_eq_false_iff_ne.mpr c9
          have c9b1 : (t104 != 0) = true := bne_iff_ne.mpr c9
          obtain rfl := Option.some.inj H
          have hcz27_0 : wc.cell? ⟨gb103, 0, none⟩ = some (.int .i64 a0_0) := (blk_cell BK103.out 0).trans rfl
          have hcz27_1 : wc.cell? ⟨gb103, 1, none⟩ = some (.int .i64 a0_1) := (blk_cell BK103.out 1).trans rfl
          have hcz27_2 : wc.cell? ⟨gb103, 2, none⟩ = some (.string a0_2) := (blk_cell BK103.out 2).trans rfl
          have hcz27_3 : wc.cell? ⟨gb103, 3, none⟩ = some (.int .i64 a0_3) := (blk_cell BK103.out 3).trans rfl
          have hcz27_4 : wc.cell? ⟨gb103, 4, none⟩ = some (.int .i64 a0_4) := (blk_cell BK103.out 4).trans rfl
          have hcz27_5 : wc.cell? ⟨gb103, 5, none⟩ = some (.string a0_5) := (blk_cell BK103.out 5).trans rfl
          have hcz27_6 : wc.cell? ⟨gb103, 6, none⟩ = some (.int .i64 a0_6) := (blk_cell BK103.out 6).trans rfl
          have hfz27_0 := blk_frozen BK103.out 0
          have hfz27_1 := blk_frozen BK103.out 1
          have hfz27_2 := blk_frozen BK103.out 2
          have hfz27_3 := blk_frozen BK103.out 3
          have hfz27_4 := blk_frozen BK103.out 4
          have hfz27_5 := blk_frozen BK103.out 5
          have hfz27_6 := blk_frozen BK103.out 6
          go_wp2_with (first | ((with_reducible refine gate_callee (f := 70) rfl ?_); refine goesL_ (some 15) rfl rfl Try.func70 (by kernel_rfl) rfl #[.agg #[.int .i64 a0_0, .int .i64 a0_1, .string a0_2]] rfl (by (try simp only [List.map_toArray, List.map_cons, List.map_nil]); first | done | rfl | (simp only [List.length_drop, List.length_take]; rfl)) ?_; (with_reducible refine (ledger_good.calls kj1 a0_0 a0_1 a0_2 t104 _ A8.out).mono ?_); rintro e w28 ⟨rfl, hb⟩; refine ⟨_, rfl, ?_⟩; have n0_ := Aside0.mk (blk_below (g := gb103) (o := .cells #[.int .i64 a0_0, .int .i64 a0_1, .string a0_2, .int .i64 a0_3, .int .i64 a0_4, .string a0_5, .int .i64 a0_6] 107 (0, 0)) (by (with_reducible repeat (first | refine blk_drewN ?_ _ | refine blk_drew ?_ | refine blk_alloc ?_ _)); exact BK103.out) hb); have n1_ := Aside0.mk (below_step (by repeat (first | (with_reducible first | exact HB.out | apply below_alloc | apply pw_below_drewN | apply below_drew1 | refine below_set ?_ GE103.out) | exact HB.out)) hb); clear BK103; clear HB; have BK103 := n0_; have HB := n1_; clear n0_ n1_; (try clear hb); (try clear hb2); (try clear hk); (try clear hi)))
          go_ret
          exact ⟨by first | rfl | (simp [errW_none, errW_some] <;> rfl) | (simp [*, errW_none, errW_some] <;> rfl), by repeat (first | (with_reducible first | exact HB.out | apply below_alloc | apply pw_below_drewN | apply below_drew1 | refine below_set ?_ GE103.out) | exact HB.out)⟩

-- NOT PRINTED: function 59 (ledger_Ledger_move)

-- NOT PRINTED: function 19 (ledger_Ledger_Post)

-- NOT PRINTED: function 25 (ledger_Ledger_Balance)

-- NOT PRINTED: function 88 (ledger_Account_88)

-- NOT PRINTED: function 81 (ledger_Account_81)

-- NOT PRINTED: function 93 (ledger_Account_93)

-- NOT PRINTED: function 103 (ledger_Account_103)

-- NOT PRINTED: function 94 (ledger_Account_94)
end Go.Proofs.Ytoknlpecbdlbfaa.PL

/- The order of accounts: what cmp.Compare, cmp.Or and ledger.order answer, in a world to which blocks and draws are added alone. -/
namespace Go.Proofs.Ytoknlpecbdlbfaa.PL
open Go.RowKit
/-- -1, 0, 1: two texts by their bytes; two numbers. -/
def cmpS (a b : ByteArray) : Int := if Op.bytesLess a.toList b.toList = true then -1 else if (a.toList == b.toList) = true then 0 else 1
def cmpI (a b : Int) : Int := if a < b then -1 else if b < a then 1 else 0
set_option maxRecDepth 100000 in
theorem nan_str (a : ByteArray) (w : World) : Calls Try.prog 91 #[.string a] w fun e w' => e = .returned (.bool false) ∧ w = w' := by
  go_enter Try.func91, Try.ntmps91
  go_wp2
  go_ret
  exact ⟨by simp, rfl⟩
set_option maxRecDepth 100000 in
theorem nan_int (a : Int) (w : World) : Calls Try.prog 92 #[.int .i64 a] w fun e w' => e = .returned (.bool false) ∧ w = w' := by
  go_enter Try.func92, Try.ntmps92
  go_wp2
  go_ret
  exact ⟨by simp, rfl⟩
set_option maxRecDepth 100000 in
theorem cmp_str (a b : ByteArray) (w : World) : Calls Try.prog 85 #[.string a, .string b] w fun e w' => e = .returned (.int .i64 (cmpS a b)) ∧ w = w' := by
  unfold cmpS
  by_cases h1 : Op.bytesLess a.toList b.toList = true
  · rw [if_pos h1]
    go_enter Try.func85, Try.ntmps85
    go_wp2_with (go_at_call 91; refine (nan_str _ _).mono ?_; rintro e w1 ⟨rfl, rfl⟩)
    go_ret
    exact ⟨rfl, rfl⟩
  · have h1' : Op.bytesLess a.toList b.toList = false := by simpa using h1
    rw [if_neg h1]
    clear h1
    by_cases h2 : (a.toList == b.toList) = true
    · rw [if_pos h2]
      go_enter Try.func85, Try.ntmps85
      go_wp2_with (go_at_call 91; refine (nan_str _ _).mono ?_; rintro e w1 ⟨rfl, rfl⟩)
      go_ret
      exact ⟨rfl, rfl⟩
    · have h2' : (a.toList == b.toList) = false := by simpa using h2
      rw [if_neg h2]
      clear h2
      go_enter Try.func85, Try.ntmps85
      go_wp2_with (go_at_call 91; refine (nan_str _ _).mono ?_; rintro e w1 ⟨rfl, rfl⟩)
      go_ret
      exact ⟨rfl, rfl⟩
set_option maxRecDepth 100000 in
theorem cmp_int (a b : Int) (w : World) : Calls Try.prog 86 #[.int .i64 a, .int .i64 b] w fun e w' => e = .returned (.int .i64 (cmpI a b)) ∧ w = w' := by
  unfold cmpI
  by_cases h1 : a < b
  · rw [if_pos h1]
    go_enter Try.func86, Try.ntmps86
    go_wp2_with (go_at_call 92; refine (nan_int _ _).mono ?_; rintro e w1 ⟨rfl, rfl⟩)
    go_ret
    exact ⟨rfl, rfl⟩
  · rw [if_neg h1]
    by_cases h2 : b < a
    · rw [if_pos h2]
      go_enter Try.func86, Try.ntmps86
      go_wp2_with (go_at_call 92; refine (nan_int _ _).mono ?_; rintro e w1 ⟨rfl, rfl⟩)
      go_ret
      exact ⟨rfl, rfl⟩
    · rw [if_neg h2]
      go_enter Try.func86, Try.ntmps86
      go_wp2_with (go_at_call 92; refine (nan_int _ _).mono ?_; rintro e w1 ⟨rfl, rfl⟩)
      go_ret
      exact ⟨rfl, rfl⟩
def orI (x y z : Int) : Int := if x = 0 then (if y = 0 then z else y) else x
set_option maxRecDepth 100000 in
theorem or_any (x y z : Int) (g : Nat) (w : World) (h0 : w.cell? ⟨g, 0, none⟩ = some (.int .i64 x)) (h1 : w.cell? ⟨g, 1, none⟩ = some (.int .i64 y)) (h2 : w.cell? ⟨g, 2, none⟩ = some (.int .i64 z)) :
    Calls Try.prog 84 #[.slice (some ⟨g, 0, none⟩) 3 3] w fun e w' => e = .returned (.int .i64 (orI x y z)) ∧ w = w' := by
  obtain ⟨r, hr⟩ : ∃ r, orI x y z = r := ⟨_, rfl⟩
  rw [hr]
  have HR := Lib.hid hr
  clear hr
  go_enter Try.func84, Try.ntmps84
  go_wp2
  go_loop [5, 8] (fun _ i => ∃ k : Int, i = .int .i64 k ∧ (k = 0 ∨ (k = 1 ∧ x = 0) ∨ (k = 2 ∧ x = 0 ∧ y = 0) ∨ (k = 3 ∧ x = 0 ∧ y = 0 ∧ z = 0))) (fun _ i => (3 - intOf i).toNat)
  case atStart => exact ⟨0, rfl, .inl rfl⟩
  case round =>
    obtain ⟨k, rfl, hk⟩ := hrel
    rcases hk with rfl | ⟨rfl, hx⟩ | ⟨rfl, hx, hy⟩ | ⟨rfl, hx, hy, hz⟩
    · by_cases e : x = 0
      · have e' : (x != 0) = false := by simp [e]
        have E := Lib.hid e
        clear e
        go_wp2
        go_round
        case rel => exact ⟨1, rfl, .inr (.inl ⟨rfl, E.out⟩)⟩
        case measure => simp [intOf]
      · have e' : (x != 0) = true := by simp [e]
        go_wp2
        go_ret
        refine ⟨?_, rfl⟩
        rw [← HR.out]; unfold orI; rw [if_neg e]; rfl
    · have HX := Lib.hid hx
      clear hx
      by_cases e : y = 0
      · have e' : (y != 0) = false := by simp [e]
        have E := Lib.hid e
        clear e
        go_wp2
        go_round
        case rel => exact ⟨2, rfl, .inr (.inr (.inl ⟨rfl, HX.out, E.out⟩))⟩
        case measure => simp [intOf]
      · have e' : (y != 0) = true := by simp [e]
        go_wp2
        go_ret
        refine ⟨?_, rfl⟩
        rw [← HR.out]; unfold orI; rw [if_pos HX.out, if_neg e]; rfl
    · have HX := Lib.hid hx
      have HY := Lib.hid hy
      clear hx hy
      by_cases e : z = 0
      · have e' : (z != 0) = false := by simp [e]
        have E := Lib.hid e
        clear e
        go_wp2
        go_round
        case rel => exact ⟨3, rfl, .inr (.inr (.inr ⟨rfl, HX.out, HY.out, E.out⟩))⟩
        case measure => simp [intOf]
      · have e' : (z != 0) = true := by simp [e]
        go_wp2
        go_ret
        refine ⟨?_, rfl⟩
        rw [← HR.out]; unfold orI; rw [if_pos HX.out, if_pos HY.out]; rfl
    · have HX := Lib.hid hx
      have HY := Lib.hid hy
      have HZ := Lib.hid hz
      clear hx hy hz
      go_wp2
      go_ret
      refine ⟨?_, rfl⟩
      rw [← HR.out]; unfold orI; rw [if_pos HX.out, if_pos HY.out, HZ.out]; rfl

theorem or_new (x y z : Int) (W : World) : Calls Try.prog 84 #[.slice (some ⟨W.heap.size, 0, none⟩) 3 3] (W.alloc (.cells #[.int .i64 x, .int .i64 y, .int .i64 z] 3)).drew fun e w' => e = .returned (.int .i64 (orI x y z)) ∧ (W.alloc (.cells #[.int .i64 x, .int .i64 y, .int .i64 z] 3)).drew = w' := by
  refine or_any x y z _ _ ?_ ?_ ?_
  · show (W.alloc _).cell? _ = _
    simp
  · show (W.alloc _).cell? _ = _
    simp
  · show (W.alloc _).cell? _ = _
    simp
/-- The order of accounts: by things, owners, books. -/
def ordI (a b : S42) : Int := orI (cmpS a.f2 b.f2) (cmpI a.f0 b.f0) (cmpI a.f1 b.f1)
set_option maxHeartbeats 2000000 in
set_option maxRecDepth 100000 in
theorem order_walk (a0 a1 : Int) (a2 : ByteArray) (b0 b1 : Int) (b2 : ByteArray) (w : World) :
    Calls Try.prog 63 #[.agg #[.int .i64 a0, .int .i64 a1, .string a2], .agg #[.int .i64 b0, .int .i64 b1, .string b2]] w fun e w' => e = .returned (.int .i64 (orI (cmpS a2 b2) (cmpI a0 b0) (cmpI a1 b1))) ∧
      w' = ((((w.alloc (.cells #[.int .i64 a0, .int .i64 a1, .string a2] 42)).alloc (.cells #[.int .i64 b0, .int .i64 b1, .string b2] 42)).drew).alloc (.cells #[.int .i64 (cmpS a2 b2), .int .i64 (cmpI a0 b0), .int .i64 (cmpI a1 b1)] 3)) := by
  have C1 : ∀ w : World, Calls Try.prog 85 #[.string a2, .string b2] w _ := fun w => cmp_str a2 b2 w
  have C2 : ∀ w : World, Calls Try.prog 86 #[.int .i64 a0, .int .i64 b0] w _ := fun w => cmp_int a0 b0 w
  have C3 : ∀ w : World, Calls Try.prog 86 #[.int .i64 a1, .int .i64 b1] w _ := fun w => cmp_int a1 b1 w
  generalize cmpS a2 b2 = x at C1 ⊢
  generalize cmpI a0 b0 = y at C2 ⊢
  generalize cmpI a1 b1 = z at C3 ⊢
  have H1 := Lib.hid C1
  have H2 := Lib.hid C2
  have H3 := Lib.hid C3
  clear C1 C2 C3
  go_enter Try.func63, Try.ntmps63
  go_wp2_with fail
  obtain ⟨W, hW⟩ : ∃ W, W = (w.alloc (.cells #[.int .i64 a0, .int .i64 a1, .string a2] 42)).alloc (.cells #[.int .i64 b0, .int .i64 b1, .string b2] 42) := ⟨_, rfl⟩
  have k0 : W.cell? ⟨w.heap.size, 0, none⟩ = some (.int .i64 a0) := by rw [hW]; simp
  have k1 : W.cell? ⟨w.heap.size, 1, none⟩ = some (.int .i64 a1) := by rw [hW]; simp
  have k2 : W.cell? ⟨w.heap.size, 2, none⟩ = some (.string a2) := by rw [hW]; simp
  have k3 : W.cell? ⟨w.heap.size + 1, 0, none⟩ = some (.int .i64 b0) := by rw [hW]; simp
  have k4 : W.cell? ⟨w.heap.size + 1, 1, none⟩ = some (.int .i64 b1) := by rw [hW]; simp
  have k5 : W.cell? ⟨w.heap.size + 1, 2, none⟩ = some (.string b2) := by rw [hW]; simp
  rw [← hW]
  have HW := Lib.hid hW
  clear hW
  generalize w.heap.size = g at k0 k1 k2 k3 k4 k5 ⊢
  go_region_held3 (fun w' => w'.cell? ⟨g, 0, none⟩ = some (.int .i64 a0) ∧ w'.cell? ⟨g, 1, none⟩ = some (.int .i64 a1) ∧ w'.cell? ⟨g, 2, none⟩ = some (.string a2) ∧ w'.cell? ⟨g + 1, 0, none⟩ = some (.int .i64 b0) ∧ w'.cell? ⟨g + 1, 1, none⟩ = some (.int .i64 b1) ∧ w'.cell? ⟨g + 1, 2, none⟩ = some (.string b2)) (go_keep)
    (first | (go_at_call 85; refine (H1.out _).mono ?_; rintro e w1 ⟨rfl, rfl⟩) | (go_at_call_of 86 (Value.int IntKind.i64 a0); refine (H2.out _).mono ?_; rintro e w2 ⟨rfl, rfl⟩) | (go_at_call_of 86 (Value.int IntKind.i64 a1); refine (H3.out _).mono ?_; rintro e w3 ⟨rfl, rfl⟩) | (go_at_call 84; refine (or_new x y z W).mono ?_; rintro e w4 ⟨rfl, rfl⟩))
  all_goals
    go_wp2
    go_ret
    refine ⟨rfl, ?_⟩
    rw [HW.out]
    rfl
end Go.Proofs.Ytoknlpecbdlbfaa.PL

/- The ledger's own functions, walked: New, made, Balance, put, move: what they answer, and what becomes of the map. -/
namespace Go.Proofs.Ytoknlpecbdlbfaa.PL
open Go.RowKit Go.Proofs.YtoknlpecbdlbfaaW.PrintWords Go.Proofs.YtoknlpecbdlbfaaW.PrintLast
/-- A ledger at block g, its map at block b. -/
structure LG (w : World) (g b : Nat) (M : List (S42 × Int)) : Prop where
  blk : w.heap[g]? = some (.cells #[.map (some b)] 62 (0, 0))
  map : LM w b M
theorem LG.cell {w : World} {g b : Nat} {M : List (S42 × Int)} (h : LG w g b M) : w.cell? ⟨g, 0, none⟩ = some (.map (some b)) := by
  simp [World.cell?, h.blk]
theorem LG.ne {w : World} {g b : Nat} {M : List (S42 × Int)} (h : LG w g b M) : g ≠ b := by
  rintro rfl
  obtain ⟨es, clock, hb, _⟩ := h.map
  rw [h.blk] at hb
  cases hb
theorem LG.glt {w : World} {g b : Nat} {M : List (S42 × Int)} (h : LG w g b M) : g < w.heap.size := (Array.getElem?_eq_some_iff.1 h.blk).1
theorem LG.below {w w' : World} {g b : Nat} {M : List (S42 × Int)} (h : LG w g b M) (hb : Below w.heap.size w w') : LG w' g b M := ⟨(hb.block g h.glt).trans h.blk, h.map.below hb⟩
theorem LG.grown {w w' : World} {g b : Nat} {M : List (S42 × Int)} {row : Option Nat} (h : LG w g b M) (hg : w.grownBy w' row) (h1 : some g ≠ row) (h2 : some b ≠ row) : LG w' g b M := ⟨(hg.block g h.glt h1).trans h.blk, h.map.grown hg h2⟩

set_option maxRecDepth 100000 in
theorem made_nil (w : World) : Calls Try.prog 58 #[.pointer none] w fun e w' => e = .returned (.bool false) ∧ w = w' := by
  go_enter Try.func58, Try.ntmps58
  go_wp2
  go_ret
  exact ⟨rfl, rfl⟩
set_option maxRecDepth 100000 in
theorem made_zero (g : Nat) (w : World) (hc : w.cell? ⟨g, 0, none⟩ = some (.map none)) : Calls Try.prog 58 #[.pointer (some ⟨g, 0, none⟩)] w fun e w' => e = .returned (.bool false) ∧ w = w' := by
  have hm := fun r w => run_neq_map_nil (P := Try.prog) w 60 42 3 r Try.underlying60
  go_enter Try.func58, Try.ntmps58
  go_wp2
  go_ret
  exact ⟨rfl, rfl⟩
set_option maxRecDepth 100000 in
theorem made_any (g b : Nat) (w : World) (hc : w.cell? ⟨g, 0, none⟩ = some (.map (some b))) : Calls Try.prog 58 #[.pointer (some ⟨g, 0, none⟩)] w fun e w' => e = .returned (.bool true) ∧ w = w' := by
  have hm := fun r w => run_neq_map_nil (P := Try.prog) w 60 42 3 r Try.underlying60
  go_enter Try.func58, Try.ntmps58
  go_wp2
  go_ret
  exact ⟨rfl, rfl⟩
set_option maxRecDepth 100000 in
/-- New. -/
theorem new_any (w : World) : Calls Try.prog 17 #[] w fun e w' => e = .returned (.pointer (some ⟨w.heap.size + 1, 0, none⟩)) ∧ LG w' (w.heap.size + 1) w.heap.size [] ∧ Below w.heap.size w w' := by
  have hmm := @run_makeMap Try.prog
  go_enter Try.func17, Try.ntmps17
  go_wp2
  go_ret
  refine ⟨rfl, ⟨?_, ⟨#[], 0, ?_, ⟨by simp, Go.MapKept.stamped_empty 0, by simp⟩, rfl⟩⟩, ((Below.refl _ _).alloc (Nat.le_refl _) _).alloc (by simp) _⟩
  · have h := (Go.MapKept.heap_alloc (w.alloc (.map #[] 0)) (.cells #[.map (some w.heap.size)] 62)).1
    simpa using h
  · rw [(Go.MapKept.heap_alloc (w.alloc (.map #[] 0)) (.cells #[.map (some w.heap.size)] 62)).2 _ (by simp)]
    exact (Go.MapKept.heap_alloc w _).1
set_option maxRecDepth 100000 in
/-- Balance. -/
theorem balance_walk (g b : Nat) (a0 a1 : Int) (a2 : ByteArray) (v : Int) (w : World) (hc : w.cell? ⟨g, 0, none⟩ = some (.map (some b))) (hgl : g < w.heap.size)
    (hl : ∀ n, (Instr.lookup 60 (.map (some b)) (.agg #[.int .i64 a0, .int .i64 a1, .string a2]) false).run Try.prog ((w.alloc (.cells #[.int .i64 a0, .int .i64 a1, .string a2] 42)).drewN n) = .ok (.int .i64 v) ((w.alloc (.cells #[.int .i64 a0, .int .i64 a1, .string a2] 42)).drewN n)) :
    Calls Try.prog 25 #[.pointer (some ⟨g, 0, none⟩), .agg #[.int .i64 a0, .int .i64 a1, .string a2]] w fun e w' => e = .returned (.int .i64 v) ∧ Below w.heap.size w w' := by
  have hc' : (w.alloc (.cells #[.int .i64 a0, .int .i64 a1, .string a2] 42)).cell? ⟨g, 0, none⟩ = some (.map (some b)) := by
    rw [((Below.refl w.heap.size w).alloc (Nat.le_refl _) _).cell (p := ⟨g, 0, none⟩) hgl]; exact hc
  go_enter Try.func25, Try.ntmps25
  go_wp2_with (go_at_call 58; refine (made_any g b _ hc').mono ?_; rintro e w1 ⟨rfl, rfl⟩)
  have k0 : (w.alloc (.cells #[.int .i64 a0, .int .i64 a1, .string a2] 42)).cell? ⟨w.heap.size, 0, none⟩ = some (.int .i64 a0) := by simp
  have k1 : (w.alloc (.cells #[.int .i64 a0, .int .i64 a1, .string a2] 42)).cell? ⟨w.heap.size, 1, none⟩ = some (.int .i64 a1) := by simp
  have k2 : (w.alloc (.cells #[.int .i64 a0, .int .i64 a1, .string a2] 42)).cell? ⟨w.heap.size, 2, none⟩ = some (.string a2) := by simp
  have hb : Below w.heap.size w (w.alloc (.cells #[.int .i64 a0, .int .i64 a1, .string a2] 42)) := (Below.refl _ _).alloc (Nat.le_refl _) _
  clear hc
  have HB := Lib.hid hb
  clear hb hgl
  generalize w.alloc (.cells #[.int .i64 a0, .int .i64 a1, .string a2] 42) = W at hl hc' k0 k1 k2 HB ⊢
  go_quiet (fail)
  go_wp2
  go_ret
  exact ⟨rfl, pw_below_drewN HB.out _⟩
/-- Balance. -/
theorem balance_any {g b : Nat} {M : List (S42 × Int)} {w : World} (h : LG w g b M) {a : S42} (ha : Wfa a) :
    Calls Try.prog 25 #[.pointer (some ⟨g, 0, none⟩), kv a] w fun e w' => e = .returned (.int .i64 (getM M a)) ∧ Below w.heap.size w w' :=
  balance_walk g b a.f0 a.f1 a.f2 (getM M a) w h.cell h.glt (fun n => by
    have h1 : LM ((w.alloc (.cells #[.int .i64 a.f0, .int .i64 a.f1, .string a.f2] 42)).drewN n) b M := (h.map.below ((Below.refl _ _).alloc (Nat.le_refl _) _)).move rfl
    exact h1.lookup ha)
set_option maxRecDepth 100000 in
/-- put, n not 0. -/
theorem put_walk (g b : Nat) (a0 a1 : Int) (a2 : ByteArray) (n : Int) (hn : n ≠ 0) (w : World) (R : World → Prop) (hc : w.cell? ⟨g, 0, none⟩ = some (.map (some b))) (hgl : g < w.heap.size)
    (hl : ∀ k, ∃ w', (Instr.mapUpdate 60 (.map (some b)) (.agg #[.int .i64 a0, .int .i64 a1, .string a2]) (.int .i64 n)).run Try.prog ((w.alloc (.cells #[.int .i64 a0, .int .i64 a1, .string a2] 42)).drewN k) = .ok () w' ∧ R w') :
    Calls Try.prog 60 #[.pointer (some ⟨g, 0, none⟩), .agg #[.int .i64 a0, .int .i64 a1, .string a2], .int .i64 n] w fun e w' => e = .returned (.tuple #[]) ∧ R w' := by
  have hc' : (w.alloc (.cells #[.int .i64 a0, .int .i64 a1, .string a2] 42)).cell? ⟨g, 0, none⟩ = some (.map (some b)) := by
    rw [((Below.refl w.heap.size w).alloc (Nat.le_refl _) _).cell (p := ⟨g, 0, none⟩) hgl]; exact hc
  have k0 : (w.alloc (.cells #[.int .i64 a0, .int .i64 a1, .string a2] 42)).cell? ⟨w.heap.size, 0, none⟩ = some (.int .i64 a0) := by simp
  have k1 : (w.alloc (.cells #[.int .i64 a0, .int .i64 a1, .string a2] 42)).cell? ⟨w.heap.size, 1, none⟩ = some (.int .i64 a1) := by simp
  have k2 : (w.alloc (.cells #[.int .i64 a0, .int .i64 a1, .string a2] 42)).cell? ⟨w.heap.size, 2, none⟩ = some (.string a2) := by simp
  have hn' : (n == 0) = false := by simp [hn]
  clear hc hn
  have HL := Lib.hid hl
  clear hl
  go_enter Try.func60, Try.ntmps60
  go_wp2
  generalize w.alloc (.cells #[.int .i64 a0, .int .i64 a1, .string a2] 42) = W at HL hc' k0 k1 k2 ⊢
  generalize hG : w.heap.size = G at k0 k1 k2 ⊢
  clear hG hgl
  go_still_tail 6, (by kernel_rfl)
  obtain ⟨w1, hrun, hR⟩ := HL.out 1
  clear HL
  have HR := Lib.hid hR
  clear hR
  show wpList _ _ _ _ _ (W.drewN 1)
  go_wp2
  go_end0
  exact ⟨rfl, HR.out⟩
set_option maxRecDepth 100000 in
/-- put, n 0. -/
theorem del_walk (g b : Nat) (a0 a1 : Int) (a2 : ByteArray) (w : World) (R : World → Prop) (hc : w.cell? ⟨g, 0, none⟩ = some (.map (some b))) (hgl : g < w.heap.size)
    (hl : ∀ k, ∃ w', (Builtin.delete_ #[60, 42] 0 #[.map (some b), .agg #[.int .i64 a0, .int .i64 a1, .string a2]]).run Try.prog ((w.alloc (.cells #[.int .i64 a0, .int .i64 a1, .string a2] 42)).drewN k) = .ok (.tuple #[]) w' ∧ R w') :
    Calls Try.prog 60 #[.pointer (some ⟨g, 0, none⟩), .agg #[.int .i64 a0, .int .i64 a1, .string a2], .int .i64 0] w fun e w' => e = .returned (.tuple #[]) ∧ R w' := by
  have hc' : (w.alloc (.cells #[.int .i64 a0, .int .i64 a1, .string a2] 42)).cell? ⟨g, 0, none⟩ = some (.map (some b)) := by
    rw [((Below.refl w.heap.size w).alloc (Nat.le_refl _) _).cell (p := ⟨g, 0, none⟩) hgl]; exact hc
  have k0 : (w.alloc (.cells #[.int .i64 a0, .int .i64 a1, .string a2] 42)).cell? ⟨w.heap.size, 0, none⟩ = some (.int .i64 a0) := by simp
  have k1 : (w.alloc (.cells #[.int .i64 a0, .int .i64 a1, .string a2] 42)).cell? ⟨w.heap.size, 1, none⟩ = some (.int .i64 a1) := by simp
  have k2 : (w.alloc (.cells #[.int .i64 a0, .int .i64 a1, .string a2] 42)).cell? ⟨w.heap.size, 2, none⟩ = some (.string a2) := by simp
  clear hc
  have HL := Lib.hid hl
  clear hl
  go_enter Try.func60, Try.ntmps60
  go_wp2
  generalize w.alloc (.cells #[.int .i64 a0, .int .i64 a1, .string a2] 42) = W at HL hc' k0 k1 k2 ⊢
  generalize hG : w.heap.size = G at k0 k1 k2 ⊢
  clear hG hgl
  go_still_tail 5, (by kernel_rfl)
  obtain ⟨w1, hrun, hR⟩ := HL.out 1
  clear HL
  have HR := Lib.hid hR
  clear hR
  show wpList _ _ _ _ _ (W.drewN 1)
  go_wp2
  exact bodyPost_ret (results_none rfl _ _ _) rfl ⟨rfl, HR.out⟩
/-- What put makes of the map. -/
def putM (M : List (S42 × Int)) (a : S42) (n : Int) : List (S42 × Int) := if n = 0 then delM M a else setM M a n
theorem grown_box {w w1 : World} {b k : Nat} (o : Obj) (h : ((w.alloc o).drewN k).grownBy w1 (some b)) : w.grownBy w1 (some b) := by
  have h0 : w.grownBy ((w.alloc o).drewN k) none := ⟨rfl, rfl, rfl, by simp, fun j hj _ => Below.heap_alloc _ _ _ hj⟩
  exact (World.grownBy.but h0 (some b)).andThen h (fun j hj => .inr hj)
theorem put_any {g b : Nat} {M : List (S42 × Int)} {w : World} (h : LG w g b M) {a : S42} (ha : Wfa a) {n : Int} (hn : (Lit.int .i64 n).wf = true) (hroom : M.length < maxLen) :
    Calls Try.prog 60 #[.pointer (some ⟨g, 0, none⟩), kv a, .int .i64 n] w fun e w' => e = .returned (.tuple #[]) ∧ LG w' g b (putM M a n) ∧ w.grownBy w' (some b) := by
  have h1 : ∀ k, LG ((w.alloc (.cells #[.int .i64 a.f0, .int .i64 a.f1, .string a.f2] 42)).drewN k) g b M := fun k => by
    have := h.below ((Below.refl w.heap.size w).alloc (Nat.le_refl _) (.cells #[.int .i64 a.f0, .int .i64 a.f1, .string a.f2] 42))
    exact ⟨this.blk, this.map.move rfl⟩
  by_cases h0 : n = 0
  · subst h0
    unfold putM
    rw [if_pos rfl]
    refine del_walk g b a.f0 a.f1 a.f2 w (fun w' => LG w' g b (delM M a) ∧ w.grownBy w' (some b)) h.cell h.glt (fun k => ?_)
    obtain ⟨w', hr, hm, hg, hs⟩ := (h1 k).map.drop ha 0
    exact ⟨w', hr, ⟨(hg.block g (h1 k).glt (fun e => h.ne (by cases e; rfl))).trans (h1 k).blk, hm⟩, grown_box _ hg⟩
  · unfold putM
    rw [if_neg h0]
    refine put_walk g b a.f0 a.f1 a.f2 n h0 w (fun w' => LG w' g b (setM M a n) ∧ w.grownBy w' (some b)) h.cell h.glt (fun k => ?_)
    obtain ⟨w', hr, hm, hg, hs⟩ := (h1 k).map.store ha hn hroom
    exact ⟨w', hr, ⟨(hg.block g (h1 k).glt (fun e => h.ne (by cases e; rfl))).trans (h1 k).blk, hm⟩, grown_box _ hg⟩
end Go.Proofs.Ytoknlpecbdlbfaa.PL

/- The ledger's move and Post, walked: every entry, or which can't be done; and the map behind it. -/
namespace Go.Proofs.Ytoknlpecbdlbfaa.PL
open Go.RowKit Go.Proofs.YtoknlpecbdlbfaaW.PrintWords Go.Proofs.YtoknlpecbdlbfaaW.PrintLast

def goodI (a : S42) : Int := if a.f0 < 0 ∨ 64 < a.f0 ∨ a.f1 < 0 ∨ 1125899906842624 < a.f1 then 22 else if a.f2.toList = [] ∨ 40 < a.f2.size then 21 else 0
def checkI (e : S107) : Int := if e.f2 < 1 ∨ 1125899906842624 < e.f2 then 1 else if goodI e.f0 ≠ 0 then goodI e.f0 else if goodI e.f1 ≠ 0 then goodI e.f1 else if e.f0.f2.toList = e.f1.f2.toList then 0 else 21
theorem good_f (a : S42) (k : Nat) : ledger_good.f (k + 1) a.f0 a.f1 a.f2 = some (goodI a) := by
  unfold ledger_good.f goodI
  simp only [ledger_good.j0]
  by_cases h1 : a.f0 < 0
  · rw [if_pos h1, if_pos trivial, if_pos (.inl h1)]
  rw [if_neg h1]
  by_cases h2 : a.f0 > 64
  · rw [if_pos h2, if_pos trivial, if_pos (.inr (.inl h2))]
  rw [if_neg h2]
  by_cases h3 : a.f1 < 0
  · rw [if_pos h3, if_pos trivial, if_pos (.inr (.inr (.inl h3)))]
  rw [if_neg h3]
  by_cases h4 : a.f1 > 1125899906842624
  · have hd : decide (a.f1 > 1125899906842624) = true := by simpa using h4
    rw [if_pos hd, if_pos (.inr (.inr (.inr h4)))]
  have hh : ¬ (a.f0 < 0 ∨ 64 < a.f0 ∨ a.f1 < 0 ∨ 1125899906842624 < a.f1) := by omega
  have hd : ¬ (decide (a.f1 > 1125899906842624) = true) := by simpa using h4
  rw [if_neg hh, if_neg hd]
  by_cases h5 : a.f2.toList = []
  · have h6 : a.f2.toList = [] ∨ 40 < a.f2.size := .inl h5
    rw [if_pos h5, if_pos h6]
  rw [if_neg h5]
  by_cases h6 : (a.f2.size : Int) > 40
  · have h7 : a.f2.toList = [] ∨ 40 < a.f2.size := .inr (by omega)
    rw [if_pos h6, if_pos h7]
  · have h7 : ¬ (a.f2.toList = [] ∨ 40 < a.f2.size) := by
      rintro (h | h)
      · exact h5 h
      · omega
    rw [if_neg h6, if_neg h7]
theorem check_f (e : S107) (k : Nat) : ledger_check.f (k + 2) e.f0.f0 e.f0.f1 e.f0.f2 e.f1.f0 e.f1.f1 e.f1.f2 e.f2 = some (checkI e) := by
  unfold ledger_check.f checkI
  simp only [ledger_check.j0]
  by_cases h1 : e.f2 < 1
  · rw [if_pos h1, if_pos trivial, if_pos (.inl h1)]
  rw [if_neg h1]
  by_cases h2 : e.f2 > 1125899906842624
  · have hd : decide (e.f2 > 1125899906842624) = true := by simpa using h2
    rw [if_pos hd, if_pos (.inr h2)]
  have hh : ¬ (e.f2 < 1 ∨ 1125899906842624 < e.f2) := by omega
  have hd : ¬ (decide (e.f2 > 1125899906842624) = true) := by simpa using h2
  rw [if_neg hh, if_neg hd, good_f e.f0 k, good_f e.f1 k]
  simp only [Option.bind_some]
  by_cases h3 : goodI e.f0 = 0
  · have h3' : ¬ (goodI e.f0 ≠ 0) := fun h => h h3
    rw [if_pos h3, if_neg h3']
    by_cases h4 : goodI e.f1 = 0
    · have h4' : ¬ (goodI e.f1 ≠ 0) := fun h => h h4
      rw [if_pos h4, if_neg h4']
      split <;> rfl
    · rw [if_neg h4, if_pos h4]
  · rw [if_neg h3, if_pos h3]
theorem check_any (e : S107) (w : World) : Calls Try.prog 80 #[.agg #[.int .i64 e.f0.f0, .int .i64 e.f0.f1, .string e.f0.f2, .int .i64 e.f1.f0, .int .i64 e.f1.f1, .string e.f1.f2, .int .i64 e.f2]] w fun o w' => o = .returned (.int .i64 (checkI e)) ∧ Below w.heap.size w w' :=
  ledger_check.calls 2 _ _ _ _ _ _ _ _ w (check_f e 0)
theorem wf_i64 {n : Int} (h1 : -9223372036854775808 ≤ n) (h2 : n ≤ 9223372036854775807) : (Lit.int .i64 n).wf = true := by
  simp [Lit.wf, IntKind.min, IntKind.max, IntKind.bits, IntKind.signed]
  omega
theorem good_wf {a : S42} (h : goodI a = 0) : Wfa a ∧ 0 ≤ a.f0 ∧ a.f0 ≤ 64 ∧ 0 ≤ a.f1 ∧ a.f1 ≤ 1125899906842624 ∧ a.f2.toList ≠ [] ∧ a.f2.size ≤ 40 := by
  unfold goodI at h
  by_cases h1 : a.f0 < 0 ∨ 64 < a.f0 ∨ a.f1 < 0 ∨ 1125899906842624 < a.f1
  · rw [if_pos h1] at h; omega
  · rw [if_neg h1] at h
    by_cases h2 : a.f2.toList = [] ∨ 40 < a.f2.size
    · rw [if_pos h2] at h; omega
    · simp only [not_or] at h1 h2
      refine ⟨⟨wf_i64 (by omega) (by omega), wf_i64 (by omega) (by omega), by unfold maxLen; omega⟩, by omega, by omega, by omega, by omega, h2.1, by omega⟩
/-- What move answers, and what it makes of the map. -/
def moveM (M : List (S42 × Int)) (e : S107) : List (S42 × Int) × Int :=
  if checkI e ≠ 0 then (M, checkI e)
  else if e.f0.f0 ≠ 0 ∧ getM M e.f0 - e.f2 < 0 then (M, 20)
  else if getM M e.f0 - e.f2 < -72057594037927936 then (M, 9)
  else if 72057594037927936 < getM (putM M e.f0 (getM M e.f0 - e.f2)) e.f1 + e.f2 then (putM (putM M e.f0 (getM M e.f0 - e.f2)) e.f0 (getM M e.f0 - e.f2 + e.f2), 9)
  else (putM (putM M e.f0 (getM M e.f0 - e.f2)) e.f1 (getM (putM M e.f0 (getM M e.f0 - e.f2)) e.f1 + e.f2), 0)
end Go.Proofs.Ytoknlpecbdlbfaa.PL

/- The ledger's move, walked. -/
namespace Go.Proofs.Ytoknlpecbdlbfaa.PL
open Go.RowKit Go.Proofs.YtoknlpecbdlbfaaW.PrintWords Go.Proofs.YtoknlpecbdlbfaaW.PrintLast
theorem grown_below {w w' : World} (h : Below w.heap.size w w') (row : Option Nat) : w.grownBy w' row := ⟨h.os, h.tape, h.output, h.size, fun j hj _ => h.block j hj⟩
theorem grown_drewN (w : World) (k : Nat) (row : Option Nat) : w.grownBy (w.drewN k) row := ⟨rfl, rfl, rfl, Nat.le_refl _, fun _ _ _ => rfl⟩
/-- An entry's value. -/
def ev (e : S107) : Value := .agg #[.int .i64 e.f0.f0, .int .i64 e.f0.f1, .string e.f0.f2, .int .i64 e.f1.f0, .int .i64 e.f1.f1, .string e.f1.f2, .int .i64 e.f2]
/-- While move runs: the ledger, the entry's own block, and what became of all else. -/
structure MV (w0 w : World) (g b G : Nat) (M : List (S42 × Int)) (e : S107) : Prop where
  lg : LG w g b M
  box : w.heap[G]? = some (.cells #[.int .i64 e.f0.f0, .int .i64 e.f0.f1, .string e.f0.f2, .int .i64 e.f1.f0, .int .i64 e.f1.f1, .string e.f1.f2, .int .i64 e.f2] 107 (0, 0))
  ge : w0.heap.size ≤ G
  grown : w0.grownBy w (some b)
theorem MV.start {w : World} {g b : Nat} {M : List (S42 × Int)} (e : S107) (h : LG w g b M) : MV w (w.alloc (.cells #[.int .i64 e.f0.f0, .int .i64 e.f0.f1, .string e.f0.f2, .int .i64 e.f1.f0, .int .i64 e.f1.f1, .string e.f1.f2, .int .i64 e.f2] 107)) g b w.heap.size M e := by
  have hb := (Below.refl w.heap.size w).alloc (Nat.le_refl _) (.cells #[.int .i64 e.f0.f0, .int .i64 e.f0.f1, .string e.f0.f2, .int .i64 e.f1.f0, .int .i64 e.f1.f1, .string e.f1.f2, .int .i64 e.f2] 107)
  exact ⟨h.below hb, (Go.MapKept.heap_alloc w _).1, Nat.le_refl _, grown_below hb _⟩
theorem MV.lt {w0 w : World} {g b G : Nat} {M : List (S42 × Int)} {e : S107} (h : MV w0 w g b G M e) : G < w.heap.size := (Array.getElem?_eq_some_iff.1 h.box).1
theorem MV.ne {w0 w : World} {g b G : Nat} {M : List (S42 × Int)} {e : S107} (h : MV w0 w g b G M e) : G ≠ b := by
  rintro rfl
  obtain ⟨es, clock, hb, _⟩ := h.lg.map
  rw [h.box] at hb
  cases hb
theorem MV.drewN {w0 w : World} {g b G : Nat} {M : List (S42 × Int)} {e : S107} (h : MV w0 w g b G M e) (k : Nat) : MV w0 (w.drewN k) g b G M e :=
  ⟨⟨h.lg.blk, h.lg.map.move rfl⟩, h.box, h.ge, h.grown.andThen (grown_drewN _ _ _) (fun _ hj => .inr hj)⟩
theorem MV.below {w0 w w' : World} {g b G : Nat} {M : List (S42 × Int)} {e : S107} (h : MV w0 w g b G M e) (hb : Below w.heap.size w w') : MV w0 w' g b G M e :=
  ⟨h.lg.below hb, (hb.block G h.lt).trans h.box, h.ge, h.grown.andThen (grown_below hb _) (fun _ hj => .inr hj)⟩
theorem MV.grow {w0 w w' : World} {g b G : Nat} {M M' : List (S42 × Int)} {e : S107} (h : MV w0 w g b G M e) (hl : LG w' g b M') (hb : w.grownBy w' (some b)) : MV w0 w' g b G M' e :=
  ⟨hl, (hb.block G h.lt (fun x => h.ne (by cases x; rfl))).trans h.box, h.ge, h.grown.andThen hb (fun _ hj => .inr hj)⟩
theorem MV.cell {w0 w : World} {g b G : Nat} {M : List (S42 × Int)} {e : S107} (h : MV w0 w g b G M e) (i : Nat) : w.cell? ⟨G, i, none⟩ = (#[Value.int .i64 e.f0.f0, .int .i64 e.f0.f1, .string e.f0.f2, .int .i64 e.f1.f0, .int .i64 e.f1.f1, .string e.f1.f2, .int .i64 e.f2])[i]? := by
  simp [World.cell?, h.box]
set_option maxRecDepth 100000 in
theorem move_bad (g : Nat) (a0 a1 : Int) (a2 : ByteArray) (b0 b1 : Int) (b2 : ByteArray) (n c : Int) (hc0 : c ≠ 0) (w : World)
    (hcall : ∀ w, Calls Try.prog 80 #[.agg #[.int .i64 a0, .int .i64 a1, .string a2, .int .i64 b0, .int .i64 b1, .string b2, .int .i64 n]] w fun o w' => o = .returned (.int .i64 c) ∧ Below w.heap.size w w') :
    Calls Try.prog 59 #[.pointer (some ⟨g, 0, none⟩), .agg #[.int .i64 a0, .int .i64 a1, .string a2, .int .i64 b0, .int .i64 b1, .string b2, .int .i64 n]] w fun o w' => o = .returned (.int .i64 c) ∧ Below w.heap.size w w' := by
  have hc1 : (c != 0) = true := by simp [hc0]
  have hc2 : (c == 0) = false := by simp [hc0]
  have HC := Lib.hid hcall
  clear hcall hc0
  go_enter Try.func59, Try.ntmps59
  go_wp2_with (go_at_call 80; refine (HC.out _).mono ?_; rintro e w1 ⟨rfl, hw1⟩)
  go_ret
  refine ⟨rfl, ?_⟩
  exact ((Below.refl w.heap.size w).alloc (Nat.le_refl _) _).trans (hw1.mono (by simp))
theorem moveM_20 {M : List (S42 × Int)} {e : S107} (h0 : checkI e = 0) (h1 : e.f0.f0 ≠ 0) (h2 : getM M e.f0 - e.f2 < 0) : moveM M e = (M, 20) := by
  unfold moveM
  rw [if_neg (fun h => h h0), if_pos ⟨h1, h2⟩]
theorem moveM_9 {M : List (S42 × Int)} {e : S107} (h0 : checkI e = 0) (h1 : ¬ (e.f0.f0 ≠ 0 ∧ getM M e.f0 - e.f2 < 0)) (h2 : getM M e.f0 - e.f2 < -72057594037927936) : moveM M e = (M, 9) := by
  unfold moveM
  rw [if_neg (fun h => h h0), if_neg h1, if_pos h2]
theorem moveM_9b {M : List (S42 × Int)} {e : S107} (h0 : checkI e = 0) (h1 : ¬ (e.f0.f0 ≠ 0 ∧ getM M e.f0 - e.f2 < 0)) (h2 : ¬ (getM M e.f0 - e.f2 < -72057594037927936)) (h3 : 72057594037927936 < getM (putM M e.f0 (getM M e.f0 - e.f2)) e.f1 + e.f2) :
    moveM M e = (putM (putM M e.f0 (getM M e.f0 - e.f2)) e.f0 (getM M e.f0 - e.f2 + e.f2), 9) := by
  unfold moveM
  rw [if_neg (fun h => h h0), if_neg h1, if_neg h2, if_pos h3]
theorem moveM_0 {M : List (S42 × Int)} {e : S107} (h0 : checkI e = 0) (h1 : ¬ (e.f0.f0 ≠ 0 ∧ getM M e.f0 - e.f2 < 0)) (h2 : ¬ (getM M e.f0 - e.f2 < -72057594037927936)) (h3 : ¬ (72057594037927936 < getM (putM M e.f0 (getM M e.f0 - e.f2)) e.f1 + e.f2)) :
    moveM M e = (putM (putM M e.f0 (getM M e.f0 - e.f2)) e.f1 (getM (putM M e.f0 (getM M e.f0 - e.f2)) e.f1 + e.f2), 0) := by
  unfold moveM
  rw [if_neg (fun h => h h0), if_neg h1, if_neg h2, if_neg h3]
theorem wrap_id {x : Int} (h1 : -9223372036854775808 ≤ x) (h2 : x ≤ 9223372036854775807) : wrap64 x = x := by
  unfold wrap64
  omega
theorem wf_wrap64 (x : Int) : (Lit.int .i64 (wrap64 x)).wf = true := wf_i64 (by unfold wrap64; omega) (by unfold wrap64; omega)
set_option maxRecDepth 100000 in
set_option maxHeartbeats 400000 in
theorem move_walk {g b : Nat} {M : List (S42 × Int)} {w : World} (h : LG w g b M) (e : S107) (h0 : checkI e = 0) (hw0 : Wfa e.f0) (hw1 : Wfa e.f1) (R : Int → World → Prop)
    (hd : wrap64 (getM M e.f0 - e.f2) = getM M e.f0 - e.f2) (hd2 : getM M e.f0 - e.f2 ≤ 72057594037927936) (ht : wrap64 (getM (putM M e.f0 (getM M e.f0 - e.f2)) e.f1 + e.f2) = getM (putM M e.f0 (getM M e.f0 - e.f2)) e.f1 + e.f2) (hdn : wrap64 (getM M e.f0 - e.f2 + e.f2) = getM M e.f0 - e.f2 + e.f2)
    (hlen : M.length < maxLen) (hlen1 : (putM M e.f0 (getM M e.f0 - e.f2)).length < maxLen)
    (hR : ∀ (i : Int) (w' : World) (G : Nat), i = (moveM M e).2 → MV w w' g b G (moveM M e).1 e → R i w') :
    Calls Try.prog 59 #[.pointer (some ⟨g, 0, none⟩), ev e] w fun o w' => ∃ i, o = .returned (.int .i64 i) ∧ R i w' := by
  have m20 := moveM_20 (M := M) (e := e) h0
  have m9 := moveM_9 (M := M) (e := e) h0
  have m9b := moveM_9b (M := M) (e := e) h0
  have m0 := moveM_0 (M := M) (e := e) h0
  obtain ⟨⟨a0, a1, a2⟩, ⟨b0, b1, b2⟩, n⟩ := e
  have HS := Lib.hid (MV.start ⟨⟨a0, a1, a2⟩, ⟨b0, b1, b2⟩, n⟩ h)
  have HC := Lib.hid (fun w => check_any ⟨⟨a0, a1, a2⟩, ⟨b0, b1, b2⟩, n⟩ w)
  simp only [h0] at HC
  dsimp only at hd hd2 ht hdn hlen1 m20 m9 m9b m0 hw0 hw1
  have HL1 := Lib.hid (fun (M : List (S42 × Int)) (w : World) (h : LG w g b M) => h.map.lookup hw0)
  have HL2 := Lib.hid (fun (M : List (S42 × Int)) (w : World) (h : LG w g b M) => h.map.lookup hw1)
  have HP1 := Lib.hid (fun (M : List (S42 × Int)) (w : World) (h : LG w g b M) (n : Int) (hn : (Lit.int .i64 n).wf = true) (hr : M.length < maxLen) => put_any h hw0 hn hr)
  have HP2 := Lib.hid (fun (M : List (S42 × Int)) (w : World) (h : LG w g b M) (n : Int) (hn : (Lit.int .i64 n).wf = true) (hr : M.length < maxLen) => put_any h hw1 hn hr)
  simp only [kv] at HL1 HL2 HP1 HP2
  generalize hv : getM M ⟨a0, a1, a2⟩ = v at *
  generalize hM1 : putM M ⟨a0, a1, a2⟩ (v - n) = M1 at *
  generalize ht0 : getM M1 ⟨b0, b1, b2⟩ = t at *
  have hwd : -72057594037927936 ≤ v - n → (Lit.int .i64 (v - n)).wf = true := fun h => wf_i64 (by omega) (by omega)
  have HF := Lib.hid (And.intro hd (And.intro hd2 (And.intro ht (And.intro hdn (And.intro hlen (And.intro hlen1 (And.intro hwd (And.intro hM1 (And.intro ht0 hv)))))))))
  obtain ⟨z, hz⟩ : ∃ z, (a0 != 0) = z := ⟨_, rfl⟩
  have hza : z = true ↔ a0 ≠ 0 := by rw [← hz]; simp
  have F20 := Lib.hid (show z = true → wrap64 (v - n) < 0 → ∀ (w' : World) (G : Nat), MV w w' g b G M ⟨⟨a0, a1, a2⟩, ⟨b0, b1, b2⟩, n⟩ → R 20 w' from fun q1 q2 w' G q3 => by
    rw [hd] at q2
    have q4 := m20 (hza.1 q1) q2
    exact hR 20 w' G (by rw [q4]) (by rw [q4]; exact q3))
  have F9 := Lib.hid (show ¬ (z = true ∧ wrap64 (v - n) < 0) → wrap64 (v - n) < -72057594037927936 → ∀ (w' : World) (G : Nat), MV w w' g b G M ⟨⟨a0, a1, a2⟩, ⟨b0, b1, b2⟩, n⟩ → R 9 w' from fun q1 q2 w' G q3 => by
    rw [hza, hd] at q1
    rw [hd] at q2
    have q4 := m9 q1 q2
    exact hR 9 w' G (by rw [q4]) (by rw [q4]; exact q3))
  have F9b := Lib.hid (show ¬ (z = true ∧ wrap64 (v - n) < 0) → -72057594037927936 ≤ wrap64 (v - n) → 72057594037927936 < wrap64 (t + n) → ∀ (w' : World) (G : Nat), MV w w' g b G (putM M1 ⟨a0, a1, a2⟩ (wrap64 (wrap64 (v - n) + n))) ⟨⟨a0, a1, a2⟩, ⟨b0, b1, b2⟩, n⟩ → R 9 w' from fun q1 q2 q5 w' G q3 => by
    rw [hza, hd] at q1
    rw [hd] at q2
    rw [ht] at q5
    rw [hd, hdn] at q3
    have q4 := m9b q1 (by omega) q5
    exact hR 9 w' G (by rw [q4]) (by rw [q4]; exact q3))
  have F0 := Lib.hid (show ¬ (z = true ∧ wrap64 (v - n) < 0) → -72057594037927936 ≤ wrap64 (v - n) → wrap64 (t + n) ≤ 72057594037927936 → ∀ (w' : World) (G : Nat), MV w w' g b G (putM M1 ⟨b0, b1, b2⟩ (wrap64 (t + n))) ⟨⟨a0, a1, a2⟩, ⟨b0, b1, b2⟩, n⟩ → R 0 w' from fun q1 q2 q5 w' G q3 => by
    rw [hza, hd] at q1
    rw [hd] at q2
    rw [ht] at q5 q3
    have q4 := m0 q1 (by omega) (by omega)
    exact hR 0 w' G (by rw [q4]) (by rw [q4]; exact q3))
  clear hd hd2 ht hdn hlen hlen1 hwd hM1 ht0 m20 m9 m9b m0 hR hw0 hw1 h h0 hv hza
  simp only [ev]
  go_enter Try.func59, Try.ntmps59
  go_wp2_with (go_at_call 80; refine (HC.out _).mono ?_; rintro e w1 ⟨rfl, hw1⟩)
  have H1 := Lib.hid (HS.out.below hw1)
  clear hw1 HS HC
  have hc : w1.cell? ⟨g, 0, none⟩ = some (.map (some b)) := H1.out.lg.cell
  have k0 : w1.cell? ⟨w.heap.size, 0, none⟩ = some (.int .i64 a0) := H1.out.cell 0
  have k1 : w1.cell? ⟨w.heap.size, 1, none⟩ = some (.int .i64 a1) := H1.out.cell 1
  have k2 : w1.cell? ⟨w.heap.size, 2, none⟩ = some (.string a2) := H1.out.cell 2
  have k6 : w1.cell? ⟨w.heap.size, 6, none⟩ = some (.int .i64 n) := H1.out.cell 6
  have hl : ∀ k, (Instr.lookup 60 (.map (some b)) (.agg #[.int .i64 a0, .int .i64 a1, .string a2]) false).run Try.prog (w1.drewN k) = .ok (.int .i64 v) (w1.drewN k) := fun k => by
    have := HL1.out M (w1.drewN k) (H1.out.drewN k).lg
    rw [HF.out.2.2.2.2.2.2.2.2.2] at this
    exact this
  generalize w.heap.size = G at k0 k1 k2 k6 H1 ⊢
  go_quiet (fail)
  have HW : ∀ k, Calls Try.prog 60 #[.pointer (some ⟨g, 0, none⟩), .agg #[.int .i64 a0, .int .i64 a1, .string a2], .int .i64 (wrap64 (v - n))] (w1.drewN k) fun e w' => e = .returned (.tuple #[]) ∧ MV w w' g b G M1 ⟨⟨a0, a1, a2⟩, ⟨b0, b1, b2⟩, n⟩ := fun k =>
    (HP1.out M (w1.drewN k) (H1.out.drewN k).lg (wrap64 (v - n)) (wf_wrap64 _) HF.out.2.2.2.2.1).mono (by
      rintro e w' ⟨he, h1, h2⟩
      rw [HF.out.1, HF.out.2.2.2.2.2.2.2.1] at h1
      exact ⟨he, (H1.out.drewN k).grow h1 h2⟩)
  have H2 := Lib.hid HW
  clear HW
  go_wp2_with (first
    | (go_at_call_has 60 (Value.int IntKind.i64 (wrap64 (v - n))); go_must (refine Calls.mono (H2.out _) ?_); rintro e w2 ⟨rfl, hw2⟩
       have H3 := Lib.hid hw2
       clear hw2))
  any_goals (go_ret; first | exact ⟨_, rfl, F20.out (by assumption) (by assumption) _ _ (H1.out.drewN _)⟩ | exact ⟨_, rfl, F9.out (fun q => absurd q.1 (by assumption)) (by assumption) _ _ (H1.out.drewN _)⟩)
  all_goals (
    have hq : ¬ (z = true ∧ wrap64 (v - n) < 0) := fun q => by first | omega | exact absurd q.1 (by assumption)
    have hq2 : -72057594037927936 ≤ wrap64 (v - n) := by assumption
    have HQ := Lib.hid (And.intro hq hq2)
    clear hq hq2 hc k0 k1 k2 k6 hl
    have hc : w2.cell? ⟨g, 0, none⟩ = some (.map (some b)) := H3.out.lg.cell
    have k0 : w2.cell? ⟨G, 0, none⟩ = some (.int .i64 a0) := H3.out.cell 0
    have k1 : w2.cell? ⟨G, 1, none⟩ = some (.int .i64 a1) := H3.out.cell 1
    have k2 : w2.cell? ⟨G, 2, none⟩ = some (.string a2) := H3.out.cell 2
    have k3 : w2.cell? ⟨G, 3, none⟩ = some (.int .i64 b0) := H3.out.cell 3
    have k4 : w2.cell? ⟨G, 4, none⟩ = some (.int .i64 b1) := H3.out.cell 4
    have k5 : w2.cell? ⟨G, 5, none⟩ = some (.string b2) := H3.out.cell 5
    have k6 : w2.cell? ⟨G, 6, none⟩ = some (.int .i64 n) := H3.out.cell 6
    have hl : ∀ k, (Instr.lookup 60 (.map (some b)) (.agg #[.int .i64 b0, .int .i64 b1, .string b2]) false).run Try.prog (w2.drewN k) = .ok (.int .i64 t) (w2.drewN k) := fun k => by
      have := HL2.out M1 (w2.drewN k) (H3.out.drewN k).lg
      rw [HF.out.2.2.2.2.2.2.2.2.1] at this
      exact this
    have HW1 : ∀ k, Calls Try.prog 60 #[.pointer (some ⟨g, 0, none⟩), .agg #[.int .i64 a0, .int .i64 a1, .string a2], .int .i64 (wrap64 (wrap64 (v - n) + n))] (w2.drewN k) fun e w' => e = .returned (.tuple #[]) ∧ MV w w' g b G (putM M1 ⟨a0, a1, a2⟩ (wrap64 (wrap64 (v - n) + n))) ⟨⟨a0, a1, a2⟩, ⟨b0, b1, b2⟩, n⟩ := fun k =>
      (HP1.out M1 (w2.drewN k) (H3.out.drewN k).lg _ (wf_wrap64 _) HF.out.2.2.2.2.2.1).mono (by
        rintro e w' ⟨he, h1, h2⟩
        exact ⟨he, (H3.out.drewN k).grow h1 h2⟩)
    have H4 := Lib.hid HW1
    clear HW1
    have HW2 : ∀ k, Calls Try.prog 60 #[.pointer (some ⟨g, 0, none⟩), .agg #[.int .i64 b0, .int .i64 b1, .string b2], .int .i64 (wrap64 (t + n))] (w2.drewN k) fun e w' => e = .returned (.tuple #[]) ∧ MV w w' g b G (putM M1 ⟨b0, b1, b2⟩ (wrap64 (t + n))) ⟨⟨a0, a1, a2⟩, ⟨b0, b1, b2⟩, n⟩ := fun k =>
      (HP2.out M1 (w2.drewN k) (H3.out.drewN k).lg _ (wf_wrap64 _) HF.out.2.2.2.2.2.1).mono (by
        rintro e w' ⟨he, h1, h2⟩
        exact ⟨he, (H3.out.drewN k).grow h1 h2⟩)
    have H5 := Lib.hid HW2
    clear HW2 HP1 HP2 HL1 HL2
    go_quiet (fail)
    go_wp2_with (first
      | (go_at_call_has 60 (Value.int IntKind.i64 (wrap64 (wrap64 (v - n) + n))); go_must (refine Calls.mono (H4.out _) ?_); rintro e w3 ⟨rfl, hw3⟩
         have H6 := Lib.hid hw3
         clear hw3)
      | (go_at_call_has 60 (Value.int IntKind.i64 (wrap64 (t + n))); go_must (refine Calls.mono (H5.out _) ?_); rintro e w3 ⟨rfl, hw3⟩
         have H6 := Lib.hid hw3
         clear hw3)))
  all_goals go_ret
  all_goals first | exact ⟨_, rfl, F9b.out HQ.out.1 HQ.out.2 (by assumption) _ _ H6.out⟩ | exact ⟨_, rfl, F0.out HQ.out.1 HQ.out.2 (by assumption) _ _ H6.out⟩
end Go.Proofs.Ytoknlpecbdlbfaa.PL

/- The ledger's Post, walked. -/
namespace Go.Proofs.Ytoknlpecbdlbfaa.PL
open Go.RowKit Go.Proofs.YtoknlpecbdlbfaaW.PrintWords Go.Proofs.YtoknlpecbdlbfaaW.PrintLast
theorem getM_mem {M : List (S42 × Int)} {a : S42} (h : a ∈ M.map Prod.fst) : (a, getM M a) ∈ M := by
  induction M with
  | nil => simp at h
  | cons p r ih =>
    unfold getM
    by_cases e : p.1 = a
    · rw [if_pos e, ← e]; exact List.mem_cons_self
    · rw [if_neg e]
      simp only [List.map_cons, List.mem_cons] at h
      rcases h with h | h
      · exact absurd h.symm e
      · exact List.mem_cons_of_mem _ (ih h)
theorem getM_append {M R : List (S42 × Int)} {a : S42} : getM (M ++ R) a = if a ∈ M.map Prod.fst then getM M a else getM R a := by
  induction M with
  | nil => simp
  | cons p r ih =>
    simp only [List.cons_append, getM, List.map_cons, List.mem_cons]
    by_cases e : p.1 = a
    · rw [if_pos e, if_pos (.inl e.symm), if_pos e]
    · rw [if_neg e, ih, if_neg e]
      by_cases h : a ∈ r.map Prod.fst
      · rw [if_pos h, if_pos (.inr h)]
      · rw [if_neg h, if_neg (fun x => x.elim (fun x => e x.symm) h)]
theorem getM_map_set (M : List (S42 × Int)) (a c : S42) (n : Int) : getM (M.map (fun p => if p.1 = a then (a, n) else p)) c = if c = a ∧ a ∈ M.map Prod.fst then n else getM M c := by
  induction M with
  | nil => simp [getM]
  | cons p r ih =>
    simp only [List.map_cons, getM, List.mem_cons]
    by_cases e : p.1 = a
    · rw [if_pos e]
      by_cases hc : a = c
      · subst hc
        rw [if_pos rfl, if_pos ⟨rfl, .inl e.symm⟩]
      · rw [if_neg hc, ih, if_neg (fun x => hc x.1.symm), if_neg (fun x => hc x.1.symm), if_neg (fun x => hc (e.symm.trans x))]
    · rw [if_neg e]
      by_cases hc : p.1 = c
      · rw [if_pos hc, if_pos hc, if_neg (fun x => e (hc.trans x.1))]
      · rw [if_neg hc, if_neg hc, ih]
        by_cases hm : c = a ∧ a ∈ r.map Prod.fst
        · rw [if_pos hm, if_pos ⟨hm.1, .inr hm.2⟩]
        · rw [if_neg hm, if_neg]
          rintro ⟨h1, h2⟩
          rcases h2 with h2 | h2
          · exact e h2.symm
          · exact hm ⟨h1, h2⟩
theorem getM_setM (M : List (S42 × Int)) (a c : S42) (n : Int) : getM (setM M a n) c = if c = a then n else getM M c := by
  unfold setM
  by_cases h : a ∈ M.map Prod.fst
  · rw [if_pos h, getM_map_set]
    by_cases e : c = a
    · rw [if_pos ⟨e, h⟩, if_pos e]
    · rw [if_neg (fun x => e x.1), if_neg e]
  · rw [if_neg h, getM_append]
    by_cases e : c = a
    · subst e
      rw [if_neg h, if_pos rfl]
      simp [getM]
    · rw [if_neg e]
      by_cases hc : c ∈ M.map Prod.fst
      · rw [if_pos hc]
      · rw [if_neg hc, getM_none hc]
        simp only [getM]
        rw [if_neg (fun x => e x.symm)]
theorem getM_delM (M : List (S42 × Int)) (a c : S42) : getM (delM M a) c = if c = a then 0 else getM M c := by
  unfold delM
  induction M with
  | nil => simp [getM]
  | cons p r ih =>
    by_cases e : p.1 = a
    · have h1 : (!decide (p.1 = a)) = false := by simp [e]
      rw [List.filter_cons, h1]
      simp only [Bool.false_eq_true, if_false]
      rw [ih]
      by_cases hc : c = a
      · rw [if_pos hc, if_pos hc]
      · rw [if_neg hc, if_neg hc]
        simp only [getM]
        rw [if_neg (fun x => hc (x.symm.trans e))]
    · have h1 : (!decide (p.1 = a)) = true := by simp [e]
      rw [List.filter_cons, h1]
      simp only [if_true, getM]
      by_cases hc : p.1 = c
      · rw [if_pos hc, if_neg (fun x => e (hc.trans x)), if_pos hc]
      · rw [if_neg hc, ih, if_neg hc]
theorem getM_putM (M : List (S42 × Int)) (a c : S42) (n : Int) : getM (putM M a n) c = if c = a then n else getM M c := by
  unfold putM
  by_cases h : n = 0
  · rw [if_pos h, getM_delM, h]
  · rw [if_neg h, getM_setM]
theorem length_putM (M : List (S42 × Int)) (a : S42) (n : Int) : (putM M a n).length ≤ M.length + 1 := by
  unfold putM setM delM
  split
  · have := List.length_filter_le (fun p : S42 × Int => !decide (p.1 = a)) M; omega
  · split <;> simp
/-- All amounts are within the bound. -/
def BM (M : List (S42 × Int)) : Prop := ∀ a, -72057594037927936 ≤ getM M a ∧ getM M a ≤ 72057594037927936
theorem BM.put {M : List (S42 × Int)} (h : BM M) (a : S42) {n : Int} (h1 : -72057594037927936 ≤ n) (h2 : n ≤ 72057594037927936) : BM (putM M a n) := by
  intro c
  rw [getM_putM]
  split
  · exact ⟨h1, h2⟩
  · exact h c
theorem BM.move {M : List (S42 × Int)} (h : BM M) (e : S107) : BM (moveM M e).1 := by
  unfold moveM
  split
  · exact h
  · rename_i h0
    have hn : 1 ≤ e.f2 ∧ e.f2 ≤ 1125899906842624 := by
      simp only [checkI, ne_eq, Classical.not_not] at h0
      by_cases q : e.f2 < 1 ∨ 1125899906842624 < e.f2
      · rw [if_pos q] at h0; omega
      · omega
    have h1 := h e.f0
    split
    · exact h
    · split
      · exact h
      · have h2 : BM (putM M e.f0 (getM M e.f0 - e.f2)) := h.put _ (by omega) (by omega)
        have h3 := h2 e.f1
        split
        · exact h2.put _ (by omega) (by omega)
        · exact h2.put _ (by omega) (by omega)
theorem length_moveM (M : List (S42 × Int)) (e : S107) : (moveM M e).1.length ≤ M.length + 2 := by
  unfold moveM
  have h1 := length_putM M e.f0 (getM M e.f0 - e.f2)
  have h2 := fun a n => length_putM (putM M e.f0 (getM M e.f0 - e.f2)) a n
  split
  · simp
  · split
    · simp
    · split
      · simp
      · split
        · have := h2 e.f0 (getM M e.f0 - e.f2 + e.f2); simp only; omega
        · have := h2 e.f1 (getM (putM M e.f0 (getM M e.f0 - e.f2)) e.f1 + e.f2); simp only; omega
theorem check_good {e : S107} (h : checkI e = 0) : 1 ≤ e.f2 ∧ e.f2 ≤ 1125899906842624 ∧ goodI e.f0 = 0 ∧ goodI e.f1 = 0 ∧ e.f0.f2.toList = e.f1.f2.toList := by
  unfold checkI at h
  by_cases q : e.f2 < 1 ∨ 1125899906842624 < e.f2
  · rw [if_pos q] at h; omega
  rw [if_neg q] at h
  by_cases q1 : goodI e.f0 ≠ 0
  · rw [if_pos q1] at h; exact absurd h q1
  rw [if_neg q1] at h
  by_cases q2 : goodI e.f1 ≠ 0
  · rw [if_pos q2] at h; exact absurd h q2
  rw [if_neg q2] at h
  by_cases q3 : e.f0.f2.toList = e.f1.f2.toList
  · exact ⟨by omega, by omega, by omega, by omega, q3⟩
  · rw [if_neg q3] at h; omega
theorem move_any {g b : Nat} {M : List (S42 × Int)} {w : World} (h : LG w g b M) (hB : BM M) (hlen : M.length + 2 < maxLen) (e : S107) :
    Calls Try.prog 59 #[.pointer (some ⟨g, 0, none⟩), ev e] w fun o w' => o = .returned (.int .i64 (moveM M e).2) ∧ LG w' g b (moveM M e).1 ∧ w.grownBy w' (some b) := by
  by_cases h0 : checkI e = 0
  · obtain ⟨h1, h2, h3, h4, h5⟩ := check_good h0
    have hv := hB e.f0
    have ht := hB e.f1
    have hl := length_putM M e.f0 (getM M e.f0 - e.f2)
    have ht' : -9223372036854775808 ≤ getM (putM M e.f0 (getM M e.f0 - e.f2)) e.f1 ∧ getM (putM M e.f0 (getM M e.f0 - e.f2)) e.f1 ≤ 72057594037927936 := by
      rw [getM_putM]
      split <;> omega
    refine (move_walk h e h0 (good_wf h3).1 (good_wf h4).1 (fun i w' => i = (moveM M e).2 ∧ LG w' g b (moveM M e).1 ∧ w.grownBy w' (some b)) (wrap_id (by omega) (by omega)) (by omega) (wrap_id (by omega) (by omega)) (wrap_id (by omega) (by omega)) (by omega) (by omega) (fun i w' G hi hm => ⟨hi, hm.lg, hm.grown⟩)).mono ?_
    rintro o w' ⟨i, rfl, rfl, h6, h7⟩
    exact ⟨rfl, h6, h7⟩
  · have hm : moveM M e = (M, checkI e) := by unfold moveM; rw [if_pos h0]
    rw [hm]
    refine (move_bad g e.f0.f0 e.f0.f1 e.f0.f2 e.f1.f0 e.f1.f1 e.f1.f2 e.f2 (checkI e) h0 w (fun w => check_any e w)).mono ?_
    rintro o w' ⟨rfl, hb⟩
    exact ⟨rfl, h.below hb, grown_below hb _⟩
end Go.Proofs.Ytoknlpecbdlbfaa.PL

/- The ledger's Post, walked. -/
namespace Go.Proofs.Ytoknlpecbdlbfaa.PL
open Go.RowKit Go.Proofs.YtoknlpecbdlbfaaW.PrintWords Go.Proofs.YtoknlpecbdlbfaaW.PrintLast
/-- What the way back makes of the map: the entries done, the last one ahead. -/
def undoM (M : List (S42 × Int)) : List S107 → List (S42 × Int)
  | [] => M
  | e :: r => undoM (putM (putM M e.f1 (wrap64 (getM M e.f1 - e.f2))) e.f0 (wrap64 (getM (putM M e.f1 (wrap64 (getM M e.f1 - e.f2))) e.f0 + e.f2))) r
/-- Post from an entry on; done: those ahead, the last one first. -/
def postL (done : List S107) (M : List (S42 × Int)) : List S107 → List (S42 × Int) × Int × Int
  | [] => (M, done.length, 0)
  | e :: r => if (moveM M e).2 = 0 then postL (e :: done) (moveM M e).1 r else (undoM (moveM M e).1 done, done.length, (moveM M e).2)
theorem moveM_ok {M : List (S42 × Int)} {e : S107} (h : (moveM M e).2 = 0) : checkI e = 0 := by
  refine Classical.byContradiction fun h0 => ?_
  unfold moveM at h
  rw [if_pos h0] at h
  exact h0 h
/-- A row of entries, and what moves leave of it. -/
theorem C107_grown {w w' : World} {b : Nat} {A : Option Addr} {n : Nat} {l : List S107} (h : Kd.C k107 w A n l) (hg : w.grownBy w' (some b)) {M : List (S42 × Int)} (hb : LM w b M) : Kd.C k107 w' A n l := by
  obtain ⟨h1, h2, h3⟩ := h
  refine ⟨h1, h2, fun hn => ?_⟩
  obtain ⟨ad, e, hc⟩ := h3 hn
  refine ⟨ad, e, fun j p hp => ?_⟩
  obtain ⟨c, hs, hK, hcell⟩ := hc j p hp
  refine ⟨c, hs, ?_, fun i u hu => ?_⟩
  · obtain rfl := k107_open hK
    exact k107_mk w' p
  · have h4 := hcell i u hu
    rw [← h4]
    have hx : w'.heap[(ad.add (j * k107.sz + i)).block]? = w.heap[(ad.add (j * k107.sz + i)).block]? := by
      refine hg.block _ ?_ ?_
      · refine Classical.byContradiction fun hn => ?_
        have : w.heap[(ad.add (j * k107.sz + i)).block]? = none := Array.getElem?_eq_none (by omega)
        simp [World.cell?, this] at h4
      · intro hq
        obtain ⟨es, clock, hbb, _⟩ := hb
        injection hq with hq
        simp [World.cell?, hq, hbb] at h4
    simp only [World.cell?, hx]
set_option maxRecDepth 100000 in
theorem post_nil (l : Value) (w : World) : Calls Try.prog 19 #[.pointer none, l] w fun e w' => e = .returned (.tuple #[.int .i64 0, .int .i64 3]) ∧ w = w' := by
  go_enter Try.func19, Try.ntmps19
  go_wp2_with (go_at_call 58; refine (made_nil _).mono ?_; rintro e w1 ⟨rfl, rfl⟩)
  go_ret2
  exact ⟨rfl, rfl⟩
set_option maxRecDepth 100000 in
theorem post_zero (g : Nat) (l : Value) (w : World) (hc : w.cell? ⟨g, 0, none⟩ = some (.map none)) : Calls Try.prog 19 #[.pointer (some ⟨g, 0, none⟩), l] w fun e w' => e = .returned (.tuple #[.int .i64 0, .int .i64 3]) ∧ w = w' := by
  go_enter Try.func19, Try.ntmps19
  go_wp2_with (go_at_call 58; refine (made_zero g _ hc).mono ?_; rintro e w1 ⟨rfl, rfl⟩)
  go_ret2
  exact ⟨rfl, rfl⟩
set_option maxRecDepth 100000 in
theorem post_long {g b : Nat} {M : List (S42 × Int)} {w : World} (h : LG w g b M) (A : Option Addr) (n c : Nat) (hn : 4096 < n) : Calls Try.prog 19 #[.pointer (some ⟨g, 0, none⟩), .slice A n c] w fun e w' => e = .returned (.tuple #[.int .i64 0, .int .i64 2]) ∧ w = w' := by
  have hn' : ((n : Int) > 4096) = True := eq_true (by omega)
  have hc := h.cell
  go_enter Try.func19, Try.ntmps19
  go_wp2_with (go_at_call 58; refine (made_any g b _ hc).mono ?_; rintro e w1 ⟨rfl, rfl⟩)
  go_ret2
  exact ⟨rfl, rfl⟩
theorem grown_box0 {w w1 : World} {b : Nat} (o : Obj) (h : (w.alloc o).grownBy w1 (some b)) : w.grownBy w1 (some b) := grown_box (k := 0) o h
set_option maxRecDepth 100000 in
set_option maxHeartbeats 1000000 in
theorem post_walk {g b : Nat} {M : List (S42 × Int)} {w : World} (h : LG w g b M) (hB : BM M) (A : Option Addr) (c : Nat) (l : List S107) (hr : Kd.C k107 w A l.length l) (hlen : l.length ≤ 4096) (hroom : M.length + 4 * l.length + 8 < maxLen) (R : List (S42 × Int) × Int × Int) (hR : postL [] M l = R) :
    Calls Try.prog 19 #[.pointer (some ⟨g, 0, none⟩), .slice A l.length c] w fun e w' => e = .returned (.tuple #[.int .i64 R.2.1, .int .i64 R.2.2]) ∧ LG w' g b R.1 ∧ w.grownBy w' (some b) := by
  have hn' : ((l.length : Int) > 4096) = False := eq_false (by omega)
  have hc := h.cell
  have H0 := Lib.hid (And.intro h (And.intro hB (And.intro hr (And.intro hlen (And.intro hroom hR)))))
  clear h hB hr hlen hroom hR
  go_enter Try.func19, Try.ntmps19
  go_wp2_with (go_at_call 58; refine (made_any g b _ hc).mono ?_; rintro e w1 ⟨rfl, rfl⟩)
  clear hc hn'
  go_loopg [6, 7, 8, 18] (l.length + 1) (fun kq v6 v7 v8 v18 w' => ∃ (done rest : List S107) (M1 : List (S42 × Int)), v18 = .int .i64 done.length ∧ Hid (kq = rest.length + 1 ∧ l = done.reverse ++ rest ∧ postL done M1 rest = R ∧ LG w' g b M1 ∧ BM M1 ∧ w.grownBy w' (some b) ∧ M1.length + 4 * rest.length + 2 * done.length + 8 < maxLen ∧ ∀ e ∈ done, checkI e = 0))
  case atStart =>
    obtain ⟨h1, h2, h3, h4, h5, h6⟩ := H0.out
    exact ⟨[], l, M, rfl, ⟨rfl, rfl, h6, h1, h2, grown_drewN w 0 _, by simp; omega, fun e he => by cases he⟩⟩
  case round =>
    obtain ⟨done, rest, M1, rfl, HH⟩ := hrel
    have hc : wr.cell? ⟨g, 0, none⟩ = some (.map (some b)) := HH.out.2.2.2.1.cell
    cases rest with
    | nil =>
      have c0 : l.length = done.length := by
        have := congrArg List.length HH.out.2.1
        simpa using this
      have c1 : (done.length < l.length) = False := eq_false (by omega)
      have C0 := Lib.hid c0
      clear c0
      go_wp2
      go_ret2
      obtain ⟨h1, h2, h3, h4, h5, h6, h7, h8⟩ := HH.out
      unfold postL at h3
      subst h3
      exact ⟨by rw [C0.out]; rfl, h4, h6⟩
    | cons e r =>
      have hi : done.length < l.length := by
        have := congrArg List.length HH.out.2.1
        simp at this
        omega
      have c1 : decide ((done.length : Int) < (l.length : Int)) = true := decide_eq_true (by omega)
      have he : rd_T107 l (done.length : Int) = e := by
        unfold rd_T107
        rw [HH.out.2.1]
        simp
      have hC : Kd.C k107 wr A l.length l := C107_grown H0.out.2.2.1 HH.out.2.2.2.2.2.1 H0.out.1.map
      obtain ⟨ad, eA, x0, x1, x2, x3, x4, x5, x6⟩ := at_T107 hC (done.length : Int) (by omega) (by omega)
      rw [he] at x0 x1 x2 x3 x4 x5 x6
      simp only [Int.toNat_natCast] at x0 x1 x2 x3 x4 x5 x6
      clear hC
      subst eA
      have p1 : (0 ≤ (done.length : Int)) = True := eq_true (by omega)
      have q1 : ((done.length : Int) < (l.length : Int)) = True := eq_true (by omega)
      have H59 : ∀ w1, LG w1 g b M1 → Calls Try.prog 59 #[.pointer (some ⟨g, 0, none⟩), ev e] w1 fun o w' => o = .returned (.int .i64 (moveM M1 e).2) ∧ LG w' g b (moveM M1 e).1 ∧ w1.grownBy w' (some b) := fun w1 h1 => move_any h1 HH.out.2.2.2.2.1 (by have := HH.out.2.2.2.2.2.2.1; omega) e
      obtain ⟨f, hf⟩ : ∃ f, (moveM M1 e).2 = f := ⟨_, rfl⟩
      have HG : LG wr g b M1 := HH.out.2.2.2.1
      have HA := HG.below ((Below.refl wr.heap.size wr).alloc (Nat.le_refl _) (.cells #[.int .i64 e.f0.f0, .int .i64 e.f0.f1, .string e.f0.f2, .int .i64 e.f1.f0, .int .i64 e.f1.f1, .string e.f1.f2, .int .i64 e.f2] 107))
      have HV := Lib.hid (H59 _ HA)
      rw [hf] at HV
      have HE := Lib.hid (And.intro he (And.intro hi hf))
      clear H59 he hi hf HG HA
      obtain ⟨⟨a0, a1, a2⟩, ⟨b0, b1, b2⟩, n⟩ := e
      simp only [ev] at HV
      by_cases f0 : f = 0
      · have f1 : (f != 0) = false := by simp [f0]
        have F0 := Lib.hid f0
        clear f0
        go_wp2_with (go_at_call 59; refine (HV.out).mono ?_; rintro o w2 ⟨rfl, h2, h3⟩
                     have H2 := Lib.hid (And.intro h2 h3)
                     clear h2 h3)
        go_roundg (r.length + 1)
        case measure => rw [HH.out.1]; simp
        case rel =>
          obtain ⟨h1, h2, h3, h4, h5, h6, h7, h8⟩ := HH.out
          refine ⟨⟨⟨a0, a1, a2⟩, ⟨b0, b1, b2⟩, n⟩ :: done, r, (moveM M1 ⟨⟨a0, a1, a2⟩, ⟨b0, b1, b2⟩, n⟩).1, ?_, ⟨rfl, ?_, ?_, H2.out.1, h5.move _, ?_, ?_, ?_⟩⟩
          · have := H0.out.2.2.2.1
            have := HE.out.2.1
            rw [wrap_id (by omega) (by omega)]
            simp
          · rw [h2]; simp
          · unfold postL at h3
            rw [HE.out.2.2, F0.out, if_pos rfl] at h3
            exact h3
          · exact h6.andThen (grown_box0 _ H2.out.2) (fun _ hj => .inr hj)
          · have := length_moveM M1 ⟨⟨a0, a1, a2⟩, ⟨b0, b1, b2⟩, n⟩
            simp at h7 ⊢
            omega
          · intro e3 h9
            rcases List.mem_cons.1 h9 with rfl | h9
            · exact moveM_ok (HE.out.2.2.trans F0.out)
            · exact h8 e3 h9
      · have f1 : (f != 0) = true := by simp [f0]
        have F0 := Lib.hid f0
        clear f0
        go_wp2_with (go_at_call 59; refine (HV.out).mono ?_; rintro o w2 ⟨rfl, h2, h3⟩
                     have H2 := Lib.hid (And.intro h2 h3)
                     clear h2 h3)
        have HZ : R = (undoM (moveM M1 ⟨⟨a0, a1, a2⟩, ⟨b0, b1, b2⟩, n⟩).1 done, (done.length : Int), f) := by
          have h3 := HH.out.2.2.1
          unfold postL at h3
          rw [HE.out.2.2, if_neg F0.out] at h3
          exact h3.symm
        have HY := Lib.hid HZ
        clear HZ x0 x1 x2 x3 x4 x5 x6 p1 q1 c1 hc f1 HV
        go_loopg [9] (done.length + 1) (fun kq v9 w' => ∃ (rem tl : List S107) (M2 : List (S42 × Int)), v9 = .int .i64 ((rem.length : Int) - 1) ∧ Hid (kq = rem.length + 1 ∧ l = rem.reverse ++ tl ∧ undoM M2 rem = R.1 ∧ LG w' g b M2 ∧ w.grownBy w' (some b) ∧ M2.length + 2 * rem.length + 4 < maxLen ∧ ∀ e ∈ rem, checkI e = 0))
        case atStart =>
          obtain ⟨h1, h2, h3, h4, h5, h6, h7, h8⟩ := HH.out
          refine ⟨done, _, (moveM M1 ⟨⟨a0, a1, a2⟩, ⟨b0, b1, b2⟩, n⟩).1, ?_, ⟨rfl, h2, ?_, H2.out.1, ?_, ?_, ?_⟩⟩
          · have := H0.out.2.2.2.1
            have := HE.out.2.1
            rw [wrap_id (by omega) (by omega)]
          · rw [HY.out]
          · exact h6.andThen (grown_box0 _ H2.out.2) (fun _ hj => .inr hj)
          · have := length_moveM M1 ⟨⟨a0, a1, a2⟩, ⟨b0, b1, b2⟩, n⟩
            simp at h7 ⊢
            omega
          · exact h8
        case round =>
          obtain ⟨rem, tl, M2, rfl, HI⟩ := hrel
          cases rem with
          | nil =>
            go_wp2
            go_ret2
            obtain ⟨h1, h2, h3, h4, h5, h6, h7⟩ := HI.out
            unfold undoM at h3
            rw [HY.out] at h3 ⊢
            simp only at h3
            subst h3
            exact ⟨rfl, h4, h5⟩
          | cons e2 rem2 =>
            have hk : (((e2 :: rem2).length : Int) - 1) = (rem2.length : Int) := by simp
            rw [hk]
            clear hk
            have hc : wr.cell? ⟨g, 0, none⟩ = some (.map (some b)) := HI.out.2.2.2.1.cell
            have hi : rem2.length < l.length := by
              have := congrArg List.length HI.out.2.1
              simp at this
              omega
            have he : rd_T107 l (rem2.length : Int) = e2 := by
              unfold rd_T107
              rw [HI.out.2.1]
              simp
            have hC : Kd.C k107 wr (some ad) l.length l := C107_grown H0.out.2.2.1 HI.out.2.2.2.2.1 H0.out.1.map
            obtain ⟨ad2, eA, x0, x1, x2, x3, x4, x5, x6⟩ := at_T107 hC (rem2.length : Int) (by omega) (by omega)
            rw [he] at x0 x1 x2 x3 x4 x5 x6
            simp only [Int.toNat_natCast] at x0 x1 x2 x3 x4 x5 x6
            obtain rfl : ad = ad2 := by injection eA
            clear hC
            have HK := Lib.hid he
            obtain ⟨_, _, hg1, hg2, _⟩ := check_good (HI.out.2.2.2.2.2.2 e2 List.mem_cons_self)
            have HW2 := Lib.hid (good_wf hg2).1
            have HW1 := Lib.hid (good_wf hg1).1
            clear hg1 hg2
            clear he eA
            obtain ⟨⟨c0, c1, c2⟩, ⟨d0, d1, d2⟩, m⟩ := e2
            obtain ⟨v1, hv1⟩ : ∃ v, getM M2 ⟨d0, d1, d2⟩ = v := ⟨_, rfl⟩
            have HQ : LG wr.drew g b M2 := ⟨HI.out.2.2.2.1.blk, HI.out.2.2.2.1.map.move rfl⟩
            have hl1 : (Instr.lookup 60 (.map (some b)) (.agg #[.int .i64 d0, .int .i64 d1, .string d2]) false).run Try.prog wr.drew = .ok (.int .i64 v1) wr.drew := by
              rw [← hv1]
              exact HQ.map.lookup HW2.out
            have HP := Lib.hid (put_any HQ HW2.out (n := wrap64 (v1 - m)) (wf_wrap64 _) (by have := HI.out.2.2.2.2.2.1; simp at this; omega))
            simp only [kv] at HP
            have V1 := Lib.hid hv1
            clear hv1 HQ
            go_wp2
            go_still_tail 22, (by kernel_rfl)
            show wpList _ _ _ _ _ wr.drew
            go_wp2_with (go_at_call 60; refine HP.out.mono ?_; rintro o w3 ⟨rfl, h2, h3⟩
                         have H3 := Lib.hid (And.intro h2 h3)
                         clear h2 h3)
            clear hl1 HP hc x0 x1 x2 x3 x4 x5 x6
            have hg5 : w.grownBy w3 (some b) := HI.out.2.2.2.2.1.andThen ((grown_drewN wr 1 _).andThen H3.out.2 (fun _ hj => .inr hj)) (fun _ hj => .inr hj)
            have hC : Kd.C k107 w3 (some ad) l.length l := C107_grown H0.out.2.2.1 hg5 H0.out.1.map
            have G5 := Lib.hid hg5
            clear hg5
            obtain ⟨ad2, eA, x0, x1, x2, x3, x4, x5, x6⟩ := at_T107 hC (rem2.length : Int) (by omega) (by omega)
            rw [HK.out] at x0 x1 x2 x3 x4 x5 x6
            simp only [Int.toNat_natCast] at x0 x1 x2 x3 x4 x5 x6
            obtain rfl : ad = ad2 := by injection eA
            clear hC eA
            have hc : w3.cell? ⟨g, 0, none⟩ = some (.map (some b)) := H3.out.1.cell
            obtain ⟨M3, hM3⟩ : ∃ M3, putM M2 ⟨d0, d1, d2⟩ (wrap64 (v1 - m)) = M3 := ⟨_, rfl⟩
            rw [hM3] at H3
            obtain ⟨v2, hv2⟩ : ∃ v, getM M3 ⟨c0, c1, c2⟩ = v := ⟨_, rfl⟩
            have HQ : LG w3.drew g b M3 := ⟨H3.out.1.blk, H3.out.1.map.move rfl⟩
            have hl1 : (Instr.lookup 60 (.map (some b)) (.agg #[.int .i64 c0, .int .i64 c1, .string c2]) false).run Try.prog w3.drew = .ok (.int .i64 v2) w3.drew := by
              rw [← hv2]
              exact HQ.map.lookup HW1.out
            have hlen3 := length_putM M2 ⟨d0, d1, d2⟩ (wrap64 (v1 - m))
            rw [hM3] at hlen3
            have HP := Lib.hid (put_any HQ HW1.out (n := wrap64 (v2 + m)) (wf_wrap64 _) (by have := HI.out.2.2.2.2.2.1; simp at this; omega))
            simp only [kv] at HP
            have V2 := Lib.hid (And.intro hM3 (And.intro hv2 hlen3))
            clear hM3 hv2 hlen3 HQ
            go_still_tail 22, (by kernel_rfl)
            show wpList _ _ _ _ _ w3.drew
            go_wp2_with (go_at_call 60; refine HP.out.mono ?_; rintro o w4 ⟨rfl, h2, h3⟩
                         have H4 := Lib.hid (And.intro h2 h3)
                         clear h2 h3)
            go_roundg (rem2.length + 1)
            case measure => rw [HI.out.1]; simp
            case rel =>
              obtain ⟨h1, h2, h3, h4, h5, h6, h7⟩ := HI.out
              obtain ⟨e1, e2', e3⟩ := V2.out
              refine ⟨rem2, ⟨⟨c0, c1, c2⟩, ⟨d0, d1, d2⟩, m⟩ :: tl, putM M3 ⟨c0, c1, c2⟩ (wrap64 (v2 + m)), ?_, ⟨rfl, ?_, ?_, H4.out.1, ?_, ?_, ?_⟩⟩
              · have := H0.out.2.2.2.1
                rw [wrap_id (by omega) (by omega)]
              · rw [h2]; simp
              · rw [← h3]
                simp only [undoM]
                rw [V1.out, e1, e2']
              · exact G5.out.andThen ((grown_drewN w3 1 _).andThen H4.out.2 (fun _ hj => .inr hj)) (fun _ hj => .inr hj)
              · have := length_putM M3 ⟨c0, c1, c2⟩ (wrap64 (v2 + m))
                simp at h6
                omega
              · exact fun e3 h9 => h7 e3 (List.mem_cons_of_mem _ h9)
theorem post_any {g b : Nat} {M : List (S42 × Int)} {w : World} (h : LG w g b M) (hB : BM M) (A : Option Addr) (c : Nat) (l : List S107) (hr : Kd.C k107 w A l.length l) (hlen : l.length ≤ 4096) (hroom : M.length + 4 * l.length + 8 < maxLen) :
    Calls Try.prog 19 #[.pointer (some ⟨g, 0, none⟩), .slice A l.length c] w fun e w' => e = .returned (.tuple #[.int .i64 (postL [] M l).2.1, .int .i64 (postL [] M l).2.2]) ∧ LG w' g b (postL [] M l).1 ∧ w.grownBy w' (some b) :=
  post_walk h hB A c l hr hlen hroom _ rfl
end Go.Proofs.Ytoknlpecbdlbfaa.PL
