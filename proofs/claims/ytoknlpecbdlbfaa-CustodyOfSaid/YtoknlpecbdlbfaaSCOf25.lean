/- Part 25 of the proof's texts: what the theorem needs of them. -/
import Derived.Test.YtoknlpecbdlbfaaSCOf15
import Derived.Maps.OwnSet
import Derived.Maps.Range
import Derived.DeepKeys4
import Derived.WideKeyArgs2

/- The ledger's map in memory: what a block that holds a map of accounts reads as, and what a look-up, a store and a delete do to it. -/
namespace Go.Proofs.Ytoknlpecbdlbfaa.PL
open Go.RowKit Go.Maps Go.MapKept
open Go.ChangeMaps (setBlock)
open Go.WideElems (Fit rd rd_mk rd_key rd_val other_key)

theorem laidOut : laidOutB Try.prog = true := by kernel_rfl
theorem row42 : (42 : TypeId) < Try.prog.types.size := of_decide_eq_true (by kernel_rfl)
theorem wide42 : (match Try.prog.underlying 42 with | some (.array _ _) | some (.struct _) => true | _ => false) = true := by kernel_rfl
set_option maxRecDepth 100000 in
theorem law42 : Keyed Try.prog 42 := Keyed.of_law (deep_law_laid laidOut (m := 3) (by omega) row42 (by kernel_rfl) wide42)
set_option maxRecDepth 100000 in
theorem ktype42 : Try.prog.keyType 42 = true := by kernel_rfl
theorem cells3 : Try.prog.cellsOf 3 = 1 := by kernel_rfl
theorem cells9 : Try.prog.cellsOf 9 = 1 := by kernel_rfl
theorem cells42 : Try.prog.cellsOf 42 = 3 := by kernel_rfl

/-- An account's value. -/
def kv (a : S42) : Value := .agg #[.int .i64 a.f0, .int .i64 a.f1, .string a.f2]
structure Wfa (a : S42) : Prop where
  h0 : (Lit.int .i64 a.f0).wf = true
  h1 : (Lit.int .i64 a.f1).wf = true
  h2 : a.f2.size ≤ maxLen
theorem kv_inj {a b : S42} (h : kv a = kv b) : a = b := by
  obtain ⟨a0, a1, a2⟩ := a
  obtain ⟨b0, b1, b2⟩ := b
  simp only [kv, Value.agg.injEq, Array.mk.injEq, List.cons.injEq, Value.int.injEq, Value.string.injEq, and_true, true_and] at h
  obtain ⟨rfl, rfl, rfl⟩ := h
  rfl
theorem keyOf_kv {a : S42} (h : Wfa a) : ∃ l, keyOf Try.prog 42 (kv a) = some l := by
  have hf : (kv a).formed Try.prog 42 = true := by simp [Value.formed, Try.underlying42, cells42, kv]
  obtain ⟨m, hm⟩ : ∃ m, Try.prog.types.size = m + 2 := by
    have h42 : 42 < Try.prog.types.size := row42
    exact ⟨Try.prog.types.size - 2, by omega⟩
  unfold keyOf
  rw [hm]
  simp only [Try.underlying42, ktype42, hf, Bool.and_true, if_true]
  simp [kv, Value.cells, Program.keyLits, Try.underlying42, Try.underlying3, Try.underlying9, cells42, cells3, cells9, h.h0, h.h1, h.h2]
instance : DecidableEq S42 := fun a b => decidable_of_iff (a.f0 = b.f0 ∧ a.f1 = b.f1 ∧ a.f2 = b.f2) (by
  constructor
  · rintro ⟨h0, h1, h2⟩
    cases a; cases b
    simp_all
  · rintro rfl
    exact ⟨rfl, rfl, rfl⟩)
/-- What an account has; a store; a delete: over the list of the map's entries. -/
def getM : List (S42 × Int) → S42 → Int
  | [], _ => 0
  | p :: r, a => if p.1 = a then p.2 else getM r a
def setM (M : List (S42 × Int)) (a : S42) (n : Int) : List (S42 × Int) := if a ∈ M.map Prod.fst then M.map (fun p => if p.1 = a then (a, n) else p) else M ++ [(a, n)]
def delM (M : List (S42 × Int)) (a : S42) : List (S42 × Int) := M.filter (fun p => !decide (p.1 = a))
theorem getM_none {M : List (S42 × Int)} {a : S42} (h : a ∉ M.map Prod.fst) : getM M a = 0 := by
  induction M with
  | nil => rfl
  | cons p r ih =>
    simp only [List.map_cons, List.mem_cons, not_or] at h
    unfold getM
    rw [if_neg (fun e => h.1 e.symm), ih h.2]
theorem getM_at {M : List (S42 × Int)} (hn : (M.map Prod.fst).Nodup) : ∀ {j : Nat} {a : S42} {n : Int}, M[j]? = some (a, n) → getM M a = n := by
  induction M with
  | nil => intro j a n h; simp at h
  | cons p r ih =>
    intro j a n h
    simp only [List.map_cons, List.nodup_cons] at hn
    unfold getM
    cases j with
    | zero =>
      simp at h
      subst h
      rw [if_pos rfl]
    | succ j =>
      simp at h
      have hm : a ∈ r.map Prod.fst := List.mem_map.2 ⟨(a, n), List.mem_of_getElem? h, rfl⟩
      rw [if_neg (fun e => hn.1 (by rw [e]; exact hm)), ih hn.2 h]
theorem setM_at {M : List (S42 × Int)} (hn : (M.map Prod.fst).Nodup) {j : Nat} {a : S42} {n m : Int} (h : M[j]? = some (a, n)) : setM M a m = M.set j (a, m) := by
  have hm : a ∈ M.map Prod.fst := List.mem_map.2 ⟨(a, n), List.mem_of_getElem? h, rfl⟩
  unfold setM
  rw [if_pos hm]
  clear hm
  induction M generalizing j with
  | nil => simp at h
  | cons p r ih =>
    simp only [List.map_cons, List.nodup_cons] at hn
    cases j with
    | zero =>
      simp at h
      subst h
      simp only [List.map_cons, if_true, List.set_cons_zero, List.cons.injEq, true_and]
      have : ∀ q ∈ r, (if q.1 = a then (a, m) else q) = q := by
        intro q hq
        rw [if_neg]
        intro e
        exact hn.1 (List.mem_map.2 ⟨q, hq, e⟩)
      rw [List.map_congr_left this]; simp
    | succ j =>
      simp at h
      have hm : a ∈ r.map Prod.fst := List.mem_map.2 ⟨(a, n), List.mem_of_getElem? h, rfl⟩
      rw [List.map_cons, if_neg (fun e => hn.1 (by rw [e]; exact hm)), List.set_cons_succ, ih hn.2 h]
theorem delM_at {M : List (S42 × Int)} (hn : (M.map Prod.fst).Nodup) {j : Nat} {a : S42} {n : Int} (h : M[j]? = some (a, n)) : delM M a = M.eraseIdx j := by
  unfold delM
  refine Go.ChangeMaps.filter_eq_eraseIdx (fun p : S42 × Int => decide (p.1 = a)) M j (a, n) h (by simp) ?_
  have := (List.pairwise_map (f := Prod.fst) (R := fun x y : S42 => x ≠ y) (l := M)).1 hn
  refine this.imp ?_
  intro x y hne
  simp only [decide_eq_true_eq]
  rintro ⟨e1, e2⟩
  exact hne (e1.trans e2.symm)
theorem delM_none {M : List (S42 × Int)} {a : S42} (h : a ∉ M.map Prod.fst) : delM M a = M := by
  unfold delM
  refine List.filter_eq_self.2 (fun p hp => ?_)
  simp only [Bool.not_eq_true', decide_eq_false_iff_not]
  intro e
  exact h (List.mem_map.2 ⟨p, hp, e⟩)

/-- Block b holds the map M (in the order in which the entries lie). -/
def LM (w : World) (b : Nat) (M : List (S42 × Int)) : Prop :=
  ∃ es clock, w.heap[b]? = some (.map es clock) ∧ Fit (H := Unit) Try.prog 42 (plainElem Try.prog 3) es clock ∧ es.toList.map (fun e => (e.key, e.val)) = M.map (fun p => (kv p.1, Value.int .i64 p.2))
theorem LM.lt {w : World} {b : Nat} {M : List (S42 × Int)} (h : LM w b M) : b < w.heap.size := by
  obtain ⟨es, clock, hb, _⟩ := h
  exact (Array.getElem?_eq_some_iff.1 hb).1
theorem LM.move {w w' : World} {b : Nat} {M : List (S42 × Int)} (h : LM w b M) (hm : w'.heap[b]? = w.heap[b]?) : LM w' b M := by
  obtain ⟨es, clock, hb, rest⟩ := h
  exact ⟨es, clock, hm.trans hb, rest⟩
theorem LM.grown {w w' : World} {b : Nat} {M : List (S42 × Int)} {row : Option Nat} (h : LM w b M) (hg : w.grownBy w' row) (hr : some b ≠ row) : LM w' b M := h.move (hg.block b h.lt hr)
theorem LM.below {w w' : World} {b : Nat} {M : List (S42 × Int)} (h : LM w b M) (hb : Below w.heap.size w w') : LM w' b M := h.move (hb.block b h.lt)
theorem LM.get {es : Array MapEntry} {M : List (S42 × Int)} (hM : es.toList.map (fun e => (e.key, e.val)) = M.map (fun p => (kv p.1, Value.int .i64 p.2))) {j : Nat} {e : MapEntry} (h : es.toList[j]? = some e) : ∃ p, M[j]? = some p ∧ e.key = kv p.1 ∧ e.val = .int .i64 p.2 := by
  have h1 : (es.toList.map (fun e => (e.key, e.val)))[j]? = some (e.key, e.val) := by rw [List.getElem?_map, h]; rfl
  rw [hM, List.getElem?_map] at h1
  cases hp : M[j]? with
  | none => rw [hp] at h1; cases h1
  | some p =>
    rw [hp] at h1
    simp at h1
    exact ⟨p, rfl, h1.1.symm, h1.2.symm⟩
theorem LM.nodup_of {es : Array MapEntry} {clock : Nat} {M : List (S42 × Int)} (F : Fit (H := Unit) Try.prog 42 (plainElem Try.prog 3) es clock) (hM : es.toList.map (fun e => (e.key, e.val)) = M.map (fun p => (kv p.1, Value.int .i64 p.2))) : (M.map Prod.fst).Nodup := by
  have hn : es.toList.Pairwise (fun x y => x.key ≠ y.key) := ((stamped_iff es clock).1 F.stamped).2.2
  have h1 : (es.toList.map (fun e => (e.key, e.val))).Pairwise (fun x y => x.1 ≠ y.1) := List.pairwise_map.2 hn
  rw [hM] at h1
  exact List.pairwise_map.2 ((List.pairwise_map.1 h1).imp (fun hne e => hne (by show kv _ = kv _; rw [e])))
theorem LM.nodup {w : World} {b : Nat} {M : List (S42 × Int)} (h : LM w b M) : (M.map Prod.fst).Nodup := by
  obtain ⟨es, clock, hb, F, hM⟩ := h
  exact LM.nodup_of F hM
theorem LM.none_of {es : Array MapEntry} {M : List (S42 × Int)} {a : S42} (hM : es.toList.map (fun e => (e.key, e.val)) = M.map (fun p => (kv p.1, Value.int .i64 p.2))) (h : ∀ e ∈ es.toList, e.key ≠ kv a) : a ∉ M.map Prod.fst := by
  intro hm
  obtain ⟨p, hp, rfl⟩ := List.mem_map.1 hm
  have : (kv p.1, Value.int .i64 p.2) ∈ es.toList.map (fun e => (e.key, e.val)) := by rw [hM]; exact List.mem_map.2 ⟨p, hp, rfl⟩
  obtain ⟨e, he, hee⟩ := List.mem_map.1 this
  exact h e he (by simp at hee; exact hee.1)
theorem zero3 (w : World) : (zeroValue 3).run Try.prog w = .ok (.int .i64 0) w := by kernel_rfl
/-- x.m[a]. -/
theorem LM.lookup {w : World} {b : Nat} {M : List (S42 × Int)} (h : LM w b M) {a : S42} (ha : Wfa a) : (Instr.lookup 60 (.map (some b)) (kv a) false).run Try.prog w = .ok (.int .i64 (getM M a)) w := by
  obtain ⟨es, clock, hb, F, hM⟩ := h
  obtain ⟨l, hkey⟩ := keyOf_kv ha
  have hn := LM.nodup_of F hM
  rcases law42.find w hkey es.toList F.keys with ⟨h1, h2⟩ | ⟨j, e0, h1, h2, h3⟩
  · rw [getM_none (LM.none_of hM h2)]
    simp [Instr.lookup, run_underlying Try.underlying60, MapKept.run_getObj_map hb, law42.check w _ hkey, h1, zero3 w, Result.andThen]
  · obtain ⟨p, hp, e1, e2⟩ := LM.get hM h2
    obtain rfl : p.1 = a := kv_inj (e1.symm.trans h3)
    rw [getM_at hn (n := p.2) hp]
    simp [Instr.lookup, run_underlying Try.underlying60, MapKept.run_getObj_map hb, law42.check w _ hkey, h1, e2, Result.andThen]
theorem grown_setBlock {w : World} {b : Nat} {es es' : Array MapEntry} {clock clock' : Nat} (hb : w.heap[b]? = some (.map es clock)) : w.grownBy (setBlock w b (.map es' clock')) (some b) :=
  ⟨rfl, rfl, rfl, by simp [setBlock], fun k _ hk => Go.ChangeMaps.heap_setBlock_other hb _ (fun e => hk (by rw [e]))⟩
/-- x.m[a] = n. -/
theorem LM.store {w : World} {b : Nat} {M : List (S42 × Int)} (h : LM w b M) {a : S42} (ha : Wfa a) {n : Int} (hn : (Lit.int .i64 n).wf = true) (hroom : M.length < maxLen) :
    ∃ w', (Instr.mapUpdate 60 (.map (some b)) (kv a) (.int .i64 n)).run Try.prog w = .ok () w' ∧ LM w' b (setM M a n) ∧ w.grownBy w' (some b) ∧ w'.heap.size = w.heap.size := by
  obtain ⟨es, clock, hb, F, hM⟩ := h
  obtain ⟨l, hkey⟩ := keyOf_kv ha
  have hnd := LM.nodup_of F hM
  have hlen : es.size = M.length := by have := congrArg List.length hM; simpa using this
  have hv : plainElem (H := Unit) Try.prog 3 (.int .i64 n) = some (.lit (.int .i64 n), []) := plainElem_int Try.underlying3 hn
  rcases law42.find w hkey es.toList F.keys with ⟨h1, h2⟩ | ⟨j, e0, h1, h2, h3⟩
  · refine ⟨setBlock w b (.map (es.push ⟨kv a, .int .i64 n, clock⟩) (clock + 1)), ?_, ⟨_, _, Go.ChangeMaps.heap_setBlock_same hb _, ⟨by simp; omega, stamped_push F.stamped h2, ?_⟩, ?_⟩, grown_setBlock hb, by simp [setBlock]⟩
    · simp [Instr.mapUpdate, run_underlying Try.underlying60, MapKept.run_getObj_map hb, law42.check w false hkey, h1, MapKept.run_setObj_map _ hb, Result.andThen, setBlock]
    · intro x hx
      simp only [Array.toList_push, List.mem_append, List.mem_singleton] at hx
      rcases hx with hx | rfl
      · exact F.reads x hx
      · exact ⟨_, rd_mk hkey hv⟩
    · unfold setM
      rw [if_neg (LM.none_of hM h2), Array.toList_push, List.map_append, List.map_append, hM]
      rfl
  · have hj : es[j]? = some e0 := by simpa using h2
    obtain ⟨p, hp, e1, e2⟩ := LM.get hM h2
    obtain rfl : p.1 = a := kv_inj (e1.symm.trans h3)
    have hkeyf : ∀ e', es[j]? = some e' → ({ e' with key := kv p.1, val := .int .i64 n } : MapEntry).key = e'.key := fun e' he' => by rw [hj] at he'; cases he'; exact h3.symm
    have hlist : (es.modify j (fun e' => { e' with key := kv p.1, val := .int .i64 n })).toList = es.toList.set j { e0 with key := kv p.1, val := .int .i64 n } := by rw [Array.toList_modify, Go.ChangeMaps.modify_eq_set _ _ _ _ h2]
    refine ⟨setBlock w b (.map (es.modify j (fun e' => { e' with key := kv p.1, val := .int .i64 n })) clock), ?_, ⟨_, _, Go.ChangeMaps.heap_setBlock_same hb _, ⟨by simpa using F.size, stamped_modify F.stamped _ _ (fun _ _ => rfl) (fun e' _ he' => hkeyf e' he'), ?_⟩, ?_⟩, grown_setBlock hb, by simp [setBlock]⟩
    · simp [Instr.mapUpdate, run_underlying Try.underlying60, MapKept.run_getObj_map hb, law42.check w false hkey, h1, hj, h3, law42.stays w hkey, MapKept.run_setObj_map _ hb, Result.andThen, setBlock]
    · intro x hx
      rw [hlist] at hx
      rcases List.mem_or_eq_of_mem_set hx with hx | rfl
      · exact F.reads x hx
      · exact ⟨_, rd_mk hkey hv⟩
    · rw [hlist, List.map_set, hM, setM_at hnd (n := p.2) hp, List.map_set]
/-- delete(x.m, a). -/
theorem LM.drop {w : World} {b : Nat} {M : List (S42 × Int)} (h : LM w b M) {a : S42} (ha : Wfa a) (ty : TypeId) :
    ∃ w', (Builtin.delete_ #[60, 42] ty #[.map (some b), kv a]).run Try.prog w = .ok (.tuple #[]) w' ∧ LM w' b (delM M a) ∧ w.grownBy w' (some b) ∧ w'.heap.size = w.heap.size := by
  obtain ⟨es, clock, hb, F, hM⟩ := h
  obtain ⟨l, hkey⟩ := keyOf_kv ha
  have hnd := LM.nodup_of F hM
  rcases law42.find w hkey es.toList F.keys with ⟨h1, h2⟩ | ⟨j, e0, h1, h2, h3⟩
  · refine ⟨setBlock w b (.map es clock), ?_, ⟨_, _, Go.ChangeMaps.heap_setBlock_same hb _, F, ?_⟩, grown_setBlock hb, by simp [setBlock]⟩
    · simp [Builtin.delete_, run_underlying Try.underlying60, MapKept.run_getObj_map hb, law42.check w _ hkey, h1, MapKept.run_setObj_map _ hb, Result.andThen, setBlock]
    · rw [delM_none (LM.none_of hM h2), hM]
  · obtain ⟨p, hp, e1, e2⟩ := LM.get hM h2
    obtain rfl : p.1 = a := kv_inj (e1.symm.trans h3)
    have hjl : j < es.size := by have := (List.getElem?_eq_some_iff.1 h2).1; simpa using this
    have hl : (es.eraseIdxIfInBounds j).toList = es.toList.eraseIdx j := by
      unfold Array.eraseIdxIfInBounds
      rw [dif_pos hjl, Array.toList_eraseIdx]
    refine ⟨setBlock w b (.map (es.eraseIdxIfInBounds j) clock), ?_, ⟨_, _, Go.ChangeMaps.heap_setBlock_same hb _, ⟨?_, stamped_erase F.stamped j, ?_⟩, ?_⟩, grown_setBlock hb, by simp [setBlock]⟩
    · simp [Builtin.delete_, run_underlying Try.underlying60, MapKept.run_getObj_map hb, law42.check w _ hkey, h1, MapKept.run_setObj_map _ hb, Result.andThen, setBlock]
    · have := F.size
      have h4 : (es.eraseIdxIfInBounds j).size = (es.toList.eraseIdx j).length := by rw [← hl, Array.length_toList]
      rw [h4]
      have := List.length_eraseIdx_le es.toList j
      simp at this
      omega
    · intro x hx
      rw [hl] at hx
      exact F.reads x (List.mem_of_mem_eraseIdx hx)
    · rw [hl, Go.ChangeMaps.map_eraseIdx, hM, delM_at hnd (n := p.2) hp, Go.ChangeMaps.map_eraseIdx]
end Go.Proofs.Ytoknlpecbdlbfaa.PL
