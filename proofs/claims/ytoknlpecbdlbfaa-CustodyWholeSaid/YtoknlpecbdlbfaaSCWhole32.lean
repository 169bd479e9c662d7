/- Part 32 of the proof's texts: what the theorem needs of them. -/
import Derived.Test.YtoknlpecbdlbfaaSCWhole30
import Derived.StringKeys
import Derived.Test.YtoknlpecbdlbfaaSCWhole31
import Derived.Test.YtoknlpecbdlbfaaSCWhole16
import Derived.WalkKit
import Derived.ProofKit
import Derived.Deep.RegionWith
import Derived.Orders
import Derived.RegionTactic

-- A map of things in memory.
namespace Go.Proofs.Ytoknlpecbdlbfaa.PL
open Go.RowKit Go.Maps Go.MapKept
open Go.ChangeMaps (setBlock)
open Go.WideElems (Fit rd rd_mk rd_key rd_val other_key)
theorem law9 : Keyed Try.prog 9 := Keyed.of_law (Go.WideMaps.string_law Try.underlying9)
/-- A thing's value. -/
def ks (s : ByteArray) : Value := .string s
theorem ks_inj {a b : ByteArray} (h : ks a = ks b) : a = b := by
  injection h
theorem keyOf_ks {a : ByteArray} (h : a.size ≤ maxLen) : ∃ l, keyOf Try.prog 9 (ks a) = some l := by
  unfold ks
  exact ⟨_, Go.WideMaps.keyOf_string_mk Try.underlying9 h⟩
instance memDec (a : ByteArray) (l : List ByteArray) : Decidable (a ∈ l) := decidable_of_iff (∃ x ∈ l, x = a) ⟨fun ⟨_, h, e⟩ => e ▸ h, fun h => ⟨a, h, rfl⟩⟩
/-- What a thing has; a store: over the list of the map's entries. -/
def getT : List (ByteArray × Int) → ByteArray → Int
  | [], _ => 0
  | p :: r, a => if p.1 = a then p.2 else getT r a
def setT (M : List (ByteArray × Int)) (a : ByteArray) (n : Int) : List (ByteArray × Int) := if a ∈ M.map Prod.fst then M.map (fun p => if p.1 = a then (a, n) else p) else M ++ [(a, n)]
theorem getT_none {M : List (ByteArray × Int)} {a : ByteArray} (h : a ∉ M.map Prod.fst) : getT M a = 0 := by
  induction M with
  | nil => rfl
  | cons p r ih =>
    simp only [List.map_cons, List.mem_cons, not_or] at h
    unfold getT
    rw [if_neg (fun e => h.1 e.symm), ih h.2]
theorem getT_at {M : List (ByteArray × Int)} (hn : (M.map Prod.fst).Nodup) : ∀ {j : Nat} {a : ByteArray} {n : Int}, M[j]? = some (a, n) → getT M a = n := by
  induction M with
  | nil => intro j a n h; simp at h
  | cons p r ih =>
    intro j a n h
    simp only [List.map_cons, List.nodup_cons] at hn
    unfold getT
    cases j with
    | zero =>
      simp at h
      subst h
      rw [if_pos rfl]
    | succ j =>
      simp at h
      have hm : a ∈ r.map Prod.fst := List.mem_map.2 ⟨(a, n), List.mem_of_getElem? h, rfl⟩
      rw [if_neg (fun e => hn.1 (by rw [e]; exact hm)), ih hn.2 h]
theorem setT_at {M : List (ByteArray × Int)} (hn : (M.map Prod.fst).Nodup) {j : Nat} {a : ByteArray} {n m : Int} (h : M[j]? = some (a, n)) : setT M a m = M.set j (a, m) := by
  have hm : a ∈ M.map Prod.fst := List.mem_map.2 ⟨(a, n), List.mem_of_getElem? h, rfl⟩
  unfold setT
  rw [if_pos hm]
  clear hm
  induction M generalizing j with
  | nil => simp at h
  | cons p r ih =>
    simp only [List.map_cons, List.nodup_cons] at hn
    cases j with
    | zero =>
      simp at h
      subst h
      simp only [List.map_cons, if_true, List.set_cons_zero, List.cons.injEq, true_and]
      have : ∀ q ∈ r, (if q.1 = a then (a, m) else q) = q := by
        intro q hq
        rw [if_neg]
        intro e
        exact hn.1 (List.mem_map.2 ⟨q, hq, e⟩)
      rw [List.map_congr_left this]; simp
    | succ j =>
      simp at h
      have hm : a ∈ r.map Prod.fst := List.mem_map.2 ⟨(a, n), List.mem_of_getElem? h, rfl⟩
      rw [List.map_cons, if_neg (fun e => hn.1 (by rw [e]; exact hm)), List.set_cons_succ, ih hn.2 h]
/-- Block b holds the map M (in the order in which the entries lie). -/
def SM (w : World) (b : Nat) (M : List (ByteArray × Int)) : Prop :=
  ∃ es clock, w.heap[b]? = some (.map es clock) ∧ Fit (H := Unit) Try.prog 9 (plainElem Try.prog 3) es clock ∧ es.toList.map (fun e => (e.key, e.val)) = M.map (fun p => (ks p.1, Value.int .i64 p.2))
theorem SM.lt {w : World} {b : Nat} {M : List (ByteArray × Int)} (h : SM w b M) : b < w.heap.size := by
  obtain ⟨es, clock, hb, _⟩ := h
  exact (Array.getElem?_eq_some_iff.1 hb).1
theorem SM.move {w w' : World} {b : Nat} {M : List (ByteArray × Int)} (h : SM w b M) (hm : w'.heap[b]? = w.heap[b]?) : SM w' b M := by
  obtain ⟨es, clock, hb, rest⟩ := h
  exact ⟨es, clock, hm.trans hb, rest⟩
theorem SM.grown {w w' : World} {b : Nat} {M : List (ByteArray × Int)} {row : Option Nat} (h : SM w b M) (hg : w.grownBy w' row) (hr : some b ≠ row) : SM w' b M := h.move (hg.block b h.lt hr)
theorem SM.below {w w' : World} {b : Nat} {M : List (ByteArray × Int)} (h : SM w b M) (hb : Below w.heap.size w w') : SM w' b M := h.move (hb.block b h.lt)
theorem SM.get {es : Array MapEntry} {M : List (ByteArray × Int)} (hM : es.toList.map (fun e => (e.key, e.val)) = M.map (fun p => (ks p.1, Value.int .i64 p.2))) {j : Nat} {e : MapEntry} (h : es.toList[j]? = some e) : ∃ p, M[j]? = some p ∧ e.key = ks p.1 ∧ e.val = .int .i64 p.2 := by
  have h1 : (es.toList.map (fun e => (e.key, e.val)))[j]? = some (e.key, e.val) := by rw [List.getElem?_map, h]; rfl
  rw [hM, List.getElem?_map] at h1
  cases hp : M[j]? with
  | none => rw [hp] at h1; cases h1
  | some p =>
    rw [hp] at h1
    simp at h1
    exact ⟨p, rfl, h1.1.symm, h1.2.symm⟩
theorem SM.nodup_of {es : Array MapEntry} {clock : Nat} {M : List (ByteArray × Int)} (F : Fit (H := Unit) Try.prog 9 (plainElem Try.prog 3) es clock) (hM : es.toList.map (fun e => (e.key, e.val)) = M.map (fun p => (ks p.1, Value.int .i64 p.2))) : (M.map Prod.fst).Nodup := by
  have hn : es.toList.Pairwise (fun x y => x.key ≠ y.key) := ((stamped_iff es clock).1 F.stamped).2.2
  have h1 : (es.toList.map (fun e => (e.key, e.val))).Pairwise (fun x y => x.1 ≠ y.1) := List.pairwise_map.2 hn
  rw [hM] at h1
  exact List.pairwise_map.2 ((List.pairwise_map.1 h1).imp (fun hne e => hne (by show ks _ = ks _; rw [e])))
theorem SM.nodup {w : World} {b : Nat} {M : List (ByteArray × Int)} (h : SM w b M) : (M.map Prod.fst).Nodup := by
  obtain ⟨es, clock, hb, F, hM⟩ := h
  exact SM.nodup_of F hM
theorem SM.none_of {es : Array MapEntry} {M : List (ByteArray × Int)} {a : ByteArray} (hM : es.toList.map (fun e => (e.key, e.val)) = M.map (fun p => (ks p.1, Value.int .i64 p.2))) (h : ∀ e ∈ es.toList, e.key ≠ ks a) : a ∉ M.map Prod.fst := by
  intro hm
  obtain ⟨p, hp, rfl⟩ := List.mem_map.1 hm
  have : (ks p.1, Value.int .i64 p.2) ∈ es.toList.map (fun e => (e.key, e.val)) := by rw [hM]; exact List.mem_map.2 ⟨p, hp, rfl⟩
  obtain ⟨e, he, hee⟩ := List.mem_map.1 this
  exact h e he (by simp at hee; exact hee.1)
/-- x.m[a]. -/
theorem SM.lookup {w : World} {b : Nat} {M : List (ByteArray × Int)} (h : SM w b M) {a : ByteArray} (ha : a.size ≤ maxLen) : (Instr.lookup 40 (.map (some b)) (ks a) false).run Try.prog w = .ok (.int .i64 (getT M a)) w := by
  obtain ⟨es, clock, hb, F, hM⟩ := h
  obtain ⟨l, hkey⟩ := keyOf_ks ha
  have hn := SM.nodup_of F hM
  rcases law9.find w hkey es.toList F.keys with ⟨h1, h2⟩ | ⟨j, e0, h1, h2, h3⟩
  · rw [getT_none (SM.none_of hM h2)]
    simp [Instr.lookup, run_underlying Try.underlying40, MapKept.run_getObj_map hb, law9.check w _ hkey, h1, zero3 w, Result.andThen]
  · obtain ⟨p, hp, e1, e2⟩ := SM.get hM h2
    obtain rfl : p.1 = a := ks_inj (e1.symm.trans h3)
    rw [getT_at hn (n := p.2) hp]
    simp [Instr.lookup, run_underlying Try.underlying40, MapKept.run_getObj_map hb, law9.check w _ hkey, h1, e2, Result.andThen]
/-- x.m[a] = n. -/
theorem SM.store {w : World} {b : Nat} {M : List (ByteArray × Int)} (h : SM w b M) {a : ByteArray} (ha : a.size ≤ maxLen) {n : Int} (hn : (Lit.int .i64 n).wf = true) (hroom : M.length < maxLen) :
    ∃ w', (Instr.mapUpdate 40 (.map (some b)) (ks a) (.int .i64 n)).run Try.prog w = .ok () w' ∧ SM w' b (setT M a n) ∧ w.grownBy w' (some b) ∧ w'.heap.size = w.heap.size := by
  obtain ⟨es, clock, hb, F, hM⟩ := h
  obtain ⟨l, hkey⟩ := keyOf_ks ha
  have hnd := SM.nodup_of F hM
  have hlen : es.size = M.length := by have := congrArg List.length hM; simpa using this
  have hv : plainElem (H := Unit) Try.prog 3 (.int .i64 n) = some (.lit (.int .i64 n), []) := plainElem_int Try.underlying3 hn
  rcases law9.find w hkey es.toList F.keys with ⟨h1, h2⟩ | ⟨j, e0, h1, h2, h3⟩
  · refine ⟨setBlock w b (.map (es.push ⟨ks a, .int .i64 n, clock⟩) (clock + 1)), ?_, ⟨_, _, Go.ChangeMaps.heap_setBlock_same hb _, ⟨by simp; omega, stamped_push F.stamped h2, ?_⟩, ?_⟩, grown_setBlock hb, by simp [setBlock]⟩
    · simp [Instr.mapUpdate, run_underlying Try.underlying40, MapKept.run_getObj_map hb, law9.check w false hkey, h1, MapKept.run_setObj_map _ hb, Result.andThen, setBlock]
    · intro x hx
      simp only [Array.toList_push, List.mem_append, List.mem_singleton] at hx
      rcases hx with hx | rfl
      · exact F.reads x hx
      · exact ⟨_, rd_mk hkey hv⟩
    · unfold setT
      rw [if_neg (SM.none_of hM h2), Array.toList_push, List.map_append, List.map_append, hM]
      rfl
  · have hj : es[j]? = some e0 := by simpa using h2
    obtain ⟨p, hp, e1, e2⟩ := SM.get hM h2
    obtain rfl : p.1 = a := ks_inj (e1.symm.trans h3)
    have hkeyf : ∀ e', es[j]? = some e' → ({ e' with key := ks p.1, val := .int .i64 n } : MapEntry).key = e'.key := fun e' he' => by rw [hj] at he'; cases he'; exact h3.symm
    have hlist : (es.modify j (fun e' => { e' with key := ks p.1, val := .int .i64 n })).toList = es.toList.set j { e0 with key := ks p.1, val := .int .i64 n } := by rw [Array.toList_modify, Go.ChangeMaps.modify_eq_set _ _ _ _ h2]
    refine ⟨setBlock w b (.map (es.modify j (fun e' => { e' with key := ks p.1, val := .int .i64 n })) clock), ?_, ⟨_, _, Go.ChangeMaps.heap_setBlock_same hb _, ⟨by simpa using F.size, stamped_modify F.stamped _ _ (fun _ _ => rfl) (fun e' _ he' => hkeyf e' he'), ?_⟩, ?_⟩, grown_setBlock hb, by simp [setBlock]⟩
    · simp [Instr.mapUpdate, run_underlying Try.underlying40, MapKept.run_getObj_map hb, law9.check w false hkey, h1, hj, h3, law9.stays w hkey, MapKept.run_setObj_map _ hb, Result.andThen, setBlock]
    · intro x hx
      rw [hlist] at hx
      rcases List.mem_or_eq_of_mem_set hx with hx | rfl
      · exact F.reads x hx
      · exact ⟨_, rd_mk hkey hv⟩
    · rw [hlist, List.map_set, hM, setT_at hnd (n := p.2) hp, List.map_set]
end Go.Proofs.Ytoknlpecbdlbfaa.PL

-- Of each thing all accounts together have nothing: the plain law.
namespace Go.Proofs.Ytoknlpecbdlbfaa.PL
open Go Go.RowKit Go.Maps Go.Sort Go.Shelf Go.Proofs Go.Proofs.YtoknlpecbdlbfaaW.PrintWords Go.Proofs.YtoknlpecbdlbfaaW.PrintLast
/-- What all accounts together have of a thing. -/
def sumM (M : List (S42 × Int)) (t : ByteArray) : Int := (M.map (fun p => if p.1.f2 = t then p.2 else 0)).sum
def sumL (L : List S82) (t : ByteArray) : Int := (L.map (fun b => if b.f0.f2 = t then b.f1 else 0)).sum
theorem sumM_set {M : List (S42 × Int)} (hn : (M.map Prod.fst).Nodup) (a : S42) (n : Int) (t : ByteArray) : sumM (setM M a n) t = sumM M t + (if a.f2 = t then n - getM M a else 0) := by
  unfold setM
  by_cases h : a ∈ M.map Prod.fst
  · rw [if_pos h]
    induction M with
    | nil => simp at h
    | cons p r ih =>
      simp only [List.map_cons, List.nodup_cons] at hn
      by_cases e : p.1 = a
      · have hr : r.map (fun p => if p.1 = a then (a, n) else p) = r := by
          have : ∀ q ∈ r, (if q.1 = a then (a, n) else q) = q := by
            intro q hq
            rw [if_neg]
            intro e2
            exact hn.1 (by rw [e]; exact List.mem_map.2 ⟨q, hq, e2⟩)
          rw [List.map_congr_left this]; simp
        rw [List.map_cons, if_pos e, hr]
        unfold sumM getM
        rw [if_pos e]
        simp only [List.map_cons, List.sum_cons]
        rw [e]
        split <;> omega
      · have h' : a ∈ r.map Prod.fst := by
          rcases List.mem_cons.1 h with h | h
          · exact absurd h.symm e
          · exact h
        have := ih hn.2 h'
        rw [List.map_cons, if_neg e]
        unfold sumM at this ⊢
        have hg : getM (p :: r) a = getM r a := by
          show (if p.1 = a then p.2 else getM r a) = _
          rw [if_neg e]
        rw [List.map_cons, List.sum_cons, this, hg, List.map_cons, List.sum_cons]
        omega
  · rw [if_neg h, getM_none h]
    unfold sumM
    rw [List.map_append, List.sum_append]
    simp
theorem sumM_del {M : List (S42 × Int)} (hn : (M.map Prod.fst).Nodup) (a : S42) (t : ByteArray) : sumM (delM M a) t = sumM M t + (if a.f2 = t then 0 - getM M a else 0) := by
  by_cases h : a ∈ M.map Prod.fst
  · induction M with
    | nil => simp at h
    | cons p r ih =>
      simp only [List.map_cons, List.nodup_cons] at hn
      unfold delM
      by_cases e : p.1 = a
      · have hr : r.filter (fun p => !decide (p.1 = a)) = r := by
          refine List.filter_eq_self.2 (fun q hq => ?_)
          simp only [Bool.not_eq_true', decide_eq_false_iff_not]
          intro e2
          exact hn.1 (by rw [e]; exact List.mem_map.2 ⟨q, hq, e2⟩)
        rw [List.filter_cons, if_neg (by simp [e]), hr]
        unfold sumM getM
        rw [if_pos e]
        simp only [List.map_cons, List.sum_cons]
        rw [e]
        split <;> omega
      · have h' : a ∈ r.map Prod.fst := by
          rcases List.mem_cons.1 h with h | h
          · exact absurd h.symm e
          · exact h
        have := ih hn.2 h'
        unfold delM at this
        rw [List.filter_cons, if_pos (by simp [e])]
        unfold sumM at this ⊢
        have hg : getM (p :: r) a = getM r a := by
          show (if p.1 = a then p.2 else getM r a) = _
          rw [if_neg e]
        rw [List.map_cons, List.sum_cons, this, hg, List.map_cons, List.sum_cons]
        omega
  · rw [delM_none h, getM_none h]
    simp
theorem sumM_put {M : List (S42 × Int)} (hn : (M.map Prod.fst).Nodup) (a : S42) (n : Int) (t : ByteArray) : sumM (putM M a n) t = sumM M t + (if a.f2 = t then n - getM M a else 0) := by
  unfold putM
  split
  · rename_i e
    subst e
    exact sumM_del hn a t
  · exact sumM_set hn a n t
/-- What is known of every reached map: sums are nothing, and every account that has something is one. -/
structure Wh (M : List (S42 × Int)) : Prop where
  sum : ∀ t, sumM M t = 0
  good : ∀ a, getM M a ≠ 0 → goodI a = 0
theorem Wh.nil : Wh [] := ⟨fun _ => rfl, fun _ h => absurd rfl h⟩
theorem Wh.move {M : List (S42 × Int)} (h : Wh M) (hk : OkM M) (e : S107) : Wh (moveM M e).1 := by
  unfold moveM
  split
  · exact h
  · rename_i hck
    have hck' := check_good (Classical.not_not.1 hck)
    have hth : e.f0.f2 = e.f1.f2 := (toList_iff _ _).1 hck'.2.2.2.2
    split
    · exact h
    · split
      · exact h
      · split
        · refine ⟨fun t => ?_, fun a ha => ?_⟩
          · rw [sumM_put (hk.put _ _).nd, sumM_put hk.nd, getM_putM, if_pos rfl, h.sum]
            split <;> omega
          · rw [Eqv.back M e.f0 e.f2 a] at ha
            exact h.good a ha
        · refine ⟨fun t => ?_, fun a ha => ?_⟩
          · rw [sumM_put (hk.put _ _).nd, sumM_put hk.nd, h.sum, hth]
            split <;> omega
          · rw [getM_putM] at ha
            by_cases c1 : a = e.f1
            · rw [c1]; exact hck'.2.2.2.1
            · rw [if_neg c1, getM_putM] at ha
              by_cases c0 : a = e.f0
              · rw [c0]; exact hck'.2.2.1
              · rw [if_neg c0] at ha
                exact h.good a ha
theorem sum_perm {l l' : List Int} (h : l.Perm l') : l.sum = l'.sum := by
  induction h with
  | nil => rfl
  | cons x _ ih => rw [List.sum_cons, List.sum_cons, ih]
  | swap x y l => rw [List.sum_cons, List.sum_cons, List.sum_cons, List.sum_cons]; omega
  | trans _ _ h1 h2 => exact h1.trans h2
theorem rep_sum {M : List (S42 × Int)} {L : List S82} (h : Rep M L) (t : ByteArray) : sumL L t = sumM M t := by
  have h1 : (M.map (fun p => b82 p.1 p.2)).Perm L := by
    have h2 := rep_all h (ts := keysL L) (rep_keys h).symm (asc_keys h.up)
    have h3 : (M.map (fun p => b82 p.1 p.2)) = (M.map Prod.fst).map (fun a => b82 a (getM M a)) := by
      rw [List.map_map]
      refine List.map_congr_left (fun p hp => ?_)
      obtain ⟨j, hj, e⟩ := List.getElem_of_mem hp
      show b82 p.1 p.2 = b82 p.1 (getM M p.1)
      rw [getM_at h.ok.nd (j := j) (a := p.1) (n := p.2) (by rw [List.getElem?_eq_getElem hj, e])]
    rw [h3]
    conv => rhs; rw [← h2]
    exact (rep_keys h).map _
  unfold sumL sumM
  rw [← sum_perm (h1.map (fun b : S82 => if b.f0.f2 = t then b.f1 else 0)), List.map_map]
  rfl
/-- The same for the undone: it has what it had. -/
theorem Wh.of {M M' : List (S42 × Int)} {L : List S82} (h : Wh M) (hr : Rep M L) (hr' : Rep M' L) : Wh M' :=
  ⟨fun t => by rw [← rep_sum hr', rep_sum hr, h.sum], fun a ha => h.good a (by rw [hr.same, ← hr'.same]; exact ha)⟩
theorem fin_Wh : ∀ (l : List S107) (M : List (S42 × Int)), Wh M → OkM M → Wh (fin M l)
  | [], _, h, _ => h
  | e :: r, M, h, hk => fin_Wh r _ (h.move hk e) (hk.move e)
theorem Wh.post {M : List (S42 × Int)} {L : List S82} (h : Wh M) (hr : Rep M L) (hB : BM M) (l : List S107) : Wh (postL [] M l).1 := by
  obtain ⟨e1, e2, e3, e4⟩ := rep_post0 hr hB l
  by_cases c : (postL [] M l).2.2 = 0
  · rw [(post_allOk l [] M c).2]
    exact fin_Wh l M h hr.ok
  · rw [e2] at c
    rw [pst_fail l L 0 L c] at e3
    exact h.of hr e3
theorem wrap64_add (a b : Int) : wrap64 (wrap64 a + b) = wrap64 (a + b) := by
  unfold wrap64
  omega
end Go.Proofs.Ytoknlpecbdlbfaa.PL

-- Custody: both sides alike, plain.
namespace Go.Proofs.Ytoknlpecbdlbfaa.PL
open Go Go.RowKit Go.Maps Go.Sort Go.Shelf Go.Proofs Go.Proofs.YtoknlpecbdlbfaaW.PrintWords Go.Proofs.YtoknlpecbdlbfaaW.PrintLast
/-- The document's Bring. -/
def brR (L : List S82) (m : Int) (t : ByteArray) (q : Int) : List S82 × Int := if wrB m 1 = true then (L, 22) else if q < -1125899906842624 then (L, 1) else ((pstL L 0 L [brE m t q]).1, (pstL L 0 L [brE m t q]).2.2)
/-- The document's Move. -/
def cmR (L : List S82) (X : List S125) : List S82 × Int × Int := match fbL 0 X with
  | some i => (L, i, 22)
  | none => pstL L 0 L (X.map lnE)
theorem cmR_bad {L : List S82} {X : List S125} {i : Nat} (h : fbL 0 X = some i) : cmR L X = (L, (i : Int), 22) := by
  unfold cmR
  rw [h]
theorem cmR_ok {L : List S82} {X : List S125} (h : fbL 0 X = none) : cmR L X = pstL L 0 L (X.map lnE) := by
  unfold cmR
  rw [h]
theorem St.br {M : List (S42 × Int)} {L : List S82} (h : St M L) (m : Int) (t : ByteArray) (q : Int) : St (brL M m t q).1 (brR L m t q).1 ∧ (brL M m t q).2 = (brR L m t q).2 := by
  unfold brL brR
  split
  · exact ⟨h, rfl⟩
  · split
    · exact ⟨h, rfl⟩
    · exact ⟨h.post _, (rep_post0 h.rep h.bm _).2.1⟩
theorem St.cm {M : List (S42 × Int)} {L : List S82} (h : St M L) (X : List S125) : St (cmL M X).1 (cmR L X).1 ∧ (cmL M X).2.1 = (cmR L X).2.1 ∧ (cmL M X).2.2 = (cmR L X).2.2 := by
  cases hf : fbL 0 X with
  | some i =>
    rw [cmL_bad hf, cmR_bad hf]
    exact ⟨h, rfl, rfl⟩
  | none =>
    rw [cmL_ok hf, cmR_ok hf]
    obtain ⟨e1, e2, _, _⟩ := rep_post0 h.rep h.bm (X.map lnE)
    exact ⟨h.post _, e1, e2⟩
theorem Wh.br {M : List (S42 × Int)} {L : List S82} (h : St M L) (hw : Wh M) (m : Int) (t : ByteArray) (q : Int) : Wh (brL M m t q).1 := by
  unfold brL
  split
  · exact hw
  · split
    · exact hw
    · exact hw.post h.rep h.bm _
theorem Wh.cm {M : List (S42 × Int)} {L : List S82} (h : St M L) (hw : Wh M) (X : List S125) : Wh (cmL M X).1 := by
  cases hf : fbL 0 X with
  | some i =>
    rw [cmL_bad hf]
    exact hw
  | none =>
    rw [cmL_ok hf]
    exact hw.post h.rep h.bm _
theorem length_brR (L : List S82) (m : Int) (t : ByteArray) (q : Int) : (brR L m t q).1.length ≤ L.length + 2 := by
  unfold brR
  split
  · simp
  · split
    · simp
    · exact length_pstL _ L 0 L _ (by omega) (by simp)
theorem length_cmR (L : List S82) (X : List S125) : (cmR L X).1.length ≤ L.length + 2 * X.length := by
  cases hf : fbL 0 X with
  | some i =>
    rw [cmR_bad hf]
    simp
  | none =>
    rw [cmR_ok hf]
    exact length_pstL _ L 0 L _ (by omega) (by rw [List.length_map]; omega)
end Go.Proofs.Ytoknlpecbdlbfaa.PL

-- Custody, the document: Move, walked.
namespace Go.Proofs.Ytoknlpecbdlbfaa.PL
open Go Go.RowKit Go.Maps Go.Sort Go.Shelf Go.Proofs Go.Proofs.YtoknlpecbdlbfaaW.PrintWords Go.Proofs.YtoknlpecbdlbfaaW.PrintLast
theorem cellA {W : World} {k : Nat} {cs : Array Value} {t : TypeId} {f : Nat × Nat} (h : W.heap[k]? = some (.cells cs t f)) (i : Nat) : W.cell? ⟨k, i, none⟩ = cs[i]? := by
  unfold World.cell?
  rw [h]
  rfl
/-- A line's cells. -/
def L6 (ad : Addr) (k : Nat) (a0 a1 a2 a3 : Int) (a4 : ByteArray) (a5 : Int) (W : World) : Prop := W.cell? (ad.add (k * 6)) = some (.int .i64 a0) ∧ W.cell? ⟨(ad.add (k * 6)).block, (ad.add (k * 6)).off + 1, none⟩ = some (.int .i64 a1) ∧ W.cell? ⟨(ad.add (k * 6)).block, (ad.add (k * 6)).off + 2, none⟩ = some (.int .i64 a2) ∧ W.cell? ⟨(ad.add (k * 6)).block, (ad.add (k * 6)).off + 3, none⟩ = some (.int .i64 a3) ∧ W.cell? ⟨(ad.add (k * 6)).block, (ad.add (k * 6)).off + 4, none⟩ = some (.string a4) ∧ W.cell? ⟨(ad.add (k * 6)).block, (ad.add (k * 6)).off + 5, none⟩ = some (.int .i64 a5)
theorem L6.below {ad : Addr} {k : Nat} {a0 a1 a2 a3 : Int} {a4 : ByteArray} {a5 : Int} {W W' : World} (h : L6 ad k a0 a1 a2 a3 a4 a5 W) (hb : Below W.heap.size W W') : L6 ad k a0 a1 a2 a3 a4 a5 W' :=
  ⟨cell_keep hb h.1, cell_keep hb h.2.1, cell_keep hb h.2.2.1, cell_keep hb h.2.2.2.1, cell_keep hb h.2.2.2.2.1, cell_keep hb h.2.2.2.2.2⟩
end Go.Proofs.Ytoknlpecbdlbfaa.PL

-- Custody, the document: Shift and Trade, walked. (printed by genTC.py)
namespace Go.Proofs.Ytoknlpecbdlbfaa.PL
open Go Go.RowKit Go.Maps Go.Sort Go.Shelf Go.Proofs Go.Proofs.YtoknlpecbdlbfaaW.PrintWords Go.Proofs.YtoknlpecbdlbfaaW.PrintLast
/-- A lot's cells. -/
def L2 (ad : Addr) (k : Nat) (a0 : ByteArray) (a1 : Int) (W : World) : Prop := W.cell? (ad.add (k * 2)) = some (.string a0) ∧ W.cell? ⟨(ad.add (k * 2)).block, (ad.add (k * 2)).off + 1, none⟩ = some (.int .i64 a1)
theorem L2.below {ad : Addr} {k : Nat} {a0 : ByteArray} {a1 : Int} {W W' : World} (h : L2 ad k a0 a1 W) (hb : Below W.heap.size W W') : L2 ad k a0 a1 W' :=
  ⟨cell_keep hb h.1, cell_keep hb h.2⟩
end Go.Proofs.Ytoknlpecbdlbfaa.PL

/- An act, as a row of eight cells. -/
namespace Go.Proofs.Ytoknlpecbdlbfaa.PL
open Go Go.RowKit Go.Proofs Go.Proofs.YtoknlpecbdlbfaaW.PrintWords Go.Proofs.YtoknlpecbdlbfaaW.PrintLast
structure S72 where
  f0 : Int
  f1 : Int
  f2 : Int
  f3 : Int
  f4 : ByteArray
  f5 : Int
  f6 : List S131
  f7 : List S79
def z72 : S72 := ⟨0, 0, 0, 0, (⟨#[]⟩ : ByteArray), 0, [], []⟩
def k72 : Kd S72 := Kd.iso (Kd.pair (Kd.int .i64) (Kd.pair (Kd.int .i64) (Kd.pair (Kd.int .i64) (Kd.pair (Kd.int .i64) (Kd.pair Kd.string (Kd.pair (Kd.int .i64) (Kd.pair (Kd.slice 131 k131) (Kd.slice 79 k79)))))))) (fun x : S72 => (x.f0, x.f1, x.f2, x.f3, x.f4, x.f5, x.f6, x.f7))
theorem k72_open {w : World} {x : S72} {cs : List Value} (h : k72.K w x cs) : ∃ (A : Option Addr) (c : Nat) (B : Option Addr) (d : Nat), cs = [.int .i64 x.f0, .int .i64 x.f1, .int .i64 x.f2, .int .i64 x.f3, .string x.f4, .int .i64 x.f5, .slice A x.f6.length c, .slice B x.f7.length d] ∧ x.f6.length ≤ c ∧ k131.C w A x.f6.length x.f6 ∧ x.f7.length ≤ d ∧ k79.C w B x.f7.length x.f7 := by
  obtain ⟨_, _, rfl, rfl, ⟨_, _, rfl, rfl, ⟨_, _, rfl, rfl, ⟨_, _, rfl, rfl, ⟨_, _, rfl, rfl, ⟨_, _, rfl, rfl, ⟨_, _, rfl, ⟨A, c, rfl, l1, g1⟩, ⟨B, d, rfl, l2, g2⟩⟩⟩⟩⟩⟩⟩⟩ := h
  exact ⟨A, c, B, d, rfl, l1, g1, l2, g2⟩
theorem k72_mk {w : World} (x : S72) {A : Option Addr} {c : Nat} {B : Option Addr} {d : Nat} (l1 : x.f6.length ≤ c) (g1 : k131.C w A x.f6.length x.f6) (l2 : x.f7.length ≤ d) (g2 : k79.C w B x.f7.length x.f7) :
    k72.K w x [.int .i64 x.f0, .int .i64 x.f1, .int .i64 x.f2, .int .i64 x.f3, .string x.f4, .int .i64 x.f5, .slice A x.f6.length c, .slice B x.f7.length d] :=
  ⟨[_], _, rfl, rfl, ⟨[_], _, rfl, rfl, ⟨[_], _, rfl, rfl, ⟨[_], _, rfl, rfl, ⟨[_], _, rfl, rfl, ⟨[_], _, rfl, rfl, ⟨[_], [_], rfl, ⟨A, c, rfl, l1, g1⟩, ⟨B, d, rfl, l2, g2⟩⟩⟩⟩⟩⟩⟩⟩
def rd_T72 (xs : List S72) (i : Int) : S72 := xs.getD i.toNat z72
theorem at_T72 {w : World} {A : Option Addr} {n : Nat} {xs : List S72} (h : Kd.C k72 w A n xs) (i : Int) (h0 : 0 ≤ i) (h1 : i < n) : ∃ (ad : Addr) (A6 : Option Addr) (c6 : Nat) (A7 : Option Addr) (c7 : Nat), A = some ad ∧
    w.cell? (ad.add (i.toNat * 8)) = some (.int .i64 (rd_T72 xs i).f0) ∧ w.cell? ⟨(ad.add (i.toNat * 8)).block, (ad.add (i.toNat * 8)).off + 1, none⟩ = some (.int .i64 (rd_T72 xs i).f1) ∧ w.cell? ⟨(ad.add (i.toNat * 8)).block, (ad.add (i.toNat * 8)).off + 2, none⟩ = some (.int .i64 (rd_T72 xs i).f2) ∧ w.cell? ⟨(ad.add (i.toNat * 8)).block, (ad.add (i.toNat * 8)).off + 3, none⟩ = some (.int .i64 (rd_T72 xs i).f3) ∧ w.cell? ⟨(ad.add (i.toNat * 8)).block, (ad.add (i.toNat * 8)).off + 4, none⟩ = some (.string (rd_T72 xs i).f4) ∧ w.cell? ⟨(ad.add (i.toNat * 8)).block, (ad.add (i.toNat * 8)).off + 5, none⟩ = some (.int .i64 (rd_T72 xs i).f5) ∧ w.cell? ⟨(ad.add (i.toNat * 8)).block, (ad.add (i.toNat * 8)).off + 6, none⟩ = some (.slice A6 (rd_T72 xs i).f6.length c6) ∧ w.cell? ⟨(ad.add (i.toNat * 8)).block, (ad.add (i.toNat * 8)).off + 7, none⟩ = some (.slice A7 (rd_T72 xs i).f7.length c7) ∧
    ((rd_T72 xs i).f6.length ≤ c6 ∧ k131.C w A6 (rd_T72 xs i).f6.length (rd_T72 xs i).f6 ∧ (rd_T72 xs i).f7.length ≤ c7 ∧ k79.C w A7 (rd_T72 xs i).f7.length (rd_T72 xs i).f7) := by
  obtain ⟨ad, c, e, _, hK, hc0⟩ := Kd.C_get h z72 i h0 h1
  have hc : ∀ j u, c[j]? = some u → w.cell? (ad.add (i.toNat * 8 + j)) = some u := hc0
  obtain ⟨A6, c6, A7, c7, rfl, g⟩ := k72_open hK
  exact ⟨ad, A6, c6, A7, c7, e, hc 0 _ rfl, by rw [← add_field _ _ 1 (by omega)]; exact hc 1 _ rfl, by rw [← add_field _ _ 2 (by omega)]; exact hc 2 _ rfl, by rw [← add_field _ _ 3 (by omega)]; exact hc 3 _ rfl, by rw [← add_field _ _ 4 (by omega)]; exact hc 4 _ rfl, by rw [← add_field _ _ 5 (by omega)]; exact hc 5 _ rfl, by rw [← add_field _ _ 6 (by omega)]; exact hc 6 _ rfl, by rw [← add_field _ _ 7 (by omega)]; exact hc 7 _ rfl, g⟩
end Go.Proofs.Ytoknlpecbdlbfaa.PL

/- Acts on both sides, and what stays as it is: plain. -/
namespace Go.Proofs.Ytoknlpecbdlbfaa.PL
open Go Go.RowKit Go.Maps Go.Sort Go.Shelf Go.Proofs Go.Proofs.YtoknlpecbdlbfaaW.PrintWords Go.Proofs.YtoknlpecbdlbfaaW.PrintLast
/-- What an act does on the program's side. -/
def actM (M : List (S42 × Int)) (x : S72) : List (S42 × Int) × Int × Int :=
  if x.f0 = 0 then ((brL M x.f1 x.f4 x.f5).1, 0, (brL M x.f1 x.f4 x.f5).2)
  else if x.f0 = 1 then cmL M (x.f6.map toLn)
  else if x.f0 = 2 then cmL M (shX x.f1 x.f2 x.f3 x.f7)
  else cmL M (trX x.f1 x.f2 x.f7 x.f4 x.f5)
/-- What it does on the document's. -/
def actL (L : List S82) (x : S72) : List S82 × Int × Int :=
  if x.f0 = 0 then ((brR L x.f1 x.f4 x.f5).1, 0, (brR L x.f1 x.f4 x.f5).2)
  else if x.f0 = 1 then cmR L (x.f6.map toLn)
  else if x.f0 = 2 then cmR L (shX x.f1 x.f2 x.f3 x.f7)
  else cmR L (trX x.f1 x.f2 x.f7 x.f4 x.f5)
theorem St.act {M : List (S42 × Int)} {L : List S82} (h : St M L) (x : S72) : St (actM M x).1 (actL L x).1 ∧ (actM M x).2.1 = (actL L x).2.1 ∧ (actM M x).2.2 = (actL L x).2.2 := by
  unfold actM actL
  split
  · exact ⟨(h.br _ _ _).1, rfl, (h.br _ _ _).2⟩
  · split
    · exact h.cm _
    · split
      · exact h.cm _
      · exact h.cm _
theorem length_actL (L : List S82) (x : S72) (h6 : x.f6.length ≤ 40) (h7 : x.f7.length ≤ 40) : (actL L x).1.length ≤ L.length + 82 := by
  unfold actL
  split
  · have := length_brR L x.f1 x.f4 x.f5
    show (brR L x.f1 x.f4 x.f5).1.length ≤ _
    omega
  · split
    · have := length_cmR L (x.f6.map toLn)
      rw [List.length_map] at this
      omega
    · split
      · have := length_cmR L (shX x.f1 x.f2 x.f3 x.f7)
        unfold shX at this ⊢
        rw [List.length_map] at this
        omega
      · have := length_cmR L (trX x.f1 x.f2 x.f7 x.f4 x.f5)
        have e : (trX x.f1 x.f2 x.f7 x.f4 x.f5).length = x.f7.length + 1 := by unfold trX; simp
        omega
/-- The accounts that a custody has. -/
def okAc (a : S42) : Prop := (a.f0 = 0 ∧ a.f1 = 0) ∨ (1 ≤ a.f0 ∧ a.f0 ≤ 32 ∧ 1 ≤ a.f1 ∧ a.f1 ≤ 4)
theorem wrB_ok {m b : Int} (h : wrB m b = false) : 1 ≤ m ∧ m ≤ 32 ∧ 1 ≤ b ∧ b ≤ 4 := by
  unfold wrB at h
  have := of_decide_eq_false h
  omega
/-- All that has something is such an account. -/
def Bk (M : List (S42 × Int)) : Prop := ∀ a, getM M a ≠ 0 → okAc a
theorem Bk.nil : Bk [] := fun _ h => absurd rfl h
theorem Bk.fin : ∀ (l : List S107) (M : List (S42 × Int)), Bk M → allOk M l → (∀ e ∈ l, okAc e.f0 ∧ okAc e.f1) → Bk (fin M l)
  | [], _, h, _, _ => h
  | e :: r, M, h, ho, hl => by
    refine Bk.fin r (moveM M e).1 ?_ ho.2 (fun e' he => hl e' (List.mem_cons_of_mem _ he))
    intro a ha
    rw [getM_move ho.1] at ha
    obtain ⟨o1, o2⟩ := hl e List.mem_cons_self
    by_cases h1 : a = e.f1
    · exact h1 ▸ o2
    · rw [if_neg h1] at ha
      by_cases h2 : a = e.f0
      · exact h2 ▸ o1
      · rw [if_neg h2] at ha
        exact h a ha
theorem Bk.post {M : List (S42 × Int)} {L : List S82} (h : St M L) (hb : Bk M) (l : List S107) (hl : ∀ e ∈ l, okAc e.f0 ∧ okAc e.f1) : Bk (postL [] M l).1 := by
  by_cases c : (postL [] M l).2.2 = 0
  · obtain ⟨h1, h2⟩ := post_allOk l [] M c
    rw [h2]
    exact Bk.fin l M hb h1 hl
  · intro a ha
    rw [(h.fail l c).same] at ha
    exact hb a (by rw [h.rep.same]; exact ha)
theorem fb_all : ∀ (X : List S125) (i : Nat), fbL i X = none → ∀ x ∈ X, wrB x.f0 x.f1 = false ∧ wrB x.f2 x.f3 = false
  | [], _, _, _, hx => by cases hx
  | y :: r, i, h, x, hx => by
    unfold fbL at h
    split at h
    · cases h
    · rename_i hn
      rcases List.mem_cons.1 hx with rfl | hx
      · constructor
        · cases hw : wrB x.f0 x.f1 with
          | false => rfl
          | true => exact absurd (.inl hw) hn
        · cases hw : wrB x.f2 x.f3 with
          | false => rfl
          | true => exact absurd (.inr hw) hn
      · exact fb_all r (i + 1) h x hx
theorem ok_lnE {X : List S125} (h : fbL 0 X = none) : ∀ e ∈ X.map lnE, okAc e.f0 ∧ okAc e.f1 := by
  intro e he
  obtain ⟨x, hx, rfl⟩ := List.mem_map.1 he
  obtain ⟨h1, h2⟩ := fb_all X 0 h x hx
  exact ⟨.inr (wrB_ok h1), .inr (wrB_ok h2)⟩
theorem Bk.br {M : List (S42 × Int)} {L : List S82} (h : St M L) (hb : Bk M) (m : Int) (t : ByteArray) (q : Int) : Bk (brL M m t q).1 := by
  unfold brL
  split
  · exact hb
  · rename_i hw
    split
    · exact hb
    · refine hb.post h _ ?_
      have hw' : wrB m 1 = false := by simpa using hw
      have := wrB_ok hw'
      intro e he
      obtain rfl := List.mem_singleton.1 he
      unfold brE
      split
      · exact ⟨.inr this, .inl ⟨rfl, rfl⟩⟩
      · exact ⟨.inl ⟨rfl, rfl⟩, .inr this⟩
theorem Bk.cm {M : List (S42 × Int)} {L : List S82} (h : St M L) (hb : Bk M) (X : List S125) : Bk (cmL M X).1 := by
  cases hf : fbL 0 X with
  | some i =>
    rw [cmL_bad hf]
    exact hb
  | none =>
    rw [cmL_ok hf]
    exact hb.post h _ (ok_lnE hf)
/-- What holds of a custody, whatever is done. -/
structure Iv (M : List (S42 × Int)) (L : List S82) : Prop where
  st : St M L
  wh : Wh M
  bk : Bk M
theorem Iv.nil : Iv [] [] := ⟨St.nil, Wh.nil, Bk.nil⟩
theorem Iv.act {M : List (S42 × Int)} {L : List S82} (h : Iv M L) (x : S72) : Iv (actM M x).1 (actL L x).1 := by
  refine ⟨(h.st.act x).1, ?_, ?_⟩
  · unfold actM
    split
    · exact h.wh.br h.st _ _ _
    · split
      · exact h.wh.cm h.st _
      · split
        · exact h.wh.cm h.st _
        · exact h.wh.cm h.st _
  · unfold actM
    split
    · exact h.bk.br h.st _ _ _
    · split
      · exact h.bk.cm h.st _
      · split
        · exact h.bk.cm h.st _
        · exact h.bk.cm h.st _
/-! Once. -/
end Go.Proofs.Ytoknlpecbdlbfaa.PL

-- Custody: does, walked. (printed by genTD.py)
namespace Go.Proofs.Ytoknlpecbdlbfaa.PL
open Go Go.RowKit Go.Maps Go.Sort Go.Shelf Go.Proofs Go.Proofs.YtoknlpecbdlbfaaW.PrintWords Go.Proofs.YtoknlpecbdlbfaaW.PrintLast
theorem cshift_any {w : World} {p g b : Nat} {M : List (S42 × Int)} (h : CU w p g b M) (hB : BM M) (hm : M.length ≤ 1000000000) (m fr tq : Int) (A : Option Addr) (c : Nat) (T : List S79) (hr : Kd.C k79 w A T.length T) (hT : T.length ≤ 1000) :
    Calls Try.prog 45 #[.pointer (some ⟨p, 0, none⟩), .int .i64 m, .int .i64 fr, .int .i64 tq, .slice A T.length c] w fun e w' => e = .returned (.tuple #[.int .i64 (cmL M (shX m fr tq T)).2.1, .int .i64 (cmL M (shX m fr tq T)).2.2]) ∧ Hid (CU w' p g b (cmL M (shX m fr tq T)).1 ∧ w.grownBy w' (some b)) := by
  refine shift_walk (.pointer (some ⟨p, 0, none⟩)) m fr tq (cmL M (shX m fr tq T)).2.1 (cmL M (shX m fr tq T)).2.2 A c T hr (by omega) (fun w' => Hid (CU w' p g b (cmL M (shX m fr tq T)).1 ∧ w.grownBy w' (some b))) ?_
  intro W A5 c5 hb hC
  refine (cmove_any (h.below hb) hB hm A5 c5 _ hC (by unfold shX; rw [List.length_map]; omega)).mono ?_
  rintro e w' ⟨he, H5⟩
  exact ⟨he, ⟨H5.out.1, (below_grown hb).andThen H5.out.2 (fun _ hj => .inr hj)⟩⟩
/-- A store into a cell that holds a slice leaves balances as they are. -/
theorem C82_other {w w' : World} {q : Nat} {A0 : Option Addr} {n0 c0 : Nat} {t : TypeId} {A : Option Addr} {n : Nat} {l : List S82} (h : Kd.C k82 w A n l) (hg : w.grownBy w' (some q)) (hq : w.heap[q]? = some (.cells #[.slice A0 n0 c0] t (0, 0))) : Kd.C k82 w' A n l := by
  refine ⟨h.1, h.2.1, fun hn => ?_⟩
  obtain ⟨ad, e, hc⟩ := h.2.2 hn
  refine ⟨ad, e, fun j p hp => ?_⟩
  obtain ⟨cs, h1, h2, h3⟩ := hc j p hp
  obtain rfl := k82_open h2
  refine ⟨_, h1, k82_mk _ _, fun i u hu => ?_⟩
  have h4 := h3 i u hu
  have hne : (ad.add (j * k82.sz + i)).block ≠ q := by
    intro e
    have h6 : u = .slice A0 n0 c0 := by
      unfold World.cell? at h4
      rw [e, hq] at h4
      simp only at h4
      split at h4
      · cases h4
      · obtain ⟨h7, h8⟩ := Array.getElem?_eq_some_iff.1 h4
        rw [← h8]
        have h9 : (ad.add (j * k82.sz + i)).off = 0 := by simp at h7; omega
        simp [h9]
    rw [h6] at hu
    rcases i with _ | _ | _ | _ | i <;> simp at hu
  exact (World.cell?_of_block (hg.block _ (World.block_lt_of_cell? w _ h4) (by simpa using hne))).trans h4
/-- What stands in memory at an act: the custody, the document's list, the act's own cells. -/
structure DZ (p g b lp G : Nat) (f0 f1 f2 f3 : Int) (f4 : ByteArray) (f5 : Int) (X : List S131) (T : List S79) (A6 : Option Addr) (c6 : Nat) (A7 : Option Addr) (c7 : Nat) (M : List (S42 × Int)) (L : List S82) (A : Option Addr) (c : Nat) (W : World) : Prop where
  cu : CU W p g b M
  blk : W.heap[lp]? = some (.cells #[.slice A L.length c] 27 (0, 0))
  bx : W.heap[G]? = some (.cells #[.int .i64 f0, .int .i64 f1, .int .i64 f2, .int .i64 f3, .string f4, .int .i64 f5, .slice A6 X.length c6, .slice A7 T.length c7] 72 (0, 0))
  hC : Kd.C k82 W A L.length L
  k6 : k131.C W A6 X.length X
  k7 : k79.C W A7 T.length T
/-- The cells that an act reads. -/
def DC (lp G : Nat) (f0 f1 f2 f3 : Int) (f4 : ByteArray) (f5 : Int) (n6 n7 : Nat) (A6 : Option Addr) (c6 : Nat) (A7 : Option Addr) (c7 n : Nat) (A : Option Addr) (c : Nat) (W : World) : Prop :=
  W.cell? ⟨lp, 0, none⟩ = some (.slice A n c) ∧ W.frozen? ⟨lp, 0, none⟩ = false ∧ W.cell? ⟨G, 0, none⟩ = some (.int .i64 f0) ∧ W.cell? ⟨G, 1, none⟩ = some (.int .i64 f1) ∧ W.cell? ⟨G, 2, none⟩ = some (.int .i64 f2) ∧ W.cell? ⟨G, 3, none⟩ = some (.int .i64 f3) ∧ W.cell? ⟨G, 4, none⟩ = some (.string f4) ∧ W.cell? ⟨G, 5, none⟩ = some (.int .i64 f5) ∧ W.cell? ⟨G, 6, none⟩ = some (.slice A6 n6 c6) ∧ W.cell? ⟨G, 7, none⟩ = some (.slice A7 n7 c7)
section
variable {p g b lp G : Nat} {f0 f1 f2 f3 : Int} {f4 : ByteArray} {f5 : Int} {X : List S131} {T : List S79} {A6 : Option Addr} {c6 : Nat} {A7 : Option Addr} {c7 : Nat} {M : List (S42 × Int)} {L : List S82} {A : Option Addr} {c : Nat} {W W' : World}
theorem DZ.below (h : DZ p g b lp G f0 f1 f2 f3 f4 f5 X T A6 c6 A7 c7 M L A c W) (hb : Below W.heap.size W W') : DZ p g b lp G f0 f1 f2 f3 f4 f5 X T A6 c6 A7 c7 M L A c W' :=
  ⟨h.cu.below hb, (hb.block _ (Array.getElem?_eq_some_iff.1 h.blk).1).trans h.blk, (hb.block _ (Array.getElem?_eq_some_iff.1 h.bx).1).trans h.bx, Kd.C_below h.hC hb, Kd.C_below h.k6 hb, Kd.C_below h.k7 hb⟩
theorem DZ.cells (h : DZ p g b lp G f0 f1 f2 f3 f4 f5 X T A6 c6 A7 c7 M L A c W) : DC lp G f0 f1 f2 f3 f4 f5 X.length T.length A6 c6 A7 c7 L.length A c W :=
  ⟨cell_of_one h.blk, free_of_one h.blk, cellA h.bx 0, cellA h.bx 1, cellA h.bx 2, cellA h.bx 3, cellA h.bx 4, cellA h.bx 5, cellA h.bx 6, cellA h.bx 7⟩
theorem DZ.hold (h : DZ p g b lp G f0 f1 f2 f3 f4 f5 X T A6 c6 A7 c7 M L A c W) {w : World} (hb : Below w.heap.size w W) : W.cell? ⟨lp, 0, none⟩ = some (.slice A L.length c) ∧ W.frozen? ⟨lp, 0, none⟩ = false ∧ W.cell? ⟨G, 0, none⟩ = some (.int .i64 f0) ∧ W.cell? ⟨G, 1, none⟩ = some (.int .i64 f1) ∧ W.cell? ⟨G, 2, none⟩ = some (.int .i64 f2) ∧ W.cell? ⟨G, 3, none⟩ = some (.int .i64 f3) ∧ W.cell? ⟨G, 4, none⟩ = some (.string f4) ∧ W.cell? ⟨G, 5, none⟩ = some (.int .i64 f5) ∧ W.cell? ⟨G, 6, none⟩ = some (.slice A6 X.length c6) ∧ W.cell? ⟨G, 7, none⟩ = some (.slice A7 T.length c7) ∧ Hid (DZ p g b lp G f0 f1 f2 f3 f4 f5 X T A6 c6 A7 c7 M L A c W ∧ Below w.heap.size w W) := by
  obtain ⟨a0, a1, a2, a3, a4, a5, a6, a7, a8, a9⟩ := h.cells
  exact ⟨a0, a1, a2, a3, a4, a5, a6, a7, a8, a9, ⟨h, hb⟩⟩
theorem DZ.ne (h : DZ p g b lp G f0 f1 f2 f3 f4 f5 X T A6 c6 A7 c7 M L A c W) : lp ≠ b := by
  obtain ⟨es, clock, hb, _⟩ := h.cu.lg.map
  rintro rfl
  have := h.blk
  rw [hb] at this
  cases this
end
/-- What stands behind an act. -/
structure DW (p g b lp : Nat) (M : List (S42 × Int)) (L : List S82) (A : Option Addr) (c : Nat) (W : World) : Prop where
  cu : CU W p g b M
  iv : Iv M L
  blk : W.heap[lp]? = some (.cells #[.slice A L.length c] 27 (0, 0))
  hC : Kd.C k82 W A L.length L
  hc : L.length ≤ c
theorem DW.box {p g b lp : Nat} {M : List (S42 × Int)} {L : List S82} {A : Option Addr} {c : Nat} {w : World} (h : DW p g b lp M L A c w) (f0 f1 f2 f3 : Int) (f4 : ByteArray) (f5 : Int) {X : List S131} {T : List S79} {A6 : Option Addr} (c6 : Nat) {A7 : Option Addr} (c7 : Nat) (g6 : k131.C w A6 X.length X) (g7 : k79.C w A7 T.length T) :
    DZ p g b lp w.heap.size f0 f1 f2 f3 f4 f5 X T A6 c6 A7 c7 M L A c (w.alloc (.cells #[.int .i64 f0, .int .i64 f1, .int .i64 f2, .int .i64 f3, .string f4, .int .i64 f5, .slice A6 X.length c6, .slice A7 T.length c7] 72)) := by
  have hb := (Below.refl w.heap.size w).alloc (Nat.le_refl _) (.cells #[.int .i64 f0, .int .i64 f1, .int .i64 f2, .int .i64 f3, .string f4, .int .i64 f5, .slice A6 X.length c6, .slice A7 T.length c7] 72)
  exact ⟨h.cu.below hb, (hb.block _ (Array.getElem?_eq_some_iff.1 h.blk).1).trans h.blk, (Go.MapKept.heap_alloc w _).1, Kd.C_below h.hC hb, Kd.C_below g6 hb, Kd.C_below g7 hb⟩
/-- What is done: the program's books, and the document's list, stored. -/
def DoneB (p g b lp : Nat) (L : List S82) (w w' : World) : Prop := Hid (∃ M A c W1, DW p g b lp M L A c w' ∧ w.grownBy W1 (some b) ∧ W1.grownBy w' (some lp))
/-- Behind the program's call, ahead of the store. -/
def PreB (p g b lp : Nat) (L L0 : List S82) (A0 : Option Addr) (c0 : Nat) (A : Option Addr) (c : Nat) (w w' : World) : Prop := ∃ M, CU w' p g b M ∧ Iv M L ∧ w.grownBy w' (some b) ∧ w'.heap[lp]? = some (.cells #[.slice A0 L0.length c0] 27 (0, 0)) ∧ Kd.C k82 w' A L.length L ∧ L.length ≤ c
theorem PreB.done {p g b lp : Nat} {L L0 : List S82} {A0 : Option Addr} {c0 : Nat} {A : Option Addr} {c : Nat} {w w1 W : World} (h : PreB p g b lp L L0 A0 c0 A c w1 W) (hb : Below w.heap.size w w1) : DoneB p g b lp L w (W.setCell ⟨lp, 0, none⟩ (.slice A L.length c)) := by
  obtain ⟨M, h1, h2, h3, h4, h5, h6⟩ := h
  have hg : W.grownBy (W.setCell ⟨lp, 0, none⟩ (.slice A L.length c)) (some lp) := grownBy_setCell0_a _ _ _
  have kk : ∀ {k : Nat} {o : Obj}, W.heap[k]? = some o → (∀ v t, o ≠ .cells #[.slice v t c0] 27 (0, 0)) → (W.setCell ⟨lp, 0, none⟩ (.slice A L.length c)).heap[k]? = some o := fun {k o} hk hne => by
    refine (hg.block _ (Array.getElem?_eq_some_iff.1 hk).1 ?_).trans hk
    intro e
    obtain rfl := Option.some.inj e
    rw [h4] at hk
    exact hne _ _ (Option.some.inj hk).symm
  refine ⟨M, A, c, W, ⟨⟨?_, ⟨?_, ?_⟩⟩, h2, one_setCell h4, C82_other h5 hg h4, h6⟩, (below_grown hb).andThen h3 (fun _ hj => .inr hj), hg⟩
  · exact kk h1.blk (by simp)
  · exact kk h1.lg.blk (by simp)
  · obtain ⟨es, clock, hm, hf⟩ := h1.lg.map
    exact ⟨es, clock, kk hm (by simp), hf⟩
end Go.Proofs.Ytoknlpecbdlbfaa.PL

-- CustodyPlays, walked. (printed by genUE.py)
namespace Go.Proofs.Ytoknlpecbdlbfaa.PL
open Go Go.RowKit Go.Maps Go.Sort Go.Shelf Go.Proofs Go.Proofs.YtoknlpecbdlbfaaW.PrintWords Go.Proofs.YtoknlpecbdlbfaaW.PrintLast
/-- Is an act short? -/
def shB (x : S72) : Bool := decide (x.f6.length ≤ 40 ∧ x.f7.length ≤ 40)
theorem cshort_f (x : S72) : lombardlaw12_short.f x.f0 x.f1 x.f2 x.f3 x.f4 x.f5 x.f6 x.f7 = some (shB x) := by
  unfold lombardlaw12_short.f shB
  by_cases h : (x.f6.length : Int) ≤ 40
  · rw [if_pos h]
    congr 1
    rw [decide_eq_decide]
    omega
  · rw [if_neg h]
    congr 1
    symm
    rw [decide_eq_false_iff_not]
    omega
theorem DW.below {p g b lp : Nat} {M : List (S42 × Int)} {L : List S82} {A : Option Addr} {c : Nat} {W W' : World} (h : DW p g b lp M L A c W) (hb : Below W.heap.size W W') : DW p g b lp M L A c W' :=
  ⟨h.cu.below hb, h.iv, (hb.block _ (Array.getElem?_eq_some_iff.1 h.blk).1).trans h.blk, Kd.C_below h.hC hb, h.hc⟩
/-- An act's cells. -/
def L8 (ad : Addr) (k : Nat) (x : S72) (A6 : Option Addr) (c6 : Nat) (A7 : Option Addr) (c7 : Nat) (W : World) : Prop := W.cell? (ad.add (k * 8)) = some (.int .i64 x.f0) ∧ W.cell? ⟨(ad.add (k * 8)).block, (ad.add (k * 8)).off + 1, none⟩ = some (.int .i64 x.f1) ∧ W.cell? ⟨(ad.add (k * 8)).block, (ad.add (k * 8)).off + 2, none⟩ = some (.int .i64 x.f2) ∧ W.cell? ⟨(ad.add (k * 8)).block, (ad.add (k * 8)).off + 3, none⟩ = some (.int .i64 x.f3) ∧ W.cell? ⟨(ad.add (k * 8)).block, (ad.add (k * 8)).off + 4, none⟩ = some (.string x.f4) ∧ W.cell? ⟨(ad.add (k * 8)).block, (ad.add (k * 8)).off + 5, none⟩ = some (.int .i64 x.f5) ∧ W.cell? ⟨(ad.add (k * 8)).block, (ad.add (k * 8)).off + 6, none⟩ = some (.slice A6 x.f6.length c6) ∧ W.cell? ⟨(ad.add (k * 8)).block, (ad.add (k * 8)).off + 7, none⟩ = some (.slice A7 x.f7.length c7)
theorem L8.below {ad : Addr} {k : Nat} {x : S72} {A6 : Option Addr} {c6 : Nat} {A7 : Option Addr} {c7 : Nat} {W W' : World} (h : L8 ad k x A6 c6 A7 c7 W) (hb : Below W.heap.size W W') : L8 ad k x A6 c6 A7 c7 W' := by
  obtain ⟨h0, h1, h2, h3, h4, h5, h6, h7⟩ := h
  exact ⟨cell_keep hb h0, cell_keep hb h1, cell_keep hb h2, cell_keep hb h3, cell_keep hb h4, cell_keep hb h5, cell_keep hb h6, cell_keep hb h7⟩
/-- What stands at a round's head in the laws on acts. -/
structure RW (w : World) (p g b lp k : Nat) (L : List S82) (A : Option Addr) (c : Nat) (M : List (S42 × Int)) (W : World) : Prop where
  dw : DW p g b lp M L A c W
  bl : Below w.heap.size w W
  hb : w.heap.size ≤ b
  hl : w.heap.size ≤ lp
  len : L.length ≤ 82 * k
theorem RW.below {w : World} {p g b lp k : Nat} {L : List S82} {A : Option Addr} {c : Nat} {M : List (S42 × Int)} {W W' : World} (h : RW w p g b lp k L A c M W) (hb : Below W.heap.size W W') : RW w p g b lp k L A c M W' :=
  ⟨h.dw.below hb, h.bl.trans (hb.mono h.bl.size), h.hb, h.hl, h.len⟩
theorem RW.next {w : World} {p g b lp k : Nat} {L : List S82} {A : Option Addr} {c : Nat} {M : List (S42 × Int)} {W : World} (h : RW w p g b lp k L A c M W) : RW w p g b lp (k + 1) L A c M W :=
  ⟨h.dw, h.bl, h.hb, h.hl, by have := h.len; omega⟩
theorem RW.done {w : World} {p g b lp k : Nat} {L : List S82} {A : Option Addr} {c : Nat} {M : List (S42 × Int)} {W W' : World} (h : RW w p g b lp k L A c M W) (x : S72) (s6 : x.f6.length ≤ 40) (s7 : x.f7.length ≤ 40) (hd : DoneB p g b lp (actL L x).1 W W') : ∃ M' A' c', W'.cell? ⟨lp, 0, none⟩ = some (.slice A' (actL L x).1.length c') ∧ Hid (RW w p g b lp (k + 1) (actL L x).1 A' c' M' W') := by
  obtain ⟨M', A', c', W1, h1, h2, h3⟩ := hd.out
  have hlen := length_actL L x s6 s7
  have hl := h.len
  have b1 := h.bl.grown h2 h.bl.size (by simp; exact h.hb)
  have b2 := b1.grown h3 b1.size (by simp; exact h.hl)
  exact ⟨M', A', c', cell_of_one h1.blk, ⟨h1, b2, h.hb, h.hl, by omega⟩⟩
theorem RW.start {w w1 : World} {p g b : Nat} (h : CU w1 p g b []) (hb : Below w.heap.size w w1) (h1 : w.heap.size ≤ b) : RW w p g b w1.heap.size 0 [] none 0 [] (w1.alloc (.cells #[.slice none 0 0] 27)) := by
  have hb1 := (Below.refl w1.heap.size w1).alloc (Nat.le_refl _) (.cells #[.slice none 0 0] 27)
  exact ⟨⟨h.below hb1, Iv.nil, (Go.MapKept.heap_alloc w1 _).1, ⟨rfl, by simp, fun h => absurd h (by simp)⟩, Nat.le_refl _⟩, hb.trans (hb1.mono hb.size), h1, hb.size, Nat.zero_le _⟩
theorem C_len {α : Type} {d : Kd α} {w : World} {A : Option Addr} {n : Nat} {l : List α} (h : Kd.C d w A n l) : n ≤ 9223372036854775807 := by
  have := h.2.1
  unfold maxLen at this
  exact this
end Go.Proofs.Ytoknlpecbdlbfaa.PL
