/- Part 33 of the proof's texts: what the theorem needs of them. -/
import Derived.Test.YtoknlpecbdlbfaaSCOf31
import Derived.StringKeys
import Derived.Test.YtoknlpecbdlbfaaSCOf32
import Derived.Maps.RangeWalk
import Derived.Test.YtoknlpecbdlbfaaSCOf23

-- A map of things in memory.
namespace Go.Proofs.Ytoknlpecbdlbfaa.PL
open Go.RowKit Go.Maps Go.MapKept
open Go.ChangeMaps (setBlock)
open Go.WideElems (Fit rd rd_mk rd_key rd_val other_key)
theorem law9 : Keyed Try.prog 9 := Keyed.of_law (Go.WideMaps.string_law Try.underlying9)
/-- A thing's value. -/
def ks (s : ByteArray) : Value := .string s
theorem ks_inj {a b : ByteArray} (h : ks a = ks b) : a = b := by
  injection h
theorem keyOf_ks {a : ByteArray} (h : a.size ≤ maxLen) : ∃ l, keyOf Try.prog 9 (ks a) = some l := by
  unfold ks
  exact ⟨_, Go.WideMaps.keyOf_string_mk Try.underlying9 h⟩
instance memDec (a : ByteArray) (l : List ByteArray) : Decidable (a ∈ l) := decidable_of_iff (∃ x ∈ l, x = a) ⟨fun ⟨_, h, e⟩ => e ▸ h, fun h => ⟨a, h, rfl⟩⟩
/-- What a thing has; a store: over the list of the map's entries. -/
def getT : List (ByteArray × Int) → ByteArray → Int
  | [], _ => 0
  | p :: r, a => if p.1 = a then p.2 else getT r a
def setT (M : List (ByteArray × Int)) (a : ByteArray) (n : Int) : List (ByteArray × Int) := if a ∈ M.map Prod.fst then M.map (fun p => if p.1 = a then (a, n) else p) else M ++ [(a, n)]
theorem getT_none {M : List (ByteArray × Int)} {a : ByteArray} (h : a ∉ M.map Prod.fst) : getT M a = 0 := by
  induction M with
  | nil => rfl
  | cons p r ih =>
    simp only [List.map_cons, List.mem_cons, not_or] at h
    unfold getT
    rw [if_neg (fun e => h.1 e.symm), ih h.2]
theorem getT_at {M : List (ByteArray × Int)} (hn : (M.map Prod.fst).Nodup) : ∀ {j : Nat} {a : ByteArray} {n : Int}, M[j]? = some (a, n) → getT M a = n := by
  induction M with
  | nil => intro j a n h; simp at h
  | cons p r ih =>
    intro j a n h
    simp only [List.map_cons, List.nodup_cons] at hn
    unfold getT
    cases j with
    | zero =>
      simp at h
      subst h
      rw [if_pos rfl]
    | succ j =>
      simp at h
      have hm : a ∈ r.map Prod.fst := List.mem_map.2 ⟨(a, n), List.mem_of_getElem? h, rfl⟩
      rw [if_neg (fun e => hn.1 (by rw [e]; exact hm)), ih hn.2 h]
theorem setT_at {M : List (ByteArray × Int)} (hn : (M.map Prod.fst).Nodup) {j : Nat} {a : ByteArray} {n m : Int} (h : M[j]? = some (a, n)) : setT M a m = M.set j (a, m) := by
  have hm : a ∈ M.map Prod.fst := List.mem_map.2 ⟨(a, n), List.mem_of_getElem? h, rfl⟩
  unfold setT
  rw [if_pos hm]
  clear hm
  induction M generalizing j with
  | nil => simp at h
  | cons p r ih =>
    simp only [List.map_cons, List.nodup_cons] at hn
    cases j with
    | zero =>
      simp at h
      subst h
      simp only [List.map_cons, if_true, List.set_cons_zero, List.cons.injEq, true_and]
      have : ∀ q ∈ r, (if q.1 = a then (a, m) else q) = q := by
        intro q hq
        rw [if_neg]
        intro e
        exact hn.1 (List.mem_map.2 ⟨q, hq, e⟩)
      rw [List.map_congr_left this]; simp
    | succ j =>
      simp at h
      have hm : a ∈ r.map Prod.fst := List.mem_map.2 ⟨(a, n), List.mem_of_getElem? h, rfl⟩
      rw [List.map_cons, if_neg (fun e => hn.1 (by rw [e]; exact hm)), List.set_cons_succ, ih hn.2 h]
/-- Block b holds the map M (in the order in which the entries lie). -/
def SM (w : World) (b : Nat) (M : List (ByteArray × Int)) : Prop :=
  ∃ es clock, w.heap[b]? = some (.map es clock) ∧ Fit (H := Unit) Try.prog 9 (plainElem Try.prog 3) es clock ∧ es.toList.map (fun e => (e.key, e.val)) = M.map (fun p => (ks p.1, Value.int .i64 p.2))
theorem SM.lt {w : World} {b : Nat} {M : List (ByteArray × Int)} (h : SM w b M) : b < w.heap.size := by
  obtain ⟨es, clock, hb, _⟩ := h
  exact (Array.getElem?_eq_some_iff.1 hb).1
theorem SM.move {w w' : World} {b : Nat} {M : List (ByteArray × Int)} (h : SM w b M) (hm : w'.heap[b]? = w.heap[b]?) : SM w' b M := by
  obtain ⟨es, clock, hb, rest⟩ := h
  exact ⟨es, clock, hm.trans hb, rest⟩
theorem SM.grown {w w' : World} {b : Nat} {M : List (ByteArray × Int)} {row : Option Nat} (h : SM w b M) (hg : w.grownBy w' row) (hr : some b ≠ row) : SM w' b M := h.move (hg.block b h.lt hr)
theorem SM.below {w w' : World} {b : Nat} {M : List (ByteArray × Int)} (h : SM w b M) (hb : Below w.heap.size w w') : SM w' b M := h.move (hb.block b h.lt)
theorem SM.get {es : Array MapEntry} {M : List (ByteArray × Int)} (hM : es.toList.map (fun e => (e.key, e.val)) = M.map (fun p => (ks p.1, Value.int .i64 p.2))) {j : Nat} {e : MapEntry} (h : es.toList[j]? = some e) : ∃ p, M[j]? = some p ∧ e.key = ks p.1 ∧ e.val = .int .i64 p.2 := by
  have h1 : (es.toList.map (fun e => (e.key, e.val)))[j]? = some (e.key, e.val) := by rw [List.getElem?_map, h]; rfl
  rw [hM, List.getElem?_map] at h1
  cases hp : M[j]? with
  | none => rw [hp] at h1; cases h1
  | some p =>
    rw [hp] at h1
    simp at h1
    exact ⟨p, rfl, h1.1.symm, h1.2.symm⟩
theorem SM.nodup_of {es : Array MapEntry} {clock : Nat} {M : List (ByteArray × Int)} (F : Fit (H := Unit) Try.prog 9 (plainElem Try.prog 3) es clock) (hM : es.toList.map (fun e => (e.key, e.val)) = M.map (fun p => (ks p.1, Value.int .i64 p.2))) : (M.map Prod.fst).Nodup := by
  have hn : es.toList.Pairwise (fun x y => x.key ≠ y.key) := ((stamped_iff es clock).1 F.stamped).2.2
  have h1 : (es.toList.map (fun e => (e.key, e.val))).Pairwise (fun x y => x.1 ≠ y.1) := List.pairwise_map.2 hn
  rw [hM] at h1
  exact List.pairwise_map.2 ((List.pairwise_map.1 h1).imp (fun hne e => hne (by show ks _ = ks _; rw [e])))
theorem SM.nodup {w : World} {b : Nat} {M : List (ByteArray × Int)} (h : SM w b M) : (M.map Prod.fst).Nodup := by
  obtain ⟨es, clock, hb, F, hM⟩ := h
  exact SM.nodup_of F hM
theorem SM.none_of {es : Array MapEntry} {M : List (ByteArray × Int)} {a : ByteArray} (hM : es.toList.map (fun e => (e.key, e.val)) = M.map (fun p => (ks p.1, Value.int .i64 p.2))) (h : ∀ e ∈ es.toList, e.key ≠ ks a) : a ∉ M.map Prod.fst := by
  intro hm
  obtain ⟨p, hp, rfl⟩ := List.mem_map.1 hm
  have : (ks p.1, Value.int .i64 p.2) ∈ es.toList.map (fun e => (e.key, e.val)) := by rw [hM]; exact List.mem_map.2 ⟨p, hp, rfl⟩
  obtain ⟨e, he, hee⟩ := List.mem_map.1 this
  exact h e he (by simp at hee; exact hee.1)
/-- x.m[a]. -/
theorem SM.lookup {w : World} {b : Nat} {M : List (ByteArray × Int)} (h : SM w b M) {a : ByteArray} (ha : a.size ≤ maxLen) : (Instr.lookup 40 (.map (some b)) (ks a) false).run Try.prog w = .ok (.int .i64 (getT M a)) w := by
  obtain ⟨es, clock, hb, F, hM⟩ := h
  obtain ⟨l, hkey⟩ := keyOf_ks ha
  have hn := SM.nodup_of F hM
  rcases law9.find w hkey es.toList F.keys with ⟨h1, h2⟩ | ⟨j, e0, h1, h2, h3⟩
  · rw [getT_none (SM.none_of hM h2)]
    simp [Instr.lookup, run_underlying Try.underlying40, MapKept.run_getObj_map hb, law9.check w _ hkey, h1, zero3 w, Result.andThen]
  · obtain ⟨p, hp, e1, e2⟩ := SM.get hM h2
    obtain rfl : p.1 = a := ks_inj (e1.symm.trans h3)
    rw [getT_at hn (n := p.2) hp]
    simp [Instr.lookup, run_underlying Try.underlying40, MapKept.run_getObj_map hb, law9.check w _ hkey, h1, e2, Result.andThen]
/-- x.m[a] = n. -/
theorem SM.store {w : World} {b : Nat} {M : List (ByteArray × Int)} (h : SM w b M) {a : ByteArray} (ha : a.size ≤ maxLen) {n : Int} (hn : (Lit.int .i64 n).wf = true) (hroom : M.length < maxLen) :
    ∃ w', (Instr.mapUpdate 40 (.map (some b)) (ks a) (.int .i64 n)).run Try.prog w = .ok () w' ∧ SM w' b (setT M a n) ∧ w.grownBy w' (some b) ∧ w'.heap.size = w.heap.size := by
  obtain ⟨es, clock, hb, F, hM⟩ := h
  obtain ⟨l, hkey⟩ := keyOf_ks ha
  have hnd := SM.nodup_of F hM
  have hlen : es.size = M.length := by have := congrArg List.length hM; simpa using this
  have hv : plainElem (H := Unit) Try.prog 3 (.int .i64 n) = some (.lit (.int .i64 n), []) := plainElem_int Try.underlying3 hn
  rcases law9.find w hkey es.toList F.keys with ⟨h1, h2⟩ | ⟨j, e0, h1, h2, h3⟩
  · refine ⟨setBlock w b (.map (es.push ⟨ks a, .int .i64 n, clock⟩) (clock + 1)), ?_, ⟨_, _, Go.ChangeMaps.heap_setBlock_same hb _, ⟨by simp; omega, stamped_push F.stamped h2, ?_⟩, ?_⟩, grown_setBlock hb, by simp [setBlock]⟩
    · simp [Instr.mapUpdate, run_underlying Try.underlying40, MapKept.run_getObj_map hb, law9.check w false hkey, h1, MapKept.run_setObj_map _ hb, Result.andThen, setBlock]
    · intro x hx
      simp only [Array.toList_push, List.mem_append, List.mem_singleton] at hx
      rcases hx with hx | rfl
      · exact F.reads x hx
      · exact ⟨_, rd_mk hkey hv⟩
    · unfold setT
      rw [if_neg (SM.none_of hM h2), Array.toList_push, List.map_append, List.map_append, hM]
      rfl
  · have hj : es[j]? = some e0 := by simpa using h2
    obtain ⟨p, hp, e1, e2⟩ := SM.get hM h2
    obtain rfl : p.1 = a := ks_inj (e1.symm.trans h3)
    have hkeyf : ∀ e', es[j]? = some e' → ({ e' with key := ks p.1, val := .int .i64 n } : MapEntry).key = e'.key := fun e' he' => by rw [hj] at he'; cases he'; exact h3.symm
    have hlist : (es.modify j (fun e' => { e' with key := ks p.1, val := .int .i64 n })).toList = es.toList.set j { e0 with key := ks p.1, val := .int .i64 n } := by rw [Array.toList_modify, Go.ChangeMaps.modify_eq_set _ _ _ _ h2]
    refine ⟨setBlock w b (.map (es.modify j (fun e' => { e' with key := ks p.1, val := .int .i64 n })) clock), ?_, ⟨_, _, Go.ChangeMaps.heap_setBlock_same hb _, ⟨by simpa using F.size, stamped_modify F.stamped _ _ (fun _ _ => rfl) (fun e' _ he' => hkeyf e' he'), ?_⟩, ?_⟩, grown_setBlock hb, by simp [setBlock]⟩
    · simp [Instr.mapUpdate, run_underlying Try.underlying40, MapKept.run_getObj_map hb, law9.check w false hkey, h1, hj, h3, law9.stays w hkey, MapKept.run_setObj_map _ hb, Result.andThen, setBlock]
    · intro x hx
      rw [hlist] at hx
      rcases List.mem_or_eq_of_mem_set hx with hx | rfl
      · exact F.reads x hx
      · exact ⟨_, rd_mk hkey hv⟩
    · rw [hlist, List.map_set, hM, setT_at hnd (n := p.2) hp, List.map_set]
end Go.Proofs.Ytoknlpecbdlbfaa.PL

-- Of each thing all accounts together have nothing: the plain law.
namespace Go.Proofs.Ytoknlpecbdlbfaa.PL
open Go Go.RowKit Go.Maps Go.Sort Go.Shelf Go.Proofs Go.Proofs.YtoknlpecbdlbfaaW.PrintWords Go.Proofs.YtoknlpecbdlbfaaW.PrintLast
/-- What all accounts together have of a thing. -/
def sumM (M : List (S42 × Int)) (t : ByteArray) : Int := (M.map (fun p => if p.1.f2 = t then p.2 else 0)).sum
def sumL (L : List S82) (t : ByteArray) : Int := (L.map (fun b => if b.f0.f2 = t then b.f1 else 0)).sum
theorem sumM_set {M : List (S42 × Int)} (hn : (M.map Prod.fst).Nodup) (a : S42) (n : Int) (t : ByteArray) : sumM (setM M a n) t = sumM M t + (if a.f2 = t then n - getM M a else 0) := by
  unfold setM
  by_cases h : a ∈ M.map Prod.fst
  · rw [if_pos h]
    induction M with
    | nil => simp at h
    | cons p r ih =>
      simp only [List.map_cons, List.nodup_cons] at hn
      by_cases e : p.1 = a
      · have hr : r.map (fun p => if p.1 = a then (a, n) else p) = r := by
          have : ∀ q ∈ r, (if q.1 = a then (a, n) else q) = q := by
            intro q hq
            rw [if_neg]
            intro e2
            exact hn.1 (by rw [e]; exact List.mem_map.2 ⟨q, hq, e2⟩)
          rw [List.map_congr_left this]; simp
        rw [List.map_cons, if_pos e, hr]
        unfold sumM getM
        rw [if_pos e]
        simp only [List.map_cons, List.sum_cons]
        rw [e]
        split <;> omega
      · have h' : a ∈ r.map Prod.fst := by
          rcases List.mem_cons.1 h with h | h
          · exact absurd h.symm e
          · exact h
        have := ih hn.2 h'
        rw [List.map_cons, if_neg e]
        unfold sumM at this ⊢
        have hg : getM (p :: r) a = getM r a := by
          show (if p.1 = a then p.2 else getM r a) = _
          rw [if_neg e]
        rw [List.map_cons, List.sum_cons, this, hg, List.map_cons, List.sum_cons]
        omega
  · rw [if_neg h, getM_none h]
    unfold sumM
    rw [List.map_append, List.sum_append]
    simp
theorem sumM_del {M : List (S42 × Int)} (hn : (M.map Prod.fst).Nodup) (a : S42) (t : ByteArray) : sumM (delM M a) t = sumM M t + (if a.f2 = t then 0 - getM M a else 0) := by
  by_cases h : a ∈ M.map Prod.fst
  · induction M with
    | nil => simp at h
    | cons p r ih =>
      simp only [List.map_cons, List.nodup_cons] at hn
      unfold delM
      by_cases e : p.1 = a
      · have hr : r.filter (fun p => !decide (p.1 = a)) = r := by
          refine List.filter_eq_self.2 (fun q hq => ?_)
          simp only [Bool.not_eq_true', decide_eq_false_iff_not]
          intro e2
          exact hn.1 (by rw [e]; exact List.mem_map.2 ⟨q, hq, e2⟩)
        rw [List.filter_cons, if_neg (by simp [e]), hr]
        unfold sumM getM
        rw [if_pos e]
        simp only [List.map_cons, List.sum_cons]
        rw [e]
        split <;> omega
      · have h' : a ∈ r.map Prod.fst := by
          rcases List.mem_cons.1 h with h | h
          · exact absurd h.symm e
          · exact h
        have := ih hn.2 h'
        unfold delM at this
        rw [List.filter_cons, if_pos (by simp [e])]
        unfold sumM at this ⊢
        have hg : getM (p :: r) a = getM r a := by
          show (if p.1 = a then p.2 else getM r a) = _
          rw [if_neg e]
        rw [List.map_cons, List.sum_cons, this, hg, List.map_cons, List.sum_cons]
        omega
  · rw [delM_none h, getM_none h]
    simp
theorem sumM_put {M : List (S42 × Int)} (hn : (M.map Prod.fst).Nodup) (a : S42) (n : Int) (t : ByteArray) : sumM (putM M a n) t = sumM M t + (if a.f2 = t then n - getM M a else 0) := by
  unfold putM
  split
  · rename_i e
    subst e
    exact sumM_del hn a t
  · exact sumM_set hn a n t
/-- What is known of every reached map: sums are nothing, and every account that has something is one. -/
structure Wh (M : List (S42 × Int)) : Prop where
  sum : ∀ t, sumM M t = 0
  good : ∀ a, getM M a ≠ 0 → goodI a = 0
theorem Wh.nil : Wh [] := ⟨fun _ => rfl, fun _ h => absurd rfl h⟩
theorem Wh.move {M : List (S42 × Int)} (h : Wh M) (hk : OkM M) (e : S107) : Wh (moveM M e).1 := by
  unfold moveM
  split
  · exact h
  · rename_i hck
    have hck' := check_good (Classical.not_not.1 hck)
    have hth : e.f0.f2 = e.f1.f2 := (toList_iff _ _).1 hck'.2.2.2.2
    split
    · exact h
    · split
      · exact h
      · split
        · refine ⟨fun t => ?_, fun a ha => ?_⟩
          · rw [sumM_put (hk.put _ _).nd, sumM_put hk.nd, getM_putM, if_pos rfl, h.sum]
            split <;> omega
          · rw [Eqv.back M e.f0 e.f2 a] at ha
            exact h.good a ha
        · refine ⟨fun t => ?_, fun a ha => ?_⟩
          · rw [sumM_put (hk.put _ _).nd, sumM_put hk.nd, h.sum, hth]
            split <;> omega
          · rw [getM_putM] at ha
            by_cases c1 : a = e.f1
            · rw [c1]; exact hck'.2.2.2.1
            · rw [if_neg c1, getM_putM] at ha
              by_cases c0 : a = e.f0
              · rw [c0]; exact hck'.2.2.1
              · rw [if_neg c0] at ha
                exact h.good a ha
theorem sum_perm {l l' : List Int} (h : l.Perm l') : l.sum = l'.sum := by
  induction h with
  | nil => rfl
  | cons x _ ih => rw [List.sum_cons, List.sum_cons, ih]
  | swap x y l => rw [List.sum_cons, List.sum_cons, List.sum_cons, List.sum_cons]; omega
  | trans _ _ h1 h2 => exact h1.trans h2
theorem rep_sum {M : List (S42 × Int)} {L : List S82} (h : Rep M L) (t : ByteArray) : sumL L t = sumM M t := by
  have h1 : (M.map (fun p => b82 p.1 p.2)).Perm L := by
    have h2 := rep_all h (ts := keysL L) (rep_keys h).symm (asc_keys h.up)
    have h3 : (M.map (fun p => b82 p.1 p.2)) = (M.map Prod.fst).map (fun a => b82 a (getM M a)) := by
      rw [List.map_map]
      refine List.map_congr_left (fun p hp => ?_)
      obtain ⟨j, hj, e⟩ := List.getElem_of_mem hp
      show b82 p.1 p.2 = b82 p.1 (getM M p.1)
      rw [getM_at h.ok.nd (j := j) (a := p.1) (n := p.2) (by rw [List.getElem?_eq_getElem hj, e])]
    rw [h3]
    conv => rhs; rw [← h2]
    exact (rep_keys h).map _
  unfold sumL sumM
  rw [← sum_perm (h1.map (fun b : S82 => if b.f0.f2 = t then b.f1 else 0)), List.map_map]
  rfl
/-- The same for the undone: it has what it had. -/
theorem Wh.of {M M' : List (S42 × Int)} {L : List S82} (h : Wh M) (hr : Rep M L) (hr' : Rep M' L) : Wh M' :=
  ⟨fun t => by rw [← rep_sum hr', rep_sum hr, h.sum], fun a ha => h.good a (by rw [hr.same, ← hr'.same]; exact ha)⟩
theorem fin_Wh : ∀ (l : List S107) (M : List (S42 × Int)), Wh M → OkM M → Wh (fin M l)
  | [], _, h, _ => h
  | e :: r, M, h, hk => fin_Wh r _ (h.move hk e) (hk.move e)
theorem Wh.post {M : List (S42 × Int)} {L : List S82} (h : Wh M) (hr : Rep M L) (hB : BM M) (l : List S107) : Wh (postL [] M l).1 := by
  obtain ⟨e1, e2, e3, e4⟩ := rep_post0 hr hB l
  by_cases c : (postL [] M l).2.2 = 0
  · rw [(post_allOk l [] M c).2]
    exact fin_Wh l M h hr.ok
  · rw [e2] at c
    rw [pst_fail l L 0 L c] at e3
    exact h.of hr e3
theorem wrap64_add (a b : Int) : wrap64 (wrap64 a + b) = wrap64 (a + b) := by
  unfold wrap64
  omega
end Go.Proofs.Ytoknlpecbdlbfaa.PL

-- Custody: both sides alike, plain.
namespace Go.Proofs.Ytoknlpecbdlbfaa.PL
open Go Go.RowKit Go.Maps Go.Sort Go.Shelf Go.Proofs Go.Proofs.YtoknlpecbdlbfaaW.PrintWords Go.Proofs.YtoknlpecbdlbfaaW.PrintLast
/-- The document's Bring. -/
def brR (L : List S82) (m : Int) (t : ByteArray) (q : Int) : List S82 × Int := if wrB m 1 = true then (L, 22) else if q < -1125899906842624 then (L, 1) else ((pstL L 0 L [brE m t q]).1, (pstL L 0 L [brE m t q]).2.2)
/-- The document's Move. -/
def cmR (L : List S82) (X : List S125) : List S82 × Int × Int := match fbL 0 X with
  | some i => (L, i, 22)
  | none => pstL L 0 L (X.map lnE)
theorem cmR_bad {L : List S82} {X : List S125} {i : Nat} (h : fbL 0 X = some i) : cmR L X = (L, (i : Int), 22) := by
  unfold cmR
  rw [h]
theorem cmR_ok {L : List S82} {X : List S125} (h : fbL 0 X = none) : cmR L X = pstL L 0 L (X.map lnE) := by
  unfold cmR
  rw [h]
theorem St.br {M : List (S42 × Int)} {L : List S82} (h : St M L) (m : Int) (t : ByteArray) (q : Int) : St (brL M m t q).1 (brR L m t q).1 ∧ (brL M m t q).2 = (brR L m t q).2 := by
  unfold brL brR
  split
  · exact ⟨h, rfl⟩
  · split
    · exact ⟨h, rfl⟩
    · exact ⟨h.post _, (rep_post0 h.rep h.bm _).2.1⟩
theorem St.cm {M : List (S42 × Int)} {L : List S82} (h : St M L) (X : List S125) : St (cmL M X).1 (cmR L X).1 ∧ (cmL M X).2.1 = (cmR L X).2.1 ∧ (cmL M X).2.2 = (cmR L X).2.2 := by
  cases hf : fbL 0 X with
  | some i =>
    rw [cmL_bad hf, cmR_bad hf]
    exact ⟨h, rfl, rfl⟩
  | none =>
    rw [cmL_ok hf, cmR_ok hf]
    obtain ⟨e1, e2, _, _⟩ := rep_post0 h.rep h.bm (X.map lnE)
    exact ⟨h.post _, e1, e2⟩
theorem Wh.br {M : List (S42 × Int)} {L : List S82} (h : St M L) (hw : Wh M) (m : Int) (t : ByteArray) (q : Int) : Wh (brL M m t q).1 := by
  unfold brL
  split
  · exact hw
  · split
    · exact hw
    · exact hw.post h.rep h.bm _
theorem Wh.cm {M : List (S42 × Int)} {L : List S82} (h : St M L) (hw : Wh M) (X : List S125) : Wh (cmL M X).1 := by
  cases hf : fbL 0 X with
  | some i =>
    rw [cmL_bad hf]
    exact hw
  | none =>
    rw [cmL_ok hf]
    exact hw.post h.rep h.bm _
end Go.Proofs.Ytoknlpecbdlbfaa.PL

-- Custody, the document: wrong and Bring, walked.
namespace Go.Proofs.Ytoknlpecbdlbfaa.PL
open Go Go.RowKit Go.Maps Go.Sort Go.Shelf Go.Proofs Go.Proofs.YtoknlpecbdlbfaaW.PrintWords Go.Proofs.YtoknlpecbdlbfaaW.PrintLast
theorem rwr_f (m b : Int) : lombardref12_wrong.f m b = some (wrB m b) := by
  unfold lombardref12_wrong.f wrB
  by_cases h1 : m < 1
  · rw [if_pos h1]; simp [h1]
  · rw [if_neg h1]
    by_cases h2 : m > 32
    · rw [if_pos h2]
      congr 1
      exact (decide_eq_true (by omega)).symm
    · rw [if_neg h2]
      by_cases h3 : b < 1
      · rw [if_pos h3]; simp [h3]
      · rw [if_neg h3]
        congr 1
        exact decide_eq_decide.2 (by omega)
end Go.Proofs.Ytoknlpecbdlbfaa.PL

-- Custody, the document: Move, walked.
namespace Go.Proofs.Ytoknlpecbdlbfaa.PL
open Go Go.RowKit Go.Maps Go.Sort Go.Shelf Go.Proofs Go.Proofs.YtoknlpecbdlbfaaW.PrintWords Go.Proofs.YtoknlpecbdlbfaaW.PrintLast
theorem cellA {W : World} {k : Nat} {cs : Array Value} {t : TypeId} {f : Nat × Nat} (h : W.heap[k]? = some (.cells cs t f)) (i : Nat) : W.cell? ⟨k, i, none⟩ = cs[i]? := by
  unfold World.cell?
  rw [h]
  rfl
/-- A line's cells. -/
def L6 (ad : Addr) (k : Nat) (a0 a1 a2 a3 : Int) (a4 : ByteArray) (a5 : Int) (W : World) : Prop := W.cell? (ad.add (k * 6)) = some (.int .i64 a0) ∧ W.cell? ⟨(ad.add (k * 6)).block, (ad.add (k * 6)).off + 1, none⟩ = some (.int .i64 a1) ∧ W.cell? ⟨(ad.add (k * 6)).block, (ad.add (k * 6)).off + 2, none⟩ = some (.int .i64 a2) ∧ W.cell? ⟨(ad.add (k * 6)).block, (ad.add (k * 6)).off + 3, none⟩ = some (.int .i64 a3) ∧ W.cell? ⟨(ad.add (k * 6)).block, (ad.add (k * 6)).off + 4, none⟩ = some (.string a4) ∧ W.cell? ⟨(ad.add (k * 6)).block, (ad.add (k * 6)).off + 5, none⟩ = some (.int .i64 a5)
theorem L6.below {ad : Addr} {k : Nat} {a0 a1 a2 a3 : Int} {a4 : ByteArray} {a5 : Int} {W W' : World} (h : L6 ad k a0 a1 a2 a3 a4 a5 W) (hb : Below W.heap.size W W') : L6 ad k a0 a1 a2 a3 a4 a5 W' :=
  ⟨cell_keep hb h.1, cell_keep hb h.2.1, cell_keep hb h.2.2.1, cell_keep hb h.2.2.2.1, cell_keep hb h.2.2.2.2.1, cell_keep hb h.2.2.2.2.2⟩
end Go.Proofs.Ytoknlpecbdlbfaa.PL

-- sum, walked: a range over the ledger's map.
namespace Go.Proofs.Ytoknlpecbdlbfaa.PL
open Go Go.RowKit Go.Maps Go.Sort Go.Shelf Go.Proofs Go.Proofs.YtoknlpecbdlbfaaW.PrintWords Go.Proofs.YtoknlpecbdlbfaaW.PrintLast
/-- What the accounts that have come have of a thing. -/
def sumK (M : List (S42 × Int)) (ss : List S42) (t : ByteArray) : Int := (ss.map (fun a => if a.f2 = t then getM M a else 0)).sum
theorem sumK_perm {M : List (S42 × Int)} {ss : List S42} (h : ss.Perm (M.map Prod.fst)) (hn : (M.map Prod.fst).Nodup) (t : ByteArray) : sumK M ss t = sumM M t := by
  unfold sumK sumM
  rw [sum_perm (h.map _), List.map_map]
  congr 1
  refine List.map_congr_left (fun p hp => ?_)
  obtain ⟨j, hj, e⟩ := List.getElem_of_mem hp
  show (if p.1.f2 = t then getM M p.1 else 0) = _
  rw [getM_at hn (j := j) (a := p.1) (n := p.2) (by rw [List.getElem?_eq_getElem hj, e])]
theorem sumK_snoc (M : List (S42 × Int)) (ss : List S42) (a : S42) (t : ByteArray) : sumK M (ss ++ [a]) t = sumK M ss t + (if a.f2 = t then getM M a else 0) := by
  unfold sumK
  rw [List.map_append, List.sum_append]
  simp
/-- The entry that has come holds what the map has there. -/
theorem ranges_val {w : World} {b r n : Nat} {D0 : DataW Unit} {left : Lit → Bool} {cnt : Nat} {M : List (S42 × Int)} (hrg : w.ranges Try.prog 42 (plainElem (H := Unit) Try.prog 3) b r n D0 left cnt) (h : LM w b M) {p : S42 × Int} (hp : p ∈ M) {kl : Lit} (hk : keyOf Try.prog 42 (kv p.1) = some kl) {a : Int} (hat : ∀ zd, D0.atKey kl zd = .lit (.int .i64 a)) : a = getM M p.1 := by
  obtain ⟨c, h1, h2, _⟩ := hrg.owns.lookup_int law42 Try.underlying60 Try.underlying3 (zero3 w) hk
  have h3 := (h.lookup_mem (List.mem_map.2 ⟨p, hp, rfl⟩)).symm.trans h1
  have h4 := (hat (.lit (.int .i64 0))).symm.trans h2
  simp only [Result.ok.injEq, Value.int.injEq, true_and, and_true] at h3
  simp only [DataW.lit.injEq, Lit.int.injEq, true_and] at h4
  rw [h4, h3]
set_option maxRecDepth 100000 in
set_option maxHeartbeats 2000000 in
theorem sum_walk {g b : Nat} {M : List (S42 × Int)} {w : World} (h : LG w g b M) (t : ByteArray) :
    Calls Try.prog 71 #[.pointer (some ⟨g, 0, none⟩), .string t] w fun e w' => e = .returned (.int .i64 (wrap64 (sumM M t))) ∧ Below w.heap.size w w' := by
  have hc := h.cell
  have hM := h.map
  obtain ⟨D0, hown, hsz⟩ := hM.owns
  have HM := Lib.hid hM
  have HO := Lib.hid hown
  have HZ := Lib.hid hsz
  clear h hM hsz
  go_enter Try.func71, Try.ntmps71
  go_wp2_with (first
    | (at_range; refine wpList_range_own _ rfl _ 60 rfl 42 3 law42 Try.underlying60 _ b M.length _ rfl hown ?_; intro w0 hrg0 hg0 hs0)
    | go_in)
  go_frame
  have R0 := Lib.hid (And.intro hrg0 (And.intro hg0 hs0))
  clear hown hrg0 hg0 hs0 hc
  go_loopg [5, 6, 7] (M.length + 1) (fun kq v5 v6 v7 wr => ∃ (left : Lit → Bool) (cnt : Nat) (ss : List S42), v5 = .int .i64 (wrap64 (sumK M ss t)) ∧ Hid (kq = cnt + 1 ∧ wr.ranges Try.prog 42 (plainElem (H := Unit) Try.prog 3) b w.heap.size M.length D0 left cnt ∧ Coll M left ss ∧ LM wr b M ∧ Below w.heap.size w wr))
  case atStart =>
    obtain ⟨h1, h2, h3⟩ := R0.out
    refine ⟨_, _, [], ?_, ⟨by rw [HZ.out], h1, Coll.start HO.out HM.out, HM.out.grown h2 (by simp), (Below.refl _ _).grown h2 (Nat.le_refl _) (fun k hk => by cases hk)⟩⟩
    have : wrap64 (sumK M [] t) = 0 := by unfold sumK wrap64; simp
    rw [this]
  case round =>
    obtain ⟨left, cnt, ss, rfl, HI⟩ := hrel
    go_wp2_with (first
      | (at_next; refine wpList_next_ranges _ rfl _ rfl 42 law42 (plainElem (H := Unit) Try.prog 3) id id (fun key kl hk => ⟨key, rfl⟩) (fun v _ _ => ⟨v, rfl⟩) b w.heap.size M.length _ _ _ rfl HI.out.2.1 ?_ ?_)
      | go_in)
    · intro hc0 hl0
      have HL := Lib.hid hl0
      clear hc0 hl0
      go_wp2
      go_ret
      obtain ⟨_, h2, h3, h4, h5⟩ := HI.out
      refine ⟨?_, h5⟩
      show Ending.returned (.int .i64 (wrap64 (sumK M ss t))) = _
      rw [sumK_perm (h3.perm h4 HL.out) h4.nodup]
    · intro x c kl yd yp w2 cnt2 hkey hlk hv hat hrg2 hlt hg2 hs2 hen
      obtain ⟨p, hp, ex, ekl⟩ := ranges_key HI.out.2.1 HI.out.2.2.2.1 hlk hkey
      have hbr : b ≠ w.heap.size := fun e => by
        have := HM.out.lt
        omega
      have hM2 : LM w2 b M := HI.out.2.2.2.1.grown hg2 (fun e => hbr (by cases e; rfl))
      change x = kv p.1 at ex
      subst ex
      obtain ⟨a, ec, ey, _⟩ := plainElem_int_inv Try.underlying3 hv
      simp only [Prod.mk.injEq] at ey
      obtain ⟨rfl, _⟩ := ey
      change c = .int .i64 a at ec
      subst ec
      have ha := ranges_val HI.out.2.1 HI.out.2.2.2.1 hp hkey hat
      rw [← ekl] at hlk hrg2
      have hC2 := HI.out.2.2.1.step HI.out.2.2.2.1 hp hlk
      have hb2 : Below w.heap.size w w2 := HI.out.2.2.2.2.grown hg2 HI.out.2.2.2.2.size (fun k hk => by cases hk; exact Nat.le_refl _)
      have hsn := sumK_snoc M ss p.1 t
      obtain ⟨⟨a0, a1, a2⟩, pn⟩ := p
      simp only at hsn ha
      rw [← ha] at hsn
      have HR := Lib.hid (And.intro hrg2 (And.intro hM2 (And.intro hC2 (And.intro hb2 (And.intro hlt hsn)))))
      simp only [kv, id] at hen ⊢
      clear hrg2 hM2 hC2 hb2 hlt hs2 hg2 hat hlk hkey hp ekl hv hsn ha hbr
      by_cases ct : a2.toList = t.toList
      · have c1 : (a2.toList == t.toList) = true := by simp [ct]
        have HT := Lib.hid ((toList_iff a2 t).1 ct)
        clear ct
        go_wp2
        go_roundg (cnt2 + 1)
        case measure => have := HI.out.1; have := HR.out.2.2.2.2.1; omega
        case rel =>
          obtain ⟨r1, r2, r3, r4, r5, r6⟩ := HR.out
          refine ⟨_, cnt2, ss ++ [⟨a0, a1, a2⟩], ?_, ⟨rfl, r1.alloc _, r3, r2.below ((Below.refl _ _).alloc (Nat.le_refl _) _), r4.alloc r4.size _⟩⟩
          rw [r6, if_pos HT.out, wrap64_add]
      · have c1 : (a2.toList == t.toList) = false := by simp [ct]
        have HT := Lib.hid (fun h => ct ((toList_iff a2 t).2 h))
        clear ct
        go_wp2
        go_roundg (cnt2 + 1)
        case measure => have := HI.out.1; have := HR.out.2.2.2.2.1; omega
        case rel =>
          obtain ⟨r1, r2, r3, r4, r5, r6⟩ := HR.out
          refine ⟨_, cnt2, ss ++ [⟨a0, a1, a2⟩], ?_, ⟨rfl, r1.alloc _, r3, r2.below ((Below.refl _ _).alloc (Nat.le_refl _) _), r4.alloc r4.size _⟩⟩
          rw [r6, if_neg HT.out, Int.add_zero]
end Go.Proofs.Ytoknlpecbdlbfaa.PL

-- Which balances are a ledger's: the plain law.
namespace Go.Proofs.Ytoknlpecbdlbfaa.PL
open Go Go.RowKit Go.Maps Go.Sort Go.Shelf Go.Proofs Go.Proofs.YtoknlpecbdlbfaaW.PrintWords Go.Proofs.YtoknlpecbdlbfaaW.PrintLast
/-- What no account may have. -/
def badN (a0 n : Int) : Prop := n = 0 ∨ (n < 0 ∧ 0 < a0) ∨ 72057594037927936 < n ∨ n < -72057594037927936
instance (a0 n : Int) : Decidable (badN a0 n) := by unfold badN; infer_instance
/-- Does the account ahead stand ahead? -/
def ahO : Option S45 → S45 → Bool
  | none, _ => true
  | some a, b => aheadB a.f0 a.f1 a.f2 b
/-- What is wrong with balances, one by one. -/
def ofP : Option S45 → List S82 → Int
  | _, [] => 0
  | p, b :: r => if goodI (to42 b.f0) ≠ 0 then goodI (to42 b.f0) else if badN b.f0.f0 b.f1 then 1 else if ahO p b.f0 = true then ofP (some b.f0) r else 7
/-- Some thing's sum is not nothing. -/
def offD (L R : List S82) : Prop := ∃ x ∈ R, ¬ wrap64 (sumL L x.f0.f2) = 0
instance (L R : List S82) : Decidable (offD L R) := by unfold offD; infer_instance
def offL (L : List S82) : Prop := offD L L
instance (L : List S82) : Decidable (offL L) := by unfold offL; infer_instance
/-- What is wrong with balances. -/
def ofR (L : List S82) : Int := if ofP none L ≠ 0 then ofP none L else if offL L then 20 else 0
theorem ahead_f (a b : S45) : lombardref11_Ahead.f a.f0 a.f1 a.f2 b.f0 b.f1 b.f2 = some (aheadB a.f0 a.f1 a.f2 b) := by
  unfold lombardref11_Ahead.f aheadB
  split
  · split <;> rfl
  · rfl
theorem rd_drop82 {L : List S82} {i : Nat} {b : S82} {r : List S82} (h : L.drop i = b :: r) : rd_T82 L (i : Int) = b ∧ i < L.length ∧ L.drop (i + 1) = r := by
  have hlt : i < L.length := by
    have := congrArg List.length h
    simp at this
    omega
  rw [List.drop_eq_getElem_cons hlt] at h
  injection h with h1 h2
  refine ⟨?_, hlt, h2⟩
  unfold rd_T82
  simp [List.getD, hlt, h1]
theorem of_l2 (L : List S82) (hL : L.length ≤ 1000) (i : Nat) (hi : i < L.length) (K : Nat) (s : Int) (hs : ∀ k, K ≤ k → lombardref11_Of.l1 k L ((i + 1 : Nat) : Int) = some s) :
    ∀ (k j : Nat) (z : Int) (R : List S82), L.drop j = R → j ≤ L.length → R.length + 1 + K ≤ k → lombardref11_Of.l2 k L (i : Int) (wrap64 z) (j : Int) = some (if wrap64 (z + sumL R (rd_T82 L (i : Int)).f0.f2) ≠ 0 then 20 else s)
  | 0, _, _, _, _, _, hk => by omega
  | k + 1, j, z, [], hR, hj, hk => by
    have hjl : ¬ (j : Int) < (L.length : Int) := by
      have := congrArg List.length hR
      simp at this
      omega
    have hw : wrap64 ((i : Int) + 1) = ((i + 1 : Nat) : Int) := by rw [wrap_id (by omega) (by omega)]; rfl
    unfold lombardref11_Of.l2
    rw [if_neg hjl, hw, hs k (by simp at hk; omega)]
    have e : sumL [] (rd_T82 L (i : Int)).f0.f2 = 0 := rfl
    rw [e, Int.add_zero]
    by_cases c : wrap64 z = 0
    · rw [if_pos c, if_neg (fun h => h c)]
    · rw [if_neg c, if_pos c]
  | k + 1, j, z, b :: r, hR, hj, hk => by
    obtain ⟨h1, h2, h3⟩ := rd_drop82 hR
    have hw : wrap64 ((j : Int) + 1) = ((j + 1 : Nat) : Int) := by rw [wrap_id (by omega) (by omega)]; rfl
    have e : sumL (b :: r) (rd_T82 L (i : Int)).f0.f2 = (if b.f0.f2 = (rd_T82 L (i : Int)).f0.f2 then b.f1 else 0) + sumL r (rd_T82 L (i : Int)).f0.f2 := by simp [sumL]
    unfold lombardref11_Of.l2
    rw [if_pos (by omega), if_pos (by omega), if_pos (by omega), if_pos (by omega), h1, hw, e]
    simp only [List.length_cons] at hk
    by_cases c : b.f0.f2 = (rd_T82 L (i : Int)).f0.f2
    · rw [if_pos ((toList_iff _ _).2 c), wrap64_add, of_l2 L hL i hi K s hs k (j + 1) (z + b.f1) r h3 (by omega) (by omega), if_pos c, Int.add_assoc]
    · rw [if_neg (fun h => c ((toList_iff _ _).1 h)), of_l2 L hL i hi K s hs k (j + 1) z r h3 (by omega) (by omega), if_neg c, Int.zero_add]
theorem of_l1 (L : List S82) (hL : L.length ≤ 1000) : ∀ (m i k : Nat), i + m = L.length → m * (L.length + 2) + 1 ≤ k → lombardref11_Of.l1 k L (i : Int) = some (if offD L (L.drop i) then 20 else 0)
  | 0, i, 0, _, hk => by omega
  | 0, i, k + 1, hi, hk => by
    unfold lombardref11_Of.l1
    rw [if_neg (by omega), List.drop_eq_nil_of_le (by omega), if_neg (by rintro ⟨x, hx, _⟩; cases hx)]
  | m + 1, i, k, hi, hk => by
    have hil : i < L.length := by omega
    have hk2 : (m + 1) * (L.length + 2) = m * (L.length + 2) + (L.length + 2) := by rw [Nat.add_mul, Nat.one_mul]
    obtain ⟨k, rfl⟩ : ∃ k', k = k' + 1 := ⟨k - 1, by omega⟩
    unfold lombardref11_Of.l1
    rw [if_pos (by omega)]
    have h2 := of_l2 L hL i hil (m * (L.length + 2) + 1) (if offD L (L.drop (i + 1)) then 20 else 0) (fun k' hk' => of_l1 L hL m (i + 1) k' (by omega) hk') k 0 0 L rfl (Nat.zero_le _) (by omega)
    have hz : wrap64 0 = 0 := by unfold wrap64; omega
    rw [hz, Int.zero_add] at h2
    refine h2.trans ?_
    have e1 : rd_T82 L (i : Int) = L[i] := by
      unfold rd_T82
      simp [List.getD, hil]
    rw [e1, List.drop_eq_getElem_cons hil]
    by_cases c : wrap64 (sumL L L[i].f0.f2) ≠ 0
    · rw [if_pos c, if_pos (show offD _ _ from ⟨_, List.mem_cons_self, c⟩)]
    · rw [if_neg c]
      by_cases c2 : offD L (L.drop (i + 1))
      · rw [if_pos c2]
        obtain ⟨x, hx, hc⟩ := c2
        rw [if_pos (show offD _ _ from ⟨x, List.mem_cons_of_mem _ hx, hc⟩)]
      · rw [if_neg c2, if_neg]
        rintro ⟨x, hx, hc⟩
        rcases List.mem_cons.1 hx with rfl | hx
        · exact c hc
        · exact c2 ⟨x, hx, hc⟩
/-- The account ahead of place i. -/
def prevO (L : List S82) : Nat → Option S45
  | 0 => none
  | i + 1 => some (rd_T82 L (i : Int)).f0
theorem of_l0 (L : List S82) (hL : L.length ≤ 1000) (K : Nat) (s : Int) (hs : ∀ k, K ≤ k → lombardref11_Of.l1 k L 0 = some s) : ∀ (k i : Nat) (R : List S82), L.drop i = R → i ≤ L.length → 2 * R.length + 3 + K ≤ k →
    lombardref11_Of.l0 k L (i : Int) = some (if ofP (prevO L i) R ≠ 0 then ofP (prevO L i) R else s)
  | 0, _, _, _, _, hk => by omega
  | k + 1, i, [], hR, hi, hk => by
    have hil : ¬ (i : Int) < (L.length : Int) := by
      have := congrArg List.length hR
      simp at this
      omega
    unfold lombardref11_Of.l0
    rw [if_neg hil, hs k (by omega)]
    simp [ofP]
  | 1, i, b :: r, hR, hi, hk => by simp only [List.length_cons] at hk; omega
  | 2, i, b :: r, hR, hi, hk => by simp only [List.length_cons] at hk; omega
  | k + 3, i, b :: r, hR, hi, hk => by
    obtain ⟨h1, h2, h3⟩ := rd_drop82 hR
    simp only [List.length_cons] at hk
    have hw : wrap64 ((i : Int) + 1) = ((i + 1 : Nat) : Int) := by rw [wrap_id (by omega) (by omega)]; rfl
    have hnext := of_l0 L hL K s hs (k + 1) (i + 1) r h3 (by omega) (by omega)
    have hp : prevO L (i + 1) = some b.f0 := by show some (rd_T82 L (i : Int)).f0 = some b.f0; rw [h1]
    have hwr : lombardref11_Wrong.f (k + 2) b.f0.f0 b.f0.f1 b.f0.f2 = some (goodI (to42 b.f0)) := wrong_f (to42 b.f0) (k + 1)
    have hj : lombardref11_Of.j1 (k + 2) L (i : Int) false b.f0.f0 b.f0.f1 b.f0.f2 = some (if (if ahO (prevO L i) b.f0 = true then ofP (some b.f0) r else 7) ≠ 0 then (if ahO (prevO L i) b.f0 = true then ofP (some b.f0) r else 7) else s) := by
      unfold lombardref11_Of.j1
      rw [if_neg (by simp)]
      cases i with
      | zero =>
        rw [if_neg (by simp), hw, hnext, hp]
        simp [prevO, ahO]
      | succ i' =>
        have hw1 : wrap64 (((i' + 1 : Nat) : Int) - 1) = (i' : Int) := by
          rw [wrap_id (by omega) (by omega)]
          omega
        rw [if_pos (by omega), hw1, if_pos (by omega), if_pos (by omega), ahead_f]
        obtain ⟨q, hq⟩ : ∃ q, ahO (prevO L (i' + 1)) b.f0 = q := ⟨_, rfl⟩
        have hq' : aheadB (rd_T82 L (i' : Int)).f0.f0 (rd_T82 L (i' : Int)).f0.f1 (rd_T82 L (i' : Int)).f0.f2 b.f0 = q := hq
        rw [hq, hq']
        simp only [Option.bind_some]
        cases q with
        | true => rw [if_pos rfl, hw, hnext, hp, if_pos rfl]
        | false =>
          simp
    have hjt : lombardref11_Of.j1 (k + 2) L (i : Int) true b.f0.f0 b.f0.f1 b.f0.f2 = some 1 := by
      unfold lombardref11_Of.j1
      rw [if_pos rfl]
    unfold lombardref11_Of.l0
    rw [if_pos (by omega), if_pos (by omega), h1, hwr]
    simp only [Option.bind_some]
    by_cases cg : goodI (to42 b.f0) = 0
    · have hof : ofP (prevO L i) (b :: r) = if badN b.f0.f0 b.f1 then 1 else if ahO (prevO L i) b.f0 = true then ofP (some b.f0) r else 7 := by
        show (if goodI (to42 b.f0) ≠ 0 then _ else _) = _
        rw [if_neg (fun h => h cg)]
      rw [if_pos cg, hof]
      by_cases c0 : b.f1 = 0
      · rw [if_pos c0, hjt, if_pos (show badN _ _ from .inl c0)]
        simp
      · rw [if_neg c0]
        by_cases c1 : b.f1 < 0
        · rw [if_pos c1]
          by_cases c2 : b.f0.f0 > 0
          · rw [if_pos c2, hjt, if_pos (show badN _ _ from .inr (.inl ⟨c1, c2⟩))]
            simp
          · rw [if_neg c2, if_neg (by omega)]
            by_cases c3 : b.f1 < -72057594037927936
            · rw [show decide (b.f1 < -72057594037927936) = true from decide_eq_true c3, hjt, if_pos (show badN _ _ from .inr (.inr (.inr c3)))]
              simp
            · rw [show decide (b.f1 < -72057594037927936) = false from decide_eq_false c3, hj, if_neg (show ¬ badN _ _ from by unfold badN; omega)]
        · rw [if_neg c1]
          by_cases c2 : b.f1 > 72057594037927936
          · rw [if_pos c2, hjt, if_pos (show badN _ _ from .inr (.inr (.inl c2)))]
            simp
          · rw [if_neg c2]
            rw [show decide (b.f1 < -72057594037927936) = false from decide_eq_false (by omega), hj, if_neg (show ¬ badN _ _ from by unfold badN; omega)]
    · have hof : ofP (prevO L i) (b :: r) = goodI (to42 b.f0) := by
        show (if goodI (to42 b.f0) ≠ 0 then _ else _) = _
        rw [if_pos cg]
      rw [if_neg cg, hof, if_pos cg]
theorem of_f (L : List S82) (hL : L.length ≤ 1000) : ∃ k, lombardref11_Of.f k L = some (ofR L) := by
  have hs : ∀ k, L.length * (L.length + 2) + 1 ≤ k → lombardref11_Of.l1 k L 0 = some (if offL L then 20 else 0) := fun k hk => by
    have := of_l1 L hL L.length 0 k (by omega) hk
    rw [List.drop_zero] at this
    exact this
  have h := of_l0 L hL _ _ hs (2 * L.length + 3 + (L.length * (L.length + 2) + 1)) 0 L rfl (Nat.zero_le _) (Nat.le_refl _)
  exact ⟨_, h⟩
end Go.Proofs.Ytoknlpecbdlbfaa.PL

-- The ledger that Of makes: the plain law.
namespace Go.Proofs.Ytoknlpecbdlbfaa.PL
open Go Go.RowKit Go.Maps Go.Sort Go.Shelf Go.Proofs Go.Proofs.YtoknlpecbdlbfaaW.PrintWords Go.Proofs.YtoknlpecbdlbfaaW.PrintLast
theorem ofP_ok : ∀ (L : List S82) (p : Option S45), ofP p L = 0 → Up L ∧ (∀ x ∈ L, goodI (to42 x.f0) = 0 ∧ ¬ badN x.f0.f0 x.f1) ∧ (∀ a, p = some a → ∀ x ∈ L, Bef (to42 a) (to42 x.f0))
  | [], p, _ => ⟨List.Pairwise.nil, (fun x hx => by cases hx), (fun a _ x hx => by cases hx)⟩
  | b :: r, p, h => by
    unfold ofP at h
    by_cases cg : goodI (to42 b.f0) = 0
    · rw [if_neg (fun q => q cg)] at h
      by_cases cb : badN b.f0.f0 b.f1
      · rw [if_pos cb] at h
        exact absurd h (by decide)
      · rw [if_neg cb] at h
        by_cases ca : ahO p b.f0 = true
        · rw [if_pos ca] at h
          obtain ⟨h1, h2, h3⟩ := ofP_ok r (some b.f0) h
          have h4 := h3 b.f0 rfl
          refine ⟨List.pairwise_cons.2 ⟨h4, h1⟩, ?_, ?_⟩
          · intro x hx
            rcases List.mem_cons.1 hx with rfl | hx
            · exact ⟨cg, cb⟩
            · exact h2 x hx
          · rintro a rfl x hx
            have h5 : Bef (to42 a) (to42 b.f0) := (ahead_iff (to42 a) b.f0).1 ca
            rcases List.mem_cons.1 hx with rfl | hx
            · exact h5
            · exact h5.trans (h4 x hx)
        · rw [if_neg ca] at h
          exact absurd h (by decide)
    · rw [if_pos cg] at h
      exact absurd h cg
/-- The map behind the stores. -/
def storeF (M : List (S42 × Int)) : List S82 → List (S42 × Int)
  | [] => M
  | b :: r => storeF (setM M (to42 b.f0) b.f1) r
theorem storeF_snoc (b : S82) : ∀ (L : List S82) (M : List (S42 × Int)), storeF M (L ++ [b]) = setM (storeF M L) (to42 b.f0) b.f1
  | [], _ => rfl
  | x :: r, M => storeF_snoc b r _
theorem storeF_take {L : List S82} {k : Nat} (hk : k < L.length) (M : List (S42 × Int)) : storeF M (L.take (k + 1)) = setM (storeF M (L.take k)) (to42 L[k].f0) L[k].f1 := by
  rw [List.take_succ_eq_append_getElem hk]
  exact storeF_snoc _ _ _
theorem length_storeF : ∀ (L : List S82) (M : List (S42 × Int)), (storeF M L).length ≤ M.length + L.length
  | [], M => by simp [storeF]
  | b :: r, M => by
    have h1 := length_storeF r (setM M (to42 b.f0) b.f1)
    have h2 : (setM M (to42 b.f0) b.f1).length ≤ M.length + 1 := by unfold setM; split <;> simp
    unfold storeF
    simp only [List.length_cons]
    omega
/-- Balances as a map. -/
def mapOf (L : List S82) : List (S42 × Int) := L.map (fun b => (to42 b.f0, b.f1))
theorem keys_mapOf (L : List S82) : (mapOf L).map Prod.fst = keysL L := by
  unfold mapOf keysL
  rw [List.map_map]
  rfl
theorem storeF_map : ∀ (L : List S82) (M : List (S42 × Int)), Up L → (∀ a ∈ M.map Prod.fst, ∀ x ∈ L, Bef a (to42 x.f0)) → storeF M L = M ++ mapOf L
  | [], M, _, _ => by simp [storeF, mapOf]
  | b :: r, M, hu, hM => by
    have hu' := List.pairwise_cons.1 hu
    have hn : to42 b.f0 ∉ M.map Prod.fst := fun h => Bef.irrefl _ (hM _ h b List.mem_cons_self)
    unfold storeF
    rw [storeF_map r _ hu'.2]
    · unfold setM
      rw [if_neg hn]
      simp [mapOf]
    · intro a ha x hx
      unfold setM at ha
      rw [if_neg hn, List.map_append, List.mem_append] at ha
      rcases ha with ha | ha
      · exact hM a ha x (List.mem_cons_of_mem _ hx)
      · simp at ha
        subst ha
        exact hu'.1 x hx
theorem getM_mapOf : ∀ (L : List S82) (a : S42), getM (mapOf L) a = gL L a
  | [], a => by rw [gL_nil]; rfl
  | b :: r, a => by
    rw [gL_cons, ← getM_mapOf r a]
    rfl
theorem rep_mapOf {L : List S82} (h : ofP none L = 0) : Rep (storeF [] L) L := by
  obtain ⟨hu, hg, _⟩ := ofP_ok L none h
  have hnz : ∀ x ∈ L, x.f1 ≠ 0 := fun x hx hz => (hg x hx).2 (.inl hz)
  rw [storeF_map L [] hu (fun a ha => by cases ha), List.nil_append]
  refine ⟨⟨by rw [keys_mapOf]; exact asc_nodup (asc_keys hu), ?_⟩, hu, hnz, getM_mapOf L⟩
  intro p hp
  obtain ⟨x, hx, rfl⟩ := List.mem_map.1 hp
  exact hnz x hx
/-- Which things the program's list of things has. -/
theorem compB_eq (L : List S82) : compB (thingsOf L) = ((List.range L.length).filter (Lib.keeps ((thingsOf L).map bl).toArray)).map (fun j : Nat => (rd_T82 L (j : Int)).f0.f2) := by
  unfold compB Lib.compact Lib.compactUpTo
  rw [List.map_map, List.length_map]
  have e : (thingsOf L).length = L.length := by simp [thingsOf]
  rw [e]
  refine List.map_congr_left fun j hj => ?_
  have hj' : j < L.length := by
    have := (List.mem_filter.1 hj).1
    rw [List.mem_range] at this
    exact this
  show (⟨(((thingsOf L).map bl).toArray[j]!).toArray⟩ : ByteArray) = _
  rw [at_bl L hj']
  unfold bl
  simp
theorem mem_compB (L : List S82) (t : ByteArray) : t ∈ compB (thingsOf L) ↔ ∃ x ∈ L, x.f0.f2 = t := by
  have hat : ∀ {j : Nat} (h : j < L.length), rd_T82 L (j : Int) = L[j] := fun {j} h => by
    unfold rd_T82
    simp [List.getD, h]
  rw [compB_eq]
  constructor
  · intro h
    obtain ⟨j, hj, rfl⟩ := List.mem_map.1 h
    have hj' : j < L.length := by
      have := (List.mem_filter.1 hj).1
      rw [List.mem_range] at this
      exact this
    exact ⟨L[j], List.getElem_mem hj', by rw [hat hj']⟩
  · rintro ⟨x, hx, rfl⟩
    obtain ⟨j, hj, rfl⟩ := List.getElem_of_mem hx
    clear hx
    have key : ∀ j, ∀ hj : j < L.length, L[j].f0.f2 ∈ ((List.range L.length).filter (Lib.keeps ((thingsOf L).map bl).toArray)).map (fun j : Nat => (rd_T82 L (j : Int)).f0.f2) := by
      intro j
      induction j with
      | zero =>
        intro hj
        refine List.mem_map.2 ⟨0, List.mem_filter.2 ⟨by simpa using hj, (keeps_iff L hj).2 (.inl rfl)⟩, ?_⟩
        rw [hat hj]
      | succ j ih =>
        intro hj
        by_cases hk : Lib.keeps ((thingsOf L).map bl).toArray (j + 1) = true
        · exact List.mem_map.2 ⟨j + 1, List.mem_filter.2 ⟨by simpa using hj, hk⟩, by rw [hat hj]⟩
        · have h1 : (rd_T82 L ((j + 1 : Nat) : Int)).f0.f2.toList = (rd_T82 L ((j + 1 - 1 : Nat) : Int)).f0.f2.toList := by
            refine Classical.byContradiction fun hc => hk ((keeps_iff L hj).2 (.inr hc))
          rw [hat hj, Nat.add_sub_cancel, hat (j := j) (by omega)] at h1
          rw [(toList_iff _ _).1 h1]
          exact ih (by omega)
    exact key j hj
theorem off_iff {M : List (S42 × Int)} {L : List S82} (hr : Rep M L) : (∃ t ∈ compB (thingsOf L), ¬ wrap64 (sumM M t) = 0) ↔ offL L := by
  constructor
  · rintro ⟨t, ht, hc⟩
    obtain ⟨x, hx, rfl⟩ := (mem_compB L t).1 ht
    exact ⟨x, hx, by rw [rep_sum hr]; exact hc⟩
  · rintro ⟨x, hx, hc⟩
    exact ⟨x.f0.f2, (mem_compB L _).2 ⟨x, hx, rfl⟩, by rw [← rep_sum hr]; exact hc⟩
end Go.Proofs.Ytoknlpecbdlbfaa.PL
