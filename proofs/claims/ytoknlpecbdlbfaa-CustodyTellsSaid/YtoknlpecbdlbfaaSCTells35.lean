/- Part 35 of the proof's texts: what the theorem needs of them. -/
import Derived.Test.YtoknlpecbdlbfaaSCTells32
import Derived.StringKeys
import Derived.Test.YtoknlpecbdlbfaaSCTells34

-- A map of things in memory.
namespace Go.Proofs.Ytoknlpecbdlbfaa.PL
open Go.RowKit Go.Maps Go.MapKept
open Go.ChangeMaps (setBlock)
open Go.WideElems (Fit rd rd_mk rd_key rd_val other_key)
theorem law9 : Keyed Try.prog 9 := Keyed.of_law (Go.WideMaps.string_law Try.underlying9)
/-- A thing's value. -/
def ks (s : ByteArray) : Value := .string s
theorem ks_inj {a b : ByteArray} (h : ks a = ks b) : a = b := by
  injection h
theorem keyOf_ks {a : ByteArray} (h : a.size ≤ maxLen) : ∃ l, keyOf Try.prog 9 (ks a) = some l := by
  unfold ks
  exact ⟨_, Go.WideMaps.keyOf_string_mk Try.underlying9 h⟩
instance memDec (a : ByteArray) (l : List ByteArray) : Decidable (a ∈ l) := decidable_of_iff (∃ x ∈ l, x = a) ⟨fun ⟨_, h, e⟩ => e ▸ h, fun h => ⟨a, h, rfl⟩⟩
/-- What a thing has; a store: over the list of the map's entries. -/
def getT : List (ByteArray × Int) → ByteArray → Int
  | [], _ => 0
  | p :: r, a => if p.1 = a then p.2 else getT r a
def setT (M : List (ByteArray × Int)) (a : ByteArray) (n : Int) : List (ByteArray × Int) := if a ∈ M.map Prod.fst then M.map (fun p => if p.1 = a then (a, n) else p) else M ++ [(a, n)]
theorem getT_none {M : List (ByteArray × Int)} {a : ByteArray} (h : a ∉ M.map Prod.fst) : getT M a = 0 := by
  induction M with
  | nil => rfl
  | cons p r ih =>
    simp only [List.map_cons, List.mem_cons, not_or] at h
    unfold getT
    rw [if_neg (fun e => h.1 e.symm), ih h.2]
theorem getT_at {M : List (ByteArray × Int)} (hn : (M.map Prod.fst).Nodup) : ∀ {j : Nat} {a : ByteArray} {n : Int}, M[j]? = some (a, n) → getT M a = n := by
  induction M with
  | nil => intro j a n h; simp at h
  | cons p r ih =>
    intro j a n h
    simp only [List.map_cons, List.nodup_cons] at hn
    unfold getT
    cases j with
    | zero =>
      simp at h
      subst h
      rw [if_pos rfl]
    | succ j =>
      simp at h
      have hm : a ∈ r.map Prod.fst := List.mem_map.2 ⟨(a, n), List.mem_of_getElem? h, rfl⟩
      rw [if_neg (fun e => hn.1 (by rw [e]; exact hm)), ih hn.2 h]
theorem setT_at {M : List (ByteArray × Int)} (hn : (M.map Prod.fst).Nodup) {j : Nat} {a : ByteArray} {n m : Int} (h : M[j]? = some (a, n)) : setT M a m = M.set j (a, m) := by
  have hm : a ∈ M.map Prod.fst := List.mem_map.2 ⟨(a, n), List.mem_of_getElem? h, rfl⟩
  unfold setT
  rw [if_pos hm]
  clear hm
  induction M generalizing j with
  | nil => simp at h
  | cons p r ih =>
    simp only [List.map_cons, List.nodup_cons] at hn
    cases j with
    | zero =>
      simp at h
      subst h
      simp only [List.map_cons, if_true, List.set_cons_zero, List.cons.injEq, true_and]
      have : ∀ q ∈ r, (if q.1 = a then (a, m) else q) = q := by
        intro q hq
        rw [if_neg]
        intro e
        exact hn.1 (List.mem_map.2 ⟨q, hq, e⟩)
      rw [List.map_congr_left this]; simp
    | succ j =>
      simp at h
      have hm : a ∈ r.map Prod.fst := List.mem_map.2 ⟨(a, n), List.mem_of_getElem? h, rfl⟩
      rw [List.map_cons, if_neg (fun e => hn.1 (by rw [e]; exact hm)), List.set_cons_succ, ih hn.2 h]
/-- Block b holds the map M (in the order in which the entries lie). -/
def SM (w : World) (b : Nat) (M : List (ByteArray × Int)) : Prop :=
  ∃ es clock, w.heap[b]? = some (.map es clock) ∧ Fit (H := Unit) Try.prog 9 (plainElem Try.prog 3) es clock ∧ es.toList.map (fun e => (e.key, e.val)) = M.map (fun p => (ks p.1, Value.int .i64 p.2))
theorem SM.lt {w : World} {b : Nat} {M : List (ByteArray × Int)} (h : SM w b M) : b < w.heap.size := by
  obtain ⟨es, clock, hb, _⟩ := h
  exact (Array.getElem?_eq_some_iff.1 hb).1
theorem SM.move {w w' : World} {b : Nat} {M : List (ByteArray × Int)} (h : SM w b M) (hm : w'.heap[b]? = w.heap[b]?) : SM w' b M := by
  obtain ⟨es, clock, hb, rest⟩ := h
  exact ⟨es, clock, hm.trans hb, rest⟩
theorem SM.grown {w w' : World} {b : Nat} {M : List (ByteArray × Int)} {row : Option Nat} (h : SM w b M) (hg : w.grownBy w' row) (hr : some b ≠ row) : SM w' b M := h.move (hg.block b h.lt hr)
theorem SM.below {w w' : World} {b : Nat} {M : List (ByteArray × Int)} (h : SM w b M) (hb : Below w.heap.size w w') : SM w' b M := h.move (hb.block b h.lt)
theorem SM.get {es : Array MapEntry} {M : List (ByteArray × Int)} (hM : es.toList.map (fun e => (e.key, e.val)) = M.map (fun p => (ks p.1, Value.int .i64 p.2))) {j : Nat} {e : MapEntry} (h : es.toList[j]? = some e) : ∃ p, M[j]? = some p ∧ e.key = ks p.1 ∧ e.val = .int .i64 p.2 := by
  have h1 : (es.toList.map (fun e => (e.key, e.val)))[j]? = some (e.key, e.val) := by rw [List.getElem?_map, h]; rfl
  rw [hM, List.getElem?_map] at h1
  cases hp : M[j]? with
  | none => rw [hp] at h1; cases h1
  | some p =>
    rw [hp] at h1
    simp at h1
    exact ⟨p, rfl, h1.1.symm, h1.2.symm⟩
theorem SM.nodup_of {es : Array MapEntry} {clock : Nat} {M : List (ByteArray × Int)} (F : Fit (H := Unit) Try.prog 9 (plainElem Try.prog 3) es clock) (hM : es.toList.map (fun e => (e.key, e.val)) = M.map (fun p => (ks p.1, Value.int .i64 p.2))) : (M.map Prod.fst).Nodup := by
  have hn : es.toList.Pairwise (fun x y => x.key ≠ y.key) := ((stamped_iff es clock).1 F.stamped).2.2
  have h1 : (es.toList.map (fun e => (e.key, e.val))).Pairwise (fun x y => x.1 ≠ y.1) := List.pairwise_map.2 hn
  rw [hM] at h1
  exact List.pairwise_map.2 ((List.pairwise_map.1 h1).imp (fun hne e => hne (by show ks _ = ks _; rw [e])))
theorem SM.nodup {w : World} {b : Nat} {M : List (ByteArray × Int)} (h : SM w b M) : (M.map Prod.fst).Nodup := by
  obtain ⟨es, clock, hb, F, hM⟩ := h
  exact SM.nodup_of F hM
theorem SM.none_of {es : Array MapEntry} {M : List (ByteArray × Int)} {a : ByteArray} (hM : es.toList.map (fun e => (e.key, e.val)) = M.map (fun p => (ks p.1, Value.int .i64 p.2))) (h : ∀ e ∈ es.toList, e.key ≠ ks a) : a ∉ M.map Prod.fst := by
  intro hm
  obtain ⟨p, hp, rfl⟩ := List.mem_map.1 hm
  have : (ks p.1, Value.int .i64 p.2) ∈ es.toList.map (fun e => (e.key, e.val)) := by rw [hM]; exact List.mem_map.2 ⟨p, hp, rfl⟩
  obtain ⟨e, he, hee⟩ := List.mem_map.1 this
  exact h e he (by simp at hee; exact hee.1)
/-- x.m[a]. -/
theorem SM.lookup {w : World} {b : Nat} {M : List (ByteArray × Int)} (h : SM w b M) {a : ByteArray} (ha : a.size ≤ maxLen) : (Instr.lookup 40 (.map (some b)) (ks a) false).run Try.prog w = .ok (.int .i64 (getT M a)) w := by
  obtain ⟨es, clock, hb, F, hM⟩ := h
  obtain ⟨l, hkey⟩ := keyOf_ks ha
  have hn := SM.nodup_of F hM
  rcases law9.find w hkey es.toList F.keys with ⟨h1, h2⟩ | ⟨j, e0, h1, h2, h3⟩
  · rw [getT_none (SM.none_of hM h2)]
    simp [Instr.lookup, run_underlying Try.underlying40, MapKept.run_getObj_map hb, law9.check w _ hkey, h1, zero3 w, Result.andThen]
  · obtain ⟨p, hp, e1, e2⟩ := SM.get hM h2
    obtain rfl : p.1 = a := ks_inj (e1.symm.trans h3)
    rw [getT_at hn (n := p.2) hp]
    simp [Instr.lookup, run_underlying Try.underlying40, MapKept.run_getObj_map hb, law9.check w _ hkey, h1, e2, Result.andThen]
/-- x.m[a] = n. -/
theorem SM.store {w : World} {b : Nat} {M : List (ByteArray × Int)} (h : SM w b M) {a : ByteArray} (ha : a.size ≤ maxLen) {n : Int} (hn : (Lit.int .i64 n).wf = true) (hroom : M.length < maxLen) :
    ∃ w', (Instr.mapUpdate 40 (.map (some b)) (ks a) (.int .i64 n)).run Try.prog w = .ok () w' ∧ SM w' b (setT M a n) ∧ w.grownBy w' (some b) ∧ w'.heap.size = w.heap.size := by
  obtain ⟨es, clock, hb, F, hM⟩ := h
  obtain ⟨l, hkey⟩ := keyOf_ks ha
  have hnd := SM.nodup_of F hM
  have hlen : es.size = M.length := by have := congrArg List.length hM; simpa using this
  have hv : plainElem (H := Unit) Try.prog 3 (.int .i64 n) = some (.lit (.int .i64 n), []) := plainElem_int Try.underlying3 hn
  rcases law9.find w hkey es.toList F.keys with ⟨h1, h2⟩ | ⟨j, e0, h1, h2, h3⟩
  · refine ⟨setBlock w b (.map (es.push ⟨ks a, .int .i64 n, clock⟩) (clock + 1)), ?_, ⟨_, _, Go.ChangeMaps.heap_setBlock_same hb _, ⟨by simp; omega, stamped_push F.stamped h2, ?_⟩, ?_⟩, grown_setBlock hb, by simp [setBlock]⟩
    · simp [Instr.mapUpdate, run_underlying Try.underlying40, MapKept.run_getObj_map hb, law9.check w false hkey, h1, MapKept.run_setObj_map _ hb, Result.andThen, setBlock]
    · intro x hx
      simp only [Array.toList_push, List.mem_append, List.mem_singleton] at hx
      rcases hx with hx | rfl
      · exact F.reads x hx
      · exact ⟨_, rd_mk hkey hv⟩
    · unfold setT
      rw [if_neg (SM.none_of hM h2), Array.toList_push, List.map_append, List.map_append, hM]
      rfl
  · have hj : es[j]? = some e0 := by simpa using h2
    obtain ⟨p, hp, e1, e2⟩ := SM.get hM h2
    obtain rfl : p.1 = a := ks_inj (e1.symm.trans h3)
    have hkeyf : ∀ e', es[j]? = some e' → ({ e' with key := ks p.1, val := .int .i64 n } : MapEntry).key = e'.key := fun e' he' => by rw [hj] at he'; cases he'; exact h3.symm
    have hlist : (es.modify j (fun e' => { e' with key := ks p.1, val := .int .i64 n })).toList = es.toList.set j { e0 with key := ks p.1, val := .int .i64 n } := by rw [Array.toList_modify, Go.ChangeMaps.modify_eq_set _ _ _ _ h2]
    refine ⟨setBlock w b (.map (es.modify j (fun e' => { e' with key := ks p.1, val := .int .i64 n })) clock), ?_, ⟨_, _, Go.ChangeMaps.heap_setBlock_same hb _, ⟨by simpa using F.size, stamped_modify F.stamped _ _ (fun _ _ => rfl) (fun e' _ he' => hkeyf e' he'), ?_⟩, ?_⟩, grown_setBlock hb, by simp [setBlock]⟩
    · simp [Instr.mapUpdate, run_underlying Try.underlying40, MapKept.run_getObj_map hb, law9.check w false hkey, h1, hj, h3, law9.stays w hkey, MapKept.run_setObj_map _ hb, Result.andThen, setBlock]
    · intro x hx
      rw [hlist] at hx
      rcases List.mem_or_eq_of_mem_set hx with hx | rfl
      · exact F.reads x hx
      · exact ⟨_, rd_mk hkey hv⟩
    · rw [hlist, List.map_set, hM, setT_at hnd (n := p.2) hp, List.map_set]
end Go.Proofs.Ytoknlpecbdlbfaa.PL

-- Of each thing all accounts together have nothing: the plain law.
namespace Go.Proofs.Ytoknlpecbdlbfaa.PL
open Go Go.RowKit Go.Maps Go.Sort Go.Shelf Go.Proofs Go.Proofs.YtoknlpecbdlbfaaW.PrintWords Go.Proofs.YtoknlpecbdlbfaaW.PrintLast
/-- What all accounts together have of a thing. -/
def sumM (M : List (S42 × Int)) (t : ByteArray) : Int := (M.map (fun p => if p.1.f2 = t then p.2 else 0)).sum
def sumL (L : List S82) (t : ByteArray) : Int := (L.map (fun b => if b.f0.f2 = t then b.f1 else 0)).sum
theorem sumM_set {M : List (S42 × Int)} (hn : (M.map Prod.fst).Nodup) (a : S42) (n : Int) (t : ByteArray) : sumM (setM M a n) t = sumM M t + (if a.f2 = t then n - getM M a else 0) := by
  unfold setM
  by_cases h : a ∈ M.map Prod.fst
  · rw [if_pos h]
    induction M with
    | nil => simp at h
    | cons p r ih =>
      simp only [List.map_cons, List.nodup_cons] at hn
      by_cases e : p.1 = a
      · have hr : r.map (fun p => if p.1 = a then (a, n) else p) = r := by
          have : ∀ q ∈ r, (if q.1 = a then (a, n) else q) = q := by
            intro q hq
            rw [if_neg]
            intro e2
            exact hn.1 (by rw [e]; exact List.mem_map.2 ⟨q, hq, e2⟩)
          rw [List.map_congr_left this]; simp
        rw [List.map_cons, if_pos e, hr]
        unfold sumM getM
        rw [if_pos e]
        simp only [List.map_cons, List.sum_cons]
        rw [e]
        split <;> omega
      · have h' : a ∈ r.map Prod.fst := by
          rcases List.mem_cons.1 h with h | h
          · exact absurd h.symm e
          · exact h
        have := ih hn.2 h'
        rw [List.map_cons, if_neg e]
        unfold sumM at this ⊢
        have hg : getM (p :: r) a = getM r a := by
          show (if p.1 = a then p.2 else getM r a) = _
          rw [if_neg e]
        rw [List.map_cons, List.sum_cons, this, hg, List.map_cons, List.sum_cons]
        omega
  · rw [if_neg h, getM_none h]
    unfold sumM
    rw [List.map_append, List.sum_append]
    simp
theorem sumM_del {M : List (S42 × Int)} (hn : (M.map Prod.fst).Nodup) (a : S42) (t : ByteArray) : sumM (delM M a) t = sumM M t + (if a.f2 = t then 0 - getM M a else 0) := by
  by_cases h : a ∈ M.map Prod.fst
  · induction M with
    | nil => simp at h
    | cons p r ih =>
      simp only [List.map_cons, List.nodup_cons] at hn
      unfold delM
      by_cases e : p.1 = a
      · have hr : r.filter (fun p => !decide (p.1 = a)) = r := by
          refine List.filter_eq_self.2 (fun q hq => ?_)
          simp only [Bool.not_eq_true', decide_eq_false_iff_not]
          intro e2
          exact hn.1 (by rw [e]; exact List.mem_map.2 ⟨q, hq, e2⟩)
        rw [List.filter_cons, if_neg (by simp [e]), hr]
        unfold sumM getM
        rw [if_pos e]
        simp only [List.map_cons, List.sum_cons]
        rw [e]
        split <;> omega
      · have h' : a ∈ r.map Prod.fst := by
          rcases List.mem_cons.1 h with h | h
          · exact absurd h.symm e
          · exact h
        have := ih hn.2 h'
        unfold delM at this
        rw [List.filter_cons, if_pos (by simp [e])]
        unfold sumM at this ⊢
        have hg : getM (p :: r) a = getM r a := by
          show (if p.1 = a then p.2 else getM r a) = _
          rw [if_neg e]
        rw [List.map_cons, List.sum_cons, this, hg, List.map_cons, List.sum_cons]
        omega
  · rw [delM_none h, getM_none h]
    simp
theorem sumM_put {M : List (S42 × Int)} (hn : (M.map Prod.fst).Nodup) (a : S42) (n : Int) (t : ByteArray) : sumM (putM M a n) t = sumM M t + (if a.f2 = t then n - getM M a else 0) := by
  unfold putM
  split
  · rename_i e
    subst e
    exact sumM_del hn a t
  · exact sumM_set hn a n t
/-- What is known of every reached map: sums are nothing, and every account that has something is one. -/
structure Wh (M : List (S42 × Int)) : Prop where
  sum : ∀ t, sumM M t = 0
  good : ∀ a, getM M a ≠ 0 → goodI a = 0
theorem Wh.nil : Wh [] := ⟨fun _ => rfl, fun _ h => absurd rfl h⟩
theorem Wh.move {M : List (S42 × Int)} (h : Wh M) (hk : OkM M) (e : S107) : Wh (moveM M e).1 := by
  unfold moveM
  split
  · exact h
  · rename_i hck
    have hck' := check_good (Classical.not_not.1 hck)
    have hth : e.f0.f2 = e.f1.f2 := (toList_iff _ _).1 hck'.2.2.2.2
    split
    · exact h
    · split
      · exact h
      · split
        · refine ⟨fun t => ?_, fun a ha => ?_⟩
          · rw [sumM_put (hk.put _ _).nd, sumM_put hk.nd, getM_putM, if_pos rfl, h.sum]
            split <;> omega
          · rw [Eqv.back M e.f0 e.f2 a] at ha
            exact h.good a ha
        · refine ⟨fun t => ?_, fun a ha => ?_⟩
          · rw [sumM_put (hk.put _ _).nd, sumM_put hk.nd, h.sum, hth]
            split <;> omega
          · rw [getM_putM] at ha
            by_cases c1 : a = e.f1
            · rw [c1]; exact hck'.2.2.2.1
            · rw [if_neg c1, getM_putM] at ha
              by_cases c0 : a = e.f0
              · rw [c0]; exact hck'.2.2.1
              · rw [if_neg c0] at ha
                exact h.good a ha
theorem sum_perm {l l' : List Int} (h : l.Perm l') : l.sum = l'.sum := by
  induction h with
  | nil => rfl
  | cons x _ ih => rw [List.sum_cons, List.sum_cons, ih]
  | swap x y l => rw [List.sum_cons, List.sum_cons, List.sum_cons, List.sum_cons]; omega
  | trans _ _ h1 h2 => exact h1.trans h2
theorem rep_sum {M : List (S42 × Int)} {L : List S82} (h : Rep M L) (t : ByteArray) : sumL L t = sumM M t := by
  have h1 : (M.map (fun p => b82 p.1 p.2)).Perm L := by
    have h2 := rep_all h (ts := keysL L) (rep_keys h).symm (asc_keys h.up)
    have h3 : (M.map (fun p => b82 p.1 p.2)) = (M.map Prod.fst).map (fun a => b82 a (getM M a)) := by
      rw [List.map_map]
      refine List.map_congr_left (fun p hp => ?_)
      obtain ⟨j, hj, e⟩ := List.getElem_of_mem hp
      show b82 p.1 p.2 = b82 p.1 (getM M p.1)
      rw [getM_at h.ok.nd (j := j) (a := p.1) (n := p.2) (by rw [List.getElem?_eq_getElem hj, e])]
    rw [h3]
    conv => rhs; rw [← h2]
    exact (rep_keys h).map _
  unfold sumL sumM
  rw [← sum_perm (h1.map (fun b : S82 => if b.f0.f2 = t then b.f1 else 0)), List.map_map]
  rfl
/-- The same for the undone: it has what it had. -/
theorem Wh.of {M M' : List (S42 × Int)} {L : List S82} (h : Wh M) (hr : Rep M L) (hr' : Rep M' L) : Wh M' :=
  ⟨fun t => by rw [← rep_sum hr', rep_sum hr, h.sum], fun a ha => h.good a (by rw [hr.same, ← hr'.same]; exact ha)⟩
theorem fin_Wh : ∀ (l : List S107) (M : List (S42 × Int)), Wh M → OkM M → Wh (fin M l)
  | [], _, h, _ => h
  | e :: r, M, h, hk => fin_Wh r _ (h.move hk e) (hk.move e)
theorem Wh.post {M : List (S42 × Int)} {L : List S82} (h : Wh M) (hr : Rep M L) (hB : BM M) (l : List S107) : Wh (postL [] M l).1 := by
  obtain ⟨e1, e2, e3, e4⟩ := rep_post0 hr hB l
  by_cases c : (postL [] M l).2.2 = 0
  · rw [(post_allOk l [] M c).2]
    exact fin_Wh l M h hr.ok
  · rw [e2] at c
    rw [pst_fail l L 0 L c] at e3
    exact h.of hr e3
theorem wrap64_add (a b : Int) : wrap64 (wrap64 a + b) = wrap64 (a + b) := by
  unfold wrap64
  omega
end Go.Proofs.Ytoknlpecbdlbfaa.PL

-- Custody: both sides alike, plain.
namespace Go.Proofs.Ytoknlpecbdlbfaa.PL
open Go Go.RowKit Go.Maps Go.Sort Go.Shelf Go.Proofs Go.Proofs.YtoknlpecbdlbfaaW.PrintWords Go.Proofs.YtoknlpecbdlbfaaW.PrintLast
/-- The document's Bring. -/
def brR (L : List S82) (m : Int) (t : ByteArray) (q : Int) : List S82 × Int := if wrB m 1 = true then (L, 22) else if q < -1125899906842624 then (L, 1) else ((pstL L 0 L [brE m t q]).1, (pstL L 0 L [brE m t q]).2.2)
/-- The document's Move. -/
def cmR (L : List S82) (X : List S125) : List S82 × Int × Int := match fbL 0 X with
  | some i => (L, i, 22)
  | none => pstL L 0 L (X.map lnE)
theorem cmR_bad {L : List S82} {X : List S125} {i : Nat} (h : fbL 0 X = some i) : cmR L X = (L, (i : Int), 22) := by
  unfold cmR
  rw [h]
theorem cmR_ok {L : List S82} {X : List S125} (h : fbL 0 X = none) : cmR L X = pstL L 0 L (X.map lnE) := by
  unfold cmR
  rw [h]
theorem St.br {M : List (S42 × Int)} {L : List S82} (h : St M L) (m : Int) (t : ByteArray) (q : Int) : St (brL M m t q).1 (brR L m t q).1 ∧ (brL M m t q).2 = (brR L m t q).2 := by
  unfold brL brR
  split
  · exact ⟨h, rfl⟩
  · split
    · exact ⟨h, rfl⟩
    · exact ⟨h.post _, (rep_post0 h.rep h.bm _).2.1⟩
theorem St.cm {M : List (S42 × Int)} {L : List S82} (h : St M L) (X : List S125) : St (cmL M X).1 (cmR L X).1 ∧ (cmL M X).2.1 = (cmR L X).2.1 ∧ (cmL M X).2.2 = (cmR L X).2.2 := by
  cases hf : fbL 0 X with
  | some i =>
    rw [cmL_bad hf, cmR_bad hf]
    exact ⟨h, rfl, rfl⟩
  | none =>
    rw [cmL_ok hf, cmR_ok hf]
    obtain ⟨e1, e2, _, _⟩ := rep_post0 h.rep h.bm (X.map lnE)
    exact ⟨h.post _, e1, e2⟩
theorem Wh.br {M : List (S42 × Int)} {L : List S82} (h : St M L) (hw : Wh M) (m : Int) (t : ByteArray) (q : Int) : Wh (brL M m t q).1 := by
  unfold brL
  split
  · exact hw
  · split
    · exact hw
    · exact hw.post h.rep h.bm _
theorem Wh.cm {M : List (S42 × Int)} {L : List S82} (h : St M L) (hw : Wh M) (X : List S125) : Wh (cmL M X).1 := by
  cases hf : fbL 0 X with
  | some i =>
    rw [cmL_bad hf]
    exact hw
  | none =>
    rw [cmL_ok hf]
    exact hw.post h.rep h.bm _
theorem length_brR (L : List S82) (m : Int) (t : ByteArray) (q : Int) : (brR L m t q).1.length ≤ L.length + 2 := by
  unfold brR
  split
  · simp
  · split
    · simp
    · exact length_pstL _ L 0 L _ (by omega) (by simp)
theorem length_cmR (L : List S82) (X : List S125) : (cmR L X).1.length ≤ L.length + 2 * X.length := by
  cases hf : fbL 0 X with
  | some i =>
    rw [cmR_bad hf]
    simp
  | none =>
    rw [cmR_ok hf]
    exact length_pstL _ L 0 L _ (by omega) (by rw [List.length_map]; omega)
end Go.Proofs.Ytoknlpecbdlbfaa.PL

-- Custody, the document: wrong and Bring, walked.
namespace Go.Proofs.Ytoknlpecbdlbfaa.PL
open Go Go.RowKit Go.Maps Go.Sort Go.Shelf Go.Proofs Go.Proofs.YtoknlpecbdlbfaaW.PrintWords Go.Proofs.YtoknlpecbdlbfaaW.PrintLast
theorem rwr_f (m b : Int) : lombardref12_wrong.f m b = some (wrB m b) := by
  unfold lombardref12_wrong.f wrB
  by_cases h1 : m < 1
  · rw [if_pos h1]; simp [h1]
  · rw [if_neg h1]
    by_cases h2 : m > 32
    · rw [if_pos h2]
      congr 1
      exact (decide_eq_true (by omega)).symm
    · rw [if_neg h2]
      by_cases h3 : b < 1
      · rw [if_pos h3]; simp [h3]
      · rw [if_neg h3]
        congr 1
        exact decide_eq_decide.2 (by omega)
theorem rwr_any (m b : Int) (w : World) : Calls Try.prog 78 #[.int .i64 m, .int .i64 b] w fun e w' => e = .returned (.bool (wrB m b)) ∧ Below w.heap.size w w' :=
  (lombardref12_wrong.calls m b _ w (rwr_f m b)).mono (fun _ _ h => ⟨h.1, h.2.below⟩)
theorem C47_one (W : World) (a0 a1 b0 b1 q : Int) (s t : ByteArray) : Kd.C k47 (W.alloc (.cells #[.int .i64 a0, .int .i64 a1, .string s, .int .i64 b0, .int .i64 b1, .string t, .int .i64 q] 47)) (some ⟨W.heap.size, 0, none⟩) 1 [⟨⟨a0, a1, s⟩, ⟨b0, b1, t⟩, q⟩] := by
  refine ⟨rfl, by simp, fun _ => ⟨_, rfl, fun j p hp => ?_⟩⟩
  have hj : j = 0 := by
    have := (List.getElem?_eq_some_iff.1 hp).1
    simp at this
    exact this
  subst hj
  simp at hp
  subst hp
  refine ⟨_, rfl, k47_mk _ ⟨⟨a0, a1, s⟩, ⟨b0, b1, t⟩, q⟩, fun i u hu => ?_⟩
  have h0 := (Go.MapKept.heap_alloc W (.cells #[.int .i64 a0, .int .i64 a1, .string s, .int .i64 b0, .int .i64 b1, .string t, .int .i64 q] 47)).1
  have e1 : ((⟨W.heap.size, 0, none⟩ : Addr).add (0 * k47.sz + i)) = ⟨W.heap.size, i, none⟩ := by
    rw [Nat.zero_mul, Nat.zero_add, add_at]
    simp
  rw [e1]
  unfold World.cell?
  rw [h0]
  simpa using hu
/-- A post of one entry that has just been laid. -/
theorem rpost_one (W : World) (A : Option Addr) (c : Nat) (L : List S82) (a0 a1 b0 b1 q : Int) (s t : ByteArray) (hC : Kd.C k82 W A L.length L) (hc : L.length ≤ c) (hL : L.length ≤ 1000000) (R : List S82 × Int × Int) (hR : pstL L 0 L [⟨⟨a0, a1, s⟩, ⟨b0, b1, t⟩, q⟩] = R) :
    Calls Try.prog 18 #[.slice A L.length c, .slice (some ⟨W.heap.size, 0, none⟩) 1 1] (W.alloc (.cells #[.int .i64 a0, .int .i64 a1, .string s, .int .i64 b0, .int .i64 b1, .string t, .int .i64 q] 47)) fun o w' => ∃ (A' : Option Addr) (c' : Nat), o = .returned (.tuple #[.slice A' R.1.length c', .int .i64 R.2.1, .int .i64 R.2.2]) ∧ Hid (Kd.C k82 w' A' R.1.length R.1 ∧ R.1.length ≤ c' ∧ Below W.heap.size W w') := by
  have hb : Below W.heap.size W (W.alloc (.cells #[.int .i64 a0, .int .i64 a1, .string s, .int .i64 b0, .int .i64 b1, .string t, .int .i64 q] 47)) := (Below.refl _ _).alloc (Nat.le_refl _) _
  refine (rpost_any A (some ⟨W.heap.size, 0, none⟩) c 1 L [⟨⟨a0, a1, s⟩, ⟨b0, b1, t⟩, q⟩] _ (Kd.C_below hC hb) hc (C47_one W a0 a1 b0 b1 q s t) (by simp) hL R hR).mono ?_
  rintro o w' ⟨A', c', e, h1, h2, h3⟩
  exact ⟨A', c', e, h1, h2, hb.trans (h3.mono hb.size)⟩
set_option maxRecDepth 100000 in
set_option maxHeartbeats 1000000 in
theorem rbring_any (w : World) (A : Option Addr) (c : Nat) (L : List S82) (m q : Int) (t : ByteArray) (hC : Kd.C k82 w A L.length L) (hc : L.length ≤ c) (hL : L.length ≤ 1000000) :
    Calls Try.prog 66 #[.slice A L.length c, .int .i64 m, .string t, .int .i64 q] w fun o w' => ∃ (A' : Option Addr) (c' : Nat), o = .returned (.tuple #[.slice A' (brR L m t q).1.length c', .int .i64 (brR L m t q).2]) ∧ Hid (Kd.C k82 w' A' (brR L m t q).1.length (brR L m t q).1 ∧ (brR L m t q).1.length ≤ c' ∧ Below w.heap.size w w') := by
  have HC := Lib.hid (And.intro hC (And.intro hc hL))
  clear hC hc hL
  cases hw : wrB m 1 with
  | true =>
    have HWR := Lib.hid (show ∀ W, Calls Try.prog 78 #[.int .i64 m, .int .i64 1] W fun e w' => e = .returned (.bool true) ∧ Below W.heap.size W w' from fun W => by rw [← hw]; exact rwr_any m 1 W)
    have hr : brR L m t q = (L, 22) := by unfold brR; rw [if_pos hw]
    rw [hr]
    clear hw hr
    go_enter Try.func66, Try.ntmps66
    go_wp2_with (first
      | (go_at_call 78; refine (HWR.out _).mono ?_; rintro e w2 ⟨rfl, H2⟩; replace H2 := Lib.hid H2))
    go_ret2
    exact ⟨A, c, rfl, ⟨Kd.C_below HC.out.1 H2.out, HC.out.2.1, H2.out⟩⟩
  | false =>
    have HWR := Lib.hid (show ∀ W, Calls Try.prog 78 #[.int .i64 m, .int .i64 1] W fun e w' => e = .returned (.bool false) ∧ Below W.heap.size W w' from fun W => by rw [← hw]; exact rwr_any m 1 W)
    by_cases c2 : q < -1125899906842624
    · have f2 : (q < -1125899906842624) = True := eq_true c2
      have hr : brR L m t q = (L, 1) := by unfold brR; rw [if_neg (by rw [hw]; simp), if_pos c2]
      rw [hr]
      clear hw hr c2
      go_enter Try.func66, Try.ntmps66
      go_wp2_with (first
        | (go_at_call 78; refine (HWR.out _).mono ?_; rintro e w2 ⟨rfl, H2⟩; replace H2 := Lib.hid H2))
      go_ret2
      exact ⟨A, c, rfl, ⟨Kd.C_below HC.out.1 H2.out, HC.out.2.1, H2.out⟩⟩
    · have f2 : (q < -1125899906842624) = False := eq_false c2
      have hr : brR L m t q = ((pstL L 0 L [brE m t q]).1, (pstL L 0 L [brE m t q]).2.2) := by unfold brR; rw [if_neg (by rw [hw]; simp), if_neg c2]
      rw [hr]
      by_cases c1 : q < 0
      · have f1 : (q < 0) = True := eq_true c1
        have hneg : wrap64 (-q) = -q := wrap_id (by omega) (by omega)
        have hE : brE m t q = ⟨⟨m, 1, t⟩, ⟨0, 0, t⟩, -q⟩ := by unfold brE; rw [if_pos c1]
        rw [hE]
        obtain ⟨R, hR⟩ : ∃ R, pstL L 0 L [⟨⟨m, 1, t⟩, ⟨0, 0, t⟩, -q⟩] = R := ⟨_, rfl⟩
        rw [hR]
        have HPO := Lib.hid (show ∀ (w2 : World), Below w.heap.size w w2 → Calls Try.prog 18 #[.slice A L.length c, .slice (some ⟨w2.heap.size + 1 + 1, 0, none⟩) 1 1] (((w2.alloc (.cells #[.int .i64 m, .int .i64 1, .string t] 45)).alloc (.cells #[.int .i64 0, .int .i64 0, .string t] 45)).alloc (.cells #[.int .i64 m, .int .i64 1, .string t, .int .i64 0, .int .i64 0, .string t, .int .i64 (-q)] 47)) fun o w' => ∃ (A' : Option Addr) (c' : Nat), o = .returned (.tuple #[.slice A' R.1.length c', .int .i64 R.2.1, .int .i64 R.2.2]) ∧ Hid (Kd.C k82 w' A' R.1.length R.1 ∧ R.1.length ≤ c' ∧ Below w.heap.size w w') from fun w2 hb => by
          have hb2 : Below w.heap.size w ((w2.alloc (.cells #[.int .i64 m, .int .i64 1, .string t] 45)).alloc (.cells #[.int .i64 0, .int .i64 0, .string t] 45)) := (hb.alloc (by exact hb.size) _).alloc (by simp; have := hb.size; omega) _
          have h9 := rpost_one _ A c L m 1 0 0 (-q) t t (Kd.C_below HC.out.1 hb2) HC.out.2.1 HC.out.2.2 R hR
          have e9 : ((w2.alloc (.cells #[.int .i64 m, .int .i64 1, .string t] 45)).alloc (.cells #[.int .i64 0, .int .i64 0, .string t] 45)).heap.size = w2.heap.size + 1 + 1 := by simp
          rw [e9] at h9
          exact h9.mono (fun _ _ ⟨A', c', e, h1, h2, h3⟩ => ⟨A', c', e, h1, h2, hb2.trans (h3.mono (by rw [← e9]; exact hb2.size))⟩))
        clear hw hr c1 c2 hE hR
        go_enter Try.func66, Try.ntmps66
        go_wp2_with (first
          | (go_at_call 18; refine (HPO.out _ H2.out).mono ?_; rintro e w3 ⟨A', c', rfl, H3⟩)
          | (go_at_call 78; refine (HWR.out _).mono ?_; rintro e w2 ⟨rfl, H2⟩; replace H2 := Lib.hid H2))
        go_ret2
        exact ⟨A', c', rfl, H3⟩
      · have f1 : (q < 0) = False := eq_false c1
        have hE : brE m t q = ⟨⟨0, 0, t⟩, ⟨m, 1, t⟩, q⟩ := by unfold brE; rw [if_neg c1]
        rw [hE]
        obtain ⟨R, hR⟩ : ∃ R, pstL L 0 L [⟨⟨0, 0, t⟩, ⟨m, 1, t⟩, q⟩] = R := ⟨_, rfl⟩
        rw [hR]
        have HPO := Lib.hid (show ∀ (w2 : World), Below w.heap.size w w2 → Calls Try.prog 18 #[.slice A L.length c, .slice (some ⟨w2.heap.size + 1 + 1, 0, none⟩) 1 1] (((w2.alloc (.cells #[.int .i64 0, .int .i64 0, .string t] 45)).alloc (.cells #[.int .i64 m, .int .i64 1, .string t] 45)).alloc (.cells #[.int .i64 0, .int .i64 0, .string t, .int .i64 m, .int .i64 1, .string t, .int .i64 q] 47)) fun o w' => ∃ (A' : Option Addr) (c' : Nat), o = .returned (.tuple #[.slice A' R.1.length c', .int .i64 R.2.1, .int .i64 R.2.2]) ∧ Hid (Kd.C k82 w' A' R.1.length R.1 ∧ R.1.length ≤ c' ∧ Below w.heap.size w w') from fun w2 hb => by
          have hb2 : Below w.heap.size w ((w2.alloc (.cells #[.int .i64 0, .int .i64 0, .string t] 45)).alloc (.cells #[.int .i64 m, .int .i64 1, .string t] 45)) := (hb.alloc (by exact hb.size) _).alloc (by simp; have := hb.size; omega) _
          have h9 := rpost_one _ A c L 0 0 m 1 (q) t t (Kd.C_below HC.out.1 hb2) HC.out.2.1 HC.out.2.2 R hR
          have e9 : ((w2.alloc (.cells #[.int .i64 0, .int .i64 0, .string t] 45)).alloc (.cells #[.int .i64 m, .int .i64 1, .string t] 45)).heap.size = w2.heap.size + 1 + 1 := by simp
          rw [e9] at h9
          exact h9.mono (fun _ _ ⟨A', c', e, h1, h2, h3⟩ => ⟨A', c', e, h1, h2, hb2.trans (h3.mono (by rw [← e9]; exact hb2.size))⟩))
        clear hw hr c1 c2 hE hR
        go_enter Try.func66, Try.ntmps66
        go_wp2_with (first
          | (go_at_call 18; refine (HPO.out _ H2.out).mono ?_; rintro e w3 ⟨A', c', rfl, H3⟩)
          | (go_at_call 78; refine (HWR.out _).mono ?_; rintro e w2 ⟨rfl, H2⟩; replace H2 := Lib.hid H2))
        go_ret2
        exact ⟨A', c', rfl, H3⟩
end Go.Proofs.Ytoknlpecbdlbfaa.PL

-- Custody, the document: Move, walked.
namespace Go.Proofs.Ytoknlpecbdlbfaa.PL
open Go Go.RowKit Go.Maps Go.Sort Go.Shelf Go.Proofs Go.Proofs.YtoknlpecbdlbfaaW.PrintWords Go.Proofs.YtoknlpecbdlbfaaW.PrintLast
set_option maxRecDepth 100000 in
theorem rwr_same (m b : Int) (w : World) : Calls Try.prog 78 #[.int .i64 m, .int .i64 b] w fun e w' => e = .returned (.bool (wrB m b)) ∧ w' = w := by
  unfold wrB
  by_cases h1 : m < 1
  · have e1 : decide (m < 1 ∨ 32 < m ∨ b < 1 ∨ 4 < b) = true := decide_eq_true (by omega)
    have f1 : decide (m < 1) = true := decide_eq_true h1
    rw [e1]
    go_enter Try.func78, Try.ntmps78
    go_wp2
    go_ret
    exact ⟨by simp [*], rfl⟩
  · have f1 : decide (m < 1) = false := decide_eq_false h1
    by_cases h2 : m > 32
    · have e1 : decide (m < 1 ∨ 32 < m ∨ b < 1 ∨ 4 < b) = true := decide_eq_true (by omega)
      have f2 : decide (m > 32) = true := decide_eq_true h2
      rw [e1]
      go_enter Try.func78, Try.ntmps78
      go_wp2
      go_ret
      exact ⟨by simp [*], rfl⟩
    · have f2 : decide (m > 32) = false := decide_eq_false h2
      by_cases h3 : b < 1
      · have e1 : decide (m < 1 ∨ 32 < m ∨ b < 1 ∨ 4 < b) = true := decide_eq_true (by omega)
        have f3 : decide (b < 1) = true := decide_eq_true h3
        rw [e1]
        go_enter Try.func78, Try.ntmps78
        go_wp2
        go_ret
        exact ⟨by simp [*], rfl⟩
      · have f3 : decide (b < 1) = false := decide_eq_false h3
        have e1 : decide (m < 1 ∨ 32 < m ∨ b < 1 ∨ 4 < b) = decide (b > 4) := decide_eq_decide.2 (by omega)
        rw [e1]
        go_enter Try.func78, Try.ntmps78
        go_wp2
        go_ret
        exact ⟨rfl, rfl⟩
theorem below_drewN (w : World) : ∀ n : Nat, Below w.heap.size w (w.drewN n) := fun n => by
  have h0 : w.grownBy (w.drewN n) none := ⟨rfl, rfl, rfl, by simp, fun j hj _ => by simp⟩
  exact grown_to h0
theorem cellA {W : World} {k : Nat} {cs : Array Value} {t : TypeId} {f : Nat × Nat} (h : W.heap[k]? = some (.cells cs t f)) (i : Nat) : W.cell? ⟨k, i, none⟩ = cs[i]? := by
  unfold World.cell?
  rw [h]
  rfl
/-- A line's cells. -/
def L6 (ad : Addr) (k : Nat) (a0 a1 a2 a3 : Int) (a4 : ByteArray) (a5 : Int) (W : World) : Prop := W.cell? (ad.add (k * 6)) = some (.int .i64 a0) ∧ W.cell? ⟨(ad.add (k * 6)).block, (ad.add (k * 6)).off + 1, none⟩ = some (.int .i64 a1) ∧ W.cell? ⟨(ad.add (k * 6)).block, (ad.add (k * 6)).off + 2, none⟩ = some (.int .i64 a2) ∧ W.cell? ⟨(ad.add (k * 6)).block, (ad.add (k * 6)).off + 3, none⟩ = some (.int .i64 a3) ∧ W.cell? ⟨(ad.add (k * 6)).block, (ad.add (k * 6)).off + 4, none⟩ = some (.string a4) ∧ W.cell? ⟨(ad.add (k * 6)).block, (ad.add (k * 6)).off + 5, none⟩ = some (.int .i64 a5)
theorem L6.below {ad : Addr} {k : Nat} {a0 a1 a2 a3 : Int} {a4 : ByteArray} {a5 : Int} {W W' : World} (h : L6 ad k a0 a1 a2 a3 a4 a5 W) (hb : Below W.heap.size W W') : L6 ad k a0 a1 a2 a3 a4 a5 W' :=
  ⟨cell_keep hb h.1, cell_keep hb h.2.1, cell_keep hb h.2.2.1, cell_keep hb h.2.2.2.1, cell_keep hb h.2.2.2.2.1, cell_keep hb h.2.2.2.2.2⟩
/-- What a line posts, as the document has it. -/
def rlE (x : S131) : S47 := ⟨⟨x.f0, x.f1, x.f4⟩, ⟨x.f2, x.f3, x.f4⟩, x.f5⟩
theorem rlE_map (X : List S131) : (X.map rlE).map toE = (X.map toLn).map lnE := by
  rw [List.map_map, List.map_map]
  rfl
set_option maxRecDepth 100000 in
set_option maxHeartbeats 4000000 in
theorem rcmove_any (w : World) (A : Option Addr) (c : Nat) (L : List S82) (hC : Kd.C k82 w A L.length L) (hc : L.length ≤ c) (hL : L.length ≤ 1000000) (B : Option Addr) (d : Nat) (X : List S131) (hr : Kd.C k131 w B X.length X) (hX : X.length ≤ 4000) :
    Calls Try.prog 67 #[.slice A L.length c, .slice B X.length d] w fun o w' => ∃ (A' : Option Addr) (c' : Nat), o = .returned (.tuple #[.slice A' (cmR L (X.map toLn)).1.length c', .int .i64 (cmR L (X.map toLn)).2.1, .int .i64 (cmR L (X.map toLn)).2.2]) ∧ Hid (Kd.C k82 w' A' (cmR L (X.map toLn)).1.length (cmR L (X.map toLn)).1 ∧ (cmR L (X.map toLn)).1.length ≤ c' ∧ Below w.heap.size w w') := by
  have HU := Lib.hid (And.intro hC (And.intro hc (And.intro hL (And.intro hr hX))))
  clear hC hc hL hr hX
  go_enter Try.func67, Try.ntmps67
  go_wp2_with (fail)
  go_loopg [7, 8, 9, 10] (X.length + 1) (fun kq v7 v8 v9 v10 w' => ∃ k : Nat, v8 = .int .i64 k ∧ Hid (kq + k = X.length + 1 ∧ k ≤ X.length ∧ Kd.R k47 47 w' w.heap.size (fun _ => True) v7 ((X.take k).map rlE) ∧ Below w.heap.size w w' ∧ fbL 0 (X.map toLn) = fbL k ((X.drop k).map toLn)))
  case atStart =>
    exact ⟨0, rfl, ⟨rfl, Nat.zero_le _, Kd.R_nil _ _ _ _ _, Below.refl _ _, rfl⟩⟩
  case round =>
    obtain ⟨k, rfl, HI⟩ := hrel
    by_cases hk : k < X.length
    · obtain ⟨ad, eA, x0, x1, x2, x3, x4, x5⟩ := at_T131 HU.out.2.2.2.1 (k : Int) (by omega) (by omega)
      simp only [Int.toNat_natCast] at x0 x1 x2 x3 x4 x5
      have e1 : rd_T131 X (k : Int) = X[k] := by
        unfold rd_T131
        simp [List.getD, hk]
      have htk : (X.take (k + 1)).map rlE = (X.take k).map rlE ++ [rlE X[k]] := by rw [List.take_succ_eq_append_getElem hk, List.map_append]; rfl
      have hfb : fbL k ((X.drop k).map toLn) = if wrB X[k].f0 X[k].f1 = true ∨ wrB X[k].f2 X[k].f3 = true then some k else fbL (k + 1) ((X.drop (k + 1)).map toLn) := by rw [List.drop_eq_getElem_cons hk]; rfl
      rw [e1] at x0 x1 x2 x3 x4 x5
      obtain ⟨⟨a0, a1, a2, a3, a4, a5⟩, ha⟩ : ∃ a, X[k] = a := ⟨_, rfl⟩
      rw [ha] at x0 x1 x2 x3 x4 x5 htk hfb
      simp only at x0 x1 x2 x3 x4 x5 hfb
      have hl64 : wrap64 ((k : Int) + 1) = ((k + 1 : Nat) : Int) := by
        have h3 := HU.out.2.2.2.2
        rw [wrap_id (by omega) (by omega)]; rfl
      have hlen : ((X.take k).map rlE).length ≤ 4000 := by
        have := HU.out.2.2.2.2
        rw [List.length_map, List.length_take]
        omega
      have q1 : (0 ≤ (k : Int)) = True := eq_true (by omega)
      have q2 : ((k : Int) < (X.length : Int)) = True := eq_true (by omega)
      obtain ⟨xs0, hxs0⟩ : ∃ l, (X.take k).map rlE = l := ⟨_, rfl⟩
      have hR0 := HI.out.2.2.1
      rw [hxs0] at htk hlen hR0
      have HT := Lib.hid htk
      have HF := Lib.hid hfb
      have HLn := Lib.hid hlen
      have HR0 := Lib.hid hR0
      have Hw := Lib.hid hl64
      have HK := Lib.hid hk
      obtain ⟨z1, hz1⟩ : ∃ z, wrB a0 a1 = z := ⟨_, rfl⟩
      obtain ⟨z2, hz2⟩ : ∃ z, wrB a2 a3 = z := ⟨_, rfl⟩
      have HW1 := Lib.hid (show ∀ W, Calls Try.prog 78 #[.int .i64 a0, .int .i64 a1] W fun e w' => e = .returned (.bool z1) ∧ w' = W from fun W => by rw [← hz1]; exact rwr_same a0 a1 W)
      have HW2 := Lib.hid (show ∀ W, Calls Try.prog 78 #[.int .i64 a2, .int .i64 a3] W fun e w' => e = .returned (.bool z2) ∧ w' = W from fun W => by rw [← hz2]; exact rwr_same a2 a3 W)
      have HZ := Lib.hid (And.intro hz1 hz2)
      have HS0 := Lib.hid (show L6 ad k a0 a1 a2 a3 a4 a5 w from ⟨x0, x1, x2, x3, x4, x5⟩)
      have hr6 := HS0.out.below HI.out.2.2.2.1
      replace x0 := hr6.1
      replace x1 := hr6.2.1
      replace x2 := hr6.2.2.1
      replace x3 := hr6.2.2.2.1
      replace x4 := hr6.2.2.2.2.1
      replace x5 := hr6.2.2.2.2.2
      clear hr6
      subst eA
      clear e1 htk hfb ha hl64 hlen hxs0 hR0 hk hz1 hz2
      cases z1 with
      | true =>
        go_wp2_with (fail)
        go_quiet (first | (go_at_call_has 78 (Value.int IntKind.i64 a0); refine Calls.quiet_of_same (HW1.out _)))
        go_wp2
        go_ret3
        have hb := HI.out.2.2.2.1.trans ((below_drewN wr nq).mono HI.out.2.2.2.1.size)
        have e9 : cmR L (X.map toLn) = (L, (k : Int), 22) := cmR_bad (by rw [HI.out.2.2.2.2, HF.out]; exact if_pos (.inl HZ.out.1))
        rw [e9]
        exact ⟨A, c, rfl, ⟨Kd.C_below HU.out.1 hb, HU.out.2.1, hb⟩⟩
      | false =>
        cases z2 with
        | true =>
          go_wp2_with (fail)
          go_quiet (first | (go_at_call_has 78 (Value.int IntKind.i64 a0); refine Calls.quiet_of_same (HW1.out _)) | (go_at_call_has 78 (Value.int IntKind.i64 a2); refine Calls.quiet_of_same (HW2.out _)))
          go_wp2
          go_ret3
          have hb := HI.out.2.2.2.1.trans ((below_drewN wr nq).mono HI.out.2.2.2.1.size)
          have e9 : cmR L (X.map toLn) = (L, (k : Int), 22) := cmR_bad (by rw [HI.out.2.2.2.2, HF.out]; exact if_pos (.inr HZ.out.2))
          rw [e9]
          exact ⟨A, c, rfl, ⟨Kd.C_below HU.out.1 hb, HU.out.2.1, hb⟩⟩
        | false =>
          go_wp2_with (fail)
          go_quiet (first | (go_at_call_has 78 (Value.int IntKind.i64 a0); refine Calls.quiet_of_same (HW1.out _)) | (go_at_call_has 78 (Value.int IntKind.i64 a2); refine Calls.quiet_of_same (HW2.out _)))
          obtain ⟨W, hW⟩ : ∃ W, wr.drewN nq = W := ⟨_, rfl⟩
          have hBW : Below wr.heap.size wr W := by rw [← hW]; exact below_drewN wr nq
          rw [hW]
          have HBW := Lib.hid (HI.out.2.2.2.1.trans (hBW.mono HI.out.2.2.2.1.size))
          have HRW := Lib.hid (Kd.R_below HR0.out hBW)
          obtain ⟨s0, s1, s2, s3, s4, s5⟩ := HS0.out.below HBW.out
          obtain ⟨t0, t1, t2, t3, t4, t5⟩ := (HS0.out.below HBW.out).below ((Below.refl _ _).alloc (Nat.le_refl _) (.cells #[.int .i64 0, .int .i64 0, .string ⟨#[]⟩] 45))
          clear hW hBW x0 x1 x2 x3 x4 x5 HR0
          go_wp2_with (fail)
          go_region
          obtain ⟨G, hG⟩ : ∃ G, W.heap.size = G := ⟨_, rfl⟩
          obtain ⟨W2, hW2⟩ : ∃ W2, (W.alloc (.cells #[.int .i64 a0, .int .i64 a1, .string a4] 45)).drew = W2 := ⟨_, rfl⟩
          have hB2 : Below W.heap.size W W2 := by rw [← hW2]; exact ((Below.refl _ _).alloc (Nat.le_refl _) _).drew
          have hG2 : W2.heap[G]? = some (.cells #[.int .i64 a0, .int .i64 a1, .string a4] 45 (0, 0)) := by rw [← hW2, ← hG]; exact (Go.MapKept.heap_alloc W _).1
          rw [hW2, hG]
          have HBW2 := Lib.hid (HBW.out.trans (hB2.mono HBW.out.size))
          have HRW2 := Lib.hid (Kd.R_below HRW.out hB2)
          have HG2 := Lib.hid hG2
          clear s0 s1 s2 s3 s4 s5 t0 t1 t2 t3 t4 t5
          obtain ⟨s0, s1, s2, s3, s4, s5⟩ := HS0.out.below HBW2.out
          obtain ⟨t0, t1, t2, t3, t4, t5⟩ := (HS0.out.below HBW2.out).below ((Below.refl _ _).alloc (Nat.le_refl _) (.cells #[.int .i64 0, .int .i64 0, .string ⟨#[]⟩] 45))
          clear hW2 hG hB2 hG2 HRW HBW
          go_wp2_with (fail)
          go_region
          obtain ⟨G2, hGG⟩ : ∃ G, W2.heap.size = G := ⟨_, rfl⟩
          obtain ⟨W3, hW3⟩ : ∃ W3, (W2.alloc (.cells #[.int .i64 a2, .int .i64 a3, .string a4] 45)).drew = W3 := ⟨_, rfl⟩
          have hB3 : Below W2.heap.size W2 W3 := by rw [← hW3]; exact ((Below.refl _ _).alloc (Nat.le_refl _) _).drew
          have hG3 : W3.heap[G2]? = some (.cells #[.int .i64 a2, .int .i64 a3, .string a4] 45 (0, 0)) := by rw [← hW3, ← hGG]; exact (Go.MapKept.heap_alloc W2 _).1
          have hG1 : W3.heap[G]? = some (.cells #[.int .i64 a0, .int .i64 a1, .string a4] 45 (0, 0)) := (hB3.block _ (Array.getElem?_eq_some_iff.1 HG2.out).1).trans HG2.out
          rw [hW3, hGG]
          have HBW3 := Lib.hid ((HBW2.out.trans (hB3.mono HBW2.out.size)).drew)
          have HRW3 := Lib.hid (show Kd.R k47 47 W3.drew w.heap.size (fun _ => True) u7 xs0 from Kd.R_below HRW2.out hB3.drew)
          have HG3 := Lib.hid (And.intro hG1 hG3)
          clear s0 s1 s2 s3 s4 s5 t0 t1 t2 t3 t4 t5 hW3 hGG hB3 hG3 hG1 HRW2 HBW2 HG2
          have HQ := Lib.hid (show (xs0.length + 1) * 72 ≤ 140737488355328 by have := HLn.out; omega)
          have HSX := Lib.hid (show ∀ W4, Below w.heap.size w W4 → W4.heap[G]? = some (.cells #[.int .i64 a0, .int .i64 a1, .string a4] 45 (0, 0)) → W4.heap[G2]? = some (.cells #[.int .i64 a2, .int .i64 a3, .string a4] 45 (0, 0)) → (W4.cell? ⟨G, 0, none⟩ = some (.int .i64 a0) ∧ W4.cell? ⟨G, 1, none⟩ = some (.int .i64 a1) ∧ W4.cell? ⟨G, 2, none⟩ = some (.string a4) ∧ W4.cell? ⟨G2, 0, none⟩ = some (.int .i64 a2) ∧ W4.cell? ⟨G2, 1, none⟩ = some (.int .i64 a3) ∧ W4.cell? ⟨G2, 2, none⟩ = some (.string a4) ∧ W4.cell? ⟨(ad.add (k * 6)).block, (ad.add (k * 6)).off + 5, none⟩ = some (.int .i64 a5)) from fun W4 h1 h2 h3 => ⟨cellA h2 0, cellA h2 1, cellA h2 2, cellA h3 0, cellA h3 1, cellA h3 2, (HS0.out.below h1).2.2.2.2.2⟩)
          have hSD : (W3.drew.cell? ⟨G, 0, none⟩ = some (.int .i64 a0) ∧ W3.drew.cell? ⟨G, 1, none⟩ = some (.int .i64 a1) ∧ W3.drew.cell? ⟨G, 2, none⟩ = some (.string a4) ∧ W3.drew.cell? ⟨G2, 0, none⟩ = some (.int .i64 a2) ∧ W3.drew.cell? ⟨G2, 1, none⟩ = some (.int .i64 a3) ∧ W3.drew.cell? ⟨G2, 2, none⟩ = some (.string a4) ∧ W3.drew.cell? ⟨(ad.add (k * 6)).block, (ad.add (k * 6)).off + 5, none⟩ = some (.int .i64 a5)) := HSX.out W3.drew HBW3.out HG3.out.1 HG3.out.2
          have HSA := Lib.hid (show ∀ (w' : World) (o : Obj), ((w'.cell? ⟨G, 0, none⟩ = some (.int .i64 a0) ∧ w'.cell? ⟨G, 1, none⟩ = some (.int .i64 a1) ∧ w'.cell? ⟨G, 2, none⟩ = some (.string a4) ∧ w'.cell? ⟨G2, 0, none⟩ = some (.int .i64 a2) ∧ w'.cell? ⟨G2, 1, none⟩ = some (.int .i64 a3) ∧ w'.cell? ⟨G2, 2, none⟩ = some (.string a4) ∧ w'.cell? ⟨(ad.add (k * 6)).block, (ad.add (k * 6)).off + 5, none⟩ = some (.int .i64 a5))) → (((w'.alloc o).cell? ⟨G, 0, none⟩ = some (.int .i64 a0) ∧ (w'.alloc o).cell? ⟨G, 1, none⟩ = some (.int .i64 a1) ∧ (w'.alloc o).cell? ⟨G, 2, none⟩ = some (.string a4) ∧ (w'.alloc o).cell? ⟨G2, 0, none⟩ = some (.int .i64 a2) ∧ (w'.alloc o).cell? ⟨G2, 1, none⟩ = some (.int .i64 a3) ∧ (w'.alloc o).cell? ⟨G2, 2, none⟩ = some (.string a4) ∧ (w'.alloc o).cell? ⟨(ad.add (k * 6)).block, (ad.add (k * 6)).off + 5, none⟩ = some (.int .i64 a5))) from fun w' o ⟨s0, s1, s2, s3, s4, s5, s6⟩ => by
            have hb := (Below.refl w'.heap.size w').alloc (Nat.le_refl _) o
            exact ⟨cell_keep hb s0, cell_keep hb s1, cell_keep hb s2, cell_keep hb s3, cell_keep hb s4, cell_keep hb s5, cell_keep hb s6⟩)
          have HSG := Lib.hid (show ∀ (w6 : World), Below w.heap.size w w6 → W3.drew.grownBy w6 u7.ownBlock → (w6.cell? ⟨G, 0, none⟩ = some (.int .i64 a0) ∧ w6.cell? ⟨G, 1, none⟩ = some (.int .i64 a1) ∧ w6.cell? ⟨G, 2, none⟩ = some (.string a4) ∧ w6.cell? ⟨G2, 0, none⟩ = some (.int .i64 a2) ∧ w6.cell? ⟨G2, 1, none⟩ = some (.int .i64 a3) ∧ w6.cell? ⟨G2, 2, none⟩ = some (.string a4) ∧ w6.cell? ⟨(ad.add (k * 6)).block, (ad.add (k * 6)).off + 5, none⟩ = some (.int .i64 a5)) from fun w6 hb hg => by
            have f1 : W3.drew.heap[G]? = _ := HG3.out.1
            have f2 : W3.drew.heap[G2]? = _ := HG3.out.2
            have e1 := hg.block G (Array.getElem?_eq_some_iff.1 f1).1 (Kd.R_ne HRW3.out f1 (by decide))
            have e2 := hg.block G2 (Array.getElem?_eq_some_iff.1 f2).1 (Kd.R_ne HRW3.out f2 (by decide))
            exact HSX.out w6 hb (e1.trans f1) (e2.trans f2))
          go_wp2_with (fail)
          go_region_held3 (fun w' => (w'.cell? ⟨G, 0, none⟩ = some (.int .i64 a0) ∧ w'.cell? ⟨G, 1, none⟩ = some (.int .i64 a1) ∧ w'.cell? ⟨G, 2, none⟩ = some (.string a4) ∧ w'.cell? ⟨G2, 0, none⟩ = some (.int .i64 a2) ∧ w'.cell? ⟨G2, 1, none⟩ = some (.int .i64 a3) ∧ w'.cell? ⟨G2, 2, none⟩ = some (.string a4) ∧ w'.cell? ⟨(ad.add (k * 6)).block, (ad.add (k * 6)).off + 5, none⟩ = some (.int .i64 a5)))
            (first | assumption | exact HSA.out _ _ (by assumption))
            (first
              | (refine Kd.R_append_step k47 (w0 := w) (W := W3.drew) w.heap.size (by rfl) (.tmp 75) (.tmp 84) 30 47 (.agg #[(.int .i64 0), (.int .i64 0), (.string ⟨#[]⟩), (.int .i64 0), (.int .i64 0), (.string ⟨#[]⟩), (.int .i64 0)]) 72 rfl Try.underlying30 info47 rfl (by decide) (by decide) u7 xs0 ⟨⟨a0, a1, a4⟩, ⟨a2, a3, a4⟩, a5⟩ [.int .i64 a0, .int .i64 a1, .string a4, .int .i64 a2, .int .i64 a3, .string a4, .int .i64 a5] (fun _ => True) (fun _ => False) rfl rfl (k47_mkM _ _ _ _) (fun _ h => h.elim) (fun _ _ => trivial) HRW3.out HBW3.out HBW3.out.size HQ.out ?_; intro v1 w6 ho hb hg hat; have kk6 := HSG.out w6 hb hg; have H6 := Lib.hid (And.intro ho hb); clear ho hb hg hat))
          go_wp2
          go_roundg (X.length - k)
          case measure => have := HI.out.1; have := HK.out; omega
          case rel =>
            refine ⟨k + 1, by rw [Hw.out], ⟨by have := HI.out.1; have := HK.out; omega, HK.out, ?_, H6.out.2, ?_⟩⟩
            · rw [HT.out]
              exact H6.out.1
            · rw [HI.out.2.2.2.2, HF.out, if_neg (by rw [HZ.out.1, HZ.out.2]; simp)]
    · have q2 : ((k : Int) < (X.length : Int)) = False := eq_false (by omega)
      have hR0 := HI.out.2.2.1
      rw [List.take_of_length_le (by omega)] at hR0
      obtain ⟨A6, c6, rfl, hc6, hC6⟩ := Kd.R_reads hR0
      have hfn : fbL 0 (X.map toLn) = none := by
        rw [HI.out.2.2.2.2, List.drop_eq_nil_of_le (by omega)]
        rfl
      obtain ⟨R, hR⟩ : ∃ R, pstL L 0 L ((X.map rlE).map toE) = R := ⟨_, rfl⟩
      have E9 := Lib.hid (show cmR L (X.map toLn) = R from (cmR_ok hfn).trans (by rw [← rlE_map]; exact hR))
      have hb := HI.out.2.2.2.1
      have hpo := rpost_any A A6 c c6 L (X.map rlE) wr (Kd.C_below HU.out.1 hb) HU.out.2.1 hC6 (by rw [List.length_map]; have := HU.out.2.2.2.2; omega) HU.out.2.2.1 R hR
      rw [List.length_map] at hpo
      have HPO := Lib.hid hpo
      clear hR0 hc6 hC6 hfn hR hk hb hpo
      go_wp2_with (go_at_call 18; refine HPO.out.mono ?_; rintro e w5 ⟨A5, c5, rfl, H5⟩)
      go_ret3
      rw [E9.out]
      exact ⟨A5, c5, rfl, ⟨H5.out.1, H5.out.2.1, HI.out.2.2.2.1.trans (H5.out.2.2.mono HI.out.2.2.2.1.size)⟩⟩
end Go.Proofs.Ytoknlpecbdlbfaa.PL
