/- Part 32 of the proof's texts: what the theorem needs of them. -/
import Derived.Test.YtoknlpecbdlbfaaSCTells31
import Derived.Test.YtoknlpecbdlbfaaSCTells16
import Derived.WalkKit
import Derived.ProofKit
import Derived.Deep.Slices
import Derived.SizedLaws
import Derived.Test.YtoknlpecbdlbfaaSCTells27
import Derived.Test.YtoknlpecbdlbfaaSCTells28

/- The plain law: the program's map and the document's list have the same. -/
namespace Go.Proofs.Ytoknlpecbdlbfaa.PL
open Go Go.RowKit Go.Maps Go.Sort Go.Shelf Go.Proofs Go.Proofs.YtoknlpecbdlbfaaW.PrintWords Go.Proofs.YtoknlpecbdlbfaaW.PrintLast
def to42 (a : S45) : S42 := ⟨a.f0, a.f1, a.f2⟩
theorem eqA_iff (b : S45) (a : S42) : eqA b a.f0 a.f1 a.f2 = true ↔ to42 b = a := by
  unfold eqA to42
  obtain ⟨a0, a1, a2⟩ := a
  simp only [Bool.and_eq_true, beq_iff_eq, S42.mk.injEq]
  constructor
  · rintro ⟨h0, h1, h2⟩
    exact ⟨h0, h1, bytes_ext h2⟩
  · rintro ⟨h0, h1, h2⟩
    exact ⟨h0, h1, by rw [h2]⟩
theorem ahead_iff (a : S42) (b : S45) : aheadB a.f0 a.f1 a.f2 b = true ↔ Bef a (to42 b) := by
  unfold aheadB Bef to42
  simp only
  by_cases h : a.f2.toList = b.f2.toList
  · rw [if_pos h]
    have hn : ¬ a.f2.toList < b.f2.toList := by rw [h]; exact ll_irrefl _
    by_cases h0 : a.f0 = b.f0
    · rw [if_pos h0, decide_eq_true_iff]
      constructor
      · intro h1; exact .inr ⟨h, .inr ⟨h0, h1⟩⟩
      · rintro (h1 | ⟨_, h1 | ⟨_, h1⟩⟩)
        · exact absurd h1 hn
        · omega
        · exact h1
    · rw [if_neg h0, decide_eq_true_iff]
      constructor
      · intro h1; exact .inr ⟨h, .inl h1⟩
      · rintro (h1 | ⟨_, h1 | ⟨h1, _⟩⟩)
        · exact absurd h1 hn
        · exact h1
        · exact absurd h1 h0
  · rw [if_neg h, bytesLess_eq, decide_eq_true_iff]
    constructor
    · intro h1; exact .inl h1
    · rintro (h1 | ⟨h1, _⟩)
      · exact h1
      · exact absurd h1 h
def gL (L : List S82) (a : S42) : Int := getL L a.f0 a.f1 a.f2
def sL (L : List S82) (a : S42) (n : Int) : List S82 := setL L a.f0 a.f1 a.f2 n
theorem gL_nil (a : S42) : gL [] a = 0 := rfl
theorem gL_cons (b : S82) (r : List S82) (a : S42) : gL (b :: r) a = if to42 b.f0 = a then b.f1 else gL r a := by
  unfold gL
  simp only [getL]
  by_cases h : to42 b.f0 = a
  · rw [if_pos h, if_pos ((eqA_iff _ _).2 h)]
  · rw [if_neg h, if_neg (fun h1 => h ((eqA_iff _ _).1 h1))]
theorem gL_setG (a : S42) (n : Int) (c : S42) : ∀ (L : List S82) (d : Bool), gL (setG a.f0 a.f1 a.f2 n L d) c = if c = a then (if d = true then 0 else n) else gL L c
  | [], true => by
    unfold setG
    rw [gL_nil]
    simp
  | [], false => by
    unfold setG
    rw [gL_cons, gL_nil]
    show (if a = c then n else 0) = _
    by_cases h : c = a
    · rw [if_pos h, if_pos h.symm]; simp
    · rw [if_neg h, if_neg (fun h1 => h h1.symm)]
  | b :: r, d => by
    unfold setG
    by_cases e : to42 b.f0 = a
    · rw [if_pos ((eqA_iff _ _).2 e), gL_setG a n c r d, gL_cons]
      by_cases h : c = a
      · rw [if_pos h, if_pos h]
      · rw [if_neg h, if_neg h, if_neg (fun h1 => h (h1.symm.trans e))]
    · rw [if_neg (fun h1 => e ((eqA_iff _ _).1 h1))]
      have hc : ∀ d', gL (b :: setG a.f0 a.f1 a.f2 n r d') c = if c = a then (if d' = true then 0 else n) else gL (b :: r) c := fun d' => by
        rw [gL_cons, gL_setG a n c r d', gL_cons]
        by_cases h : c = a
        · rw [if_pos h, if_pos h, if_neg (fun h1 => e (h1.trans h))]
        · rw [if_neg h, if_neg h]
      by_cases hd : d = true
      · rw [if_pos hd, hc true, hd]
      · rw [if_neg hd]
        have hd' : d = false := by simpa using hd
        by_cases ha : aheadB a.f0 a.f1 a.f2 b.f0 = true
        · rw [if_pos ha, gL_cons, hc true, hd']
          show (if a = c then n else _) = _
          by_cases h : c = a
          · rw [if_pos h.symm, if_pos h]; simp
          · rw [if_neg (fun h1 => h h1.symm), if_neg h, if_neg h]
        · rw [if_neg ha, hc false, hd']
theorem gL_sL (L : List S82) (a c : S42) (n : Int) : gL (sL L a n) c = if c = a then n else gL L c := by
  unfold sL setL
  rw [gL_setG]
  by_cases h : n = 0
  · subst h; simp
  · have : (n == 0) = false := by simp [h]
    rw [this]; simp
theorem mem_setG (a : S42) (n : Int) (x : S82) : ∀ (L : List S82) (d : Bool), x ∈ setG a.f0 a.f1 a.f2 n L d → x ∈ L ∨ (d = false ∧ x = ⟨⟨a.f0, a.f1, a.f2⟩, n⟩)
  | [], true, h => by simp [setG] at h
  | [], false, h => by
    simp [setG] at h
    exact .inr ⟨rfl, h⟩
  | b :: r, d, h => by
    unfold setG at h
    split at h
    · rcases mem_setG a n x r d h with h1 | h1
      · exact .inl (List.mem_cons_of_mem _ h1)
      · exact .inr h1
    · split at h
      · rename_i hd
        rcases List.mem_cons.1 h with rfl | h
        · exact .inl List.mem_cons_self
        · rcases mem_setG a n x r true h with h1 | h1
          · exact .inl (List.mem_cons_of_mem _ h1)
          · exact absurd h1.1 (by simp)
      · rename_i hd
        have hd' : d = false := by simpa using hd
        split at h
        · rcases List.mem_cons.1 h with rfl | h
          · exact .inr ⟨hd', rfl⟩
          · rcases List.mem_cons.1 h with rfl | h
            · exact .inl List.mem_cons_self
            · rcases mem_setG a n x r true h with h1 | h1
              · exact .inl (List.mem_cons_of_mem _ h1)
              · exact absurd h1.1 (by simp)
        · rcases List.mem_cons.1 h with rfl | h
          · exact .inl List.mem_cons_self
          · rcases mem_setG a n x r false h with h1 | h1
            · exact .inl (List.mem_cons_of_mem _ h1)
            · exact .inr ⟨hd', h1.2⟩
/-- Strictly rising balances. -/
def Up (L : List S82) : Prop := L.Pairwise (fun x y => Bef (to42 x.f0) (to42 y.f0))
theorem up_setG (a : S42) (n : Int) : ∀ (L : List S82) (d : Bool), Up L → Up (setG a.f0 a.f1 a.f2 n L d)
  | [], true, _ => List.Pairwise.nil
  | [], false, _ => by simp [setG, Up]
  | b :: r, d, h => by
    have h1 := (List.pairwise_cons.1 h).1
    have h2 : Up r := (List.pairwise_cons.1 h).2
    unfold setG
    by_cases e : to42 b.f0 = a
    · rw [if_pos ((eqA_iff _ _).2 e)]
      exact up_setG a n r d h2
    · rw [if_neg (fun h1 => e ((eqA_iff _ _).1 h1))]
      have ht : Up (b :: setG a.f0 a.f1 a.f2 n r true) := List.pairwise_cons.2 ⟨fun x hx => by
        rcases mem_setG a n x r true hx with h3 | h3
        · exact h1 x h3
        · exact absurd h3.1 (by simp), up_setG a n r true h2⟩
      by_cases hd : d = true
      · rw [if_pos hd]; exact ht
      · rw [if_neg hd]
        by_cases ha : aheadB a.f0 a.f1 a.f2 b.f0 = true
        · rw [if_pos ha]
          have hb : Bef a (to42 b.f0) := (ahead_iff _ _).1 ha
          refine List.pairwise_cons.2 ⟨fun x hx => ?_, ht⟩
          show Bef a (to42 x.f0)
          rcases List.mem_cons.1 hx with rfl | hx
          · exact hb
          · rcases mem_setG a n x r true hx with h3 | h3
            · exact hb.trans (h1 x h3)
            · exact absurd h3.1 (by simp)
        · rw [if_neg ha]
          refine List.pairwise_cons.2 ⟨fun x hx => ?_, up_setG a n r false h2⟩
          rcases mem_setG a n x r false hx with h3 | h3
          · exact h1 x h3
          · rw [h3.2]
            show Bef (to42 b.f0) a
            rcases Bef.tri a (to42 b.f0) with h4 | h4 | h4
            · exact absurd ((ahead_iff _ _).2 h4) ha
            · exact absurd h4.symm e
            · exact h4
theorem up_sL {L : List S82} (h : Up L) (a : S42) (n : Int) : Up (sL L a n) := up_setG a n L _ h
theorem nz_sL {L : List S82} (h : ∀ x ∈ L, x.f1 ≠ 0) (a : S42) (n : Int) : ∀ x ∈ sL L a n, x.f1 ≠ 0 := by
  intro x hx
  rcases mem_setG a n x L _ hx with h1 | ⟨h1, h2⟩
  · exact h x h1
  · rw [h2]
    simpa using h1
end Go.Proofs.Ytoknlpecbdlbfaa.PL

/- The plain law: Move and Post do the same to the map and to the list. -/
namespace Go.Proofs.Ytoknlpecbdlbfaa.PL
open Go Go.RowKit Go.Maps Go.Sort Go.Shelf Go.Proofs Go.Proofs.YtoknlpecbdlbfaaW.PrintWords Go.Proofs.YtoknlpecbdlbfaaW.PrintLast
/-- A map's list of entries is one: no key twice, nothing with 0. -/
structure OkM (M : List (S42 × Int)) : Prop where
  nd : (M.map Prod.fst).Nodup
  nz : ∀ p ∈ M, p.2 ≠ 0
theorem keys_setM (M : List (S42 × Int)) (a : S42) (n : Int) : (setM M a n).map Prod.fst = if a ∈ M.map Prod.fst then M.map Prod.fst else M.map Prod.fst ++ [a] := by
  unfold setM
  by_cases h : a ∈ M.map Prod.fst
  · rw [if_pos h, if_pos h, List.map_map]
    refine List.map_congr_left (fun p _ => ?_)
    simp only [Function.comp]
    by_cases e : p.1 = a
    · rw [if_pos e]; exact e.symm
    · rw [if_neg e]
  · rw [if_neg h, if_neg h, List.map_append]; rfl
theorem OkM.put {M : List (S42 × Int)} (h : OkM M) (a : S42) (n : Int) : OkM (putM M a n) := by
  unfold putM
  by_cases hn : n = 0
  · rw [if_pos hn]
    unfold delM
    refine ⟨?_, fun p hp => h.nz p (List.mem_filter.1 hp).1⟩
    exact (List.Sublist.map Prod.fst List.filter_sublist).nodup h.nd
  · rw [if_neg hn]
    refine ⟨?_, ?_⟩
    · rw [keys_setM]
      split
      · exact h.nd
      · rename_i hm
        refine List.nodup_append.2 ⟨h.nd, by simp, fun x hx y hy e => ?_⟩
        simp at hy
        subst hy
        subst e
        exact hm hx
    · intro p hp
      unfold setM at hp
      split at hp
      · obtain ⟨q, hq, rfl⟩ := List.mem_map.1 hp
        split
        · exact hn
        · exact h.nz q hq
      · rcases List.mem_append.1 hp with hp | hp
        · exact h.nz p hp
        · simp at hp
          rw [hp]
          exact hn
theorem OkM.nil : OkM [] := ⟨List.nodup_nil, fun p hp => absurd hp (by simp)⟩
theorem OkM.mem_iff {M : List (S42 × Int)} (h : OkM M) (a : S42) : a ∈ M.map Prod.fst ↔ getM M a ≠ 0 := by
  constructor
  · intro ha
    exact h.nz _ (getM_mem ha)
  · intro ha
    refine Classical.byContradiction fun hn => ha (getM_none hn)
/-- The map and the list have the same. -/
structure Rep (M : List (S42 × Int)) (L : List S82) : Prop where
  ok : OkM M
  up : Up L
  nz : ∀ x ∈ L, x.f1 ≠ 0
  same : ∀ a, getM M a = gL L a
theorem Rep.nil : Rep [] [] := ⟨OkM.nil, List.Pairwise.nil, fun x hx => absurd hx (by simp), fun _ => rfl⟩
theorem Rep.put {M : List (S42 × Int)} {L : List S82} (h : Rep M L) (a : S42) (n : Int) : Rep (putM M a n) (sL L a n) :=
  ⟨h.ok.put a n, up_sL h.up a n, nz_sL h.nz a n, fun c => by rw [getM_putM, gL_sL, h.same]⟩
theorem Rep.of {M M' : List (S42 × Int)} {L : List S82} (h : Rep M L) (hk : OkM M') (hs : ∀ a, getM M' a = getM M a) : Rep M' L :=
  ⟨hk, h.up, h.nz, fun a => (hs a).trans (h.same a)⟩
theorem OkM.move {M : List (S42 × Int)} (h : OkM M) (e : S107) : OkM (moveM M e).1 := by
  unfold moveM
  split
  · exact h
  · split
    · exact h
    · split
      · exact h
      · split
        · exact (h.put _ _).put _ _
        · exact (h.put _ _).put _ _
theorem mvL_good {L : List S82} {e : S107} (hck : checkI e = 0) : mvL L e = (if wrap64 (getL L e.f0.f0 e.f0.f1 e.f0.f2 - e.f2) < 0 ∧ 0 < e.f0.f0 then (L, 20)
  else if wrap64 (getL L e.f0.f0 e.f0.f1 e.f0.f2 - e.f2) < -72057594037927936 ∨ 72057594037927936 < wrap64 (getL (setL L e.f0.f0 e.f0.f1 e.f0.f2 (wrap64 (getL L e.f0.f0 e.f0.f1 e.f0.f2 - e.f2))) e.f1.f0 e.f1.f1 e.f1.f2 + e.f2) then (L, 9)
  else (setL (setL L e.f0.f0 e.f0.f1 e.f0.f2 (wrap64 (getL L e.f0.f0 e.f0.f1 e.f0.f2 - e.f2))) e.f1.f0 e.f1.f1 e.f1.f2 (wrap64 (getL (setL L e.f0.f0 e.f0.f1 e.f0.f2 (wrap64 (getL L e.f0.f0 e.f0.f1 e.f0.f2 - e.f2))) e.f1.f0 e.f1.f1 e.f1.f2 + e.f2)), 0)) := by
  unfold mvL
  rw [if_neg (fun q => q hck)]
/-- Move does the same. -/
theorem rep_move {M : List (S42 × Int)} {L : List S82} (h : Rep M L) (hB : BM M) (e : S107) : (moveM M e).2 = (mvL L e).2 ∧ Rep (moveM M e).1 (mvL L e).1 := by
  by_cases hck : checkI e = 0
  · obtain ⟨hn1, hn2, hg0, hg1, hth⟩ := check_good hck
    have g0 := good_wf hg0
    have hv := hB e.f0
    have hs : getL L e.f0.f0 e.f0.f1 e.f0.f2 = getM M e.f0 := (h.same e.f0).symm
    rw [mvL_good hck, hs, wrap_id (x := getM M e.f0 - e.f2) (by omega) (by omega)]
    by_cases c1 : getM M e.f0 - e.f2 < 0 ∧ 0 < e.f0.f0
    · rw [if_pos c1, moveM_20 hck (by omega) c1.1]
      exact ⟨rfl, h⟩
    · have c1' : ¬ (e.f0.f0 ≠ 0 ∧ getM M e.f0 - e.f2 < 0) := fun q => c1 ⟨q.2, by omega⟩
      rw [if_neg c1]
      by_cases c2 : getM M e.f0 - e.f2 < -72057594037927936
      · rw [if_pos (.inl c2), moveM_9 hck c1' c2]
        exact ⟨rfl, h⟩
      · have h1 := h.put e.f0 (getM M e.f0 - e.f2)
        have hB1 : BM (putM M e.f0 (getM M e.f0 - e.f2)) := hB.put _ (by omega) (by omega)
        have ht := hB1 e.f1
        have hs1 : getL (setL L e.f0.f0 e.f0.f1 e.f0.f2 (getM M e.f0 - e.f2)) e.f1.f0 e.f1.f1 e.f1.f2 = getM (putM M e.f0 (getM M e.f0 - e.f2)) e.f1 := (h1.same e.f1).symm
        rw [hs1, wrap_id (x := getM (putM M e.f0 (getM M e.f0 - e.f2)) e.f1 + e.f2) (by omega) (by omega)]
        by_cases c3 : 72057594037927936 < getM (putM M e.f0 (getM M e.f0 - e.f2)) e.f1 + e.f2
        · rw [if_pos (.inr c3), moveM_9b hck c1' c2 c3]
          refine ⟨rfl, h.of ((h.ok.put _ _).put _ _) (fun a => ?_)⟩
          rw [getM_putM]
          split
          · rename_i e1; rw [e1]; omega
          · rename_i e1; rw [getM_putM, if_neg e1]
        · rw [if_neg (fun q => q.elim c2 c3), moveM_0 hck c1' c2 c3]
          exact ⟨rfl, h1.put _ _⟩
  · have e1 : moveM M e = (M, checkI e) := by unfold moveM; rw [if_pos hck]
    have e2 : mvL L e = (L, checkI e) := by unfold mvL; rw [if_pos hck]
    rw [e1, e2]
    exact ⟨rfl, h⟩
/-- What a move that was done did. -/
theorem move_ok {M : List (S42 × Int)} {e : S107} (h : (moveM M e).2 = 0) : (moveM M e).1 = putM (putM M e.f0 (getM M e.f0 - e.f2)) e.f1 (getM (putM M e.f0 (getM M e.f0 - e.f2)) e.f1 + e.f2) := by
  have hck := moveM_ok h
  unfold moveM at h ⊢
  rw [if_neg (fun q => q hck)] at h ⊢
  split at h
  · simp at h
  · rename_i c1
    rw [if_neg c1]
    split at h
    · simp at h
    · rename_i c2
      rw [if_neg c2]
      split at h
      · simp at h
      · rename_i c3
        rw [if_neg c3]
/-- One step of the way back. -/
theorem undo_step {M M' : List (S42 × Int)} {e : S107} (hB : BM M) (hok : (moveM M e).2 = 0) (hs : ∀ a, getM M' a = getM (moveM M e).1 a) :
    ∀ a, getM (putM (putM M' e.f1 (wrap64 (getM M' e.f1 - e.f2))) e.f0 (wrap64 (getM (putM M' e.f1 (wrap64 (getM M' e.f1 - e.f2))) e.f0 + e.f2))) a = getM M a := by
  have hck := moveM_ok hok
  obtain ⟨hn1, hn2, _⟩ := check_good hck
  have hm := move_ok hok
  have hv := hB e.f0
  have ht := hB e.f1
  have hg : ∀ a, getM M' a = if a = e.f1 then getM (putM M e.f0 (getM M e.f0 - e.f2)) e.f1 + e.f2 else if a = e.f0 then getM M e.f0 - e.f2 else getM M a := fun a => by
    rw [hs, hm, getM_putM]
    by_cases q : a = e.f1
    · rw [if_pos q, if_pos q]
    · rw [if_neg q, if_neg q, getM_putM]
  have h1 : getM (putM M e.f0 (getM M e.f0 - e.f2)) e.f1 = if e.f1 = e.f0 then getM M e.f0 - e.f2 else getM M e.f1 := getM_putM _ _ _ _
  have h2 : getM M' e.f1 = getM (putM M e.f0 (getM M e.f0 - e.f2)) e.f1 + e.f2 := by rw [hg, if_pos rfl]
  rw [h2]
  have h3 : wrap64 (getM (putM M e.f0 (getM M e.f0 - e.f2)) e.f1 + e.f2 - e.f2) = getM (putM M e.f0 (getM M e.f0 - e.f2)) e.f1 := by
    rw [show getM (putM M e.f0 (getM M e.f0 - e.f2)) e.f1 + e.f2 - e.f2 = getM (putM M e.f0 (getM M e.f0 - e.f2)) e.f1 by omega]
    rw [h1]
    split
    · exact wrap_id (by omega) (by omega)
    · exact wrap_id (by omega) (by omega)
  rw [h3]
  have h4 : getM (putM M' e.f1 (getM (putM M e.f0 (getM M e.f0 - e.f2)) e.f1)) e.f0 = getM M e.f0 - e.f2 := by
    rw [getM_putM, h1]
    by_cases q : e.f0 = e.f1
    · rw [if_pos q, if_pos q.symm]
    · rw [if_neg q, hg, if_neg q, if_pos rfl]
  rw [h4, wrap_id (x := getM M e.f0 - e.f2 + e.f2) (by omega) (by omega)]
  intro a
  rw [getM_putM]
  by_cases q : a = e.f0
  · rw [if_pos q, q]; omega
  · rw [if_neg q, getM_putM, h1]
    by_cases q1 : a = e.f1
    · rw [if_pos q1, if_neg (fun q2 => q (q1.trans q2)), q1]
    · rw [if_neg q1, hg, if_neg q1, if_neg q]
theorem okM_undo : ∀ (done : List S107) (M : List (S42 × Int)), OkM M → OkM (undoM M done)
  | [], M, h => h
  | e :: r, M, h => by
    unfold undoM
    exact okM_undo r _ ((h.put _ _).put _ _)
/-- Post does the same: what is done, or that nothing is. -/
theorem rep_post {M0 : List (S42 × Int)} {L0 : List S82} (h0 : Rep M0 L0) : ∀ (rest done : List S107) (M : List (S42 × Int)) (L : List S82), Rep M L → BM M → (∀ M', OkM M' → (∀ a, getM M' a = getM M a) → ∀ a, getM (undoM M' done) a = getM M0 a) →
    (postL done M rest).2.1 = (pstL L0 done.length L rest).2.1 ∧ (postL done M rest).2.2 = (pstL L0 done.length L rest).2.2 ∧ Rep (postL done M rest).1 (pstL L0 done.length L rest).1 ∧ (BM M0 → BM (postL done M rest).1)
  | [], done, M, L, hr, hB, hu => ⟨rfl, rfl, hr, fun _ => hB⟩
  | e :: r, done, M, L, hr, hB, hu => by
    obtain ⟨h1, h2⟩ := rep_move hr hB e
    unfold postL pstL
    by_cases hf : (moveM M e).2 = 0
    · rw [if_pos hf, if_pos (h1.symm.trans hf)]
      refine rep_post h0 r (e :: done) (moveM M e).1 (mvL L e).1 h2 (hB.move e) (fun M' hk hs a => ?_)
      unfold undoM
      exact hu _ ((hk.put _ _).put _ _) (undo_step hB hf hs) a
    · rw [if_neg hf, if_neg (fun q => hf (h1.trans q))]
      have hs : ∀ a, getM (moveM M e).1 a = getM M a := fun a => by
        by_cases hck : checkI e = 0
        · have hv := hB e.f0
          unfold moveM at hf ⊢
          rw [if_neg (fun q => q hck)] at hf ⊢
          split
          · rfl
          · split
            · rfl
            · split
              · rw [getM_putM, getM_putM]
                split
                · rename_i q; rw [q]; omega
                · rfl
              · rename_i c1 c2 c3
                rw [if_neg c1, if_neg c2, if_neg c3] at hf
                exact absurd rfl hf
        · unfold moveM
          rw [if_pos hck]
      have hu' := hu (moveM M e).1 (hr.ok.move e) hs
      refine ⟨rfl, h1, h0.of (okM_undo done _ (hr.ok.move e)) hu', fun hB0 a => ?_⟩
      rw [hu']
      exact hB0 a
theorem rep_post0 {M : List (S42 × Int)} {L : List S82} (h : Rep M L) (hB : BM M) (l : List S107) :
    (postL [] M l).2.1 = (pstL L 0 L l).2.1 ∧ (postL [] M l).2.2 = (pstL L 0 L l).2.2 ∧ Rep (postL [] M l).1 (pstL L 0 L l).1 ∧ BM (postL [] M l).1 := by
  obtain ⟨h1, h2, h3, h4⟩ := rep_post h l [] M L h hB (fun M' _ hs a => hs a)
  exact ⟨h1, h2, h3, h4 hB⟩
end Go.Proofs.Ytoknlpecbdlbfaa.PL

/- The plain law: All tells the list. -/
namespace Go.Proofs.Ytoknlpecbdlbfaa.PL
open Go Go.RowKit Go.Maps Go.Sort Go.Shelf Go.Proofs Go.Proofs.YtoknlpecbdlbfaaW.PrintWords Go.Proofs.YtoknlpecbdlbfaaW.PrintLast
def keysL (L : List S82) : List S42 := L.map (fun b => to42 b.f0)
theorem gL_none {L : List S82} {a : S42} (h : a ∉ keysL L) : gL L a = 0 := by
  induction L with
  | nil => rfl
  | cons b r ih =>
    simp only [keysL, List.map_cons, List.mem_cons, not_or] at h
    rw [gL_cons, if_neg (fun e => h.1 e.symm)]
    exact ih h.2
theorem gL_mem {L : List S82} (hu : Up L) {b : S82} (hb : b ∈ L) : gL L (to42 b.f0) = b.f1 := by
  induction L with
  | nil => cases hb
  | cons x r ih =>
    rw [gL_cons]
    rcases List.mem_cons.1 hb with rfl | hb
    · rw [if_pos rfl]
    · have h1 := (List.pairwise_cons.1 hu).1 b hb
      rw [if_neg (fun e => Bef.irrefl _ (by rw [e] at h1; exact h1))]
      exact ih (List.pairwise_cons.1 hu).2 hb
theorem asc_keys {L : List S82} (hu : Up L) : Asc (keysL L) := List.pairwise_map.2 hu
theorem asc_nodup {l : List S42} (h : Asc l) : l.Nodup := List.Pairwise.imp (R := Bef) (S := fun a b => a ≠ b) (fun {a b} hb e => Bef.irrefl a (by rw [← e] at hb; exact hb)) h
theorem asc_unique {l l' : List S42} (h : Asc l) (h' : Asc l') (hp : l.Perm l') : l = l' :=
  List.Perm.eq_of_pairwise (le := Bef) (fun a _ _ _ h1 h2 => absurd (h1.trans h2) (Bef.irrefl a)) h h' hp
theorem rep_keys {M : List (S42 × Int)} {L : List S82} (h : Rep M L) : (M.map Prod.fst).Perm (keysL L) := by
  refine (List.perm_ext_iff_of_nodup h.ok.nd (asc_nodup (asc_keys h.up))).2 fun a => ?_
  rw [h.ok.mem_iff, h.same]
  constructor
  · intro ha
    exact Classical.byContradiction fun hn => ha (gL_none hn)
  · intro ha
    obtain ⟨b, hb, rfl⟩ := List.mem_map.1 ha
    rw [gL_mem h.up hb]
    exact h.nz b hb
theorem rep_length {M : List (S42 × Int)} {L : List S82} (h : Rep M L) : M.length = L.length := by
  have := (rep_keys h).length_eq
  simpa [keysL] using this
/-- All tells just the list. -/
theorem rep_all {M : List (S42 × Int)} {L : List S82} (h : Rep M L) {ts : List S42} (hp : ts.Perm (M.map Prod.fst)) (ha : Asc ts) : ts.map (fun a => b82 a (getM M a)) = L := by
  have e : ts = keysL L := asc_unique ha (asc_keys h.up) (hp.trans (rep_keys h))
  rw [e]
  unfold keysL
  rw [List.map_map]
  have : ∀ b ∈ L, ((fun a => b82 a (getM M a)) ∘ fun b : S82 => to42 b.f0) b = b := by
    intro b hb
    simp only [Function.comp]
    rw [h.same, gL_mem h.up hb]
    rfl
  rw [List.map_congr_left this]
  simp
/-- All at a ledger that has what the list has. -/
theorem all_gives {g b : Nat} {M : List (S42 × Int)} {L : List S82} {w : World} (h : LG w g b M) (hr : Rep M L) (hs : L.length * 40 ≤ 140737488355328) : Gives 23 (.pointer (some ⟨g, 0, none⟩)) 44 w L := by
  unfold Gives
  refine (all_any h (by rw [rep_length hr]; exact hs)).mono ?_
  rintro o w' ⟨v, ts, rfl, hp, ha, hR, hb⟩
  rw [rep_all hr hp ha] at hR
  exact ⟨v, rfl, hR, hb⟩
end Go.Proofs.Ytoknlpecbdlbfaa.PL

/- The plain law: Held, Same, entries as plain functions. -/
namespace Go.Proofs.Ytoknlpecbdlbfaa.PL
open Go Go.RowKit Go.Maps Go.Sort Go.Shelf Go.Proofs Go.Proofs.YtoknlpecbdlbfaaW.PrintWords Go.Proofs.YtoknlpecbdlbfaaW.PrintLast
theorem held_l0 (L : List S82) (hL : L.length < 9223372036854775807) (o : Int) (t : ByteArray) : ∀ (k i : Nat) (n : Int) (R : List S82), L.drop i = R → R.length + 1 ≤ k → i ≤ L.length → lombardref11_Held.l0 k L o t n (i : Int) = some (R.foldl (fun n b => if b.f0.f0 = o ∧ b.f0.f2.toList = t.toList then wrap64 (n + b.f1) else n) n)
  | 0, _, _, _, _, hk, _ => by omega
  | k + 1, i, n, R, hR, hk, hi => by
    unfold lombardref11_Held.l0
    cases R with
    | nil =>
      have : L.length ≤ i := by
        have := congrArg List.length hR
        simp at this
        omega
      rw [if_neg (by omega)]
      rfl
    | cons b r =>
      obtain ⟨h1, h2, h3⟩ := rd_drop hR
      have hw : wrap64 ((i : Int) + 1) = ((i + 1 : Nat) : Int) := by rw [wrap_id (by omega) (by omega)]; rfl
      rw [if_pos (by omega), if_pos (by omega), h1, hw, List.foldl_cons]
      have ih := fun n => held_l0 L hL o t k (i + 1) n r h3 (by simp at hk; omega) (by omega)
      by_cases c1 : b.f0.f0 = o
      · rw [if_pos c1]
        by_cases c2 : b.f0.f2.toList = t.toList
        · rw [if_pos c2, if_pos ⟨c1, c2⟩, ih]
        · rw [if_neg c2, if_neg (fun q => c2 q.2), ih]
      · rw [if_neg c1, if_neg (fun q => c1 q.1), ih]
theorem held_f (L : List S82) (hL : L.length < 9223372036854775807) (o : Int) (t : ByteArray) : lombardref11_Held.f (L.length + 1) L o t = some (heldL L o t) :=
  held_l0 L hL o t _ 0 0 L rfl (Nat.le_refl _) (Nat.zero_le _)
end Go.Proofs.Ytoknlpecbdlbfaa.PL

/- The chapter's example. -/
namespace Go.Proofs.Ytoknlpecbdlbfaa.PL
open Go Go.RowKit Go.Maps Go.Sort Go.Shelf Go.Proofs Go.Proofs.YtoknlpecbdlbfaaW.PrintWords Go.Proofs.YtoknlpecbdlbfaaW.PrintLast
def tt : ByteArray := ⟨#[116]⟩
def ac (o : Int) : S42 := ⟨o, 0, tt⟩
def e1x : S107 := ⟨ac 0, ac 1, 5⟩
def e2x : S107 := ⟨ac 1, ac 2, 3⟩
theorem ex1 : postL [] [] [e1x, e2x] = ([(ac 0, -5), (ac 1, 2), (ac 2, 3)], 2, 0) := by kernel_rfl
theorem ex2 : postL [] [(ac 0, -5), (ac 1, 2), (ac 2, 3)] [e2x] = ([(ac 0, -5), (ac 1, 2), (ac 2, 3)], 0, 20) := by kernel_rfl
theorem ex3 : (pstL [] 0 [] [e1x, e2x]).1 = [⟨⟨0, 0, tt⟩, -5⟩, ⟨⟨1, 0, tt⟩, 2⟩, ⟨⟨2, 0, tt⟩, 3⟩] := by kernel_rfl
theorem ex4 : wrap64 (-(heldL [⟨⟨0, 0, tt⟩, -5⟩, ⟨⟨1, 0, tt⟩, 2⟩, ⟨⟨2, 0, tt⟩, 3⟩] 0 tt)) = 5 := by kernel_rfl
end Go.Proofs.Ytoknlpecbdlbfaa.PL

/- A row of entries that is laid anew, read as entries; the example's two posts. -/
namespace Go.Proofs.Ytoknlpecbdlbfaa.PL
open Go Go.RowKit Go.Maps Go.Sort Go.Shelf Go.Proofs Go.Proofs.YtoknlpecbdlbfaaW.PrintWords Go.Proofs.YtoknlpecbdlbfaaW.PrintLast
/-- An entry's seven cells. -/
def c7 (e : S107) : List Value := [.int .i64 e.f0.f0, .int .i64 e.f0.f1, .string e.f0.f2, .int .i64 e.f1.f0, .int .i64 e.f1.f1, .string e.f1.f2, .int .i64 e.f2]
theorem len_c7 : ∀ l : List S107, (l.flatMap c7).length = l.length * 7
  | [] => rfl
  | e :: r => by
    rw [List.flatMap_cons, List.length_append, len_c7 r]
    simp only [c7, List.length_cons, List.length_nil]
    omega
theorem reps_c7 (w : World) (base : Nat) (ok : Nat → Prop) : ∀ ss : List S107, Reps (k107.M w base ok) 7 ss (ss.flatMap c7) := by
  intro ss
  refine ⟨len_c7 ss, ?_⟩
  induction ss with
  | nil => intro j p h; simp at h
  | cons a r ih =>
    intro j p h
    cases j with
    | zero =>
      simp at h
      subst h
      simp only [List.flatMap_cons, Nat.zero_mul, List.drop_zero]
      rw [List.take_append_of_le_length (by simp [c7])]
      exact k107_mkM w base ok a
    | succ j =>
      simp at h
      have e1 : (j + 1) * 7 = 7 + j * 7 := by omega
      have e2 : (List.flatMap c7 (a :: r)).drop ((j + 1) * 7) = (r.flatMap c7).drop (j * 7) := by
        rw [List.flatMap_cons, e1, ← List.drop_drop]
        rfl
      rw [e2]
      exact ih j p h
theorem C107_new (W : World) (l : List S107) (hl : l.length ≤ maxLen) : Kd.C k107 (W.alloc (.cells (l.flatMap c7).toArray 107)) (some ⟨W.heap.size, 0, none⟩) l.length l := by
  have ho : (W.alloc (.cells (l.flatMap c7).toArray 107)).ownsRow 0 107 7 (.slice (some ⟨W.heap.size, 0, none⟩) l.length l.length) l.length (l.flatMap c7) :=
    ⟨len_c7 l, .inr ⟨W.heap.size, l.length, (l.flatMap c7).toArray, rfl, Nat.zero_le _, (Go.MapKept.heap_alloc W _).1, Nat.le_refl _, hl, by rw [List.size_toArray, len_c7], by
      rw [List.toList_toArray, List.take_of_length_le (by rw [len_c7]; omega)]⟩⟩
  have hR : Kd.R k107 107 (W.alloc (.cells (l.flatMap c7).toArray 107)) 0 (fun _ => True) (.slice (some ⟨W.heap.size, 0, none⟩) l.length l.length) l := ⟨fun _ _ => trivial, _, ho, reps_c7 _ _ _ l⟩
  obtain ⟨A, c, he, _, hC⟩ := Kd.R_reads hR
  injection he with h1 h2 h3
  rw [h1]
  exact hC
theorem BM.nil : BM [] := fun a => ⟨by simp [getM], by simp [getM]⟩
theorem awake_p1 {g b : Nat} {W : World} (h : LG W g b []) :
    Calls Try.prog 19 #[.pointer (some ⟨g, 0, none⟩), .slice (some ⟨W.heap.size, 0, none⟩) 2 2] (W.alloc (.cells ([e1x, e2x].flatMap c7).toArray 107)) fun e w' => e = .returned (.tuple #[.int .i64 2, .int .i64 0]) ∧ LG w' g b [(ac 0, -5), (ac 1, 2), (ac 2, 3)] ∧ W.grownBy w' (some b) := by
  have hB : Below W.heap.size W (W.alloc (.cells ([e1x, e2x].flatMap c7).toArray 107)) := (Below.refl _ _).alloc (Nat.le_refl _) _
  have h1 := post_any (h.below hB) BM.nil (some ⟨W.heap.size, 0, none⟩) 2 [e1x, e2x] (C107_new W _ (by unfold maxLen; simp)) (by simp) (by unfold maxLen; simp)
  rw [ex1] at h1
  exact h1.mono (fun e w' ⟨a, b, c⟩ => ⟨a, b, grown_box0 _ c⟩)
theorem ex_rep : Rep (postL [] [] [e1x, e2x]).1 (pstL [] 0 [] [e1x, e2x]).1 ∧ BM (postL [] [] [e1x, e2x]).1 := ⟨(rep_post0 Rep.nil BM.nil _).2.2.1, (rep_post0 Rep.nil BM.nil _).2.2.2⟩
theorem rep_ex : Rep [(ac 0, -5), (ac 1, 2), (ac 2, 3)] [⟨⟨0, 0, tt⟩, -5⟩, ⟨⟨1, 0, tt⟩, 2⟩, ⟨⟨2, 0, tt⟩, 3⟩] ∧ BM [(ac 0, -5), (ac 1, 2), (ac 2, 3)] := by
  have h := ex_rep
  rw [ex3, ex1] at h
  exact h
theorem awake_p2 {g b : Nat} {W : World} (h : LG W g b [(ac 0, -5), (ac 1, 2), (ac 2, 3)]) :
    Calls Try.prog 19 #[.pointer (some ⟨g, 0, none⟩), .slice (some ⟨W.heap.size, 0, none⟩) 1 1] (W.alloc (.cells ([e2x].flatMap c7).toArray 107)) fun e w' => e = .returned (.tuple #[.int .i64 0, .int .i64 20]) ∧ LG w' g b [(ac 0, -5), (ac 1, 2), (ac 2, 3)] ∧ W.grownBy w' (some b) := by
  have hB : Below W.heap.size W (W.alloc (.cells ([e2x].flatMap c7).toArray 107)) := (Below.refl _ _).alloc (Nat.le_refl _) _
  have h1 := post_any (h.below hB) rep_ex.2 (some ⟨W.heap.size, 0, none⟩) 1 [e2x] (C107_new W _ (by unfold maxLen; simp)) (by simp) (by unfold maxLen; simp)
  rw [ex2] at h1
  exact h1.mono (fun e w' ⟨a, b, c⟩ => ⟨a, b, grown_box0 _ c⟩)
end Go.Proofs.Ytoknlpecbdlbfaa.PL

/- awake: the chapter's example, its calls. -/
namespace Go.Proofs.Ytoknlpecbdlbfaa.PL
open Go Go.RowKit Go.Maps Go.Sort Go.Shelf Go.Proofs Go.Proofs.YtoknlpecbdlbfaaW.PrintWords Go.Proofs.YtoknlpecbdlbfaaW.PrintLast
/-- The example's map. -/
def MX : List (S42 × Int) := [(ac 0, -5), (ac 1, 2), (ac 2, 3)]
def acell (n : Int) : Obj := .cells #[.int .i64 n, .int .i64 0, .string ⟨#[116]⟩] 42
/-- a's and b's own cells, and the ledger. -/
structure AW (W : World) (g b k : Nat) : Prop where
  lg : LG W g b MX
  ha : W.heap[k]? = some (acell 1)
  hb : W.heap[k + 1]? = some (acell 2)
theorem AW.below {W W' : World} {g b k : Nat} (h : AW W g b k) (hb : Below W.heap.size W W') : AW W' g b k := by
  have h1 : k < W.heap.size := (Array.getElem?_eq_some_iff.1 h.ha).1
  have h2 : k + 1 < W.heap.size := (Array.getElem?_eq_some_iff.1 h.hb).1
  exact ⟨h.lg.below hb, (hb.block k h1).trans h.ha, (hb.block (k + 1) h2).trans h.hb⟩
/-- Cells of a and b. -/
def AC (W : World) (k : Nat) : Prop := (W.cell? ⟨k, 0, none⟩ = some (.int .i64 1) ∧ W.cell? ⟨k, 1, none⟩ = some (.int .i64 0) ∧ W.cell? ⟨k, 2, none⟩ = some (.string ⟨#[116]⟩)) ∧ (W.cell? ⟨k + 1, 0, none⟩ = some (.int .i64 2) ∧ W.cell? ⟨k + 1, 1, none⟩ = some (.int .i64 0) ∧ W.cell? ⟨k + 1, 2, none⟩ = some (.string ⟨#[116]⟩))
theorem AW.cells {W : World} {g b k : Nat} (h : AW W g b k) : AC W k := by
  have h1 := h.ha
  have h2 := h.hb
  unfold acell at h1 h2
  refine ⟨⟨?_, ?_, ?_⟩, ?_, ?_, ?_⟩ <;> simp [World.cell?, h1, h2]
theorem awake_q1 {g b : Nat} {w1 : World} (h : LG w1 g b []) :
    Calls Try.prog 19 #[.pointer (some ⟨g, 0, none⟩), .slice (some ⟨w1.heap.size + 1 + 1, 0, none⟩) 2 2] (((w1.alloc (acell 1)).alloc (acell 2)).alloc (.cells #[.int .i64 0, .int .i64 0, .string ⟨#[116]⟩, .int .i64 1, .int .i64 0, .string ⟨#[116]⟩, .int .i64 5, .int .i64 1, .int .i64 0, .string ⟨#[116]⟩, .int .i64 2, .int .i64 0, .string ⟨#[116]⟩, .int .i64 3] 107)) fun e w' => e = .returned (.tuple #[.int .i64 2, .int .i64 0]) ∧ Hid (AW w' g b w1.heap.size ∧ w1.grownBy w' (some b)) ∧ AC w' w1.heap.size := by
  have hB : Below w1.heap.size w1 ((w1.alloc (acell 1)).alloc (acell 2)) := ((Below.refl _ _).alloc (Nat.le_refl _) _).alloc (by simp) _
  have h1 := awake_p1 (W := (w1.alloc (acell 1)).alloc (acell 2)) (h.below hB)
  have e1 : ((w1.alloc (acell 1)).alloc (acell 2)).heap.size = w1.heap.size + 1 + 1 := by simp
  rw [e1] at h1
  have hblt := h.map.lt
  refine h1.mono ?_
  rintro e w' ⟨rfl, h2, h3⟩
  have ha : ((w1.alloc (acell 1)).alloc (acell 2)).heap[w1.heap.size]? = some (acell 1) := by
    rw [(Go.MapKept.heap_alloc (w1.alloc (acell 1)) (acell 2)).2 _ (by simp)]
    exact (Go.MapKept.heap_alloc w1 _).1
  have hb : ((w1.alloc (acell 1)).alloc (acell 2)).heap[w1.heap.size + 1]? = some (acell 2) := by
    have := (Go.MapKept.heap_alloc (w1.alloc (acell 1)) (acell 2)).1
    simpa using this
  have hA : AW w' g b w1.heap.size := ⟨h2, (h3.block _ (by simp; omega) (by simp; omega)).trans ha, (h3.block _ (by simp) (by simp; omega)).trans hb⟩
  exact ⟨rfl, ⟨hA, grown_box0 _ (grown_box0 _ h3)⟩, hA.cells⟩
theorem awake_q2 {g b k : Nat} {w2 : World} (h : AW w2 g b k) (hk : b < k) :
    Calls Try.prog 19 #[.pointer (some ⟨g, 0, none⟩), .slice (some ⟨w2.heap.size, 0, none⟩) 1 1] (w2.alloc (.cells #[.int .i64 1, .int .i64 0, .string ⟨#[116]⟩, .int .i64 2, .int .i64 0, .string ⟨#[116]⟩, .int .i64 3] 107)) fun e w' => e = .returned (.tuple #[.int .i64 0, .int .i64 20]) ∧ Hid (AW w' g b k ∧ w2.grownBy w' (some b)) ∧ AC w' k := by
  refine (awake_p2 h.lg).mono ?_
  rintro e w' ⟨rfl, h2, h3⟩
  have h1 : k < w2.heap.size := (Array.getElem?_eq_some_iff.1 h.ha).1
  have h2' : k + 1 < w2.heap.size := (Array.getElem?_eq_some_iff.1 h.hb).1
  have hA : AW w' g b k := ⟨h2, (h3.block _ h1 (by simp; omega)).trans h.ha, (h3.block _ h2' (by simp; omega)).trans h.hb⟩
  exact ⟨rfl, ⟨hA, h3⟩, hA.cells⟩
theorem tt_size : tt.size = 1 := by kernel_rfl
theorem wf_ac (n : Int) (h : (Lit.int .i64 n).wf = true) : Wfa (ac n) := ⟨h, by kernel_rfl, by show tt.size ≤ maxLen; rw [tt_size]; unfold maxLen; omega⟩
theorem awake_b1 {g b k : Nat} {w2 : World} (h : AW w2 g b k) :
    Calls Try.prog 25 #[.pointer (some ⟨g, 0, none⟩), .agg #[.int .i64 1, .int .i64 0, .string ⟨#[116]⟩]] w2 fun e w' => e = .returned (.int .i64 2) ∧ Hid (AW w' g b k ∧ Below w2.heap.size w2 w') ∧ AC w' k := by
  refine (balance_any h.lg (a := ac 1) (wf_ac 1 (by kernel_rfl))).mono ?_
  rintro e w' ⟨rfl, h3⟩
  exact ⟨rfl, ⟨h.below h3, h3⟩, (h.below h3).cells⟩
theorem awake_b2 {g b k : Nat} {w2 : World} (h : AW w2 g b k) :
    Calls Try.prog 25 #[.pointer (some ⟨g, 0, none⟩), .agg #[.int .i64 2, .int .i64 0, .string ⟨#[116]⟩]] w2 fun e w' => e = .returned (.int .i64 3) ∧ Hid (AW w' g b k ∧ Below w2.heap.size w2 w') ∧ AC w' k := by
  refine (balance_any h.lg (a := ac 2) (wf_ac 2 (by kernel_rfl))).mono ?_
  rintro e w' ⟨rfl, h3⟩
  exact ⟨rfl, ⟨h.below h3, h3⟩, (h.below h3).cells⟩
theorem awake_o {g b k : Nat} {w2 : World} (h : AW w2 g b k) :
    Calls Try.prog 30 #[.pointer (some ⟨g, 0, none⟩), .string ⟨#[116]⟩] w2 fun e w' => e = .returned (.int .i64 5) ∧ Below w2.heap.size w2 w' := by
  have hg := all_gives h.lg rep_ex.1 (by simp)
  have h1 := out_walk _ w2 _ tt hg (by simp)
  rw [ex4] at h1
  exact h1
end Go.Proofs.Ytoknlpecbdlbfaa.PL

/- awake: the chapter's example, walked. -/
namespace Go.Proofs.Ytoknlpecbdlbfaa.PL
open Go Go.RowKit Go.Maps Go.Sort Go.Shelf Go.Proofs Go.Proofs.YtoknlpecbdlbfaaW.PrintWords Go.Proofs.YtoknlpecbdlbfaaW.PrintLast
set_option maxRecDepth 100000 in
set_option maxHeartbeats 2000000 in
theorem awake_walk (w : World) : Calls Try.prog 16 #[] w fun e w' => e = .returned (.bool true) ∧ Below w.heap.size w w' := by
  go_enter Try.func16, Try.ntmps16
  go_wp2_with (first
    | (go_at_call 30; refine (awake_o H5.out.1).mono ?_; rintro e w6 ⟨rfl, H6⟩; replace H6 := Lib.hid H6)
    | (go_at_call 25; refine (awake_b2 H4.out.1).mono ?_; rintro e w5 ⟨rfl, H5, H5a, H5b⟩; clear a0 a1 a2 b0 b1 b2; obtain ⟨a0, a1, a2⟩ := H5a; obtain ⟨b0, b1, b2⟩ := H5b)
    | (go_at_call 25; refine (awake_b1 H3.out.1).mono ?_; rintro e w4 ⟨rfl, H4, H4a, H4b⟩; clear a0 a1 a2 b0 b1 b2; obtain ⟨a0, a1, a2⟩ := H4a; obtain ⟨b0, b1, b2⟩ := H4b)
    | (go_at_call 19; refine (awake_q2 H2.out.1 (by have := H1.out.1.map.lt; omega)).mono ?_; rintro e w3 ⟨rfl, H3, H3a, H3b⟩; clear a0 a1 a2 b0 b1 b2; obtain ⟨a0, a1, a2⟩ := H3a; obtain ⟨b0, b1, b2⟩ := H3b)
    | (go_at_call 19; refine (awake_q1 H1.out.1).mono ?_; rintro e w2 ⟨rfl, H2, H2a, H2b⟩; obtain ⟨a0, a1, a2⟩ := H2a; obtain ⟨b0, b1, b2⟩ := H2b)
    | (go_at_call 17; refine (new_any _).mono ?_; rintro e w1 ⟨rfl, H1⟩; replace H1 := Lib.hid H1))
  go_ret
  refine ⟨rfl, ?_⟩
  have h1 := H1.out.2
  have h2 := h1.grown H2.out.2 h1.size (by simp)
  have h3 := h2.grown H3.out.2 h2.size (by simp)
  have h4 := h3.trans (H4.out.2.mono h3.size)
  have h5 := h4.trans (H5.out.2.mono h4.size)
  exact h5.trans (H6.out.mono h5.size)
end Go.Proofs.Ytoknlpecbdlbfaa.PL

/- What things the document's list has, as the program's compaction. -/
namespace Go.Proofs.Ytoknlpecbdlbfaa.PL
open Go Go.RowKit Go.Maps Go.Sort Go.Shelf Go.Proofs Go.Proofs.YtoknlpecbdlbfaaW.PrintWords Go.Proofs.YtoknlpecbdlbfaaW.PrintLast
/-- The balances' things. -/
def thingsOf (L : List S82) : List ByteArray := L.map (fun b => b.f0.f2)
theorem bl_inj {s t : ByteArray} (h : bl s = bl t) : s = t := by
  apply ByteArray.ext
  exact Array.toList_inj.1 h
theorem toList_iff (s t : ByteArray) : s.toList = t.toList ↔ s = t := by
  constructor
  · intro h
    rw [ByteArray.toList_eq, ByteArray.toList_eq] at h
    exact bl_inj h
  · rintro rfl; rfl
theorem at_bl (L : List S82) {i : Nat} (h : i < L.length) : ((thingsOf L).map bl).toArray[i]! = bl (rd_T82 L (i : Int)).f0.f2 := by
  have e : rd_T82 L (i : Int) = L[i] := by
    unfold rd_T82
    simp [List.getD, h]
  rw [e]
  rw [getElem!_pos _ i (by simpa [thingsOf] using h)]
  simp [thingsOf]
theorem keeps_iff (L : List S82) {i : Nat} (h : i < L.length) : Lib.keeps ((thingsOf L).map bl).toArray i = true ↔ i = 0 ∨ ¬ (rd_T82 L (i : Int)).f0.f2.toList = (rd_T82 L ((i - 1 : Nat) : Int)).f0.f2.toList := by
  unfold Lib.keeps
  rw [decide_eq_true_iff, at_bl L h, at_bl L (i := i - 1) (by omega), toList_iff]
  constructor
  · rintro (h1 | h1)
    · exact .inl h1
    · exact .inr (fun h2 => h1 (by rw [h2]))
  · rintro (h1 | h1)
    · exact .inl h1
    · exact .inr (fun h2 => h1 (bl_inj h2))
theorem things_l0 (L : List S82) (hL : L.length ≤ 1000000) : ∀ (k i m : Nat) (out : List ByteArray), m + 1 ≤ k → i + m = L.length → out.length ≤ i →
    lombardref11_Things.l0 k L out (i : Int) = some (out ++ (((List.range' i m).filter (Lib.keeps ((thingsOf L).map bl).toArray)).map (fun j : Nat => (rd_T82 L (j : Int)).f0.f2)))
  | 0, _, _, _, hk, _, _ => by omega
  | k + 1, i, 0, out, hk, hi, ho => by
    unfold lombardref11_Things.l0
    rw [if_neg (by omega)]
    simp
  | k + 1, i, m + 1, out, hk, hi, ho => by
    have hw : wrap64 ((i : Int) + 1) = ((i + 1 : Nat) : Int) := by
      rw [wrap_id (by omega) (by omega)]; rfl
    have hil : i < L.length := by omega
    have hkeep : ∀ b, Lib.keeps ((thingsOf L).map bl).toArray i = b → (List.range' i (m + 1)).filter (Lib.keeps ((thingsOf L).map bl).toArray) = (if b then i :: (List.range' (i + 1) m).filter (Lib.keeps ((thingsOf L).map bl).toArray) else (List.range' (i + 1) m).filter (Lib.keeps ((thingsOf L).map bl).toArray)) := by
      intro b hb
      rw [List.range'_succ, List.filter_cons, hb]
    have hyes : Lib.keeps ((thingsOf L).map bl).toArray i = true → lombardref11_Things.l0 k L (out ++ [(rd_T82 L (i : Int)).f0.f2]) (wrap64 ((i : Int) + 1)) = some (out ++ (((List.range' i (m + 1)).filter (Lib.keeps ((thingsOf L).map bl).toArray)).map (fun j : Nat => (rd_T82 L (j : Int)).f0.f2))) := by
      intro hb
      rw [hkeep _ hb, hw, things_l0 L hL k (i + 1) m _ (by omega) (by omega) (by simp; omega)]
      simp
    have hno : Lib.keeps ((thingsOf L).map bl).toArray i = false → lombardref11_Things.l0 k L out (wrap64 ((i : Int) + 1)) = some (out ++ (((List.range' i (m + 1)).filter (Lib.keeps ((thingsOf L).map bl).toArray)).map (fun j : Nat => (rd_T82 L (j : Int)).f0.f2))) := by
      intro hb
      rw [hkeep _ hb, hw, things_l0 L hL k (i + 1) m _ (by omega) (by omega) (by omega)]
      simp
    unfold lombardref11_Things.l0
    rw [if_pos (by omega)]
    by_cases h0 : i = 0
    · rw [if_pos (by omega), if_pos (by omega), if_pos (by omega)]
      exact hyes ((keeps_iff L hil).2 (.inl h0))
    · have hw1 : wrap64 ((i : Int) - 1) = ((i - 1 : Nat) : Int) := by
        rw [wrap_id (by omega) (by omega)]
        omega
      rw [if_neg (by omega), if_pos (by omega), hw1, if_pos (by omega), if_pos (by omega)]
      by_cases he : (rd_T82 L (i : Int)).f0.f2.toList = (rd_T82 L ((i - 1 : Nat) : Int)).f0.f2.toList
      · rw [if_pos he]
        refine hno ?_
        cases hb : Lib.keeps ((thingsOf L).map bl).toArray i with
        | false => rfl
        | true =>
          rcases (keeps_iff L hil).1 hb with h1 | h1
          · exact absurd h1 h0
          · exact absurd he h1
      · rw [if_neg he, if_pos (by omega)]
        exact hyes ((keeps_iff L hil).2 (.inr he))
theorem things_f (L : List S82) (hL : L.length ≤ 1000000) : lombardref11_Things.f (L.length + 1) L = some (compB (thingsOf L)) := by
  unfold lombardref11_Things.f
  rw [show (0 : Int) = ((0 : Nat) : Int) from rfl, things_l0 L hL (L.length + 1) 0 L.length [] (by omega) (by omega) (by simp)]
  congr 1
  unfold compB Lib.compact Lib.compactUpTo
  rw [List.nil_append, List.map_map, List.length_map, List.range_eq_range']
  have e : (thingsOf L).length = L.length := by simp [thingsOf]
  rw [e]
  refine List.map_congr_left fun j hj => ?_
  have hj' : j < L.length := by
    have := (List.mem_filter.1 hj).1
    rw [List.mem_range'] at this
    omega
  show _ = (⟨(((thingsOf L).map bl).toArray[j]!).toArray⟩ : ByteArray)
  rw [at_bl L hj']
  unfold bl
  simp
/-- Texts: a list is itself. -/
theorem texts_l0 (L : List ByteArray) (hL : L.length ≤ 1000000) : ∀ (k i m : Nat), m + 1 ≤ k → i + m = L.length → lombardref07_Texts.l0 k L L (i : Int) = some true
  | 0, _, _, hk, _ => by omega
  | k + 1, i, 0, hk, hi => by
    unfold lombardref07_Texts.l0
    rw [if_neg (by omega)]
  | k + 1, i, m + 1, hk, hi => by
    have hw : wrap64 ((i : Int) + 1) = ((i + 1 : Nat) : Int) := by
      rw [wrap_id (by omega) (by omega)]; rfl
    unfold lombardref07_Texts.l0
    rw [if_pos (by omega), if_pos (by omega), if_pos (by omega), if_pos rfl, hw]
    exact texts_l0 L hL k (i + 1) m (by omega) (by omega)
theorem texts_f (L : List ByteArray) (hL : L.length ≤ 1000000) : lombardref07_Texts.f (L.length + 1) L L = some true := by
  unfold lombardref07_Texts.f
  rw [if_pos rfl]
  exact texts_l0 L hL _ 0 L.length (by omega) (by omega)
theorem compB_length (xs : List ByteArray) : (compB xs).length ≤ xs.length := by
  rw [len_comp]
  exact Nat.le_trans (compact_le _) (by simp)
/-! How many balances there are. -/
theorem length_pstL : ∀ (x : List S107) (L0 : List S82) (n : Nat) (L : List S82) (c : Nat), L0.length ≤ c → L.length + 2 * x.length ≤ c → (pstL L0 n L x).1.length ≤ c
  | [], L0, n, L, c, _, h => by
    unfold pstL
    simpa using h
  | e :: r, L0, n, L, c, h0, h => by
    unfold pstL
    have hm := length_mvL L e
    simp only [List.length_cons] at h
    split
    · exact length_pstL r L0 (n + 1) (mvL L e).1 c h0 (by omega)
    · exact h0
end Go.Proofs.Ytoknlpecbdlbfaa.PL

/- Arguments that come in: slices of structs, and slices of these, read as rows. -/
namespace Go.Proofs.Ytoknlpecbdlbfaa.PL
open Go Go.RowKit Go.ChangeShapes Go.WideShapes Go.Deep Go.Proofs Go.Proofs.YtoknlpecbdlbfaaW.PrintWords Go.Proofs.YtoknlpecbdlbfaaW.PrintLast
/-- No part of the datum is greater than the form's reach. -/
def Small {H : Type} (t : TypeId) (d : DataW H) : Prop := ∀ m ∈ DataW.weights Try.prog t d, m ≤ reachBytes
theorem cells3' : Try.prog.cellsOf 3 = 1 := by kernel_rfl
theorem cells9' : Try.prog.cellsOf 9 = 1 := by kernel_rfl
/-- Argument j's datum is small. -/
theorem small_arg {H : Type} {ts : List TypeId} {ds : List (DataW H)} (hsz : (DataW.weightsEach Try.prog ts ds).all (· ≤ reachBytes) = true) {j : Nat} {t : TypeId} {d : DataW H} (ht : ts[j]? = some t) (hd : ds[j]? = some d) : Small t d := by
  intro m hm
  have := List.all_eq_true.1 hsz _ (DataW.weights_mem_each ht hd m hm)
  simpa using this
end Go.Proofs.Ytoknlpecbdlbfaa.PL

/- A post on both sides: the contracts as the laws' rounds want them. -/
namespace Go.Proofs.Ytoknlpecbdlbfaa.PL
open Go Go.RowKit Go.Maps Go.Sort Go.Shelf Go.Proofs Go.Proofs.YtoknlpecbdlbfaaW.PrintWords Go.Proofs.YtoknlpecbdlbfaaW.PrintLast
theorem C82_grown {w w' : World} {b : Nat} {A : Option Addr} {n : Nat} {l : List S82} (h : Kd.C k82 w A n l) (hg : w.grownBy w' (some b)) {M : List (S42 × Int)} (hb : LM w b M) : Kd.C k82 w' A n l := by
  obtain ⟨es, clock, hb, _⟩ := hb
  refine ⟨h.1, h.2.1, fun hn => ?_⟩
  obtain ⟨ad, e, hc⟩ := h.2.2 hn
  refine ⟨ad, e, fun j p hp => ?_⟩
  obtain ⟨cs, h1, h2, h3⟩ := hc j p hp
  refine ⟨cs, h1, ?_, fun i u hu => ?_⟩
  · obtain rfl := k82_open h2
    exact k82_mk _ _
  · have h4 := h3 i u hu
    have hne : (ad.add (j * k82.sz + i)).block ≠ b := by
      intro e
      unfold World.cell? at h4
      rw [e, hb] at h4
      cases h4
    exact (World.cell?_of_block (hg.block _ (World.block_lt_of_cell? w _ h4) (by simpa using hne))).trans h4
theorem rpost_any (A B : Option Addr) (c d : Nat) (L : List S82) (xs : List S47) (w : World) (hC : Kd.C k82 w A L.length L) (hc : L.length ≤ c) (hX : Kd.C k47 w B xs.length xs) (hx : xs.length ≤ 4096) (hL : L.length ≤ 1000000) (R : List S82 × Int × Int) (hR : pstL L 0 L (xs.map toE) = R) :
    Calls Try.prog 18 #[.slice A L.length c, .slice B xs.length d] w fun o w' => ∃ (A' : Option Addr) (c' : Nat), o = .returned (.tuple #[.slice A' R.1.length c', .int .i64 R.2.1, .int .i64 R.2.2]) ∧ Hid (Kd.C k82 w' A' R.1.length R.1 ∧ R.1.length ≤ c' ∧ Below w.heap.size w w') :=
  (rpost_walk A B c d L xs w hC hc hX hx hL R hR).mono (fun _ _ ⟨A', c', h1, h2, h3, h4⟩ => ⟨A', c', h1, h2, h3, h4⟩)
theorem cell_keep {w w' : World} (h : Below w.heap.size w w') {p : Addr} {v : Value} (hc : w.cell? p = some v) : w'.cell? p = some v := (h.cell (World.block_lt_of_cell? w _ hc)).trans hc
end Go.Proofs.Ytoknlpecbdlbfaa.PL

-- Entries turned about take back what they did: the plain law.
namespace Go.Proofs.Ytoknlpecbdlbfaa.PL
open Go Go.RowKit Go.Maps Go.Sort Go.Shelf Go.Proofs Go.Proofs.YtoknlpecbdlbfaaW.PrintWords Go.Proofs.YtoknlpecbdlbfaaW.PrintLast
/-- None but the world has less than nothing. -/
def NN (M : List (S42 × Int)) : Prop := ∀ a, a.f0 ≠ 0 → 0 ≤ getM M a
/-- Two maps that have the same. -/
def Eqv (M M' : List (S42 × Int)) : Prop := ∀ a, getM M a = getM M' a
theorem Eqv.put {M M' : List (S42 × Int)} (h : Eqv M M') (a : S42) (n : Int) : Eqv (putM M a n) (putM M' a n) := by
  intro c
  rw [getM_putM, getM_putM, h c]
theorem NN.nil : NN [] := fun a _ => by simp [getM]
theorem NN.of {M M' : List (S42 × Int)} (h : NN M) (he : Eqv M' M) : NN M' := fun a ha => by rw [he a]; exact h a ha
theorem NN.put {M : List (S42 × Int)} (h : NN M) (a : S42) {n : Int} (hn : a.f0 ≠ 0 → 0 ≤ n) : NN (putM M a n) := by
  intro c hc
  rw [getM_putM]
  split
  · rename_i e
    subst e
    exact hn hc
  · exact h c hc
theorem Eqv.back (M : List (S42 × Int)) (a : S42) (m : Int) : Eqv (putM (putM M a (getM M a - m)) a (getM M a - m + m)) M := by
  intro c
  rw [getM_putM, getM_putM]
  split
  · rename_i e
    subst e
    omega
  · rfl
theorem NN.move {M : List (S42 × Int)} (h : NN M) (e : S107) : NN (moveM M e).1 := by
  unfold moveM
  split
  · exact h
  · rename_i hck
    have hck' := check_good (Classical.not_not.1 hck)
    split
    · exact h
    · rename_i hf
      split
      · exact h
      · split
        · exact h.of (Eqv.back M e.f0 e.f2)
        · have h1 : NN (putM M e.f0 (getM M e.f0 - e.f2)) := h.put _ (fun hz => by
            refine Classical.byContradiction fun hc => hf ⟨hz, ?_⟩
            omega)
          exact h1.put _ (fun hz => by have := h1 e.f1 hz; have := hck'.1; omega)
theorem getM_move {M : List (S42 × Int)} {e : S107} (h : (moveM M e).2 = 0) (a : S42) : getM (moveM M e).1 a = if a = e.f1 then (if e.f1 = e.f0 then getM M e.f0 else getM M e.f1 + e.f2) else if a = e.f0 then getM M e.f0 - e.f2 else getM M a := by
  rw [move_ok h, getM_putM, getM_putM, getM_putM]
  split
  · split
    · omega
    · rfl
  · rfl
/-- All entries are done. -/
def allOk (M : List (S42 × Int)) : List S107 → Prop
  | [] => True
  | e :: r => (moveM M e).2 = 0 ∧ allOk (moveM M e).1 r
/-- What they come to. -/
def fin (M : List (S42 × Int)) : List S107 → List (S42 × Int)
  | [] => M
  | e :: r => fin (moveM M e).1 r
theorem post_allOk : ∀ (l done : List S107) (M : List (S42 × Int)), (postL done M l).2.2 = 0 → allOk M l ∧ (postL done M l).1 = fin M l
  | [], _, _, _ => ⟨trivial, rfl⟩
  | e :: r, done, M, h => by
    unfold postL at h ⊢
    by_cases c : (moveM M e).2 = 0
    · rw [if_pos c] at h ⊢
      obtain ⟨h1, h2⟩ := post_allOk r (e :: done) _ h
      exact ⟨⟨c, h1⟩, h2⟩
    · rw [if_neg c] at h
      exact absurd h c
theorem fin_NN : ∀ (l : List S107) (M : List (S42 × Int)), NN M → NN (fin M l)
  | [], _, h => h
  | e :: r, _, h => fin_NN r _ (h.move e)
/-- A post that can't be done leaves the document's list. -/
theorem pst_fail : ∀ (x : List S107) (L0 : List S82) (n : Nat) (L : List S82), (pstL L0 n L x).2.2 ≠ 0 → (pstL L0 n L x).1 = L0
  | [], L0, n, L, h => by
    unfold pstL at h
    exact absurd rfl h
  | e :: r, L0, n, L, h => by
    unfold pstL at h ⊢
    by_cases c : (mvL L e).2 = 0
    · rw [if_pos c] at h ⊢
      exact pst_fail r L0 (n + 1) _ h
    · rw [if_neg c]
/-- NN holds behind every post. -/
theorem NN.post {M : List (S42 × Int)} {L : List S82} (hr : Rep M L) (hB : BM M) (hn : NN M) (l : List S107) : NN (postL [] M l).1 := by
  obtain ⟨e1, e2, e3, e4⟩ := rep_post0 hr hB l
  by_cases c : (postL [] M l).2.2 = 0
  · rw [(post_allOk l [] M c).2]
    exact fin_NN l M hn
  · rw [e2] at c
    have h1 := pst_fail l L 0 L c
    rw [h1] at e3
    refine hn.of (fun a => ?_)
    rw [e3.same, hr.same]
end Go.Proofs.Ytoknlpecbdlbfaa.PL
