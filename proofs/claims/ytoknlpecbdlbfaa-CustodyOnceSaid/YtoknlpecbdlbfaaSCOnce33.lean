/- Part 33 of the proof's texts: what the theorem needs of them. -/
import Derived.Test.YtoknlpecbdlbfaaSCOnce32
import Derived.Test.YtoknlpecbdlbfaaSCOnce31

/- Acts on both sides, and what stays as it is: plain. -/
namespace Go.Proofs.Ytoknlpecbdlbfaa.PL
open Go Go.RowKit Go.Maps Go.Sort Go.Shelf Go.Proofs Go.Proofs.YtoknlpecbdlbfaaW.PrintWords Go.Proofs.YtoknlpecbdlbfaaW.PrintLast
/-- What an act does on the program's side. -/
def actM (M : List (S42 × Int)) (x : S72) : List (S42 × Int) × Int × Int :=
  if x.f0 = 0 then ((brL M x.f1 x.f4 x.f5).1, 0, (brL M x.f1 x.f4 x.f5).2)
  else if x.f0 = 1 then cmL M (x.f6.map toLn)
  else if x.f0 = 2 then cmL M (shX x.f1 x.f2 x.f3 x.f7)
  else cmL M (trX x.f1 x.f2 x.f7 x.f4 x.f5)
/-- What it does on the document's. -/
def actL (L : List S82) (x : S72) : List S82 × Int × Int :=
  if x.f0 = 0 then ((brR L x.f1 x.f4 x.f5).1, 0, (brR L x.f1 x.f4 x.f5).2)
  else if x.f0 = 1 then cmR L (x.f6.map toLn)
  else if x.f0 = 2 then cmR L (shX x.f1 x.f2 x.f3 x.f7)
  else cmR L (trX x.f1 x.f2 x.f7 x.f4 x.f5)
theorem St.act {M : List (S42 × Int)} {L : List S82} (h : St M L) (x : S72) : St (actM M x).1 (actL L x).1 ∧ (actM M x).2.1 = (actL L x).2.1 ∧ (actM M x).2.2 = (actL L x).2.2 := by
  unfold actM actL
  split
  · exact ⟨(h.br _ _ _).1, rfl, (h.br _ _ _).2⟩
  · split
    · exact h.cm _
    · split
      · exact h.cm _
      · exact h.cm _
theorem length_actL (L : List S82) (x : S72) (h6 : x.f6.length ≤ 40) (h7 : x.f7.length ≤ 40) : (actL L x).1.length ≤ L.length + 82 := by
  unfold actL
  split
  · have := length_brR L x.f1 x.f4 x.f5
    show (brR L x.f1 x.f4 x.f5).1.length ≤ _
    omega
  · split
    · have := length_cmR L (x.f6.map toLn)
      rw [List.length_map] at this
      omega
    · split
      · have := length_cmR L (shX x.f1 x.f2 x.f3 x.f7)
        unfold shX at this ⊢
        rw [List.length_map] at this
        omega
      · have := length_cmR L (trX x.f1 x.f2 x.f7 x.f4 x.f5)
        have e : (trX x.f1 x.f2 x.f7 x.f4 x.f5).length = x.f7.length + 1 := by unfold trX; simp
        omega
/-- The accounts that a custody has. -/
def okAc (a : S42) : Prop := (a.f0 = 0 ∧ a.f1 = 0) ∨ (1 ≤ a.f0 ∧ a.f0 ≤ 32 ∧ 1 ≤ a.f1 ∧ a.f1 ≤ 4)
theorem wrB_ok {m b : Int} (h : wrB m b = false) : 1 ≤ m ∧ m ≤ 32 ∧ 1 ≤ b ∧ b ≤ 4 := by
  unfold wrB at h
  have := of_decide_eq_false h
  omega
/-- All that has something is such an account. -/
def Bk (M : List (S42 × Int)) : Prop := ∀ a, getM M a ≠ 0 → okAc a
theorem Bk.nil : Bk [] := fun _ h => absurd rfl h
theorem Bk.fin : ∀ (l : List S107) (M : List (S42 × Int)), Bk M → allOk M l → (∀ e ∈ l, okAc e.f0 ∧ okAc e.f1) → Bk (fin M l)
  | [], _, h, _, _ => h
  | e :: r, M, h, ho, hl => by
    refine Bk.fin r (moveM M e).1 ?_ ho.2 (fun e' he => hl e' (List.mem_cons_of_mem _ he))
    intro a ha
    rw [getM_move ho.1] at ha
    obtain ⟨o1, o2⟩ := hl e List.mem_cons_self
    by_cases h1 : a = e.f1
    · exact h1 ▸ o2
    · rw [if_neg h1] at ha
      by_cases h2 : a = e.f0
      · exact h2 ▸ o1
      · rw [if_neg h2] at ha
        exact h a ha
theorem Bk.post {M : List (S42 × Int)} {L : List S82} (h : St M L) (hb : Bk M) (l : List S107) (hl : ∀ e ∈ l, okAc e.f0 ∧ okAc e.f1) : Bk (postL [] M l).1 := by
  by_cases c : (postL [] M l).2.2 = 0
  · obtain ⟨h1, h2⟩ := post_allOk l [] M c
    rw [h2]
    exact Bk.fin l M hb h1 hl
  · intro a ha
    rw [(h.fail l c).same] at ha
    exact hb a (by rw [h.rep.same]; exact ha)
theorem fb_all : ∀ (X : List S125) (i : Nat), fbL i X = none → ∀ x ∈ X, wrB x.f0 x.f1 = false ∧ wrB x.f2 x.f3 = false
  | [], _, _, _, hx => by cases hx
  | y :: r, i, h, x, hx => by
    unfold fbL at h
    split at h
    · cases h
    · rename_i hn
      rcases List.mem_cons.1 hx with rfl | hx
      · constructor
        · cases hw : wrB x.f0 x.f1 with
          | false => rfl
          | true => exact absurd (.inl hw) hn
        · cases hw : wrB x.f2 x.f3 with
          | false => rfl
          | true => exact absurd (.inr hw) hn
      · exact fb_all r (i + 1) h x hx
theorem fb_lt : ∀ (X : List S125) (i j : Nat), fbL i X = some j → j < i + X.length
  | [], _, _, h => by cases h
  | y :: r, i, j, h => by
    unfold fbL at h
    split at h
    · obtain rfl := Option.some.inj h
      simp
    · have := fb_lt r (i + 1) j h
      simp only [List.length_cons]
      omega
theorem ok_lnE {X : List S125} (h : fbL 0 X = none) : ∀ e ∈ X.map lnE, okAc e.f0 ∧ okAc e.f1 := by
  intro e he
  obtain ⟨x, hx, rfl⟩ := List.mem_map.1 he
  obtain ⟨h1, h2⟩ := fb_all X 0 h x hx
  exact ⟨.inr (wrB_ok h1), .inr (wrB_ok h2)⟩
theorem Bk.br {M : List (S42 × Int)} {L : List S82} (h : St M L) (hb : Bk M) (m : Int) (t : ByteArray) (q : Int) : Bk (brL M m t q).1 := by
  unfold brL
  split
  · exact hb
  · rename_i hw
    split
    · exact hb
    · refine hb.post h _ ?_
      have hw' : wrB m 1 = false := by simpa using hw
      have := wrB_ok hw'
      intro e he
      obtain rfl := List.mem_singleton.1 he
      unfold brE
      split
      · exact ⟨.inr this, .inl ⟨rfl, rfl⟩⟩
      · exact ⟨.inl ⟨rfl, rfl⟩, .inr this⟩
theorem Bk.cm {M : List (S42 × Int)} {L : List S82} (h : St M L) (hb : Bk M) (X : List S125) : Bk (cmL M X).1 := by
  cases hf : fbL 0 X with
  | some i =>
    rw [cmL_bad hf]
    exact hb
  | none =>
    rw [cmL_ok hf]
    exact hb.post h _ (ok_lnE hf)
/-- What holds of a custody, whatever is done. -/
structure Iv (M : List (S42 × Int)) (L : List S82) : Prop where
  st : St M L
  wh : Wh M
  bk : Bk M
theorem Iv.nil : Iv [] [] := ⟨St.nil, Wh.nil, Bk.nil⟩
theorem Iv.act {M : List (S42 × Int)} {L : List S82} (h : Iv M L) (x : S72) : Iv (actM M x).1 (actL L x).1 := by
  refine ⟨(h.st.act x).1, ?_, ?_⟩
  · unfold actM
    split
    · exact h.wh.br h.st _ _ _
    · split
      · exact h.wh.cm h.st _
      · split
        · exact h.wh.cm h.st _
        · exact h.wh.cm h.st _
  · unfold actM
    split
    · exact h.bk.br h.st _ _ _
    · split
      · exact h.bk.cm h.st _
      · split
        · exact h.bk.cm h.st _
        · exact h.bk.cm h.st _
/-! Once. -/
theorem rep_unique {M : List (S42 × Int)} {L L' : List S82} (h : Rep M L) (h' : Rep M L') : L = L' := by
  have e : keysL L = keysL L' := asc_unique (asc_keys h.up) (asc_keys h'.up) ((rep_keys h).symm.trans (rep_keys h'))
  have e1 := rep_all h (rep_keys h).symm (asc_keys h.up)
  have e2 := rep_all h' (rep_keys h').symm (asc_keys h'.up)
  rw [← e1, ← e2, e]
theorem fin_self : ∀ (l : List S107) (M : List (S42 × Int)), allOk M l → (∀ e ∈ l, e.f0 = e.f1) → Eqv (fin M l) M
  | [], _, _, _ => fun _ => rfl
  | e :: r, M, ho, hl => by
    have h1 := fin_self r (moveM M e).1 ho.2 (fun e' he => hl e' (List.mem_cons_of_mem _ he))
    intro a
    refine (h1 a).trans ?_
    rw [getM_move ho.1]
    have h2 := hl e List.mem_cons_self
    by_cases h3 : a = e.f1
    · rw [if_pos h3, if_pos h2.symm, h2, h3]
    · rw [if_neg h3, if_neg (by rw [h2]; exact h3)]
theorem allOk_split : ∀ (l l' : List S107) (M : List (S42 × Int)), allOk M (l ++ l') → allOk M l ∧ allOk (fin M l) l' ∧ fin M (l ++ l') = fin (fin M l) l'
  | [], _, _, h => ⟨trivial, h, rfl⟩
  | e :: r, l', M, h => by
    obtain ⟨h1, h2, h3⟩ := allOk_split r l' (moveM M e).1 h.2
    exact ⟨⟨h.1, h1⟩, h2, h3⟩
theorem fin_other : ∀ (l : List S107) (M : List (S42 × Int)) (a : S42), allOk M l → (∀ e ∈ l, a ≠ e.f0 ∧ a ≠ e.f1) → getM (fin M l) a = getM M a
  | [], _, _, _, _ => rfl
  | e :: r, M, a, ho, hl => by
    refine (fin_other r (moveM M e).1 a ho.2 (fun e' he => hl e' (List.mem_cons_of_mem _ he))).trans ?_
    obtain ⟨h1, h2⟩ := hl e List.mem_cons_self
    rw [getM_move ho.1, if_neg h2, if_neg h1]
theorem post_count : ∀ (l done : List S107) (M : List (S42 × Int)), (postL done M l).2.2 = 0 → (postL done M l).2.1 = ((done.length + l.length : Nat) : Int)
  | [], _, _, _ => rfl
  | e :: r, done, M, h => by
    unfold postL at h ⊢
    by_cases c : (moveM M e).2 = 0
    · rw [if_pos c] at h ⊢
      rw [post_count r (e :: done) _ h]
      simp only [List.length_cons]
      congr 1
      omega
    · rw [if_neg c] at h
      exact absurd h c
theorem post_few : ∀ (l done : List S107) (M : List (S42 × Int)), (postL done M l).2.2 ≠ 0 → (postL done M l).2.1 < ((done.length + l.length : Nat) : Int)
  | [], _, _, h => absurd rfl h
  | e :: r, done, M, h => by
    unfold postL at h ⊢
    by_cases c : (moveM M e).2 = 0
    · rw [if_pos c] at h ⊢
      have := post_few r (e :: done) _ h
      simp only [List.length_cons] at this ⊢
      omega
    · rw [if_neg c]
      simp only [List.length_cons]
      omega
theorem trX_length (s y : Int) (T : List S79) (cur : ByteArray) (cash : Int) : (trX s y T cur cash).length = T.length + 1 := by
  unfold trX
  simp
/-- What can't be done moves nothing. -/
theorem once_fail {M : List (S42 × Int)} {L : List S82} (_ : St M L) (s y : Int) (T : List S79) (cur : ByteArray) (cash : Int) (hf : (cmR L (trX s y T cur cash)).2.2 ≠ 0) : (cmR L (trX s y T cur cash)).1 = L := by
  cases hx : fbL 0 (trX s y T cur cash) with
  | some i => rw [cmR_bad hx]
  | none =>
    rw [cmR_ok hx] at hf ⊢
    exact pst_fail _ L 0 L hf
theorem once_few {M : List (S42 × Int)} {L : List S82} (h : St M L) (s y : Int) (T : List S79) (cur : ByteArray) (cash : Int) (hf : (cmR L (trX s y T cur cash)).2.2 ≠ 0) : (cmR L (trX s y T cur cash)).2.1 ≤ (T.length : Int) := by
  have hl := trX_length s y T cur cash
  obtain ⟨_, e1, e2⟩ := h.cm (trX s y T cur cash)
  rw [← e1]
  rw [← e2] at hf
  cases hx : fbL 0 (trX s y T cur cash) with
  | some i =>
    rw [cmL_bad hx]
    have := fb_lt _ _ _ hx
    show (i : Int) ≤ _
    omega
  | none =>
    rw [cmL_ok hx] at hf ⊢
    have := post_few _ _ _ hf
    rw [List.length_map, hl] at this
    simp only [List.length_nil] at this
    omega
theorem once_ok {M : List (S42 × Int)} {L : List S82} (h : St M L) (X : List S125) (hf : (cmR L X).2.2 = 0) : fbL 0 X = none ∧ allOk M (X.map lnE) ∧ (cmL M X).1 = fin M (X.map lnE) ∧ (cmR L X).2.1 = (X.length : Int) := by
  obtain ⟨_, e1, e2⟩ := h.cm X
  rw [← e2] at hf
  rw [← e1]
  cases hx : fbL 0 X with
  | some i =>
    rw [cmL_bad hx] at hf
    exact absurd hf (show ¬ ((22 : Int) = 0) by decide)
  | none =>
    rw [cmL_ok hx] at hf ⊢
    obtain ⟨h1, h2⟩ := post_allOk _ [] M hf
    refine ⟨rfl, h1, h2, ?_⟩
    rw [post_count _ _ _ hf, List.length_map]
    simp
/-- A trade with oneself changes nothing. -/
theorem once_self {M : List (S42 × Int)} {L : List S82} (h : St M L) (s : Int) (T : List S79) (cur : ByteArray) (cash : Int) (hf : (cmR L (trX s s T cur cash)).2.2 = 0) : (cmR L (trX s s T cur cash)).1 = L := by
  obtain ⟨_, h2, h3, _⟩ := once_ok h _ hf
  have h4 := (h.cm (trX s s T cur cash)).1
  rw [h3] at h4
  have h5 := fin_self _ M h2 (fun e he => by
    obtain ⟨x, hx, rfl⟩ := List.mem_map.1 he
    unfold trX at hx
    rcases List.mem_append.1 hx with hx | hx
    · obtain ⟨z, _, rfl⟩ := List.mem_map.1 hx
      rfl
    · obtain rfl := List.mem_singleton.1 hx
      rfl)
  exact rep_unique h4.rep (h.rep.of h4.rep.ok h5)
/-- What is delivered against payment is both. -/
theorem once_paid {M : List (S42 × Int)} {L : List S82} (h : St M L) (s y : Int) (hsy : s ≠ y) (T : List S79) (cur : ByteArray) (hT : ∀ x ∈ T, x.f0 ≠ cur) (cash : Int) (hf : (cmR L (trX s y T cur cash)).2.2 = 0) :
    (cmR L (trX s y T cur cash)).2.1 = (T.length : Int) + 1 ∧ gL (cmR L (trX s y T cur cash)).1 ⟨s, 1, cur⟩ = gL L ⟨s, 1, cur⟩ + cash ∧ gL (cmR L (trX s y T cur cash)).1 ⟨y, 1, cur⟩ = gL L ⟨y, 1, cur⟩ - cash := by
  obtain ⟨_, h2, h3, h4⟩ := once_ok h _ hf
  have h5 := (h.cm (trX s y T cur cash)).1
  have e0 : (trX s y T cur cash).map lnE = (T.map (fun x : S79 => lnE ⟨s, 1, y, 1, x.f0, x.f1⟩)) ++ [lnE ⟨y, 1, s, 1, cur, cash⟩] := by
    unfold trX
    rw [List.map_append, List.map_map]
    rfl
  rw [h3] at h5
  rw [e0] at h2 h5
  obtain ⟨a1, a2, a3⟩ := allOk_split _ _ _ h2
  rw [a3] at h5
  have ho : ∀ (k : Int), getM (fin M (T.map (fun x : S79 => lnE ⟨s, 1, y, 1, x.f0, x.f1⟩))) ⟨k, 1, cur⟩ = getM M ⟨k, 1, cur⟩ := fun k => fin_other _ M _ a1 (fun e he => by
    obtain ⟨z, hz, rfl⟩ := List.mem_map.1 he
    have := hT z hz
    constructor <;> (intro e; apply this; exact (congrArg S42.f2 e).symm))
  refine ⟨by rw [h4, trX_length]; rfl, ?_, ?_⟩
  · rw [← h5.rep.same, ← h.rep.same]
    show getM (moveM _ _).1 _ = _
    rw [getM_move a2.1, if_pos (show (⟨s, 1, cur⟩ : S42) = (lnE ⟨y, 1, s, 1, cur, cash⟩).f1 from rfl), if_neg (show ¬ (lnE ⟨y, 1, s, 1, cur, cash⟩).f1 = (lnE ⟨y, 1, s, 1, cur, cash⟩).f0 from fun e => hsy (congrArg S42.f0 e))]
    exact congrArg (· + cash) (ho s)
  · rw [← h5.rep.same, ← h.rep.same]
    show getM (moveM _ _).1 _ = _
    rw [getM_move a2.1, if_neg (show ¬ (⟨y, 1, cur⟩ : S42) = (lnE ⟨y, 1, s, 1, cur, cash⟩).f1 from fun e => hsy (congrArg S42.f0 e).symm), if_pos (show (⟨y, 1, cur⟩ : S42) = (lnE ⟨y, 1, s, 1, cur, cash⟩).f0 from rfl)]
    exact congrArg (· - cash) (ho y)
end Go.Proofs.Ytoknlpecbdlbfaa.PL
