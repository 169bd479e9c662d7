/- Part 28 of the proof's texts: what the theorem needs of them. -/
import Derived.Test.YthpgjeiglhdciaaSB14
import Derived.WalkKit
import Derived.Lib.Hide
import Derived.OneCell
import Derived.Deep.LoopGhost
import Derived.Deep.QuietTactic
import Derived.BigQuiet
import Derived.Deep.DeepCutAuto
import Derived.Outline
import Derived.Laws.BitsLemmas
import Derived.Maps.RangeWalk

set_option linter.unusedVariables false
set_option linter.unusedSimpArgs false
/- What is read, and what is written: plain. -/
namespace Go.Proofs.Ythpgjeiglhdciaa.SN
abbrev Bs := List UInt8
/-! Numbers in groups of seven bits. -/
/-- A number's groups, each with the mark that another one follows. -/
def encH (n : Nat) : Bs := if h : n < 128 then [UInt8.ofNat (n + 128)] else encH (n / 128) ++ [UInt8.ofNat (n % 128 + 128)]
termination_by n
decreasing_by omega
/-- A number. -/
def encU (n : Nat) : Bs := if n < 128 then [UInt8.ofNat n] else encH (n / 128) ++ [UInt8.ofNat (n % 128)]
/-- What is read of a number's bytes: the number and how many bytes it has; or a fault. first: is it the first byte; n: what was read; k: of how many bytes. -/
def rdU : Bs → Bool → Nat → Nat → (Nat × Nat) ⊕ Int
  | [], _, _, _ => .inr 14
  | c :: r, first, n, k =>
    if (first = true ∧ c.toNat = 128) ∨ 144115188075855872 ≤ n then .inr 15
    else if c.toNat < 128 then .inl (n * 128 + c.toNat, k + 1)
    else rdU r false (n * 128 + (c.toNat - 128)) (k + 1)
theorem encH_small {n : Nat} (h : n < 128) : encH n = [UInt8.ofNat (n + 128)] := by
  unfold encH
  rw [dif_pos h]
theorem encH_step {n c : Nat} (h : 1 ≤ n) (hc : c < 128) : encH (n * 128 + c) = encH n ++ [UInt8.ofNat (c + 128)] := by
  rw [encH]
  rw [dif_neg (by omega)]
  have e1 : (n * 128 + c) / 128 = n := by omega
  have e2 : (n * 128 + c) % 128 = c := by omega
  rw [e1, e2]
theorem encU_step {n c : Nat} (h : 1 ≤ n) (hc : c < 128) : encU (n * 128 + c) = encH n ++ [UInt8.ofNat c] := by
  unfold encU
  rw [if_neg (by omega)]
  have e1 : (n * 128 + c) / 128 = n := by omega
  have e2 : (n * 128 + c) % 128 = c := by omega
  rw [e1, e2]
theorem ofNat_toNat (c : UInt8) : UInt8.ofNat c.toNat = c := by simp
theorem rdU_false : ∀ (l : Bs) (n k m j : Nat), 1 ≤ n → rdU l false n k = .inl (m, j) → k < j ∧ j - k ≤ l.length ∧ encH n ++ l.take (j - k) = encU m ∧ m < 18446744073709551616
  | [], n, k, m, j, _, h => by simp [rdU] at h
  | c :: r, n, k, m, j, hn, h => by
    unfold rdU at h
    have hc : c.toNat < 256 := c.toNat_lt
    split at h
    · cases h
    · rename_i hno
      have hn2 : n < 144115188075855872 := by
        have : ¬ 144115188075855872 ≤ n := fun q => hno (.inr q)
        omega
      split at h
      · rename_i hlt
        obtain ⟨rfl, rfl⟩ := Prod.mk.inj (Sum.inl.inj h)
        refine ⟨by omega, by simp, ?_, by omega⟩
        rw [encU_step hn hlt, ofNat_toNat]
        have : k + 1 - k = 1 := by omega
        rw [this]
        rfl
      · rename_i hge
        obtain ⟨h1, h2, h3, h4⟩ := rdU_false r (n * 128 + (c.toNat - 128)) (k + 1) m j (by omega) h
        refine ⟨by omega, by simp only [List.length_cons]; omega, ?_, h4⟩
        have e : j - k = (j - (k + 1)) + 1 := by omega
        rw [e, List.take_succ_cons, ← h3, encH_step hn (by omega)]
        have e2 : c.toNat - 128 + 128 = c.toNat := by omega
        rw [e2, ofNat_toNat, List.append_assoc]
        rfl
theorem rdU_true (l : Bs) (m j : Nat) (h : rdU l true 0 0 = .inl (m, j)) : 0 < j ∧ j ≤ l.length ∧ l.take j = encU m ∧ m < 18446744073709551616 := by
  cases l with
  | nil => simp [rdU] at h
  | cons c r =>
    unfold rdU at h
    have hc : c.toNat < 256 := c.toNat_lt
    split at h
    · cases h
    · rename_i hno
      have hne : c.toNat ≠ 128 := fun q => hno (.inl ⟨rfl, q⟩)
      split at h
      · rename_i hlt
        obtain ⟨rfl, rfl⟩ := Prod.mk.inj (Sum.inl.inj h)
        refine ⟨by omega, by simp, ?_, by omega⟩
        unfold encU
        rw [if_pos (by omega), show 0 * 128 + c.toNat = c.toNat by omega, ofNat_toNat]
        rfl
      · rename_i hge
        obtain ⟨h1, h2, h3, h4⟩ := rdU_false r (0 * 128 + (c.toNat - 128)) (0 + 1) m j (by omega) h
        refine ⟨by omega, by simp only [List.length_cons]; omega, ?_, h4⟩
        have e : j = (j - 1) + 1 := by omega
        rw [e, List.take_succ_cons, ← h3, encH_small (by omega)]
        have e2 : 0 * 128 + (c.toNat - 128) + 128 = c.toNat := by omega
        rw [e2, ofNat_toNat]
        have e3 : j - 1 + 1 - (0 + 1) = j - 1 := by omega
        rfl
/-! Readers: a fixed text, a place, a fault. -/
structure St where
  at' : Nat
  e : Int
/-- A reader that is good: a fault stays; what is read without one is what is written there. -/
structure Good {α : Type} (s : Bs) (f : St → α × St) (enc : α → Bs) : Prop where
  stay : ∀ st, st.e ≠ 0 → (f st).2 = st
  fwd : ∀ st, st.at' ≤ s.length → st.at' ≤ (f st).2.at' ∧ (f st).2.at' ≤ s.length
  same : ∀ st, st.at' ≤ s.length → (f st).2.e = 0 → (s.drop st.at').take ((f st).2.at' - st.at') = enc (f st).1
theorem Good.was {α : Type} {s : Bs} {f : St → α × St} {enc : α → Bs} (h : Good s f enc) {st : St} (h0 : (f st).2.e = 0) : st.e = 0 := by
  refine Decidable.byContradiction fun hn => ?_
  rw [h.stay st hn] at h0
  exact hn h0
theorem take_join (s : Bs) {a b c : Nat} (h1 : a ≤ b) (h2 : b ≤ c) : (s.drop a).take (c - a) = (s.drop a).take (b - a) ++ (s.drop b).take (c - b) := by
  have e : c - a = (b - a) + (c - b) := by omega
  rw [e, List.take_add, List.drop_drop]
  have e2 : a + (b - a) = b := by omega
  rw [e2]
/-- One reader behind another. -/
def andR {α β : Type} (f : St → α × St) (g : St → β × St) (st : St) : (α × β) × St := (((f st).1, (g (f st).2).1), (g (f st).2).2)
theorem Good.and {α β : Type} {s : Bs} {f : St → α × St} {g : St → β × St} {ea : α → Bs} {eb : β → Bs} (hf : Good s f ea) (hg : Good s g eb) : Good s (andR f g) (fun p => ea p.1 ++ eb p.2) where
  stay := fun st h => by
    show (g (f st).2).2 = st
    rw [hf.stay st h, hg.stay st h]
  fwd := fun st h => by
    have h1 := hf.fwd st h
    have h2 := hg.fwd (f st).2 h1.2
    exact ⟨Nat.le_trans h1.1 h2.1, h2.2⟩
  same := fun st h h0 => by
    have h1 := hf.fwd st h
    have h2 := hg.fwd (f st).2 h1.2
    have e0 : (f st).2.e = 0 := hg.was h0
    show (s.drop st.at').take ((g (f st).2).2.at' - st.at') = _
    rw [take_join s h1.1 h2.1, hf.same st h e0, hg.same _ h1.2 h0]
    rfl
/-- A reader whose answer is turned. -/
def mapR {α β : Type} (k : α → β) (f : St → α × St) (st : St) : β × St := (k (f st).1, (f st).2)
theorem Good.map {α β : Type} {s : Bs} {f : St → α × St} {ea : α → Bs} (hf : Good s f ea) (k : α → β) (eb : β → Bs) (hk : ∀ a, eb (k a) = ea a) : Good s (mapR k f) eb where
  stay := fun st h => hf.stay st h
  fwd := fun st h => hf.fwd st h
  same := fun st h h0 => by
    show _ = eb (k (f st).1)
    rw [hk]
    exact hf.same st h h0
/-- So many. -/
def repR {α : Type} (f : St → α × St) : Nat → St → List α × St
  | 0, st => ([], st)
  | n + 1, st => ((f st).1 :: (repR f n (f st).2).1, (repR f n (f st).2).2)
theorem repR_len {α : Type} (f : St → α × St) : ∀ (n : Nat) (st : St), (repR f n st).1.length = n
  | 0, _ => rfl
  | n + 1, st => by
    show ((f st).1 :: _).length = _
    rw [List.length_cons, repR_len f n]
theorem repR_stay {α : Type} {s : Bs} {f : St → α × St} {ea : α → Bs} (hf : Good s f ea) : ∀ (n : Nat) (st : St), st.e ≠ 0 → (repR f n st).2 = st
  | 0, _, _ => rfl
  | n + 1, st, h => by
    show (repR f n (f st).2).2 = st
    rw [hf.stay st h]
    exact repR_stay hf n st h
theorem repR_fwd {α : Type} {s : Bs} {f : St → α × St} {ea : α → Bs} (hf : Good s f ea) : ∀ (n : Nat) (st : St), st.at' ≤ s.length → st.at' ≤ (repR f n st).2.at' ∧ (repR f n st).2.at' ≤ s.length
  | 0, _, h => ⟨Nat.le_refl _, h⟩
  | n + 1, st, h => by
    have h1 := hf.fwd st h
    have h2 := repR_fwd hf n (f st).2 h1.2
    exact ⟨Nat.le_trans h1.1 h2.1, h2.2⟩
theorem repR_same {α : Type} {s : Bs} {f : St → α × St} {ea : α → Bs} (hf : Good s f ea) : ∀ (n : Nat) (st : St), st.at' ≤ s.length → (repR f n st).2.e = 0 → (s.drop st.at').take ((repR f n st).2.at' - st.at') = ((repR f n st).1.map ea).flatten
  | 0, st, _, _ => by
    show (s.drop st.at').take (st.at' - st.at') = _
    rw [Nat.sub_self]
    rfl
  | n + 1, st, h, h0 => by
    have h1 := hf.fwd st h
    have h2 := repR_fwd hf n (f st).2 h1.2
    have e0 : (f st).2.e = 0 := by
      refine Decidable.byContradiction fun hn => ?_
      have h3 : (repR f n (f st).2).2.e = 0 := h0
      rw [repR_stay hf n _ hn] at h3
      exact hn h3
    show (s.drop st.at').take ((repR f n (f st).2).2.at' - st.at') = _
    rw [take_join s h1.1 h2.1, hf.same st h e0, repR_same hf n _ h1.2 h0]
    rfl
/-! The readers. -/
/-- A number. -/
def uR (s : Bs) (st : St) : Nat × St :=
  if st.e ≠ 0 then (0, st)
  else match rdU (s.drop st.at') true 0 0 with
    | .inl (m, j) => (m, ⟨st.at' + j, 0⟩)
    | .inr e => (0, ⟨st.at', e⟩)
theorem rdU_fault : ∀ (l : Bs) (b : Bool) (n k : Nat) (e : Int), rdU l b n k = .inr e → e = 14 ∨ e = 15
  | [], b, n, k, e, h => by
    obtain rfl := Sum.inr.inj h
    exact .inl rfl
  | c :: r, b, n, k, e, h => by
    unfold rdU at h
    split at h
    · obtain rfl := Sum.inr.inj h
      exact .inr rfl
    · split at h
      · cases h
      · exact rdU_fault r _ _ _ e h
theorem uR_good (s : Bs) : Good s (uR s) encU where
  stay := fun st h => by unfold uR; rw [if_pos h]
  fwd := fun st h => by
    unfold uR
    split
    · exact ⟨Nat.le_refl _, h⟩
    · cases hr : rdU (s.drop st.at') true 0 0 with
      | inl p =>
        obtain ⟨m, j⟩ := p
        have := rdU_true _ m j hr
        rw [List.length_drop] at this
        exact ⟨by show st.at' ≤ st.at' + j; omega, by show st.at' + j ≤ s.length; omega⟩
      | inr e => exact ⟨Nat.le_refl _, h⟩
  same := fun st h h0 => by
    unfold uR at h0 ⊢
    split at h0
    · rename_i hn
      exact absurd h0 hn
    · rename_i hn
      rw [if_neg hn]
      cases hr : rdU (s.drop st.at') true 0 0 with
      | inl p =>
        obtain ⟨m, j⟩ := p
        show (s.drop st.at').take (st.at' + j - st.at') = encU m
        rw [Nat.add_sub_cancel_left]
        exact (rdU_true _ m j hr).2.2.1
      | inr e =>
        rw [hr] at h0
        have h1 : e = 0 := h0
        rcases rdU_fault _ _ _ _ _ hr with h2 | h2 <;> (rw [h2] at h1; exact absurd h1 (by decide))
theorem uR_lt (s : Bs) (st : St) : (uR s st).1 < 18446744073709551616 := by
  unfold uR
  split
  · show 0 < _; decide
  · cases hr : rdU (s.drop st.at') true 0 0 with
    | inl p =>
      obtain ⟨m, j⟩ := p
      exact (rdU_true _ m j hr).2.2.2
    | inr e => show 0 < _; decide
/-- A number with a sign. -/
def zig (n : Int) : Nat := if n < 0 then (2 * (-n - 1) + 1).toNat else (2 * n).toNat
def zag (u : Nat) : Int := if u % 2 = 1 then -((u / 2 : Nat) : Int) - 1 else ((u / 2 : Nat) : Int)
theorem zig_zag (u : Nat) : zig (zag u) = u := by
  unfold zig zag
  split <;> split <;> omega
def encI (n : Int) : Bs := encU (zig n)
def iR (s : Bs) : St → Int × St := mapR zag (uR s)
theorem iR_good (s : Bs) : Good s (iR s) encI := (uR_good s).map zag encI (fun a => by unfold encI; rw [zig_zag])
/-- A text of at most so many bytes. -/
def encT (t : Bs) : Bs := encU t.length ++ t
def tR (s : Bs) (most : Nat) (st : St) : Bs × St :=
  if (uR s st).2.e ≠ 0 then ([], (uR s st).2)
  else if most < (uR s st).1 then ([], ⟨st.at', 2⟩)
  else if s.length - (uR s st).2.at' < (uR s st).1 then ([], ⟨st.at', 14⟩)
  else ((s.drop (uR s st).2.at').take (uR s st).1, ⟨(uR s st).2.at' + (uR s st).1, 0⟩)
theorem tR_good (s : Bs) (most : Nat) : Good s (tR s most) encT where
  stay := fun st h => by
    have h1 := (uR_good s).stay st h
    unfold tR
    rw [h1, if_pos h]
  fwd := fun st h => by
    have h1 := (uR_good s).fwd st h
    unfold tR
    split
    · exact h1
    · split
      · exact ⟨Nat.le_refl _, h⟩
      · split
        · exact ⟨Nat.le_refl _, h⟩
        · exact ⟨by show st.at' ≤ (uR s st).2.at' + _; omega, by show (uR s st).2.at' + (uR s st).1 ≤ _; omega⟩
  same := fun st h h0 => by
    have h1 := (uR_good s).fwd st h
    unfold tR at h0 ⊢
    split at h0
    · rename_i hn
      exact absurd h0 hn
    · rename_i hn
      split at h0
      · exact absurd h0 (by show ¬ (2 : Int) = 0; decide)
      · rename_i hm
        split at h0
        · exact absurd h0 (by show ¬ (14 : Int) = 0; decide)
        · rename_i hl
          rw [if_neg hn, if_neg hm, if_neg hl]
          have e0 : (uR s st).2.e = 0 := Decidable.byContradiction hn
          show (s.drop st.at').take ((uR s st).2.at' + (uR s st).1 - st.at') = encT ((s.drop (uR s st).2.at').take (uR s st).1)
          rw [take_join s h1.1 (Nat.le_add_right _ _), (uR_good s).same st h e0, Nat.add_sub_cancel_left]
          unfold encT
          rw [List.length_take, List.length_drop, Nat.min_eq_left (by omega)]
/-- A truth. -/
def encB (b : Bool) : Bs := [if b then 1 else 0]
def bR (s : Bs) (st : St) : Bool × St :=
  if st.e ≠ 0 then (false, st)
  else match s.drop st.at' with
    | [] => (false, ⟨st.at', 14⟩)
    | c :: _ => if 1 < c.toNat then (false, ⟨st.at', 15⟩) else (decide (c.toNat = 1), ⟨st.at' + 1, 0⟩)
theorem bR_good (s : Bs) : Good s (bR s) encB where
  stay := fun st h => by unfold bR; rw [if_pos h]
  fwd := fun st h => by
    unfold bR
    split
    · exact ⟨Nat.le_refl _, h⟩
    · cases hd : s.drop st.at' with
      | nil => exact ⟨Nat.le_refl _, h⟩
      | cons c r =>
        have hl := congrArg List.length hd
        rw [List.length_drop, List.length_cons] at hl
        show st.at' ≤ (if 1 < c.toNat then _ else _ : Bool × St).2.at' ∧ (if 1 < c.toNat then _ else _ : Bool × St).2.at' ≤ _
        split
        · exact ⟨Nat.le_refl _, h⟩
        · exact ⟨Nat.le_succ _, by show st.at' + 1 ≤ _; omega⟩
  same := fun st h h0 => by
    unfold bR at h0 ⊢
    split at h0
    · rename_i hn
      exact absurd h0 hn
    · rename_i hn
      rw [if_neg hn]
      cases hd : s.drop st.at' with
      | nil =>
        rw [hd] at h0
        exact absurd h0 (by show ¬ (14 : Int) = 0; decide)
      | cons c r =>
        rw [hd] at h0
        by_cases hc : 1 < c.toNat
        · have h1 : (if 1 < c.toNat then (false, (⟨st.at', 15⟩ : St)) else (decide (c.toNat = 1), ⟨st.at' + 1, 0⟩)).2.e = 0 := h0
          rw [if_pos hc] at h1
          exact absurd h1 (by show ¬ (15 : Int) = 0; decide)
        · show (c :: r).take ((if 1 < c.toNat then (false, (⟨st.at', 15⟩ : St)) else (decide (c.toNat = 1), ⟨st.at' + 1, 0⟩)).2.at' - st.at') = encB (if 1 < c.toNat then (false, (⟨st.at', 15⟩ : St)) else (decide (c.toNat = 1), ⟨st.at' + 1, 0⟩)).1
          rw [if_neg hc]
          show (c :: r).take (st.at' + 1 - st.at') = encB (decide (c.toNat = 1))
          rw [Nat.add_sub_cancel_left]
          show [c] = _
          unfold encB
          by_cases h1 : c.toNat = 1
          · rw [decide_eq_true h1, if_pos rfl]
            congr 1
            exact UInt8.toNat_inj.1 h1
          · rw [decide_eq_false h1, if_neg (by decide)]
            congr 1
            exact UInt8.toNat_inj.1 (by show c.toNat = 0; omega)
/-- How many follow, at most so many. -/
def cR (s : Bs) (most : Nat) (st : St) : Nat × St :=
  if (uR s st).2.e ≠ 0 then (0, (uR s st).2)
  else if most < (uR s st).1 then (0, ⟨st.at', 2⟩)
  else ((uR s st).1, (uR s st).2)
theorem cR_good (s : Bs) (most : Nat) : Good s (cR s most) encU where
  stay := fun st h => by
    have h1 := (uR_good s).stay st h
    unfold cR
    rw [h1, if_pos h]
  fwd := fun st h => by
    have h1 := (uR_good s).fwd st h
    unfold cR
    split
    · exact h1
    · split
      · exact ⟨Nat.le_refl _, h⟩
      · exact h1
  same := fun st h h0 => by
    unfold cR at h0 ⊢
    split at h0
    · rename_i hn
      exact absurd h0 hn
    · rename_i hn
      split at h0
      · exact absurd h0 (by show ¬ (2 : Int) = 0; decide)
      · rename_i hm
        rw [if_neg hn, if_neg hm]
        exact (uR_good s).same st h (Decidable.byContradiction hn)
theorem cR_le (s : Bs) (most : Nat) (st : St) : (cR s most st).1 ≤ most := by
  unfold cR
  split
  · exact Nat.zero_le _
  · split
    · exact Nat.zero_le _
    · show (uR s st).1 ≤ most
      omega
/-- A list: how many, and each of them. -/
def encL {α : Type} (ea : α → Bs) (l : List α) : Bs := encU l.length ++ (l.map ea).flatten
def lR {α : Type} (s : Bs) (f : St → α × St) (st : St) : List α × St := repR f (cR s 4096 st).1 (cR s 4096 st).2
theorem lR_good {α : Type} {s : Bs} {f : St → α × St} {ea : α → Bs} (hf : Good s f ea) : Good s (lR s f) (encL ea) where
  stay := fun st h => by
    unfold lR
    rw [(cR_good s 4096).stay st h]
    exact repR_stay hf _ _ h
  fwd := fun st h => by
    have h1 := (cR_good s 4096).fwd st h
    have h2 := repR_fwd hf (cR s 4096 st).1 _ h1.2
    exact ⟨Nat.le_trans h1.1 h2.1, h2.2⟩
  same := fun st h h0 => by
    have h1 := (cR_good s 4096).fwd st h
    have h2 := repR_fwd hf (cR s 4096 st).1 _ h1.2
    have e0 : (cR s 4096 st).2.e = 0 := by
      refine Decidable.byContradiction fun hn => ?_
      have h3 : (repR f (cR s 4096 st).1 (cR s 4096 st).2).2.e = 0 := h0
      rw [repR_stay hf _ _ hn] at h3
      exact hn h3
    show (s.drop st.at').take ((repR f (cR s 4096 st).1 (cR s 4096 st).2).2.at' - st.at') = encL ea (repR f (cR s 4096 st).1 (cR s 4096 st).2).1
    rw [take_join s h1.1 h2.1, (cR_good s 4096).same st h e0, repR_same hf _ _ h1.2 h0]
    unfold encL
    rw [repR_len]
/-- Numbers; none where there is a fault. -/
def nsR (s : Bs) (st : St) : List Int × St := (if (lR s (iR s) st).2.e ≠ 0 then [] else (lR s (iR s) st).1, (lR s (iR s) st).2)
theorem nsR_good (s : Bs) : Good s (nsR s) (encL encI) where
  stay := fun st h => (lR_good (iR_good s)).stay st h
  fwd := fun st h => (lR_good (iR_good s)).fwd st h
  same := fun st h h0 => by
    have h1 : (lR s (iR s) st).2.e = 0 := h0
    show _ = encL encI (if (lR s (iR s) st).2.e ≠ 0 then [] else (lR s (iR s) st).1)
    rw [if_neg (fun q => q h1)]
    exact (lR_good (iR_good s)).same st h h0
end Go.Proofs.Ythpgjeiglhdciaa.SN

/- The reader: its own functions, walked. -/
namespace Go.Proofs.Ythpgjeiglhdciaa.SN
open Go Go.RowKit Go.Proofs
/-- A reader stands at block q: its text, its place, its fault. -/
def RD (W : World) (q : Nat) (s : ByteArray) (st : St) : Prop := W.heap[q]? = some (.cells #[.string s, .int .i64 st.at', .int .i64 st.e] 132 (0, 0))
theorem RD.cells {W : World} {q : Nat} {s : ByteArray} {st : St} (h : RD W q s st) : W.cell? ⟨q, 0, none⟩ = some (.string s) ∧ W.cell? ⟨q, 1, none⟩ = some (.int .i64 st.at') ∧ W.cell? ⟨q, 2, none⟩ = some (.int .i64 st.e) ∧ W.frozen? ⟨q, 0, none⟩ = false ∧ W.frozen? ⟨q, 1, none⟩ = false ∧ W.frozen? ⟨q, 2, none⟩ = false := by
  unfold RD at h
  refine ⟨?_, ?_, ?_, ?_, ?_, ?_⟩ <;> simp [World.cell?, World.frozen?, h]
theorem set_mod {W : World} {G i : Nat} {u : Value} {cs : Array Value} {t : TypeId} (h : W.heap[G]? = some (.cells cs t (0, 0))) : (W.setCell ⟨G, i, none⟩ u).heap[G]? = some (.cells (cs.setIfInBounds i u) t (0, 0)) := by
  have hlt := lt_of_block h
  have h' : W.heap[G] = .cells cs t (0, 0) := by simpa [Array.getElem?_eq_getElem hlt] using h
  show (W.heap.modify G _)[G]? = _
  rw [Array.getElem?_eq_getElem (by simpa using hlt), Array.getElem_modify_self, h']
  rfl
theorem RD.setE {W : World} {q : Nat} {s : ByteArray} {st : St} (h : RD W q s st) (e : Int) : RD (W.setCell ⟨q, 2, none⟩ (.int .i64 e)) q s ⟨st.at', e⟩ := by
  unfold RD
  rw [set_mod h]
  rfl
theorem RD.setA {W : World} {q : Nat} {s : ByteArray} {st : St} (h : RD W q s st) (a : Nat) : RD (W.setCell ⟨q, 1, none⟩ (.int .i64 a)) q s ⟨a, st.e⟩ := by
  unfold RD
  rw [set_mod h]
  rfl
theorem grown_set (W : World) (q i : Nat) (v : Value) : W.grownBy (W.setCell ⟨q, i, none⟩ v) (some q) :=
  ⟨rfl, rfl, rfl, by simp, fun j hj hne => Below.heap_setCell _ _ _ _ (fun e => hne (by rw [e]))⟩
theorem RD.drewN {W : World} {q : Nat} {s : ByteArray} {st : St} (h : RD W q s st) (n : Nat) : RD (W.drewN n) q s st := h
theorem grown_dn {W W' : World} {n : Nat} {q : Nat} (h : (W.drewN n).grownBy W' (some q)) : W.grownBy W' (some q) := by
  have h0 : W.grownBy (W.drewN n) none := ⟨rfl, rfl, rfl, by simp, fun j hj _ => rfl⟩
  exact (h0.but (some q)).andThen h (fun j hj => .inr hj)
theorem fail_any {W : World} {q : Nat} {s : ByteArray} {st : St} (h : RD W q s st) (he : st.e = 0) (e : Int) :
    Calls Try.prog 49 #[.pointer (some ⟨q, 0, none⟩), .int .i64 e] W fun o w' => o = .returned (.tuple #[]) ∧ Hid (RD w' q s ⟨st.at', e⟩ ∧ W.grownBy w' (some q)) := by
  obtain ⟨k0, k1, k2, f0, f1, f2⟩ := h.cells
  rw [he] at k2
  have H := Lib.hid h
  clear h he
  go_enter Try.func49, Try.ntmps49
  go_wp2
  go_end0
  exact ⟨rfl, ⟨H.out.setE e, grown_set _ _ _ _⟩⟩
/-- A reader's text, as a list. -/
def lst (s : ByteArray) : Bs := s.data.toList
theorem lst_drop {s : ByteArray} {k : Nat} (h : k < s.size) : (lst s).drop k = s[k] :: (lst s).drop (k + 1) := by
  unfold lst
  rw [List.drop_eq_getElem_cons (by simpa using h)]
  rfl
theorem lst_len (s : ByteArray) : (lst s).length = s.size := by unfold lst; simp
theorem uR_inl {s : Bs} {a m j : Nat} (h : rdU (s.drop a) true 0 0 = .inl (m, j)) : uR s ⟨a, 0⟩ = (m, ⟨a + j, 0⟩) := by
  unfold uR
  rw [if_neg (by simp)]
  show (match rdU (s.drop a) true 0 0 with
    | .inl (m, j) => (m, (⟨a + j, 0⟩ : St))
    | .inr e => (0, ⟨a, e⟩)) = _
  rw [h]
theorem uR_inr {s : Bs} {a : Nat} {e : Int} (h : rdU (s.drop a) true 0 0 = .inr e) : uR s ⟨a, 0⟩ = (0, ⟨a, e⟩) := by
  unfold uR
  rw [if_neg (by simp)]
  show (match rdU (s.drop a) true 0 0 with
    | .inl (m, j) => (m, (⟨a + j, 0⟩ : St))
    | .inr e => (0, ⟨a, e⟩)) = _
  rw [h]
theorem wraps_u64 (n : Int) (h0 : 0 ≤ n) (h1 : n < 2 ^ 64) : IntKind.u64.wrap n = n := by
  have e : IntKind.u64.wrap n = n % 18446744073709551616 := by simp [IntKind.wrap, IntKind.bits, IntKind.signed]
  rw [e]
  omega
theorem u8_and127 {x : Int} (h0 : 0 ≤ x) (h1 : x < 256) : bits .and .u8 x 127 = x % 128 := bits_mask .u8 8 (by decide) wraps_u8 7 (by decide) x h0 h1
theorem or_step {n c : Nat} (hn : n < 144115188075855872) (hc : c < 256) : bits .or .u64 (IntKind.u64.wrap ((n : Int) * 128)) (IntKind.u64.wrap (bits .and .u8 (c : Int) 127)) = ((n * 128 + c % 128 : Nat) : Int) := by
  rw [u8_and127 (by omega) (by omega), wraps_u64 _ (by omega) (by omega), wraps_u64 _ (by omega) (by omega)]
  have h := bits_join .u64 64 (by decide) wraps_u64 7 ((n : Int) * 128) ((c : Int) % 128) (by omega) (by omega) (by omega) (by omega) (by omega) (by omega)
  refine h.trans ?_
  omega
theorem ret_u64 {a b : Int} (h : a = b) : Ending.returned (.int .u64 a) = .returned (.int .u64 b) := by rw [h]
set_option maxRecDepth 100000 in
set_option maxHeartbeats 4000000 in
theorem uint_any {W : World} {q : Nat} {s : ByteArray} {st : St} (h : RD W q s st) (hs : s.size ≤ 140737488355328) (ha : st.at' ≤ s.size) :
    Calls Try.prog 44 #[.pointer (some ⟨q, 0, none⟩)] W fun o w' => o = .returned (.int .u64 (uR (lst s) st).1) ∧ Hid (RD w' q s (uR (lst s) st).2 ∧ W.grownBy w' (some q)) := by
  by_cases he : st.e = 0
  · obtain ⟨at0, e0⟩ := st
    simp only at he ha
    subst he
    have H := Lib.hid h
    clear h
    go_enter Try.func44, Try.ntmps44
    go_wp2_with (fail)
    go_loopg [3, 4] (s.size + 1) (fun kq v3 v4 w' => ∃ (k n d : Nat), v3 = .int .u64 n ∧ v4 = .int .i64 k ∧ w' = W.drewN d ∧ Hid (kq + at0 + k = s.size + 1 + at0 ∧ at0 + k ≤ s.size ∧ n < 18446744073709551616 ∧ rdU ((lst s).drop at0) true 0 0 = rdU ((lst s).drop (at0 + k)) (k == 0) n k))
    case atStart => exact ⟨0, 0, 0, rfl, rfl, rfl, ⟨by omega, by omega, by decide, rfl⟩⟩
    case round =>
      obtain ⟨k, n, d, rfl, rfl, rfl, HI⟩ := hrel
      obtain ⟨k0, k1, k2, f0, f1, f2⟩ := H.out.cells
      obtain ⟨p, hp⟩ : ∃ p, at0 + k = p := ⟨_, rfl⟩
      have w1 : IntKind.i64.wrap ((at0 : Int) + (k : Int)) = (p : Int) := by rw [← hp]; exact IntWalk.i64_in _ (by have := HI.out.2.1; omega)
      have w1' : (at0 : Int) + (k : Int) = (p : Int) := by rw [← hp]; rfl
      have HPP := Lib.hid hp
      by_cases hk : p < s.size
      · have HD := Lib.hid (lst_drop hk)
        have hk2 : p ≤ 140737488355328 := by omega
        have q1 : ((p : Int) ≥ (s.size : Int)) = False := eq_false (by omega)
        have hc := s[p].toNat_lt
        obtain ⟨cb, hcb⟩ : ∃ c, s[p] = c := ⟨_, rfl⟩
        obtain ⟨z1, hz1⟩ : ∃ z, ((k : Int) == 0) = z := ⟨_, rfl⟩
        obtain ⟨z2, hz2⟩ : ∃ z, (((s[p].toNat : Nat) : Int) == 128) = z := ⟨_, rfl⟩
        obtain ⟨z3, hz3⟩ : ∃ z, ((n : Int) / 144115188075855872 != 0) = z := ⟨_, rfl⟩
        have HZ := Lib.hid (And.intro hz1 (And.intro hz2 hz3))
        have HC := Lib.hid (And.intro hc hcb)
        have e1 : z1 = true ↔ k = 0 := by rw [← hz1]; simp
        have e2 : z2 = true ↔ s[p].toNat = 128 := by rw [← hz2]; simp; omega
        have e3 : z3 = false ↔ n < 144115188075855872 := by rw [← hz3]; simp; omega
        have HE := Lib.hid (And.intro e1 (And.intro e2 e3))
        clear hp hc hcb hz1 hz2 hz3 e1 e2 e3
        have hor : n < 144115188075855872 → bits .or .u64 (IntKind.u64.wrap ((n : Int) * 128)) (IntKind.u64.wrap (bits .and .u8 ((s[p].toNat : Nat) : Int) 127)) = ((n * 128 + s[p].toNat % 128 : Nat) : Int) := fun h => or_step h HC.out.1
        have HOR := Lib.hid hor
        clear hor
        by_cases hbad : (k = 0 ∧ s[p].toNat = 128) ∨ 144115188075855872 ≤ n
        · have HB := Lib.hid hbad
          have HR := Lib.hid (show rdU ((lst s).drop at0) true 0 0 = .inr 15 from by
            rw [HI.out.2.2.2, HPP.out, HD.out]
            unfold rdU
            rw [if_pos]
            rcases HB.out with ⟨h1, h2⟩ | h3
            · exact .inl ⟨by simp [h1], h2⟩
            · exact .inr h3)
          have hb3 : (z1 && z2 || z3) = true := by
            rcases HB.out with ⟨h1, h2⟩ | h3
            · rw [HE.out.1.2 h1, HE.out.2.1.2 h2]; rfl
            · have : z3 = true := by
                cases h : z3 with
                | true => rfl
                | false => have := HE.out.2.2.1 h; omega
              rw [this]; simp
          clear hbad
          have hz1 := HZ.out.1
          have hz2 := HZ.out.2.1
          have hz3 := HZ.out.2.2
          cases z1 <;> cases z2 <;> cases z3 <;> first
            | (exfalso; revert hb3; decide)
            | (clear hb3
               go_wp2_with (fail)
               go_quiet (fail)
               go_wp2_with (fail)
               go_quiet (fail)
               go_wp2_with (go_at_call 49; refine (fail_any (H.out.drewN _) rfl 15).mono ?_; rintro e w2 ⟨rfl, H2⟩)
               go_ret
               rw [uR_inr HR.out]
               exact ⟨rfl, ⟨H2.out.1, grown_dn H2.out.2⟩⟩)
        · have HB := Lib.hid hbad
          have hz3 : z3 = false := HE.out.2.2.2 (by omega)
          have hn : n < 144115188075855872 := by omega
          have hb3 : (z1 && z2) = false := by
            cases h1 : z1 with
            | false => rfl
            | true =>
              cases h2 : z2 with
              | false => rfl
              | true => exact absurd (.inl ⟨HE.out.1.1 h1, HE.out.2.1.1 h2⟩) HB.out
          have hor := HOR.out hn
          have HN := Lib.hid hn
          subst hz3
          by_cases hlt : s[p].toNat < 128
          · have hmod : s[p].toNat % 128 = s[p].toNat := Nat.mod_eq_of_lt hlt
            rw [hmod] at hor
            have HR := Lib.hid (show rdU ((lst s).drop at0) true 0 0 = .inl (n * 128 + s[p].toNat, k + 1) from by
              rw [HI.out.2.2.2, HPP.out, HD.out]
              unfold rdU
              rw [if_neg, if_pos hlt]
              intro h
              apply HB.out
              rcases h with ⟨h1, h2⟩ | h3
              · exact .inl ⟨by simpa using h1, h2⟩
              · exact .inr h3)
            have c1 : (((s[p].toNat : Nat) : Int) < 128) = True := eq_true (by omega)
            have w2 : IntKind.i64.wrap ((k : Int) + 1) = (k : Int) + 1 := IntWalk.i64_in _ (by have := HI.out.2.1; omega)
            have hkb : k ≤ 140737488355328 := by have := HI.out.2.1; omega
            have hab : at0 ≤ 140737488355328 := by have := HI.out.2.1; omega
            have hz1 := HZ.out.1
            have hz2 := HZ.out.2.1
            have hz3 := HZ.out.2.2
            clear hbad hlt hn hmod
            cases z1 <;> cases z2 <;> first
              | (exfalso; revert hb3; decide)
              | (clear hb3
                 go_wp2_with (fail)
                 go_quiet (fail)
                 go_wp2_with (fail)
                 go_quiet (fail)
                 go_wp2_with (fail)
                 go_ret
                 rw [uR_inl HR.out]
                 exact ⟨ret_u64 (by simp), ⟨(H.out.drewN _).setA (at0 + (k + 1)), grown_dn (grown_set _ _ _ _)⟩⟩)
          · have hmod : s[p].toNat % 128 = s[p].toNat - 128 := by have := HC.out.1; omega
            rw [hmod] at hor
            have HR := Lib.hid (show rdU ((lst s).drop at0) true 0 0 = rdU ((lst s).drop (p + 1)) false (n * 128 + (s[p].toNat - 128)) (k + 1) from by
              rw [HI.out.2.2.2, HPP.out, HD.out, rdU, if_neg, if_neg hlt]
              intro h
              apply HB.out
              rcases h with ⟨h1, h2⟩ | h3
              · exact .inl ⟨by simpa using h1, h2⟩
              · exact .inr h3)
            have c1 : (((s[p].toNat : Nat) : Int) < 128) = False := eq_false (by omega)
            have hkb : k ≤ 140737488355328 := by have := HI.out.2.1; omega
            have HLT := Lib.hid hlt
            have hz1 := HZ.out.1
            have hz2 := HZ.out.2.1
            have hz3 := HZ.out.2.2
            obtain ⟨n', hn'⟩ : ∃ m, n * 128 + (s[p].toNat - 128) = m := ⟨_, rfl⟩
            rw [hn'] at hor
            have HN2 := Lib.hid hn'
            have HC2 := Lib.hid HC.out.1
            have HKK := Lib.hid (show ¬ s.size ≤ p by omega)
            clear hbad hlt hn hmod hn'
            cases z1 <;> cases z2 <;> first
              | (exfalso; revert hb3; decide)
              | (clear hb3
                 go_wp2_with (fail)
                 go_quiet (fail)
                 go_wp2_with (fail)
                 go_quiet (fail)
                 go_wp2_with (fail)
                 go_roundg (s.size - k)
                 case measure => have := HI.out.1; have := HPP.out; have := HKK.out; omega
                 case rel =>
                   refine ⟨k + 1, n', _, rfl, by go_num, rfl, ⟨by have := HI.out.1; have := HPP.out; have := HKK.out; omega, by have := HPP.out; have := HKK.out; omega, by have := HN.out; have := HN2.out; have := HC2.out; omega, ?_⟩⟩
                   rw [HR.out, HN2.out]
                   have e : at0 + (k + 1) = p + 1 := by have := HPP.out; omega
                   rw [e]
                   simp)
      · have hpb : p ≤ 140737488355328 := by have := HI.out.2.1; omega
        have HR := Lib.hid (show rdU ((lst s).drop at0) true 0 0 = .inr 14 from by
          rw [HI.out.2.2.2, HPP.out, List.drop_eq_nil_of_le (by rw [lst_len]; omega)]
          rfl)
        have hge : s.size ≤ p := by omega
        clear hp hk
        go_wp2_with (fail)
        go_quiet (fail)
        go_wp2_with (go_at_call 49; refine (fail_any (H.out.drewN _) rfl 14).mono ?_; rintro e w2 ⟨rfl, H2⟩)
        go_ret
        rw [uR_inr HR.out]
        exact ⟨rfl, ⟨H2.out.1, grown_dn H2.out.2⟩⟩
  · obtain ⟨k0, k1, k2, f0, f1, f2⟩ := h.cells
    have hu : uR (lst s) st = (0, st) := by unfold uR; rw [if_pos he]
    have b0 : (st.e == 0) = false := by simpa using he
    have H := Lib.hid (And.intro h hu)
    clear h hu he
    go_enter Try.func44, Try.ntmps44
    go_wp2_with (fail)
    go_loopg [3, 4] 1 (fun kq v3 v4 w' => w' = W)
    case atStart => rfl
    case round =>
      obtain rfl := hrel
      go_wp2_with (fail)
      go_ret
      rw [H.out.2]
      exact ⟨rfl, ⟨H.out.1, ⟨rfl, rfl, rfl, Nat.le_refl _, fun j hj _ => rfl⟩⟩⟩
end Go.Proofs.Ythpgjeiglhdciaa.SN

/- The reader: Int, Count, Text, Bool, End, walked. -/
namespace Go.Proofs.Ythpgjeiglhdciaa.SN
open Go Go.RowKit Go.Proofs
theorem u64_and1 {x : Int} (h0 : 0 ≤ x) (h1 : x < 2 ^ 64) : bits .and .u64 x 1 = x % 2 := bits_mask .u64 64 (by decide) wraps_u64 1 (by decide) x h0 h1
theorem wrap_nat {x : Nat} (h : x < 9223372036854775808) : wrap64 (x : Int) = (x : Int) := IntWalk.wrap64_in _ (by omega)
theorem xor_m1 {x : Nat} (h : x < 9223372036854775808) : bits .xor .i64 (-1) (x : Int) = -(x : Int) - 1 := by
  have e1 : BitVec.ofInt 64 (-1) = BitVec.allOnes 64 := by decide
  have e2 : BitVec.ofInt 64 (x : Int) = BitVec.ofNat 64 x := by simp
  show IntKind.i64.wrap (((BitVec.ofInt 64 (-1) ^^^ BitVec.ofInt 64 (x : Int)).toNat : Nat) : Int) = _
  rw [e1, e2, BitVec.allOnes_xor, BitVec.toNat_not, BitVec.toNat_ofNat, Nat.mod_eq_of_lt (by omega), IntKind.wrap_i64]
  omega
theorem ret_i64 {a b : Int} (h : a = b) : Ending.returned (.int .i64 a) = .returned (.int .i64 b) := by rw [h]
set_option maxRecDepth 100000 in
theorem int_any {W : World} {q : Nat} {s : ByteArray} {st : St} (h : RD W q s st) (hs : s.size ≤ 140737488355328) (ha : st.at' ≤ s.size) :
    Calls Try.prog 24 #[.pointer (some ⟨q, 0, none⟩)] W fun o w' => o = .returned (.int .i64 (iR (lst s) st).1) ∧ Hid (RD w' q s (iR (lst s) st).2 ∧ W.grownBy w' (some q)) := by
  have hu := uint_any h hs ha
  have hlt := uR_lt (lst s) st
  have hi : iR (lst s) st = (zag (uR (lst s) st).1, (uR (lst s) st).2) := rfl
  rw [hi]
  obtain ⟨⟨u, st'⟩, hr⟩ : ∃ r, uR (lst s) st = r := ⟨_, rfl⟩
  rw [hr] at hu hlt ⊢
  have hand := u64_and1 (x := (u : Int)) (by omega) (by simp only at hlt; omega)
  have HU := Lib.hid hu
  have HL := Lib.hid hlt
  clear h hs ha hu hi hr
  by_cases ho : u % 2 = 1
  · have hand1 : bits .and .u64 (u : Int) 1 = 1 := by rw [hand]; omega
    have hz : zag u = -((u / 2 : Nat) : Int) - 1 := if_pos ho
    rw [hz]
    clear hand ho hz hlt
    go_enter Try.func24, Try.ntmps24
    go_wp2_with (go_at_call 44; refine HU.out.mono ?_; rintro e w1 ⟨rfl, H1⟩)
    go_ret
    have e : wrap64 ((u : Int) / 2) = ((u / 2 : Nat) : Int) := by
      have hl : u < 18446744073709551616 := HL.out
      have e2 : ((u : Int) / 2) = ((u / 2 : Nat) : Int) := by omega
      rw [e2]
      exact wrap_nat (by omega)
    exact ⟨ret_i64 ((congrArg (bits .xor .i64 (-1)) e).trans (xor_m1 (by have hl : u < 18446744073709551616 := HL.out; omega))), H1⟩
  · have hand1 : bits .and .u64 (u : Int) 1 = 0 := by rw [hand]; omega
    have hz : zag u = ((u / 2 : Nat) : Int) := if_neg ho
    rw [hz]
    clear hand ho hz hlt
    go_enter Try.func24, Try.ntmps24
    go_wp2_with (go_at_call 44; refine HU.out.mono ?_; rintro e w1 ⟨rfl, H1⟩)
    go_ret
    have e : wrap64 ((u : Int) / 2) = ((u / 2 : Nat) : Int) := by
      have hl : u < 18446744073709551616 := HL.out
      have e2 : ((u : Int) / 2) = ((u / 2 : Nat) : Int) := by omega
      rw [e2]
      exact wrap_nat (by omega)
    exact ⟨ret_i64 e, H1⟩
theorem grown_then {W W1 W2 : World} {q : Nat} (h : W.grownBy W1 (some q)) (h2 : W1.grownBy W2 (some q)) : W.grownBy W2 (some q) := h.andThen h2 (fun _ hj => .inr hj)
set_option maxRecDepth 100000 in
set_option maxHeartbeats 1000000 in
theorem count_any {W : World} {q : Nat} {s : ByteArray} {st : St} (h : RD W q s st) (hs : s.size ≤ 140737488355328) (ha : st.at' ≤ s.size) :
    Calls Try.prog 45 #[.pointer (some ⟨q, 0, none⟩), .int .i64 4096] W fun o w' => o = .returned (.int .i64 (cR (lst s) 4096 st).1) ∧ Hid (RD w' q s (cR (lst s) 4096 st).2 ∧ W.grownBy w' (some q)) := by
  have hu := uint_any h hs ha
  have hlt := uR_lt (lst s) st
  obtain ⟨k0, k1, k2, f0, f1, f2⟩ := h.cells
  have hc : cR (lst s) 4096 st = if (uR (lst s) st).2.e ≠ 0 then (0, (uR (lst s) st).2) else if 4096 < (uR (lst s) st).1 then (0, ⟨st.at', 2⟩) else ((uR (lst s) st).1, (uR (lst s) st).2) := rfl
  obtain ⟨⟨u, ⟨a', e'⟩⟩, hr⟩ : ∃ r, uR (lst s) st = r := ⟨_, rfl⟩
  rw [hr] at hu hlt hc
  simp only at hu hlt hc
  have HU := Lib.hid hu
  clear h hs ha hu hr
  by_cases he : e' = 0
  · subst he
    rw [if_neg (by simp)] at hc
    by_cases hb : 4096 < u
    · rw [if_pos hb] at hc
      have HC := Lib.hid hc
      have b1 : ((u : Int) > 4096) = True := eq_true (by omega)
      clear hc hb hlt
      go_enter Try.func45, Try.ntmps45
      go_wp2_with (first
        | (go_at_call 49; refine (fail_any (H1.out.1.setA st.at') rfl 2).mono ?_; rintro e w2 ⟨rfl, H2⟩; obtain ⟨i0, i1, i2, _, _, _⟩ := H2.out.1.cells)
        | (go_at_call 44; refine HU.out.mono ?_; rintro e w1 ⟨rfl, H1⟩; obtain ⟨j0, j1, j2, g0, g1, g2⟩ := H1.out.1.cells))
      go_ret
      rw [HC.out]
      exact ⟨rfl, ⟨H2.out.1, grown_then H1.out.2 (grown_then (grown_set _ _ _ _) H2.out.2)⟩⟩
    · rw [if_neg hb] at hc
      have HC := Lib.hid hc
      have b1 : ((u : Int) > 4096) = False := eq_false (by omega)
      have b2 : u ≤ 4096 := by omega
      clear hc hb hlt
      go_enter Try.func45, Try.ntmps45
      go_wp2_with (first
        | (go_at_call 44; refine HU.out.mono ?_; rintro e w1 ⟨rfl, H1⟩; obtain ⟨j0, j1, j2, g0, g1, g2⟩ := H1.out.1.cells))
      go_ret
      rw [HC.out]
      exact ⟨rfl, H1⟩
  · rw [if_pos he] at hc
    have HC := Lib.hid hc
    have b1 : (e' == 0) = false := by simpa using he
    have b2 : (e' != 0) = true := by simpa using he
    clear hc he hlt
    go_enter Try.func45, Try.ntmps45
    go_wp2_with (first
      | (go_at_call 44; refine HU.out.mono ?_; rintro e w1 ⟨rfl, H1⟩; obtain ⟨j0, j1, j2, g0, g1, g2⟩ := H1.out.1.cells))
    go_ret
    rw [HC.out]
    exact ⟨rfl, H1⟩
set_option maxRecDepth 100000 in
set_option maxHeartbeats 1000000 in
theorem bool_any {W : World} {q : Nat} {s : ByteArray} {st : St} (h : RD W q s st) (hs : s.size ≤ 140737488355328) (ha : st.at' ≤ s.size) :
    Calls Try.prog 47 #[.pointer (some ⟨q, 0, none⟩)] W fun o w' => o = .returned (.bool (bR (lst s) st).1) ∧ Hid (RD w' q s (bR (lst s) st).2 ∧ W.grownBy w' (some q)) := by
  obtain ⟨k0, k1, k2, f0, f1, f2⟩ := h.cells
  obtain ⟨a, e⟩ := st
  simp only at k1 k2 ha
  have H := Lib.hid h
  by_cases he : e = 0
  · subst he
    by_cases hb : a < s.size
    · have hd := lst_drop hb
      have ab : a ≤ 140737488355328 := by omega
      obtain ⟨c, hcc⟩ : ∃ c, s[a].toNat = c := ⟨_, rfl⟩
      clear h hs ha
      have HB : bR (lst s) ⟨a, 0⟩ = if 1 < s[a].toNat then (false, ⟨a, 15⟩) else (decide (s[a].toNat = 1), ⟨a + 1, 0⟩) := by
        unfold bR
        rw [if_neg (by simp)]
        show (match (lst s).drop a with
          | [] => (false, (⟨a, 14⟩ : St))
          | c :: _ => if 1 < c.toNat then (false, ⟨a, 15⟩) else (decide (c.toNat = 1), ⟨a + 1, 0⟩)) = _
        rw [hd]
      clear hd
      by_cases hc : 1 < s[a].toNat
      · rw [if_pos hc] at HB
        have HR := Lib.hid HB
        have b1 : (((s[a].toNat : Nat) : Int) > 1) = True := eq_true (by omega)
        clear HB hc hcc
        go_enter Try.func47, Try.ntmps47
        go_wp2_with (fail)
        go_quiet (fail)
        go_wp2_with (fail)
        go_quiet (fail)
        go_wp2_with (go_at_call 49; refine (fail_any (H.out.drewN _) rfl 15).mono ?_; rintro e w2 ⟨rfl, H2⟩)
        go_ret
        rw [HR.out]
        exact ⟨rfl, ⟨H2.out.1, grown_dn H2.out.2⟩⟩
      · rw [if_neg hc] at HB
        have HR := Lib.hid HB
        have b1 : (((s[a].toNat : Nat) : Int) > 1) = False := eq_false (by omega)
        have w1 : IntKind.i64.wrap ((a : Int) + 1 - 1) = (a : Int) := by rw [Int.add_sub_cancel]; exact IntWalk.i64_in _ (by omega)
        have w2 : IntKind.i64.wrap (a : Int) = (a : Int) := IntWalk.i64_in _ (by omega)
        have w3 : (a : Int) + 1 - 1 = (a : Int) := Int.add_sub_cancel _ _
        have b2 : (((s[a].toNat : Nat) : Int) == 1) = decide (s[a].toNat = 1) := by rw [Bool.eq_iff_iff]; simp; omega
        clear HB hc hcc
        go_enter Try.func47, Try.ntmps47
        go_wp2_with (fail)
        go_quiet (fail)
        go_wp2_with (fail)
        go_quiet (fail)
        obtain ⟨d1, rfl⟩ : ∃ d, d = nq := ⟨_, rfl⟩
        go_wp2_with (fail)
        obtain ⟨W2, hW2⟩ : ∃ W2, (W.drewN (nq + d1)).setCell ⟨q, 1, none⟩ (.int .i64 ((a : Int) + 1)) = W2 := ⟨_, rfl⟩
        rw [hW2]
        have hr2 : RD W2 q s ⟨a + 1, 0⟩ ∧ W.grownBy W2 (some q) := by
          rw [← hW2]
          exact ⟨(H.out.drewN _).setA (a + 1), grown_dn (grown_set _ _ _ _)⟩
        have H2 := Lib.hid hr2
        obtain ⟨j0, j1, _, _, _, _⟩ := hr2.1.cells
        have j1' : W2.cell? ⟨q, 1, none⟩ = some (.int .i64 ((a : Int) + 1)) := j1
        clear hW2 hr2 k0 k1 k2 f0 f1 f2 j1
        go_quiet (fail)
        go_wp2_with (fail)
        go_ret
        rw [HR.out]
        exact ⟨rfl, ⟨H2.out.1.drewN _, grown_then H2.out.2 ⟨rfl, rfl, rfl, Nat.le_refl _, fun j hj _ => rfl⟩⟩⟩
    · have HR := Lib.hid (show bR (lst s) ⟨a, 0⟩ = (false, ⟨a, 14⟩) from by
        unfold bR
        rw [if_neg (by simp)]
        show (match (lst s).drop a with
          | [] => (false, (⟨a, 14⟩ : St))
          | c :: _ => if 1 < c.toNat then (false, ⟨a, 15⟩) else (decide (c.toNat = 1), ⟨a + 1, 0⟩)) = _
        rw [List.drop_eq_nil_of_le (by rw [lst_len]; omega)])
      have ab : a ≤ 140737488355328 := by omega
      have hge : s.size ≤ a := by omega
      clear h hs ha hb
      go_enter Try.func47, Try.ntmps47
      go_wp2_with (fail)
      go_quiet (fail)
      go_wp2_with (go_at_call 49; refine (fail_any (H.out.drewN _) rfl 14).mono ?_; rintro e w2 ⟨rfl, H2⟩)
      go_ret
      rw [HR.out]
      exact ⟨rfl, ⟨H2.out.1, grown_dn H2.out.2⟩⟩
  · have b1 : (e != 0) = true := by simpa using he
    have HR := Lib.hid (show bR (lst s) ⟨a, e⟩ = (false, ⟨a, e⟩) by unfold bR; rw [if_pos he])
    clear h hs ha he
    go_enter Try.func47, Try.ntmps47
    go_wp2_with (fail)
    go_ret
    rw [HR.out]
    exact ⟨rfl, ⟨H.out, ⟨rfl, rfl, rfl, Nat.le_refl _, fun j hj _ => rfl⟩⟩⟩
end Go.Proofs.Ythpgjeiglhdciaa.SN

/- The reader: Text. -/
namespace Go.Proofs.Ythpgjeiglhdciaa.SN
open Go Go.RowKit Go.Proofs
/-- A list of bytes as a text. -/
def bst (l : Bs) : ByteArray := ⟨l.toArray⟩
theorem lst_bst (l : Bs) : lst (bst l) = l := by unfold lst bst; simp
theorem bst_lst (s : ByteArray) : bst (lst s) = s := by unfold lst bst; simp
theorem bst_nil : bst [] = { data := #[] } := rfl
theorem cut_bst {s : ByteArray} {a b : Nat} : s.extract a b = bst (((lst s).drop a).take (b - a)) := by
  apply ByteArray.ext
  apply Array.toList_inj.1
  unfold bst lst
  simp
theorem tR_def (s : Bs) (st : St) : tR s 160 st = if (uR s st).2.e ≠ 0 then ([], (uR s st).2)
  else if 160 < (uR s st).1 then ([], ⟨st.at', 2⟩)
  else if s.length - (uR s st).2.at' < (uR s st).1 then ([], ⟨st.at', 14⟩)
  else ((s.drop (uR s st).2.at').take (uR s st).1, ⟨(uR s st).2.at' + (uR s st).1, 0⟩) := rfl
set_option maxRecDepth 100000 in
set_option maxHeartbeats 1000000 in
theorem text_any {W : World} {q : Nat} {s : ByteArray} {st : St} (h : RD W q s st) (hs : s.size ≤ 140737488355328) (ha : st.at' ≤ s.size) :
    Calls Try.prog 46 #[.pointer (some ⟨q, 0, none⟩), .int .i64 160] W fun o w' => o = .returned (.string (bst (tR (lst s) 160 st).1)) ∧ Hid (RD w' q s (tR (lst s) 160 st).2 ∧ W.grownBy w' (some q)) := by
  have hu := uint_any h hs ha
  have hf := ((uR_good (lst s)).fwd st (by rw [lst_len]; exact ha)).2
  rw [lst_len] at hf
  obtain ⟨k0, k1, k2, f0, f1, f2⟩ := h.cells
  have hc := tR_def (lst s) st
  rw [lst_len] at hc
  obtain ⟨⟨u, ⟨a', e'⟩⟩, hr⟩ : ∃ r, uR (lst s) st = r := ⟨_, rfl⟩
  rw [hr] at hu hf hc
  simp only at hu hf hc
  have HU := Lib.hid hu
  clear h ha hu hr
  by_cases he : e' = 0
  · subst he
    rw [if_neg (by simp)] at hc
    by_cases hb : 160 < u
    · rw [if_pos hb] at hc
      have HC := Lib.hid hc
      have b1 : ((u : Int) > 160) = True := eq_true (by omega)
      have b0 : ((160 : Int) < 0) = False := eq_false (by omega)
      clear hc hb hf hs
      go_enter Try.func46, Try.ntmps46
      go_wp2_with (first
        | (go_at_call 49; refine (fail_any (H1.out.1.setA st.at') rfl 2).mono ?_; rintro e w2 ⟨rfl, H2⟩; obtain ⟨i0, i1, i2, _, _, _⟩ := H2.out.1.cells)
        | (go_at_call 44; refine HU.out.mono ?_; rintro e w1 ⟨rfl, H1⟩; obtain ⟨j0, j1, j2, g0, g1, g2⟩ := H1.out.1.cells))
      go_ret
      rw [HC.out]
      exact ⟨rfl, ⟨H2.out.1, grown_then H1.out.2 (grown_then (grown_set _ _ _ _) H2.out.2)⟩⟩
    · rw [if_neg hb] at hc
      have b1 : ((u : Int) > 160) = False := eq_false (by omega)
      have w1 : IntKind.i64.wrap ((s.size : Int) - (a' : Int)) = ((s.size - a' : Nat) : Int) := by
        have e : (s.size : Int) - (a' : Int) = ((s.size - a' : Nat) : Int) := by omega
        rw [e]
        exact IntWalk.i64_in _ (by omega)
      have w2 : IntKind.u64.wrap ((s.size - a' : Nat) : Int) = ((s.size - a' : Nat) : Int) := wraps_u64 _ (by omega) (by omega)
      have w3 : IntKind.i64.wrap (u : Int) = (u : Int) := IntWalk.i64_in _ (by omega)
      by_cases hl : s.size - a' < u
      · rw [if_pos hl] at hc
        have HC := Lib.hid hc
        have b2 : ((u : Int) > ((s.size - a' : Nat) : Int)) = True := eq_true (by omega)
        clear hc hb
        go_enter Try.func46, Try.ntmps46
        go_wp2_with (first
          | (go_at_call 44; refine HU.out.mono ?_; rintro e w1 ⟨rfl, H1⟩; obtain ⟨j0, j1, j2, g0, g1, g2⟩ := H1.out.1.cells))
        go_quiet (fail)
        go_wp2_with (go_at_call 49; refine (fail_any ((H1.out.1.drewN _).setA st.at') rfl 14).mono ?_; rintro e w2 ⟨rfl, H2⟩; obtain ⟨i0, i1, i2, _, _, _⟩ := H2.out.1.cells)
        go_ret
        rw [HC.out]
        exact ⟨rfl, ⟨H2.out.1, grown_then H1.out.2 (grown_dn (grown_then (grown_set _ _ _ _) H2.out.2))⟩⟩
      · rw [if_neg hl] at hc
        have HC := Lib.hid hc
        have b2 : ((u : Int) > ((s.size - a' : Nat) : Int)) = False := eq_false (by omega)
        obtain ⟨p, hp⟩ : ∃ p, p = a' + u := ⟨_, rfl⟩
        have w5 : (a' : Int) + (u : Int) = (p : Int) := by omega
        have w6 : IntKind.i64.wrap (p : Int) = (p : Int) := IntWalk.i64_in _ (by omega)
        have c1 : a' ≤ p := by omega
        have c2 : p ≤ s.size := by omega
        have HP := Lib.hid hp
        have HB : Hid (tR (lst s) 160 st = ((lst s).drop a' |>.take (p - a'), ⟨p, 0⟩)) := Lib.hid (by rw [HC.out, hp, Nat.add_sub_cancel_left])
        clear hp HC
        clear hc hb
        go_enter Try.func46, Try.ntmps46
        go_wp2_with (first
          | (go_at_call 44; refine HU.out.mono ?_; rintro e w1 ⟨rfl, H1⟩; obtain ⟨j0, j1, j2, g0, g1, g2⟩ := H1.out.1.cells))
        go_quiet (fail)
        go_wp2_with (fail)
        go_quiet (fail)
        go_wp2_with (fail)
        go_ret
        rw [HB.out, cut_bst]
        exact ⟨rfl, ⟨(H1.out.1.drewN _).setA p, grown_then H1.out.2 (grown_dn (grown_set _ _ _ _))⟩⟩
  · rw [if_pos he] at hc
    have HC := Lib.hid hc
    have b2 : (e' != 0) = true := by simpa using he
    clear hc he hf hs
    go_enter Try.func46, Try.ntmps46
    go_wp2_with (first
      | (go_at_call 44; refine HU.out.mono ?_; rintro e w1 ⟨rfl, H1⟩; obtain ⟨j0, j1, j2, g0, g1, g2⟩ := H1.out.1.cells))
    go_ret
    rw [HC.out]
    exact ⟨rfl, H1⟩
end Go.Proofs.Ythpgjeiglhdciaa.SN
