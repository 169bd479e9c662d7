/- Part 29 of the proof's texts: what the theorem needs of them. -/
import Derived.Test.YtoknlpecbdlbfaaSCOnce28
import Derived.Test.YtoknlpecbdlbfaaSCOnce15
import Derived.WalkKit
import Derived.ProofKit
import Derived.Deep.Slices
import Derived.SizedLaws
import Derived.Test.YtoknlpecbdlbfaaSCOnce24
import Derived.Test.YtoknlpecbdlbfaaSCOnce25

/- The plain law: All tells the list. -/
namespace Go.Proofs.Ytoknlpecbdlbfaa.PL
open Go Go.RowKit Go.Maps Go.Sort Go.Shelf Go.Proofs Go.Proofs.YtoknlpecbdlbfaaW.PrintWords Go.Proofs.YtoknlpecbdlbfaaW.PrintLast
def keysL (L : List S82) : List S42 := L.map (fun b => to42 b.f0)
theorem gL_none {L : List S82} {a : S42} (h : a ∉ keysL L) : gL L a = 0 := by
  induction L with
  | nil => rfl
  | cons b r ih =>
    simp only [keysL, List.map_cons, List.mem_cons, not_or] at h
    rw [gL_cons, if_neg (fun e => h.1 e.symm)]
    exact ih h.2
theorem gL_mem {L : List S82} (hu : Up L) {b : S82} (hb : b ∈ L) : gL L (to42 b.f0) = b.f1 := by
  induction L with
  | nil => cases hb
  | cons x r ih =>
    rw [gL_cons]
    rcases List.mem_cons.1 hb with rfl | hb
    · rw [if_pos rfl]
    · have h1 := (List.pairwise_cons.1 hu).1 b hb
      rw [if_neg (fun e => Bef.irrefl _ (by rw [e] at h1; exact h1))]
      exact ih (List.pairwise_cons.1 hu).2 hb
theorem asc_keys {L : List S82} (hu : Up L) : Asc (keysL L) := List.pairwise_map.2 hu
theorem asc_nodup {l : List S42} (h : Asc l) : l.Nodup := List.Pairwise.imp (R := Bef) (S := fun a b => a ≠ b) (fun {a b} hb e => Bef.irrefl a (by rw [← e] at hb; exact hb)) h
theorem asc_unique {l l' : List S42} (h : Asc l) (h' : Asc l') (hp : l.Perm l') : l = l' :=
  List.Perm.eq_of_pairwise (le := Bef) (fun a _ _ _ h1 h2 => absurd (h1.trans h2) (Bef.irrefl a)) h h' hp
theorem rep_keys {M : List (S42 × Int)} {L : List S82} (h : Rep M L) : (M.map Prod.fst).Perm (keysL L) := by
  refine (List.perm_ext_iff_of_nodup h.ok.nd (asc_nodup (asc_keys h.up))).2 fun a => ?_
  rw [h.ok.mem_iff, h.same]
  constructor
  · intro ha
    exact Classical.byContradiction fun hn => ha (gL_none hn)
  · intro ha
    obtain ⟨b, hb, rfl⟩ := List.mem_map.1 ha
    rw [gL_mem h.up hb]
    exact h.nz b hb
theorem rep_length {M : List (S42 × Int)} {L : List S82} (h : Rep M L) : M.length = L.length := by
  have := (rep_keys h).length_eq
  simpa [keysL] using this
/-- All tells just the list. -/
theorem rep_all {M : List (S42 × Int)} {L : List S82} (h : Rep M L) {ts : List S42} (hp : ts.Perm (M.map Prod.fst)) (ha : Asc ts) : ts.map (fun a => b82 a (getM M a)) = L := by
  have e : ts = keysL L := asc_unique ha (asc_keys h.up) (hp.trans (rep_keys h))
  rw [e]
  unfold keysL
  rw [List.map_map]
  have : ∀ b ∈ L, ((fun a => b82 a (getM M a)) ∘ fun b : S82 => to42 b.f0) b = b := by
    intro b hb
    simp only [Function.comp]
    rw [h.same, gL_mem h.up hb]
    rfl
  rw [List.map_congr_left this]
  simp
/-- All at a ledger that has what the list has. -/
theorem all_gives {g b : Nat} {M : List (S42 × Int)} {L : List S82} {w : World} (h : LG w g b M) (hr : Rep M L) (hs : L.length * 40 ≤ 140737488355328) : Gives 23 (.pointer (some ⟨g, 0, none⟩)) 44 w L := by
  unfold Gives
  refine (all_any h (by rw [rep_length hr]; exact hs)).mono ?_
  rintro o w' ⟨v, ts, rfl, hp, ha, hR, hb⟩
  rw [rep_all hr hp ha] at hR
  exact ⟨v, rfl, hR, hb⟩
end Go.Proofs.Ytoknlpecbdlbfaa.PL

/- The plain law: Held, Same, entries as plain functions. -/
namespace Go.Proofs.Ytoknlpecbdlbfaa.PL
open Go Go.RowKit Go.Maps Go.Sort Go.Shelf Go.Proofs Go.Proofs.YtoknlpecbdlbfaaW.PrintWords Go.Proofs.YtoknlpecbdlbfaaW.PrintLast
theorem same_l0 (L : List S82) (hL : L.length < 9223372036854775807) : ∀ (k i : Nat), L.length - i + 1 ≤ k → i ≤ L.length → lombardref11_Same.l0 k L L (i : Int) = some true
  | 0, _, hk, _ => by omega
  | k + 1, i, hk, hi => by
    unfold lombardref11_Same.l0
    by_cases h : i < L.length
    · have hw : wrap64 ((i : Int) + 1) = ((i + 1 : Nat) : Int) := by rw [wrap_id (by omega) (by omega)]; rfl
      rw [if_pos (by omega), if_pos (by omega), if_pos (by omega), hw]
      rw [if_neg (by simp)]
      exact same_l0 L hL k (i + 1) (by omega) (by omega)
    · rw [if_neg (by omega)]
theorem same_f (L : List S82) (hL : L.length < 9223372036854775807) : lombardref11_Same.f (L.length + 1) L L = some true := by
  unfold lombardref11_Same.f
  rw [if_pos rfl]
  exact same_l0 L hL _ 0 (by omega) (Nat.zero_le _)
end Go.Proofs.Ytoknlpecbdlbfaa.PL

/- The chapter's example. -/
namespace Go.Proofs.Ytoknlpecbdlbfaa.PL
open Go Go.RowKit Go.Maps Go.Sort Go.Shelf Go.Proofs Go.Proofs.YtoknlpecbdlbfaaW.PrintWords Go.Proofs.YtoknlpecbdlbfaaW.PrintLast
def tt : ByteArray := ⟨#[116]⟩
def ac (o : Int) : S42 := ⟨o, 0, tt⟩
end Go.Proofs.Ytoknlpecbdlbfaa.PL

/- A row of entries that is laid anew, read as entries; the example's two posts. -/
namespace Go.Proofs.Ytoknlpecbdlbfaa.PL
open Go Go.RowKit Go.Maps Go.Sort Go.Shelf Go.Proofs Go.Proofs.YtoknlpecbdlbfaaW.PrintWords Go.Proofs.YtoknlpecbdlbfaaW.PrintLast
/-- An entry's seven cells. -/
def c7 (e : S107) : List Value := [.int .i64 e.f0.f0, .int .i64 e.f0.f1, .string e.f0.f2, .int .i64 e.f1.f0, .int .i64 e.f1.f1, .string e.f1.f2, .int .i64 e.f2]
theorem len_c7 : ∀ l : List S107, (l.flatMap c7).length = l.length * 7
  | [] => rfl
  | e :: r => by
    rw [List.flatMap_cons, List.length_append, len_c7 r]
    simp only [c7, List.length_cons, List.length_nil]
    omega
theorem reps_c7 (w : World) (base : Nat) (ok : Nat → Prop) : ∀ ss : List S107, Reps (k107.M w base ok) 7 ss (ss.flatMap c7) := by
  intro ss
  refine ⟨len_c7 ss, ?_⟩
  induction ss with
  | nil => intro j p h; simp at h
  | cons a r ih =>
    intro j p h
    cases j with
    | zero =>
      simp at h
      subst h
      simp only [List.flatMap_cons, Nat.zero_mul, List.drop_zero]
      rw [List.take_append_of_le_length (by simp [c7])]
      exact k107_mkM w base ok a
    | succ j =>
      simp at h
      have e1 : (j + 1) * 7 = 7 + j * 7 := by omega
      have e2 : (List.flatMap c7 (a :: r)).drop ((j + 1) * 7) = (r.flatMap c7).drop (j * 7) := by
        rw [List.flatMap_cons, e1, ← List.drop_drop]
        rfl
      rw [e2]
      exact ih j p h
theorem C107_new (W : World) (l : List S107) (hl : l.length ≤ maxLen) : Kd.C k107 (W.alloc (.cells (l.flatMap c7).toArray 107)) (some ⟨W.heap.size, 0, none⟩) l.length l := by
  have ho : (W.alloc (.cells (l.flatMap c7).toArray 107)).ownsRow 0 107 7 (.slice (some ⟨W.heap.size, 0, none⟩) l.length l.length) l.length (l.flatMap c7) :=
    ⟨len_c7 l, .inr ⟨W.heap.size, l.length, (l.flatMap c7).toArray, rfl, Nat.zero_le _, (Go.MapKept.heap_alloc W _).1, Nat.le_refl _, hl, by rw [List.size_toArray, len_c7], by
      rw [List.toList_toArray, List.take_of_length_le (by rw [len_c7]; omega)]⟩⟩
  have hR : Kd.R k107 107 (W.alloc (.cells (l.flatMap c7).toArray 107)) 0 (fun _ => True) (.slice (some ⟨W.heap.size, 0, none⟩) l.length l.length) l := ⟨fun _ _ => trivial, _, ho, reps_c7 _ _ _ l⟩
  obtain ⟨A, c, he, _, hC⟩ := Kd.R_reads hR
  injection he with h1 h2 h3
  rw [h1]
  exact hC
theorem BM.nil : BM [] := fun a => ⟨by simp [getM], by simp [getM]⟩
end Go.Proofs.Ytoknlpecbdlbfaa.PL

/- awake: the chapter's example, its calls. -/
namespace Go.Proofs.Ytoknlpecbdlbfaa.PL
open Go Go.RowKit Go.Maps Go.Sort Go.Shelf Go.Proofs Go.Proofs.YtoknlpecbdlbfaaW.PrintWords Go.Proofs.YtoknlpecbdlbfaaW.PrintLast
/-- The example's map. -/
def MX : List (S42 × Int) := [(ac 0, -5), (ac 1, 2), (ac 2, 3)]
def acell (n : Int) : Obj := .cells #[.int .i64 n, .int .i64 0, .string ⟨#[116]⟩] 42
/-- a's and b's own cells, and the ledger. -/
structure AW (W : World) (g b k : Nat) : Prop where
  lg : LG W g b MX
  ha : W.heap[k]? = some (acell 1)
  hb : W.heap[k + 1]? = some (acell 2)
theorem AW.below {W W' : World} {g b k : Nat} (h : AW W g b k) (hb : Below W.heap.size W W') : AW W' g b k := by
  have h1 : k < W.heap.size := (Array.getElem?_eq_some_iff.1 h.ha).1
  have h2 : k + 1 < W.heap.size := (Array.getElem?_eq_some_iff.1 h.hb).1
  exact ⟨h.lg.below hb, (hb.block k h1).trans h.ha, (hb.block (k + 1) h2).trans h.hb⟩
/-- Cells of a and b. -/
def AC (W : World) (k : Nat) : Prop := (W.cell? ⟨k, 0, none⟩ = some (.int .i64 1) ∧ W.cell? ⟨k, 1, none⟩ = some (.int .i64 0) ∧ W.cell? ⟨k, 2, none⟩ = some (.string ⟨#[116]⟩)) ∧ (W.cell? ⟨k + 1, 0, none⟩ = some (.int .i64 2) ∧ W.cell? ⟨k + 1, 1, none⟩ = some (.int .i64 0) ∧ W.cell? ⟨k + 1, 2, none⟩ = some (.string ⟨#[116]⟩))
theorem AW.cells {W : World} {g b k : Nat} (h : AW W g b k) : AC W k := by
  have h1 := h.ha
  have h2 := h.hb
  unfold acell at h1 h2
  refine ⟨⟨?_, ?_, ?_⟩, ?_, ?_, ?_⟩ <;> simp [World.cell?, h1, h2]
end Go.Proofs.Ytoknlpecbdlbfaa.PL

/- What things the document's list has, as the program's compaction. -/
namespace Go.Proofs.Ytoknlpecbdlbfaa.PL
open Go Go.RowKit Go.Maps Go.Sort Go.Shelf Go.Proofs Go.Proofs.YtoknlpecbdlbfaaW.PrintWords Go.Proofs.YtoknlpecbdlbfaaW.PrintLast
theorem bl_inj {s t : ByteArray} (h : bl s = bl t) : s = t := by
  apply ByteArray.ext
  exact Array.toList_inj.1 h
theorem toList_iff (s t : ByteArray) : s.toList = t.toList ↔ s = t := by
  constructor
  · intro h
    rw [ByteArray.toList_eq, ByteArray.toList_eq] at h
    exact bl_inj h
  · rintro rfl; rfl
/-! How many balances there are. -/
theorem length_pstL : ∀ (x : List S107) (L0 : List S82) (n : Nat) (L : List S82) (c : Nat), L0.length ≤ c → L.length + 2 * x.length ≤ c → (pstL L0 n L x).1.length ≤ c
  | [], L0, n, L, c, _, h => by
    unfold pstL
    simpa using h
  | e :: r, L0, n, L, c, h0, h => by
    unfold pstL
    have hm := length_mvL L e
    simp only [List.length_cons] at h
    split
    · exact length_pstL r L0 (n + 1) (mvL L e).1 c h0 (by omega)
    · exact h0
end Go.Proofs.Ytoknlpecbdlbfaa.PL

/- Arguments that come in: slices of structs, and slices of these, read as rows. -/
namespace Go.Proofs.Ytoknlpecbdlbfaa.PL
open Go Go.RowKit Go.ChangeShapes Go.WideShapes Go.Deep Go.Proofs Go.Proofs.YtoknlpecbdlbfaaW.PrintWords Go.Proofs.YtoknlpecbdlbfaaW.PrintLast
/-- No part of the datum is greater than the form's reach. -/
def Small {H : Type} (t : TypeId) (d : DataW H) : Prop := ∀ m ∈ DataW.weights Try.prog t d, m ≤ reachBytes
theorem cells3' : Try.prog.cellsOf 3 = 1 := by kernel_rfl
theorem cells9' : Try.prog.cellsOf 9 = 1 := by kernel_rfl
/-- Argument j's datum is small. -/
theorem small_arg {H : Type} {ts : List TypeId} {ds : List (DataW H)} (hsz : (DataW.weightsEach Try.prog ts ds).all (· ≤ reachBytes) = true) {j : Nat} {t : TypeId} {d : DataW H} (ht : ts[j]? = some t) (hd : ds[j]? = some d) : Small t d := by
  intro m hm
  have := List.all_eq_true.1 hsz _ (DataW.weights_mem_each ht hd m hm)
  simpa using this
end Go.Proofs.Ytoknlpecbdlbfaa.PL

/- A post on both sides: the contracts as the laws' rounds want them. -/
namespace Go.Proofs.Ytoknlpecbdlbfaa.PL
open Go Go.RowKit Go.Maps Go.Sort Go.Shelf Go.Proofs Go.Proofs.YtoknlpecbdlbfaaW.PrintWords Go.Proofs.YtoknlpecbdlbfaaW.PrintLast
theorem C82_grown {w w' : World} {b : Nat} {A : Option Addr} {n : Nat} {l : List S82} (h : Kd.C k82 w A n l) (hg : w.grownBy w' (some b)) {M : List (S42 × Int)} (hb : LM w b M) : Kd.C k82 w' A n l := by
  obtain ⟨es, clock, hb, _⟩ := hb
  refine ⟨h.1, h.2.1, fun hn => ?_⟩
  obtain ⟨ad, e, hc⟩ := h.2.2 hn
  refine ⟨ad, e, fun j p hp => ?_⟩
  obtain ⟨cs, h1, h2, h3⟩ := hc j p hp
  refine ⟨cs, h1, ?_, fun i u hu => ?_⟩
  · obtain rfl := k82_open h2
    exact k82_mk _ _
  · have h4 := h3 i u hu
    have hne : (ad.add (j * k82.sz + i)).block ≠ b := by
      intro e
      unfold World.cell? at h4
      rw [e, hb] at h4
      cases h4
    exact (World.cell?_of_block (hg.block _ (World.block_lt_of_cell? w _ h4) (by simpa using hne))).trans h4
theorem same_any (A1 A2 : Option Addr) (c1 c2 : Nat) (L : List S82) (w : World) (h1 : Kd.C k82 w A1 L.length L) (h2 : L.length ≤ c1) (h3 : Kd.C k82 w A2 L.length L) (h4 : L.length ≤ c2) (hL : L.length ≤ 1000000) :
    Calls Try.prog 21 #[.slice A1 L.length c1, .slice A2 L.length c2] w fun e w' => e = .returned (.bool true) ∧ Below w.heap.size w w' :=
  (lombardref11_Same.calls _ A1 c1 L A2 c2 L true w h1 h2 h3 h4 (same_f L (by omega))).mono (fun _ _ h => ⟨h.1, h.2.below⟩)
theorem rpost_any (A B : Option Addr) (c d : Nat) (L : List S82) (xs : List S47) (w : World) (hC : Kd.C k82 w A L.length L) (hc : L.length ≤ c) (hX : Kd.C k47 w B xs.length xs) (hx : xs.length ≤ 4096) (hL : L.length ≤ 1000000) (R : List S82 × Int × Int) (hR : pstL L 0 L (xs.map toE) = R) :
    Calls Try.prog 18 #[.slice A L.length c, .slice B xs.length d] w fun o w' => ∃ (A' : Option Addr) (c' : Nat), o = .returned (.tuple #[.slice A' R.1.length c', .int .i64 R.2.1, .int .i64 R.2.2]) ∧ Hid (Kd.C k82 w' A' R.1.length R.1 ∧ R.1.length ≤ c' ∧ Below w.heap.size w w') :=
  (rpost_walk A B c d L xs w hC hc hX hx hL R hR).mono (fun _ _ ⟨A', c', h1, h2, h3, h4⟩ => ⟨A', c', h1, h2, h3, h4⟩)
theorem cell_keep {w w' : World} (h : Below w.heap.size w w') {p : Addr} {v : Value} (hc : w.cell? p = some v) : w'.cell? p = some v := (h.cell (World.block_lt_of_cell? w _ hc)).trans hc
end Go.Proofs.Ytoknlpecbdlbfaa.PL

-- Entries turned about take back what they did: the plain law.
namespace Go.Proofs.Ytoknlpecbdlbfaa.PL
open Go Go.RowKit Go.Maps Go.Sort Go.Shelf Go.Proofs Go.Proofs.YtoknlpecbdlbfaaW.PrintWords Go.Proofs.YtoknlpecbdlbfaaW.PrintLast
/-- None but the world has less than nothing. -/
def NN (M : List (S42 × Int)) : Prop := ∀ a, a.f0 ≠ 0 → 0 ≤ getM M a
/-- Two maps that have the same. -/
def Eqv (M M' : List (S42 × Int)) : Prop := ∀ a, getM M a = getM M' a
theorem Eqv.put {M M' : List (S42 × Int)} (h : Eqv M M') (a : S42) (n : Int) : Eqv (putM M a n) (putM M' a n) := by
  intro c
  rw [getM_putM, getM_putM, h c]
theorem NN.nil : NN [] := fun a _ => by simp [getM]
theorem NN.of {M M' : List (S42 × Int)} (h : NN M) (he : Eqv M' M) : NN M' := fun a ha => by rw [he a]; exact h a ha
theorem NN.put {M : List (S42 × Int)} (h : NN M) (a : S42) {n : Int} (hn : a.f0 ≠ 0 → 0 ≤ n) : NN (putM M a n) := by
  intro c hc
  rw [getM_putM]
  split
  · rename_i e
    subst e
    exact hn hc
  · exact h c hc
theorem Eqv.back (M : List (S42 × Int)) (a : S42) (m : Int) : Eqv (putM (putM M a (getM M a - m)) a (getM M a - m + m)) M := by
  intro c
  rw [getM_putM, getM_putM]
  split
  · rename_i e
    subst e
    omega
  · rfl
theorem NN.move {M : List (S42 × Int)} (h : NN M) (e : S107) : NN (moveM M e).1 := by
  unfold moveM
  split
  · exact h
  · rename_i hck
    have hck' := check_good (Classical.not_not.1 hck)
    split
    · exact h
    · rename_i hf
      split
      · exact h
      · split
        · exact h.of (Eqv.back M e.f0 e.f2)
        · have h1 : NN (putM M e.f0 (getM M e.f0 - e.f2)) := h.put _ (fun hz => by
            refine Classical.byContradiction fun hc => hf ⟨hz, ?_⟩
            omega)
          exact h1.put _ (fun hz => by have := h1 e.f1 hz; have := hck'.1; omega)
theorem getM_move {M : List (S42 × Int)} {e : S107} (h : (moveM M e).2 = 0) (a : S42) : getM (moveM M e).1 a = if a = e.f1 then (if e.f1 = e.f0 then getM M e.f0 else getM M e.f1 + e.f2) else if a = e.f0 then getM M e.f0 - e.f2 else getM M a := by
  rw [move_ok h, getM_putM, getM_putM, getM_putM]
  split
  · split
    · omega
    · rfl
  · rfl
/-- All entries are done. -/
def allOk (M : List (S42 × Int)) : List S107 → Prop
  | [] => True
  | e :: r => (moveM M e).2 = 0 ∧ allOk (moveM M e).1 r
/-- What they come to. -/
def fin (M : List (S42 × Int)) : List S107 → List (S42 × Int)
  | [] => M
  | e :: r => fin (moveM M e).1 r
theorem post_allOk : ∀ (l done : List S107) (M : List (S42 × Int)), (postL done M l).2.2 = 0 → allOk M l ∧ (postL done M l).1 = fin M l
  | [], _, _, _ => ⟨trivial, rfl⟩
  | e :: r, done, M, h => by
    unfold postL at h ⊢
    by_cases c : (moveM M e).2 = 0
    · rw [if_pos c] at h ⊢
      obtain ⟨h1, h2⟩ := post_allOk r (e :: done) _ h
      exact ⟨⟨c, h1⟩, h2⟩
    · rw [if_neg c] at h
      exact absurd h c
theorem fin_NN : ∀ (l : List S107) (M : List (S42 × Int)), NN M → NN (fin M l)
  | [], _, h => h
  | e :: r, _, h => fin_NN r _ (h.move e)
/-- A post that can't be done leaves the document's list. -/
theorem pst_fail : ∀ (x : List S107) (L0 : List S82) (n : Nat) (L : List S82), (pstL L0 n L x).2.2 ≠ 0 → (pstL L0 n L x).1 = L0
  | [], L0, n, L, h => by
    unfold pstL at h
    exact absurd rfl h
  | e :: r, L0, n, L, h => by
    unfold pstL at h ⊢
    by_cases c : (mvL L e).2 = 0
    · rw [if_pos c] at h ⊢
      exact pst_fail r L0 (n + 1) _ h
    · rw [if_neg c]
/-- NN holds behind every post. -/
theorem NN.post {M : List (S42 × Int)} {L : List S82} (hr : Rep M L) (hB : BM M) (hn : NN M) (l : List S107) : NN (postL [] M l).1 := by
  obtain ⟨e1, e2, e3, e4⟩ := rep_post0 hr hB l
  by_cases c : (postL [] M l).2.2 = 0
  · rw [(post_allOk l [] M c).2]
    exact fin_NN l M hn
  · rw [e2] at c
    have h1 := pst_fail l L 0 L c
    rw [h1] at e3
    refine hn.of (fun a => ?_)
    rw [e3.same, hr.same]
end Go.Proofs.Ytoknlpecbdlbfaa.PL

-- LedgerBack, walked.
namespace Go.Proofs.Ytoknlpecbdlbfaa.PL
open Go Go.RowKit Go.Maps Go.Sort Go.Shelf Go.Proofs Go.Proofs.YtoknlpecbdlbfaaW.PrintWords Go.Proofs.YtoknlpecbdlbfaaW.PrintLast
theorem info47 : (Try.prog.info? 47).map (fun i => (i.zero, i.size, i.bytes)) = some (some (.agg #[(.int .i64 0), (.int .i64 0), (.string ⟨#[]⟩), (.int .i64 0), (.int .i64 0), (.string ⟨#[]⟩), (.int .i64 0)]), 7, 72) := by kernel_rfl
/-- A map, the document's list, and what is known of both. -/
structure St (M : List (S42 × Int)) (L : List S82) : Prop where
  rep : Rep M L
  bm : BM M
  nn : NN M
theorem St.nil : St [] [] := ⟨Rep.nil, BM.nil, NN.nil⟩
theorem St.post {M : List (S42 × Int)} {L : List S82} (h : St M L) (l : List S107) : St (postL [] M l).1 (pstL L 0 L l).1 := by
  obtain ⟨e1, e2, e3, e4⟩ := rep_post0 h.rep h.bm l
  exact ⟨e3, e4, h.nn.post h.rep h.bm l⟩
theorem St.fail {M : List (S42 × Int)} {L : List S82} (h : St M L) (l : List S107) (hf : (postL [] M l).2.2 ≠ 0) : Rep (postL [] M l).1 L := by
  obtain ⟨e1, e2, e3, e4⟩ := rep_post0 h.rep h.bm l
  rw [e2] at hf
  rw [pst_fail l L 0 L hf] at e3
  exact e3
/-- What is told at the end: the ledger, its two clones, and what was told before. -/
structure XS (w : World) (g b gy by' gz bz : Nat) (Mx My Mz : List (S42 × Int)) (L1 L2 : List S82) (A1 A2 : Option Addr) (c1 c2 : Nat) (W : World) : Prop where
  x : LG W g b Mx
  y : LG W gy by' My
  z : LG W gz bz Mz
  rx : Rep Mx L1
  ry : Rep My L1
  rz : Rep Mz L2
  l1 : L1.length ≤ 1000000
  l2 : L2.length ≤ 1000000
  was : Kd.C k82 W A1 L1.length L1
  cw : L1.length ≤ c1
  now : Kd.C k82 W A2 L2.length L2
  cn : L2.length ≤ c2
  bl : Below w.heap.size w W
theorem XS.step {w : World} {g b gy by' gz bz : Nat} {Mx My Mz : List (S42 × Int)} {L1 L2 : List S82} {A1 A2 : Option Addr} {c1 c2 : Nat} {W W' : World} (h : XS w g b gy by' gz bz Mx My Mz L1 L2 A1 A2 c1 c2 W) (hb : Below W.heap.size W W') : XS w g b gy by' gz bz Mx My Mz L1 L2 A1 A2 c1 c2 W' :=
  ⟨h.x.below hb, h.y.below hb, h.z.below hb, h.rx, h.ry, h.rz, h.l1, h.l2, Kd.C_below h.was hb, h.cw, Kd.C_below h.now hb, h.cn, h.bl.trans (hb.mono h.bl.size)⟩
end Go.Proofs.Ytoknlpecbdlbfaa.PL

-- Custody: New, made, Bring, walked.
namespace Go.Proofs.Ytoknlpecbdlbfaa.PL
open Go Go.RowKit Go.Maps Go.Sort Go.Shelf Go.Proofs Go.Proofs.YtoknlpecbdlbfaaW.PrintWords Go.Proofs.YtoknlpecbdlbfaaW.PrintLast
/-- Block p holds a Custody over the ledger at g. -/
structure CU (w : World) (p g b : Nat) (M : List (S42 × Int)) : Prop where
  blk : w.heap[p]? = some (.cells #[.pointer (some ⟨g, 0, none⟩)] 102 (0, 0))
  lg : LG w g b M
theorem CU.cell {w : World} {p g b : Nat} {M : List (S42 × Int)} (h : CU w p g b M) : w.cell? ⟨p, 0, none⟩ = some (.pointer (some ⟨g, 0, none⟩)) := by
  unfold World.cell?
  rw [h.blk]
  rfl
theorem CU.lt {w : World} {p g b : Nat} {M : List (S42 × Int)} (h : CU w p g b M) : p < w.heap.size := (Array.getElem?_eq_some_iff.1 h.blk).1
theorem CU.ne {w : World} {p g b : Nat} {M : List (S42 × Int)} (h : CU w p g b M) : p ≠ b := fun e => by
  obtain ⟨es, clock, hb, _⟩ := h.lg.map
  have h1 := h.blk
  rw [e, hb] at h1
  cases h1
theorem CU.below {w w' : World} {p g b : Nat} {M : List (S42 × Int)} (h : CU w p g b M) (hb : Below w.heap.size w w') : CU w' p g b M := ⟨(hb.block p h.lt).trans h.blk, h.lg.below hb⟩
theorem CU.turn {w w' : World} {p g b : Nat} {M M' : List (S42 × Int)} (h : CU w p g b M) (hg : w.grownBy w' (some b)) (hl : LG w' g b M') : CU w' p g b M' := ⟨(hg.block p h.lt (by simpa using h.ne)).trans h.blk, hl⟩
set_option maxRecDepth 100000 in
theorem cmade_any {w : World} {p g b : Nat} {M : List (S42 × Int)} (h : CU w p g b M) : Calls Try.prog 74 #[.pointer (some ⟨p, 0, none⟩)] w fun e w' => e = .returned (.bool true) ∧ w = w' := by
  have hc := h.cell
  clear h
  go_enter Try.func74, Try.ntmps74
  go_wp2
  go_ret
  exact ⟨rfl, rfl⟩
/-- p is no Custody in w. -/
def NoCU (w : World) (p : Value) : Prop := p = .pointer none ∨ ∃ q : Nat, p = .pointer (some ⟨q, 0, none⟩) ∧ w.cell? ⟨q, 0, none⟩ = some (.pointer none)
theorem NoCU.below {w w' : World} {p : Value} (h : NoCU w p) (hb : Below w.heap.size w w') : NoCU w' p := by
  rcases h with rfl | ⟨g, rfl, hc⟩
  · exact .inl rfl
  · exact .inr ⟨g, rfl, cell_keep hb hc⟩
set_option maxRecDepth 100000 in
theorem cnew_any (w : World) : Calls Try.prog 34 #[] w fun e w' => ∃ p g b, e = .returned (.pointer (some ⟨p, 0, none⟩)) ∧ Hid (CU w' p g b [] ∧ Below w.heap.size w w' ∧ w.heap.size ≤ b ∧ w.heap.size ≤ p ∧ w.heap.size ≤ g) := by
  go_enter Try.func34, Try.ntmps34
  go_wp2_with (go_at_call 17; refine (new_any _).mono ?_; rintro e w1 ⟨rfl, H1⟩; replace H1 := Lib.hid H1)
  go_ret
  have hb : Below w1.heap.size w1 (w1.alloc (.cells #[.pointer (some ⟨w.heap.size + 1, 0, none⟩)] 102)) := (Below.refl _ _).alloc (Nat.le_refl _) _
  exact ⟨w1.heap.size, w.heap.size + 1, w.heap.size, rfl, ⟨⟨(Go.MapKept.heap_alloc w1 _).1, H1.out.1.below hb⟩, H1.out.2.trans (hb.mono H1.out.2.size), Nat.le_refl _, H1.out.2.size, by omega⟩⟩
/-- No such member, or book. -/
def wrB (m b : Int) : Bool := decide (m < 1 ∨ 32 < m ∨ b < 1 ∨ 4 < b)
theorem wr_f (m b : Int) : custody_wrong.f m b = some (wrB m b) := by
  unfold custody_wrong.f wrB
  by_cases h1 : m < 1
  · rw [if_pos h1]; simp [h1]
  · rw [if_neg h1]
    by_cases h2 : m > 32
    · rw [if_pos h2]
      congr 1
      exact (decide_eq_true (by omega)).symm
    · rw [if_neg h2]
      by_cases h3 : b < 1
      · rw [if_pos h3]; simp [h3]
      · rw [if_neg h3]
        congr 1
        exact decide_eq_decide.2 (by omega)
theorem wr_any (m b : Int) (w : World) : Calls Try.prog 75 #[.int .i64 m, .int .i64 b] w fun e w' => e = .returned (.bool (wrB m b)) ∧ Below w.heap.size w w' :=
  (custody_wrong.calls m b _ w (wr_f m b)).mono (fun _ _ h => ⟨h.1, h.2.below⟩)
theorem acc_any (m b : Int) (t : ByteArray) (w : World) : Calls Try.prog 76 #[.int .i64 m, .int .i64 b, .string t] w fun e w' => e = .returned (.agg #[.int .i64 m, .int .i64 b, .string t]) ∧ Below w.heap.size w w' :=
  custody_account.calls m b t m b t w rfl
/-- A post of one entry that has just been laid. -/
theorem post_one {W : World} {g b : Nat} {M : List (S42 × Int)} (h : LG W g b M) (hB : BM M) (hm : M.length ≤ 1000000000) (e : S107) :
    Calls Try.prog 19 #[.pointer (some ⟨g, 0, none⟩), .slice (some ⟨W.heap.size, 0, none⟩) 1 1] (W.alloc (.cells #[.int .i64 e.f0.f0, .int .i64 e.f0.f1, .string e.f0.f2, .int .i64 e.f1.f0, .int .i64 e.f1.f1, .string e.f1.f2, .int .i64 e.f2] 107)) fun o w' => o = .returned (.tuple #[.int .i64 (postL [] M [e]).2.1, .int .i64 (postL [] M [e]).2.2]) ∧ Hid (LG w' g b (postL [] M [e]).1 ∧ W.grownBy w' (some b)) := by
  have hb : Below W.heap.size W (W.alloc (.cells ([e].flatMap c7).toArray 107)) := (Below.refl _ _).alloc (Nat.le_refl _) _
  have h1 := post_any (h.below hb) hB (some ⟨W.heap.size, 0, none⟩) 1 [e] (C107_new W _ (by unfold maxLen; simp)) (by simp) (by unfold maxLen; simp; omega)
  exact h1.mono (fun _ w' ⟨a, b, c⟩ => ⟨a, b, grown_box0 _ c⟩)
/-- What Bring posts. -/
def brE (m : Int) (t : ByteArray) (q : Int) : S107 := if q < 0 then ⟨⟨m, 1, t⟩, ⟨0, 0, t⟩, -q⟩ else ⟨⟨0, 0, t⟩, ⟨m, 1, t⟩, q⟩
/-- Bring. -/
def brL (M : List (S42 × Int)) (m : Int) (t : ByteArray) (q : Int) : List (S42 × Int) × Int := if wrB m 1 = true then (M, 22) else if q < -1125899906842624 then (M, 1) else ((postL [] M [brE m t q]).1, (postL [] M [brE m t q]).2.2)
set_option maxRecDepth 100000 in
set_option maxHeartbeats 1000000 in
theorem bring_any {w : World} {p g b : Nat} {M : List (S42 × Int)} (h : CU w p g b M) (hB : BM M) (hm : M.length ≤ 1000000000) (m q : Int) (t : ByteArray) :
    Calls Try.prog 42 #[.pointer (some ⟨p, 0, none⟩), .int .i64 m, .string t, .int .i64 q] w fun e w' => e = .returned (.int .i64 (brL M m t q).2) ∧ Hid (CU w' p g b (brL M m t q).1 ∧ w.grownBy w' (some b)) := by
  have hnone : ∀ w', Below w.heap.size w w' → w.grownBy w' (some b) := fun w' hb => ⟨hb.os, hb.tape, hb.output, hb.size, fun k hk _ => hb.block k hk⟩
  cases hw : wrB m 1 with
  | true =>
    have HWR := Lib.hid (show ∀ W, Calls Try.prog 75 #[.int .i64 m, .int .i64 1] W fun e w' => e = .returned (.bool true) ∧ Below W.heap.size W w' from fun W => by rw [← hw]; exact wr_any m 1 W)
    have HU := Lib.hid h
    have hr : brL M m t q = (M, 22) := by unfold brL; rw [if_pos hw]
    have HN := Lib.hid hnone
    rw [hr]
    clear h hw hnone hr
    go_enter Try.func42, Try.ntmps42
    go_wp2_with (first
      | (go_at_call 75; refine (HWR.out _).mono ?_; rintro e w2 ⟨rfl, H2⟩; replace H2 := Lib.hid H2)
      | (go_at_call 74; refine (cmade_any HU.out).mono ?_; rintro e w1 ⟨rfl, rfl⟩))
    go_ret
    exact ⟨rfl, ⟨HU.out.below H2.out, HN.out _ H2.out⟩⟩
  | false =>
    have HWR := Lib.hid (show ∀ W, Calls Try.prog 75 #[.int .i64 m, .int .i64 1] W fun e w' => e = .returned (.bool false) ∧ Below W.heap.size W w' from fun W => by rw [← hw]; exact wr_any m 1 W)
    have HU := Lib.hid h
    have HN := Lib.hid hnone
    have HBM := Lib.hid (And.intro hB hm)
    by_cases c1 : q < 0
    · have f1 : (q < 0) = True := eq_true c1
      by_cases c2 : q < -1125899906842624
      · have f2 : (q < -1125899906842624) = True := eq_true c2
        have hr : brL M m t q = (M, 1) := by unfold brL; rw [if_neg (by rw [hw]; simp), if_pos c2]
        rw [hr]
        clear h hw hnone hr c1 c2
        go_enter Try.func42, Try.ntmps42
        go_wp2_with (first
          | (go_at_call 76; refine (acc_any _ _ _ _).mono ?_; rintro e w3 ⟨rfl, H3⟩; replace H3 := Lib.hid H3)
          | (go_at_call 75; refine (HWR.out _).mono ?_; rintro e w2 ⟨rfl, H2⟩; replace H2 := Lib.hid H2)
          | (go_at_call 74; refine (cmade_any HU.out).mono ?_; rintro e w1 ⟨rfl, rfl⟩))
        go_ret
        have hb := (H2.out.trans (H3.out.mono H2.out.size)).alloc (Nat.le_trans H2.out.size H3.out.size) (.cells #[.int .i64 0, .int .i64 0, .string t, .int .i64 m, .int .i64 1, .string t, .int .i64 q] 107)
        exact ⟨rfl, ⟨HU.out.below hb, HN.out _ hb⟩⟩
      · have f2 : (q < -1125899906842624) = False := eq_false c2
        have hr : brL M m t q = ((postL [] M [⟨⟨m, 1, t⟩, ⟨0, 0, t⟩, -q⟩]).1, (postL [] M [⟨⟨m, 1, t⟩, ⟨0, 0, t⟩, -q⟩]).2.2) := by unfold brL brE; rw [if_neg (by rw [hw]; simp), if_neg c2, if_pos c1]
        have hneg : wrap64 (-q) = -q := wrap_id (by omega) (by omega)
        rw [hr]
        obtain ⟨⟨M', n', f'⟩, hR⟩ : ∃ R, postL [] M [⟨⟨m, 1, t⟩, ⟨0, 0, t⟩, -q⟩] = R := ⟨_, rfl⟩
        have HPO := Lib.hid (show ∀ W, LG W g b M → Calls Try.prog 19 #[.pointer (some ⟨g, 0, none⟩), .slice (some ⟨W.heap.size, 0, none⟩) 1 1] (W.alloc (.cells #[.int .i64 m, .int .i64 1, .string t, .int .i64 0, .int .i64 0, .string t, .int .i64 (-q)] 107)) fun o w' => o = .returned (.tuple #[.int .i64 n', .int .i64 f']) ∧ Hid (LG w' g b M' ∧ W.grownBy w' (some b)) from fun W hL => by
          have h9 := post_one hL HBM.out.1 HBM.out.2 ⟨⟨m, 1, t⟩, ⟨0, 0, t⟩, -q⟩
          rw [hR] at h9
          exact h9)
        rw [hR]
        clear h hw hnone hr c1 c2 hR
        go_enter Try.func42, Try.ntmps42
        go_wp2_with (first
          | (go_at_call 76; refine (acc_any _ _ _ _).mono ?_; rintro e w3 ⟨rfl, H3⟩; replace H3 := Lib.hid H3)
          | (go_at_call 75; refine (HWR.out _).mono ?_; rintro e w2 ⟨rfl, H2⟩; replace H2 := Lib.hid H2)
          | (go_at_call 74; refine (cmade_any HU.out).mono ?_; rintro e w1 ⟨rfl, rfl⟩))
        obtain ⟨W, hW⟩ : ∃ W, W = w3.alloc (.cells #[.int .i64 m, .int .i64 1, .string t, .int .i64 0, .int .i64 0, .string t, .int .i64 (-q)] 107) := ⟨_, rfl⟩
        have hb := (H2.out.trans (H3.out.mono H2.out.size)).alloc (Nat.le_trans H2.out.size H3.out.size) (.cells #[.int .i64 m, .int .i64 1, .string t, .int .i64 0, .int .i64 0, .string t, .int .i64 (-q)] 107)
        rw [← hW] at hb
        have k0 : W.cell? ⟨w3.heap.size, 0, none⟩ = some (.int .i64 m) := by rw [hW]; simp
        have k1 : W.cell? ⟨w3.heap.size, 1, none⟩ = some (.int .i64 1) := by rw [hW]; simp
        have k2 : W.cell? ⟨w3.heap.size, 2, none⟩ = some (.string t) := by rw [hW]; simp
        have k3 : W.cell? ⟨w3.heap.size, 3, none⟩ = some (.int .i64 0) := by rw [hW]; simp
        have k4 : W.cell? ⟨w3.heap.size, 4, none⟩ = some (.int .i64 0) := by rw [hW]; simp
        have k5 : W.cell? ⟨w3.heap.size, 5, none⟩ = some (.string t) := by rw [hW]; simp
        have k6 : W.cell? ⟨w3.heap.size, 6, none⟩ = some (.int .i64 (-q)) := by rw [hW]; simp
        rw [← hW]
        have hcu := HU.out.below hb
        have kc := hcu.cell
        have HCU := Lib.hid (And.intro hcu hb)
        clear hW hb hcu
        have hGb : w3.heap.size ≠ b := by
          have h9 := (HU.out.below H2.out).below H3.out
          have := h9.lg.map.lt
          omega
        have hGl : w3.heap.size < W.heap.size := World.block_lt_of_cell? W _ k0
        generalize w3.heap.size = G at k0 k1 k2 k3 k4 k5 k6 hGb hGl ⊢
        have hSD : W.drew.cell? ⟨p, 0, none⟩ = some (.pointer (some ⟨g, 0, none⟩)) ∧ W.drew.cell? ⟨G, 0, none⟩ = some (.int .i64 m) ∧ W.drew.cell? ⟨G, 1, none⟩ = some (.int .i64 1) ∧ W.drew.cell? ⟨G, 2, none⟩ = some (.string t) ∧ W.drew.cell? ⟨G, 3, none⟩ = some (.int .i64 0) ∧ W.drew.cell? ⟨G, 4, none⟩ = some (.int .i64 0) ∧ W.drew.cell? ⟨G, 5, none⟩ = some (.string t) ∧ W.drew.cell? ⟨G, 6, none⟩ = some (.int .i64 (-q)) := ⟨kc, k0, k1, k2, k3, k4, k5, k6⟩
        have HSA := Lib.hid (show ∀ (w' : World) (o : Obj), (w'.cell? ⟨p, 0, none⟩ = some (.pointer (some ⟨g, 0, none⟩)) ∧ w'.cell? ⟨G, 0, none⟩ = some (.int .i64 m) ∧ w'.cell? ⟨G, 1, none⟩ = some (.int .i64 1) ∧ w'.cell? ⟨G, 2, none⟩ = some (.string t) ∧ w'.cell? ⟨G, 3, none⟩ = some (.int .i64 0) ∧ w'.cell? ⟨G, 4, none⟩ = some (.int .i64 0) ∧ w'.cell? ⟨G, 5, none⟩ = some (.string t) ∧ w'.cell? ⟨G, 6, none⟩ = some (.int .i64 (-q))) → ((w'.alloc o).cell? ⟨p, 0, none⟩ = some (.pointer (some ⟨g, 0, none⟩)) ∧ (w'.alloc o).cell? ⟨G, 0, none⟩ = some (.int .i64 m) ∧ (w'.alloc o).cell? ⟨G, 1, none⟩ = some (.int .i64 1) ∧ (w'.alloc o).cell? ⟨G, 2, none⟩ = some (.string t) ∧ (w'.alloc o).cell? ⟨G, 3, none⟩ = some (.int .i64 0) ∧ (w'.alloc o).cell? ⟨G, 4, none⟩ = some (.int .i64 0) ∧ (w'.alloc o).cell? ⟨G, 5, none⟩ = some (.string t) ∧ (w'.alloc o).cell? ⟨G, 6, none⟩ = some (.int .i64 (-q))) from fun w' o ⟨s0, s1, s2, s3, s4, s5, s6, s7⟩ =>
          ⟨cell_keep ((Below.refl _ _).alloc (Nat.le_refl _) _) s0, cell_keep ((Below.refl _ _).alloc (Nat.le_refl _) _) s1, cell_keep ((Below.refl _ _).alloc (Nat.le_refl _) _) s2, cell_keep ((Below.refl _ _).alloc (Nat.le_refl _) _) s3, cell_keep ((Below.refl _ _).alloc (Nat.le_refl _) _) s4, cell_keep ((Below.refl _ _).alloc (Nat.le_refl _) _) s5, cell_keep ((Below.refl _ _).alloc (Nat.le_refl _) _) s6, cell_keep ((Below.refl _ _).alloc (Nat.le_refl _) _) s7⟩)
        have HSG := Lib.hid (show ∀ w5 : World, LG w5 g b M' → W.drew.grownBy w5 (some b) → (w5.cell? ⟨p, 0, none⟩ = some (.pointer (some ⟨g, 0, none⟩)) ∧ w5.cell? ⟨G, 0, none⟩ = some (.int .i64 m) ∧ w5.cell? ⟨G, 1, none⟩ = some (.int .i64 1) ∧ w5.cell? ⟨G, 2, none⟩ = some (.string t) ∧ w5.cell? ⟨G, 3, none⟩ = some (.int .i64 0) ∧ w5.cell? ⟨G, 4, none⟩ = some (.int .i64 0) ∧ w5.cell? ⟨G, 5, none⟩ = some (.string t) ∧ w5.cell? ⟨G, 6, none⟩ = some (.int .i64 (-q))) from fun w5 hl hg => by
          have h8 := hg.block G hGl (by simpa using hGb)
          have hcd : CU W.drew p g b M := ⟨HCU.out.1.blk, HCU.out.1.lg.blk, HCU.out.1.lg.map.move rfl⟩
          exact ⟨(hcd.turn hg hl).cell, (World.cell?_of_block (a := ⟨G, 0, none⟩) h8).trans k0, (World.cell?_of_block (a := ⟨G, 1, none⟩) h8).trans k1, (World.cell?_of_block (a := ⟨G, 2, none⟩) h8).trans k2, (World.cell?_of_block (a := ⟨G, 3, none⟩) h8).trans k3, (World.cell?_of_block (a := ⟨G, 4, none⟩) h8).trans k4, (World.cell?_of_block (a := ⟨G, 5, none⟩) h8).trans k5, (World.cell?_of_block (a := ⟨G, 6, none⟩) h8).trans k6⟩)
        clear k0 k1 k2 k3 k4 k5 k6 kc hGb hGl
        go_region_held3 (fun w' => w'.cell? ⟨p, 0, none⟩ = some (.pointer (some ⟨g, 0, none⟩)) ∧ w'.cell? ⟨G, 0, none⟩ = some (.int .i64 m) ∧ w'.cell? ⟨G, 1, none⟩ = some (.int .i64 1) ∧ w'.cell? ⟨G, 2, none⟩ = some (.string t) ∧ w'.cell? ⟨G, 3, none⟩ = some (.int .i64 0) ∧ w'.cell? ⟨G, 4, none⟩ = some (.int .i64 0) ∧ w'.cell? ⟨G, 5, none⟩ = some (.string t) ∧ w'.cell? ⟨G, 6, none⟩ = some (.int .i64 (-q)))
          (first | assumption | exact HSA.out _ _ (by assumption))
          (first | (go_at_call 19; refine (HPO.out W.drew ⟨HCU.out.1.lg.blk, HCU.out.1.lg.map.move rfl⟩).mono ?_; rintro e w5 ⟨rfl, H5⟩; have kk := HSG.out w5 H5.out.1 H5.out.2))
        go_wp2
        go_ret
        have hcd : CU W.drew p g b M := ⟨HCU.out.1.blk, HCU.out.1.lg.blk, HCU.out.1.lg.map.move rfl⟩
        have hgd := HN.out _ HCU.out.2.drew
        exact ⟨rfl, ⟨hcd.turn H5.out.2 H5.out.1, hgd.andThen H5.out.2 (fun _ hj => .inr hj)⟩⟩
    · have f1 : (q < 0) = False := eq_false c1
      have hr : brL M m t q = ((postL [] M [⟨⟨0, 0, t⟩, ⟨m, 1, t⟩, q⟩]).1, (postL [] M [⟨⟨0, 0, t⟩, ⟨m, 1, t⟩, q⟩]).2.2) := by unfold brL brE; rw [if_neg (by rw [hw]; simp), if_neg (by omega), if_neg c1]
      rw [hr]
      obtain ⟨⟨M', n', f'⟩, hR⟩ : ∃ R, postL [] M [⟨⟨0, 0, t⟩, ⟨m, 1, t⟩, q⟩] = R := ⟨_, rfl⟩
      have HPO := Lib.hid (show ∀ W, LG W g b M → Calls Try.prog 19 #[.pointer (some ⟨g, 0, none⟩), .slice (some ⟨W.heap.size, 0, none⟩) 1 1] (W.alloc (.cells #[.int .i64 0, .int .i64 0, .string t, .int .i64 m, .int .i64 1, .string t, .int .i64 q] 107)) fun o w' => o = .returned (.tuple #[.int .i64 n', .int .i64 f']) ∧ Hid (LG w' g b M' ∧ W.grownBy w' (some b)) from fun W hL => by
        have h9 := post_one hL HBM.out.1 HBM.out.2 ⟨⟨0, 0, t⟩, ⟨m, 1, t⟩, q⟩
        rw [hR] at h9
        exact h9)
      rw [hR]
      clear h hw hnone hr c1 hR
      go_enter Try.func42, Try.ntmps42
      go_wp2_with (first
        | (go_at_call 76; refine (acc_any _ _ _ _).mono ?_; rintro e w3 ⟨rfl, H3⟩; replace H3 := Lib.hid H3)
        | (go_at_call 75; refine (HWR.out _).mono ?_; rintro e w2 ⟨rfl, H2⟩; replace H2 := Lib.hid H2)
        | (go_at_call 74; refine (cmade_any HU.out).mono ?_; rintro e w1 ⟨rfl, rfl⟩))
      obtain ⟨W, hW⟩ : ∃ W, W = w3.alloc (.cells #[.int .i64 0, .int .i64 0, .string t, .int .i64 m, .int .i64 1, .string t, .int .i64 q] 107) := ⟨_, rfl⟩
      have hb := (H2.out.trans (H3.out.mono H2.out.size)).alloc (Nat.le_trans H2.out.size H3.out.size) (.cells #[.int .i64 0, .int .i64 0, .string t, .int .i64 m, .int .i64 1, .string t, .int .i64 q] 107)
      rw [← hW] at hb
      have k0 : W.cell? ⟨w3.heap.size, 0, none⟩ = some (.int .i64 0) := by rw [hW]; simp
      have k1 : W.cell? ⟨w3.heap.size, 1, none⟩ = some (.int .i64 0) := by rw [hW]; simp
      have k2 : W.cell? ⟨w3.heap.size, 2, none⟩ = some (.string t) := by rw [hW]; simp
      have k3 : W.cell? ⟨w3.heap.size, 3, none⟩ = some (.int .i64 m) := by rw [hW]; simp
      have k4 : W.cell? ⟨w3.heap.size, 4, none⟩ = some (.int .i64 1) := by rw [hW]; simp
      have k5 : W.cell? ⟨w3.heap.size, 5, none⟩ = some (.string t) := by rw [hW]; simp
      have k6 : W.cell? ⟨w3.heap.size, 6, none⟩ = some (.int .i64 q) := by rw [hW]; simp
      rw [← hW]
      have hcu := HU.out.below hb
      have kc := hcu.cell
      have HCU := Lib.hid (And.intro hcu hb)
      clear hW hb hcu
      have hGb : w3.heap.size ≠ b := by
        have h9 := (HU.out.below H2.out).below H3.out
        have := h9.lg.map.lt
        omega
      have hGl : w3.heap.size < W.heap.size := World.block_lt_of_cell? W _ k0
      generalize w3.heap.size = G at k0 k1 k2 k3 k4 k5 k6 hGb hGl ⊢
      have hSD : W.drew.cell? ⟨p, 0, none⟩ = some (.pointer (some ⟨g, 0, none⟩)) ∧ W.drew.cell? ⟨G, 0, none⟩ = some (.int .i64 0) ∧ W.drew.cell? ⟨G, 1, none⟩ = some (.int .i64 0) ∧ W.drew.cell? ⟨G, 2, none⟩ = some (.string t) ∧ W.drew.cell? ⟨G, 3, none⟩ = some (.int .i64 m) ∧ W.drew.cell? ⟨G, 4, none⟩ = some (.int .i64 1) ∧ W.drew.cell? ⟨G, 5, none⟩ = some (.string t) ∧ W.drew.cell? ⟨G, 6, none⟩ = some (.int .i64 q) := ⟨kc, k0, k1, k2, k3, k4, k5, k6⟩
      have HSA := Lib.hid (show ∀ (w' : World) (o : Obj), (w'.cell? ⟨p, 0, none⟩ = some (.pointer (some ⟨g, 0, none⟩)) ∧ w'.cell? ⟨G, 0, none⟩ = some (.int .i64 0) ∧ w'.cell? ⟨G, 1, none⟩ = some (.int .i64 0) ∧ w'.cell? ⟨G, 2, none⟩ = some (.string t) ∧ w'.cell? ⟨G, 3, none⟩ = some (.int .i64 m) ∧ w'.cell? ⟨G, 4, none⟩ = some (.int .i64 1) ∧ w'.cell? ⟨G, 5, none⟩ = some (.string t) ∧ w'.cell? ⟨G, 6, none⟩ = some (.int .i64 q)) → ((w'.alloc o).cell? ⟨p, 0, none⟩ = some (.pointer (some ⟨g, 0, none⟩)) ∧ (w'.alloc o).cell? ⟨G, 0, none⟩ = some (.int .i64 0) ∧ (w'.alloc o).cell? ⟨G, 1, none⟩ = some (.int .i64 0) ∧ (w'.alloc o).cell? ⟨G, 2, none⟩ = some (.string t) ∧ (w'.alloc o).cell? ⟨G, 3, none⟩ = some (.int .i64 m) ∧ (w'.alloc o).cell? ⟨G, 4, none⟩ = some (.int .i64 1) ∧ (w'.alloc o).cell? ⟨G, 5, none⟩ = some (.string t) ∧ (w'.alloc o).cell? ⟨G, 6, none⟩ = some (.int .i64 q)) from fun w' o ⟨s0, s1, s2, s3, s4, s5, s6, s7⟩ =>
        ⟨cell_keep ((Below.refl _ _).alloc (Nat.le_refl _) _) s0, cell_keep ((Below.refl _ _).alloc (Nat.le_refl _) _) s1, cell_keep ((Below.refl _ _).alloc (Nat.le_refl _) _) s2, cell_keep ((Below.refl _ _).alloc (Nat.le_refl _) _) s3, cell_keep ((Below.refl _ _).alloc (Nat.le_refl _) _) s4, cell_keep ((Below.refl _ _).alloc (Nat.le_refl _) _) s5, cell_keep ((Below.refl _ _).alloc (Nat.le_refl _) _) s6, cell_keep ((Below.refl _ _).alloc (Nat.le_refl _) _) s7⟩)
      have HSG := Lib.hid (show ∀ w5 : World, LG w5 g b M' → W.drew.grownBy w5 (some b) → (w5.cell? ⟨p, 0, none⟩ = some (.pointer (some ⟨g, 0, none⟩)) ∧ w5.cell? ⟨G, 0, none⟩ = some (.int .i64 0) ∧ w5.cell? ⟨G, 1, none⟩ = some (.int .i64 0) ∧ w5.cell? ⟨G, 2, none⟩ = some (.string t) ∧ w5.cell? ⟨G, 3, none⟩ = some (.int .i64 m) ∧ w5.cell? ⟨G, 4, none⟩ = some (.int .i64 1) ∧ w5.cell? ⟨G, 5, none⟩ = some (.string t) ∧ w5.cell? ⟨G, 6, none⟩ = some (.int .i64 q)) from fun w5 hl hg => by
        have h8 := hg.block G hGl (by simpa using hGb)
        have hcd : CU W.drew p g b M := ⟨HCU.out.1.blk, HCU.out.1.lg.blk, HCU.out.1.lg.map.move rfl⟩
        exact ⟨(hcd.turn hg hl).cell, (World.cell?_of_block (a := ⟨G, 0, none⟩) h8).trans k0, (World.cell?_of_block (a := ⟨G, 1, none⟩) h8).trans k1, (World.cell?_of_block (a := ⟨G, 2, none⟩) h8).trans k2, (World.cell?_of_block (a := ⟨G, 3, none⟩) h8).trans k3, (World.cell?_of_block (a := ⟨G, 4, none⟩) h8).trans k4, (World.cell?_of_block (a := ⟨G, 5, none⟩) h8).trans k5, (World.cell?_of_block (a := ⟨G, 6, none⟩) h8).trans k6⟩)
      clear k0 k1 k2 k3 k4 k5 k6 kc hGb hGl
      go_region_held3 (fun w' => w'.cell? ⟨p, 0, none⟩ = some (.pointer (some ⟨g, 0, none⟩)) ∧ w'.cell? ⟨G, 0, none⟩ = some (.int .i64 0) ∧ w'.cell? ⟨G, 1, none⟩ = some (.int .i64 0) ∧ w'.cell? ⟨G, 2, none⟩ = some (.string t) ∧ w'.cell? ⟨G, 3, none⟩ = some (.int .i64 m) ∧ w'.cell? ⟨G, 4, none⟩ = some (.int .i64 1) ∧ w'.cell? ⟨G, 5, none⟩ = some (.string t) ∧ w'.cell? ⟨G, 6, none⟩ = some (.int .i64 q))
        (first | assumption | exact HSA.out _ _ (by assumption))
        (first | (go_at_call 19; refine (HPO.out W.drew ⟨HCU.out.1.lg.blk, HCU.out.1.lg.map.move rfl⟩).mono ?_; rintro e w5 ⟨rfl, H5⟩; have kk := HSG.out w5 H5.out.1 H5.out.2))
      go_wp2
      go_ret
      have hcd : CU W.drew p g b M := ⟨HCU.out.1.blk, HCU.out.1.lg.blk, HCU.out.1.lg.map.move rfl⟩
      have hgd := HN.out _ HCU.out.2.drew
      exact ⟨rfl, ⟨hcd.turn H5.out.2 H5.out.1, hgd.andThen H5.out.2 (fun _ hj => .inr hj)⟩⟩
end Go.Proofs.Ytoknlpecbdlbfaa.PL
