/- Part 30 of the proof's texts: what the theorem needs of them. -/
import Derived.Test.YtoknlpecbdlbfaaSCWhole29
import Derived.Test.YtoknlpecbdlbfaaSCWhole16
import Derived.WalkKit
import Derived.ProofKit
import Derived.Deep.Slices
import Derived.SizedLaws
import Derived.Test.YtoknlpecbdlbfaaSCWhole25
import Derived.Test.YtoknlpecbdlbfaaSCWhole26

/- awake: the chapter's example, walked. -/
namespace Go.Proofs.Ytoknlpecbdlbfaa.PL
open Go Go.RowKit Go.Maps Go.Sort Go.Shelf Go.Proofs Go.Proofs.YtoknlpecbdlbfaaW.PrintWords Go.Proofs.YtoknlpecbdlbfaaW.PrintLast
set_option maxRecDepth 100000 in
set_option maxHeartbeats 2000000 in
theorem awake_walk (w : World) : Calls Try.prog 16 #[] w fun e w' => e = .returned (.bool true) ∧ Below w.heap.size w w' := by
  go_enter Try.func16, Try.ntmps16
  go_wp2_with (first
    | (go_at_call 30; refine (awake_o H5.out.1).mono ?_; rintro e w6 ⟨rfl, H6⟩; replace H6 := Lib.hid H6)
    | (go_at_call 25; refine (awake_b2 H4.out.1).mono ?_; rintro e w5 ⟨rfl, H5, H5a, H5b⟩; clear a0 a1 a2 b0 b1 b2; obtain ⟨a0, a1, a2⟩ := H5a; obtain ⟨b0, b1, b2⟩ := H5b)
    | (go_at_call 25; refine (awake_b1 H3.out.1).mono ?_; rintro e w4 ⟨rfl, H4, H4a, H4b⟩; clear a0 a1 a2 b0 b1 b2; obtain ⟨a0, a1, a2⟩ := H4a; obtain ⟨b0, b1, b2⟩ := H4b)
    | (go_at_call 19; refine (awake_q2 H2.out.1 (by have := H1.out.1.map.lt; omega)).mono ?_; rintro e w3 ⟨rfl, H3, H3a, H3b⟩; clear a0 a1 a2 b0 b1 b2; obtain ⟨a0, a1, a2⟩ := H3a; obtain ⟨b0, b1, b2⟩ := H3b)
    | (go_at_call 19; refine (awake_q1 H1.out.1).mono ?_; rintro e w2 ⟨rfl, H2, H2a, H2b⟩; obtain ⟨a0, a1, a2⟩ := H2a; obtain ⟨b0, b1, b2⟩ := H2b)
    | (go_at_call 17; refine (new_any _).mono ?_; rintro e w1 ⟨rfl, H1⟩; replace H1 := Lib.hid H1))
  go_ret
  refine ⟨rfl, ?_⟩
  have h1 := H1.out.2
  have h2 := h1.grown H2.out.2 h1.size (by simp)
  have h3 := h2.grown H3.out.2 h2.size (by simp)
  have h4 := h3.trans (H4.out.2.mono h3.size)
  have h5 := h4.trans (H5.out.2.mono h4.size)
  exact h5.trans (H6.out.mono h5.size)
end Go.Proofs.Ytoknlpecbdlbfaa.PL

/- What things the document's list has, as the program's compaction. -/
namespace Go.Proofs.Ytoknlpecbdlbfaa.PL
open Go Go.RowKit Go.Maps Go.Sort Go.Shelf Go.Proofs Go.Proofs.YtoknlpecbdlbfaaW.PrintWords Go.Proofs.YtoknlpecbdlbfaaW.PrintLast
/-- The balances' things. -/
def thingsOf (L : List S82) : List ByteArray := L.map (fun b => b.f0.f2)
theorem bl_inj {s t : ByteArray} (h : bl s = bl t) : s = t := by
  apply ByteArray.ext
  exact Array.toList_inj.1 h
theorem toList_iff (s t : ByteArray) : s.toList = t.toList ↔ s = t := by
  constructor
  · intro h
    rw [ByteArray.toList_eq, ByteArray.toList_eq] at h
    exact bl_inj h
  · rintro rfl; rfl
/-! How many balances there are. -/
theorem length_pstL : ∀ (x : List S107) (L0 : List S82) (n : Nat) (L : List S82) (c : Nat), L0.length ≤ c → L.length + 2 * x.length ≤ c → (pstL L0 n L x).1.length ≤ c
  | [], L0, n, L, c, _, h => by
    unfold pstL
    simpa using h
  | e :: r, L0, n, L, c, h0, h => by
    unfold pstL
    have hm := length_mvL L e
    simp only [List.length_cons] at h
    split
    · exact length_pstL r L0 (n + 1) (mvL L e).1 c h0 (by omega)
    · exact h0
end Go.Proofs.Ytoknlpecbdlbfaa.PL

/- Arguments that come in: slices of structs, and slices of these, read as rows. -/
namespace Go.Proofs.Ytoknlpecbdlbfaa.PL
open Go Go.RowKit Go.ChangeShapes Go.WideShapes Go.Deep Go.Proofs Go.Proofs.YtoknlpecbdlbfaaW.PrintWords Go.Proofs.YtoknlpecbdlbfaaW.PrintLast
/-- No part of the datum is greater than the form's reach. -/
def Small {H : Type} (t : TypeId) (d : DataW H) : Prop := ∀ m ∈ DataW.weights Try.prog t d, m ≤ reachBytes
theorem cells3' : Try.prog.cellsOf 3 = 1 := by kernel_rfl
theorem cells9' : Try.prog.cellsOf 9 = 1 := by kernel_rfl
/-- Argument j's datum is small. -/
theorem small_arg {H : Type} {ts : List TypeId} {ds : List (DataW H)} (hsz : (DataW.weightsEach Try.prog ts ds).all (· ≤ reachBytes) = true) {j : Nat} {t : TypeId} {d : DataW H} (ht : ts[j]? = some t) (hd : ds[j]? = some d) : Small t d := by
  intro m hm
  have := List.all_eq_true.1 hsz _ (DataW.weights_mem_each ht hd m hm)
  simpa using this
end Go.Proofs.Ytoknlpecbdlbfaa.PL

/- A post on both sides: the contracts as the laws' rounds want them. -/
namespace Go.Proofs.Ytoknlpecbdlbfaa.PL
open Go Go.RowKit Go.Maps Go.Sort Go.Shelf Go.Proofs Go.Proofs.YtoknlpecbdlbfaaW.PrintWords Go.Proofs.YtoknlpecbdlbfaaW.PrintLast
theorem cell_keep {w w' : World} (h : Below w.heap.size w w') {p : Addr} {v : Value} (hc : w.cell? p = some v) : w'.cell? p = some v := (h.cell (World.block_lt_of_cell? w _ hc)).trans hc
end Go.Proofs.Ytoknlpecbdlbfaa.PL

-- Entries turned about take back what they did: the plain law.
namespace Go.Proofs.Ytoknlpecbdlbfaa.PL
open Go Go.RowKit Go.Maps Go.Sort Go.Shelf Go.Proofs Go.Proofs.YtoknlpecbdlbfaaW.PrintWords Go.Proofs.YtoknlpecbdlbfaaW.PrintLast
/-- None but the world has less than nothing. -/
def NN (M : List (S42 × Int)) : Prop := ∀ a, a.f0 ≠ 0 → 0 ≤ getM M a
/-- Two maps that have the same. -/
def Eqv (M M' : List (S42 × Int)) : Prop := ∀ a, getM M a = getM M' a
theorem Eqv.put {M M' : List (S42 × Int)} (h : Eqv M M') (a : S42) (n : Int) : Eqv (putM M a n) (putM M' a n) := by
  intro c
  rw [getM_putM, getM_putM, h c]
theorem NN.nil : NN [] := fun a _ => by simp [getM]
theorem NN.of {M M' : List (S42 × Int)} (h : NN M) (he : Eqv M' M) : NN M' := fun a ha => by rw [he a]; exact h a ha
theorem NN.put {M : List (S42 × Int)} (h : NN M) (a : S42) {n : Int} (hn : a.f0 ≠ 0 → 0 ≤ n) : NN (putM M a n) := by
  intro c hc
  rw [getM_putM]
  split
  · rename_i e
    subst e
    exact hn hc
  · exact h c hc
theorem Eqv.back (M : List (S42 × Int)) (a : S42) (m : Int) : Eqv (putM (putM M a (getM M a - m)) a (getM M a - m + m)) M := by
  intro c
  rw [getM_putM, getM_putM]
  split
  · rename_i e
    subst e
    omega
  · rfl
theorem NN.move {M : List (S42 × Int)} (h : NN M) (e : S107) : NN (moveM M e).1 := by
  unfold moveM
  split
  · exact h
  · rename_i hck
    have hck' := check_good (Classical.not_not.1 hck)
    split
    · exact h
    · rename_i hf
      split
      · exact h
      · split
        · exact h.of (Eqv.back M e.f0 e.f2)
        · have h1 : NN (putM M e.f0 (getM M e.f0 - e.f2)) := h.put _ (fun hz => by
            refine Classical.byContradiction fun hc => hf ⟨hz, ?_⟩
            omega)
          exact h1.put _ (fun hz => by have := h1 e.f1 hz; have := hck'.1; omega)
theorem getM_move {M : List (S42 × Int)} {e : S107} (h : (moveM M e).2 = 0) (a : S42) : getM (moveM M e).1 a = if a = e.f1 then (if e.f1 = e.f0 then getM M e.f0 else getM M e.f1 + e.f2) else if a = e.f0 then getM M e.f0 - e.f2 else getM M a := by
  rw [move_ok h, getM_putM, getM_putM, getM_putM]
  split
  · split
    · omega
    · rfl
  · rfl
/-- All entries are done. -/
def allOk (M : List (S42 × Int)) : List S107 → Prop
  | [] => True
  | e :: r => (moveM M e).2 = 0 ∧ allOk (moveM M e).1 r
/-- What they come to. -/
def fin (M : List (S42 × Int)) : List S107 → List (S42 × Int)
  | [] => M
  | e :: r => fin (moveM M e).1 r
theorem post_allOk : ∀ (l done : List S107) (M : List (S42 × Int)), (postL done M l).2.2 = 0 → allOk M l ∧ (postL done M l).1 = fin M l
  | [], _, _, _ => ⟨trivial, rfl⟩
  | e :: r, done, M, h => by
    unfold postL at h ⊢
    by_cases c : (moveM M e).2 = 0
    · rw [if_pos c] at h ⊢
      obtain ⟨h1, h2⟩ := post_allOk r (e :: done) _ h
      exact ⟨⟨c, h1⟩, h2⟩
    · rw [if_neg c] at h
      exact absurd h c
theorem fin_NN : ∀ (l : List S107) (M : List (S42 × Int)), NN M → NN (fin M l)
  | [], _, h => h
  | e :: r, _, h => fin_NN r _ (h.move e)
/-- A post that can't be done leaves the document's list. -/
theorem pst_fail : ∀ (x : List S107) (L0 : List S82) (n : Nat) (L : List S82), (pstL L0 n L x).2.2 ≠ 0 → (pstL L0 n L x).1 = L0
  | [], L0, n, L, h => by
    unfold pstL at h
    exact absurd rfl h
  | e :: r, L0, n, L, h => by
    unfold pstL at h ⊢
    by_cases c : (mvL L e).2 = 0
    · rw [if_pos c] at h ⊢
      exact pst_fail r L0 (n + 1) _ h
    · rw [if_neg c]
/-- NN holds behind every post. -/
theorem NN.post {M : List (S42 × Int)} {L : List S82} (hr : Rep M L) (hB : BM M) (hn : NN M) (l : List S107) : NN (postL [] M l).1 := by
  obtain ⟨e1, e2, e3, e4⟩ := rep_post0 hr hB l
  by_cases c : (postL [] M l).2.2 = 0
  · rw [(post_allOk l [] M c).2]
    exact fin_NN l M hn
  · rw [e2] at c
    have h1 := pst_fail l L 0 L c
    rw [h1] at e3
    refine hn.of (fun a => ?_)
    rw [e3.same, hr.same]
end Go.Proofs.Ytoknlpecbdlbfaa.PL

-- LedgerBack, walked.
namespace Go.Proofs.Ytoknlpecbdlbfaa.PL
open Go Go.RowKit Go.Maps Go.Sort Go.Shelf Go.Proofs Go.Proofs.YtoknlpecbdlbfaaW.PrintWords Go.Proofs.YtoknlpecbdlbfaaW.PrintLast
/-- A map, the document's list, and what is known of both. -/
structure St (M : List (S42 × Int)) (L : List S82) : Prop where
  rep : Rep M L
  bm : BM M
  nn : NN M
theorem St.nil : St [] [] := ⟨Rep.nil, BM.nil, NN.nil⟩
theorem St.post {M : List (S42 × Int)} {L : List S82} (h : St M L) (l : List S107) : St (postL [] M l).1 (pstL L 0 L l).1 := by
  obtain ⟨e1, e2, e3, e4⟩ := rep_post0 h.rep h.bm l
  exact ⟨e3, e4, h.nn.post h.rep h.bm l⟩
theorem St.fail {M : List (S42 × Int)} {L : List S82} (h : St M L) (l : List S107) (hf : (postL [] M l).2.2 ≠ 0) : Rep (postL [] M l).1 L := by
  obtain ⟨e1, e2, e3, e4⟩ := rep_post0 h.rep h.bm l
  rw [e2] at hf
  rw [pst_fail l L 0 L hf] at e3
  exact e3
/-- What is told at the end: the ledger, its two clones, and what was told before. -/
structure XS (w : World) (g b gy by' gz bz : Nat) (Mx My Mz : List (S42 × Int)) (L1 L2 : List S82) (A1 A2 : Option Addr) (c1 c2 : Nat) (W : World) : Prop where
  x : LG W g b Mx
  y : LG W gy by' My
  z : LG W gz bz Mz
  rx : Rep Mx L1
  ry : Rep My L1
  rz : Rep Mz L2
  l1 : L1.length ≤ 1000000
  l2 : L2.length ≤ 1000000
  was : Kd.C k82 W A1 L1.length L1
  cw : L1.length ≤ c1
  now : Kd.C k82 W A2 L2.length L2
  cn : L2.length ≤ c2
  bl : Below w.heap.size w W
theorem XS.step {w : World} {g b gy by' gz bz : Nat} {Mx My Mz : List (S42 × Int)} {L1 L2 : List S82} {A1 A2 : Option Addr} {c1 c2 : Nat} {W W' : World} (h : XS w g b gy by' gz bz Mx My Mz L1 L2 A1 A2 c1 c2 W) (hb : Below W.heap.size W W') : XS w g b gy by' gz bz Mx My Mz L1 L2 A1 A2 c1 c2 W' :=
  ⟨h.x.below hb, h.y.below hb, h.z.below hb, h.rx, h.ry, h.rz, h.l1, h.l2, Kd.C_below h.was hb, h.cw, Kd.C_below h.now hb, h.cn, h.bl.trans (hb.mono h.bl.size)⟩
end Go.Proofs.Ytoknlpecbdlbfaa.PL

-- Custody: New, made, Bring, walked.
namespace Go.Proofs.Ytoknlpecbdlbfaa.PL
open Go Go.RowKit Go.Maps Go.Sort Go.Shelf Go.Proofs Go.Proofs.YtoknlpecbdlbfaaW.PrintWords Go.Proofs.YtoknlpecbdlbfaaW.PrintLast
/-- Block p holds a Custody over the ledger at g. -/
structure CU (w : World) (p g b : Nat) (M : List (S42 × Int)) : Prop where
  blk : w.heap[p]? = some (.cells #[.pointer (some ⟨g, 0, none⟩)] 102 (0, 0))
  lg : LG w g b M
theorem CU.cell {w : World} {p g b : Nat} {M : List (S42 × Int)} (h : CU w p g b M) : w.cell? ⟨p, 0, none⟩ = some (.pointer (some ⟨g, 0, none⟩)) := by
  unfold World.cell?
  rw [h.blk]
  rfl
theorem CU.lt {w : World} {p g b : Nat} {M : List (S42 × Int)} (h : CU w p g b M) : p < w.heap.size := (Array.getElem?_eq_some_iff.1 h.blk).1
theorem CU.ne {w : World} {p g b : Nat} {M : List (S42 × Int)} (h : CU w p g b M) : p ≠ b := fun e => by
  obtain ⟨es, clock, hb, _⟩ := h.lg.map
  have h1 := h.blk
  rw [e, hb] at h1
  cases h1
theorem CU.below {w w' : World} {p g b : Nat} {M : List (S42 × Int)} (h : CU w p g b M) (hb : Below w.heap.size w w') : CU w' p g b M := ⟨(hb.block p h.lt).trans h.blk, h.lg.below hb⟩
theorem CU.turn {w w' : World} {p g b : Nat} {M M' : List (S42 × Int)} (h : CU w p g b M) (hg : w.grownBy w' (some b)) (hl : LG w' g b M') : CU w' p g b M' := ⟨(hg.block p h.lt (by simpa using h.ne)).trans h.blk, hl⟩
set_option maxRecDepth 100000 in
theorem cmade_any {w : World} {p g b : Nat} {M : List (S42 × Int)} (h : CU w p g b M) : Calls Try.prog 74 #[.pointer (some ⟨p, 0, none⟩)] w fun e w' => e = .returned (.bool true) ∧ w = w' := by
  have hc := h.cell
  clear h
  go_enter Try.func74, Try.ntmps74
  go_wp2
  go_ret
  exact ⟨rfl, rfl⟩
/-- p is no Custody in w. -/
def NoCU (w : World) (p : Value) : Prop := p = .pointer none ∨ ∃ q : Nat, p = .pointer (some ⟨q, 0, none⟩) ∧ w.cell? ⟨q, 0, none⟩ = some (.pointer none)
theorem NoCU.below {w w' : World} {p : Value} (h : NoCU w p) (hb : Below w.heap.size w w') : NoCU w' p := by
  rcases h with rfl | ⟨g, rfl, hc⟩
  · exact .inl rfl
  · exact .inr ⟨g, rfl, cell_keep hb hc⟩
set_option maxRecDepth 100000 in
theorem cnew_any (w : World) : Calls Try.prog 34 #[] w fun e w' => ∃ p g b, e = .returned (.pointer (some ⟨p, 0, none⟩)) ∧ Hid (CU w' p g b [] ∧ Below w.heap.size w w' ∧ w.heap.size ≤ b ∧ w.heap.size ≤ p ∧ w.heap.size ≤ g) := by
  go_enter Try.func34, Try.ntmps34
  go_wp2_with (go_at_call 17; refine (new_any _).mono ?_; rintro e w1 ⟨rfl, H1⟩; replace H1 := Lib.hid H1)
  go_ret
  have hb : Below w1.heap.size w1 (w1.alloc (.cells #[.pointer (some ⟨w.heap.size + 1, 0, none⟩)] 102)) := (Below.refl _ _).alloc (Nat.le_refl _) _
  exact ⟨w1.heap.size, w.heap.size + 1, w.heap.size, rfl, ⟨⟨(Go.MapKept.heap_alloc w1 _).1, H1.out.1.below hb⟩, H1.out.2.trans (hb.mono H1.out.2.size), Nat.le_refl _, H1.out.2.size, by omega⟩⟩
/-- No such member, or book. -/
def wrB (m b : Int) : Bool := decide (m < 1 ∨ 32 < m ∨ b < 1 ∨ 4 < b)
theorem wr_f (m b : Int) : custody_wrong.f m b = some (wrB m b) := by
  unfold custody_wrong.f wrB
  by_cases h1 : m < 1
  · rw [if_pos h1]; simp [h1]
  · rw [if_neg h1]
    by_cases h2 : m > 32
    · rw [if_pos h2]
      congr 1
      exact (decide_eq_true (by omega)).symm
    · rw [if_neg h2]
      by_cases h3 : b < 1
      · rw [if_pos h3]; simp [h3]
      · rw [if_neg h3]
        congr 1
        exact decide_eq_decide.2 (by omega)
theorem wr_any (m b : Int) (w : World) : Calls Try.prog 75 #[.int .i64 m, .int .i64 b] w fun e w' => e = .returned (.bool (wrB m b)) ∧ Below w.heap.size w w' :=
  (custody_wrong.calls m b _ w (wr_f m b)).mono (fun _ _ h => ⟨h.1, h.2.below⟩)
theorem acc_any (m b : Int) (t : ByteArray) (w : World) : Calls Try.prog 76 #[.int .i64 m, .int .i64 b, .string t] w fun e w' => e = .returned (.agg #[.int .i64 m, .int .i64 b, .string t]) ∧ Below w.heap.size w w' :=
  custody_account.calls m b t m b t w rfl
/-- A post of one entry that has just been laid. -/
theorem post_one {W : World} {g b : Nat} {M : List (S42 × Int)} (h : LG W g b M) (hB : BM M) (hm : M.length ≤ 1000000000) (e : S107) :
    Calls Try.prog 19 #[.pointer (some ⟨g, 0, none⟩), .slice (some ⟨W.heap.size, 0, none⟩) 1 1] (W.alloc (.cells #[.int .i64 e.f0.f0, .int .i64 e.f0.f1, .string e.f0.f2, .int .i64 e.f1.f0, .int .i64 e.f1.f1, .string e.f1.f2, .int .i64 e.f2] 107)) fun o w' => o = .returned (.tuple #[.int .i64 (postL [] M [e]).2.1, .int .i64 (postL [] M [e]).2.2]) ∧ Hid (LG w' g b (postL [] M [e]).1 ∧ W.grownBy w' (some b)) := by
  have hb : Below W.heap.size W (W.alloc (.cells ([e].flatMap c7).toArray 107)) := (Below.refl _ _).alloc (Nat.le_refl _) _
  have h1 := post_any (h.below hb) hB (some ⟨W.heap.size, 0, none⟩) 1 [e] (C107_new W _ (by unfold maxLen; simp)) (by simp) (by unfold maxLen; simp; omega)
  exact h1.mono (fun _ w' ⟨a, b, c⟩ => ⟨a, b, grown_box0 _ c⟩)
/-- What Bring posts. -/
def brE (m : Int) (t : ByteArray) (q : Int) : S107 := if q < 0 then ⟨⟨m, 1, t⟩, ⟨0, 0, t⟩, -q⟩ else ⟨⟨0, 0, t⟩, ⟨m, 1, t⟩, q⟩
/-- Bring. -/
def brL (M : List (S42 × Int)) (m : Int) (t : ByteArray) (q : Int) : List (S42 × Int) × Int := if wrB m 1 = true then (M, 22) else if q < -1125899906842624 then (M, 1) else ((postL [] M [brE m t q]).1, (postL [] M [brE m t q]).2.2)
set_option maxRecDepth 100000 in
set_option maxHeartbeats 1000000 in
theorem bring_any {w : World} {p g b : Nat} {M : List (S42 × Int)} (h : CU w p g b M) (hB : BM M) (hm : M.length ≤ 1000000000) (m q : Int) (t : ByteArray) :
    Calls Try.prog 42 #[.pointer (some ⟨p, 0, none⟩), .int .i64 m, .string t, .int .i64 q] w fun e w' => e = .returned (.int .i64 (brL M m t q).2) ∧ Hid (CU w' p g b (brL M m t q).1 ∧ w.grownBy w' (some b)) := by
  have hnone : ∀ w', Below w.heap.size w w' → w.grownBy w' (some b) := fun w' hb => ⟨hb.os, hb.tape, hb.output, hb.size, fun k hk _ => hb.block k hk⟩
  cases hw : wrB m 1 with
  | true =>
    have HWR := Lib.hid (show ∀ W, Calls Try.prog 75 #[.int .i64 m, .int .i64 1] W fun e w' => e = .returned (.bool true) ∧ Below W.heap.size W w' from fun W => by rw [← hw]; exact wr_any m 1 W)
    have HU := Lib.hid h
    have hr : brL M m t q = (M, 22) := by unfold brL; rw [if_pos hw]
    have HN := Lib.hid hnone
    rw [hr]
    clear h hw hnone hr
    go_enter Try.func42, Try.ntmps42
    go_wp2_with (first
      | (go_at_call 75; refine (HWR.out _).mono ?_; rintro e w2 ⟨rfl, H2⟩; replace H2 := Lib.hid H2)
      | (go_at_call 74; refine (cmade_any HU.out).mono ?_; rintro e w1 ⟨rfl, rfl⟩))
    go_ret
    exact ⟨rfl, ⟨HU.out.below H2.out, HN.out _ H2.out⟩⟩
  | false =>
    have HWR := Lib.hid (show ∀ W, Calls Try.prog 75 #[.int .i64 m, .int .i64 1] W fun e w' => e = .returned (.bool false) ∧ Below W.heap.size W w' from fun W => by rw [← hw]; exact wr_any m 1 W)
    have HU := Lib.hid h
    have HN := Lib.hid hnone
    have HBM := Lib.hid (And.intro hB hm)
    by_cases c1 : q < 0
    · have f1 : (q < 0) = True := eq_true c1
      by_cases c2 : q < -1125899906842624
      · have f2 : (q < -1125899906842624) = True := eq_true c2
        have hr : brL M m t q = (M, 1) := by unfold brL; rw [if_neg (by rw [hw]; simp), if_pos c2]
        rw [hr]
        clear h hw hnone hr c1 c2
        go_enter Try.func42, Try.ntmps42
        go_wp2_with (first
          | (go_at_call 76; refine (acc_any _ _ _ _).mono ?_; rintro e w3 ⟨rfl, H3⟩; replace H3 := Lib.hid H3)
          | (go_at_call 75; refine (HWR.out _).mono ?_; rintro e w2 ⟨rfl, H2⟩; replace H2 := Lib.hid H2)
          | (go_at_call 74; refine (cmade_any HU.out).mono ?_; rintro e w1 ⟨rfl, rfl⟩))
        go_ret
        have hb := (H2.out.trans (H3.out.mono H2.out.size)).alloc (Nat.le_trans H2.out.size H3.out.size) (.cells #[.int .i64 0, .int .i64 0, .string t, .int .i64 m, .int .i64 1, .string t, .int .i64 q] 107)
        exact ⟨rfl, ⟨HU.out.below hb, HN.out _ hb⟩⟩
      · have f2 : (q < -1125899906842624) = False := eq_false c2
        have hr : brL M m t q = ((postL [] M [⟨⟨m, 1, t⟩, ⟨0, 0, t⟩, -q⟩]).1, (postL [] M [⟨⟨m, 1, t⟩, ⟨0, 0, t⟩, -q⟩]).2.2) := by unfold brL brE; rw [if_neg (by rw [hw]; simp), if_neg c2, if_pos c1]
        have hneg : wrap64 (-q) = -q := wrap_id (by omega) (by omega)
        rw [hr]
        obtain ⟨⟨M', n', f'⟩, hR⟩ : ∃ R, postL [] M [⟨⟨m, 1, t⟩, ⟨0, 0, t⟩, -q⟩] = R := ⟨_, rfl⟩
        have HPO := Lib.hid (show ∀ W, LG W g b M → Calls Try.prog 19 #[.pointer (some ⟨g, 0, none⟩), .slice (some ⟨W.heap.size, 0, none⟩) 1 1] (W.alloc (.cells #[.int .i64 m, .int .i64 1, .string t, .int .i64 0, .int .i64 0, .string t, .int .i64 (-q)] 107)) fun o w' => o = .returned (.tuple #[.int .i64 n', .int .i64 f']) ∧ Hid (LG w' g b M' ∧ W.grownBy w' (some b)) from fun W hL => by
          have h9 := post_one hL HBM.out.1 HBM.out.2 ⟨⟨m, 1, t⟩, ⟨0, 0, t⟩, -q⟩
          rw [hR] at h9
          exact h9)
        rw [hR]
        clear h hw hnone hr c1 c2 hR
        go_enter Try.func42, Try.ntmps42
        go_wp2_with (first
          | (go_at_call 76; refine (acc_any _ _ _ _).mono ?_; rintro e w3 ⟨rfl, H3⟩; replace H3 := Lib.hid H3)
          | (go_at_call 75; refine (HWR.out _).mono ?_; rintro e w2 ⟨rfl, H2⟩; replace H2 := Lib.hid H2)
          | (go_at_call 74; refine (cmade_any HU.out).mono ?_; rintro e w1 ⟨rfl, rfl⟩))
        obtain ⟨W, hW⟩ : ∃ W, W = w3.alloc (.cells #[.int .i64 m, .int .i64 1, .string t, .int .i64 0, .int .i64 0, .string t, .int .i64 (-q)] 107) := ⟨_, rfl⟩
        have hb := (H2.out.trans (H3.out.mono H2.out.size)).alloc (Nat.le_trans H2.out.size H3.out.size) (.cells #[.int .i64 m, .int .i64 1, .string t, .int .i64 0, .int .i64 0, .string t, .int .i64 (-q)] 107)
        rw [← hW] at hb
        have k0 : W.cell? ⟨w3.heap.size, 0, none⟩ = some (.int .i64 m) := by rw [hW]; simp
        have k1 : W.cell? ⟨w3.heap.size, 1, none⟩ = some (.int .i64 1) := by rw [hW]; simp
        have k2 : W.cell? ⟨w3.heap.size, 2, none⟩ = some (.string t) := by rw [hW]; simp
        have k3 : W.cell? ⟨w3.heap.size, 3, none⟩ = some (.int .i64 0) := by rw [hW]; simp
        have k4 : W.cell? ⟨w3.heap.size, 4, none⟩ = some (.int .i64 0) := by rw [hW]; simp
        have k5 : W.cell? ⟨w3.heap.size, 5, none⟩ = some (.string t) := by rw [hW]; simp
        have k6 : W.cell? ⟨w3.heap.size, 6, none⟩ = some (.int .i64 (-q)) := by rw [hW]; simp
        rw [← hW]
        have hcu := HU.out.below hb
        have kc := hcu.cell
        have HCU := Lib.hid (And.intro hcu hb)
        clear hW hb hcu
        have hGb : w3.heap.size ≠ b := by
          have h9 := (HU.out.below H2.out).below H3.out
          have := h9.lg.map.lt
          omega
        have hGl : w3.heap.size < W.heap.size := World.block_lt_of_cell? W _ k0
        generalize w3.heap.size = G at k0 k1 k2 k3 k4 k5 k6 hGb hGl ⊢
        have hSD : W.drew.cell? ⟨p, 0, none⟩ = some (.pointer (some ⟨g, 0, none⟩)) ∧ W.drew.cell? ⟨G, 0, none⟩ = some (.int .i64 m) ∧ W.drew.cell? ⟨G, 1, none⟩ = some (.int .i64 1) ∧ W.drew.cell? ⟨G, 2, none⟩ = some (.string t) ∧ W.drew.cell? ⟨G, 3, none⟩ = some (.int .i64 0) ∧ W.drew.cell? ⟨G, 4, none⟩ = some (.int .i64 0) ∧ W.drew.cell? ⟨G, 5, none⟩ = some (.string t) ∧ W.drew.cell? ⟨G, 6, none⟩ = some (.int .i64 (-q)) := ⟨kc, k0, k1, k2, k3, k4, k5, k6⟩
        have HSA := Lib.hid (show ∀ (w' : World) (o : Obj), (w'.cell? ⟨p, 0, none⟩ = some (.pointer (some ⟨g, 0, none⟩)) ∧ w'.cell? ⟨G, 0, none⟩ = some (.int .i64 m) ∧ w'.cell? ⟨G, 1, none⟩ = some (.int .i64 1) ∧ w'.cell? ⟨G, 2, none⟩ = some (.string t) ∧ w'.cell? ⟨G, 3, none⟩ = some (.int .i64 0) ∧ w'.cell? ⟨G, 4, none⟩ = some (.int .i64 0) ∧ w'.cell? ⟨G, 5, none⟩ = some (.string t) ∧ w'.cell? ⟨G, 6, none⟩ = some (.int .i64 (-q))) → ((w'.alloc o).cell? ⟨p, 0, none⟩ = some (.pointer (some ⟨g, 0, none⟩)) ∧ (w'.alloc o).cell? ⟨G, 0, none⟩ = some (.int .i64 m) ∧ (w'.alloc o).cell? ⟨G, 1, none⟩ = some (.int .i64 1) ∧ (w'.alloc o).cell? ⟨G, 2, none⟩ = some (.string t) ∧ (w'.alloc o).cell? ⟨G, 3, none⟩ = some (.int .i64 0) ∧ (w'.alloc o).cell? ⟨G, 4, none⟩ = some (.int .i64 0) ∧ (w'.alloc o).cell? ⟨G, 5, none⟩ = some (.string t) ∧ (w'.alloc o).cell? ⟨G, 6, none⟩ = some (.int .i64 (-q))) from fun w' o ⟨s0, s1, s2, s3, s4, s5, s6, s7⟩ =>
          ⟨cell_keep ((Below.refl _ _).alloc (Nat.le_refl _) _) s0, cell_keep ((Below.refl _ _).alloc (Nat.le_refl _) _) s1, cell_keep ((Below.refl _ _).alloc (Nat.le_refl _) _) s2, cell_keep ((Below.refl _ _).alloc (Nat.le_refl _) _) s3, cell_keep ((Below.refl _ _).alloc (Nat.le_refl _) _) s4, cell_keep ((Below.refl _ _).alloc (Nat.le_refl _) _) s5, cell_keep ((Below.refl _ _).alloc (Nat.le_refl _) _) s6, cell_keep ((Below.refl _ _).alloc (Nat.le_refl _) _) s7⟩)
        have HSG := Lib.hid (show ∀ w5 : World, LG w5 g b M' → W.drew.grownBy w5 (some b) → (w5.cell? ⟨p, 0, none⟩ = some (.pointer (some ⟨g, 0, none⟩)) ∧ w5.cell? ⟨G, 0, none⟩ = some (.int .i64 m) ∧ w5.cell? ⟨G, 1, none⟩ = some (.int .i64 1) ∧ w5.cell? ⟨G, 2, none⟩ = some (.string t) ∧ w5.cell? ⟨G, 3, none⟩ = some (.int .i64 0) ∧ w5.cell? ⟨G, 4, none⟩ = some (.int .i64 0) ∧ w5.cell? ⟨G, 5, none⟩ = some (.string t) ∧ w5.cell? ⟨G, 6, none⟩ = some (.int .i64 (-q))) from fun w5 hl hg => by
          have h8 := hg.block G hGl (by simpa using hGb)
          have hcd : CU W.drew p g b M := ⟨HCU.out.1.blk, HCU.out.1.lg.blk, HCU.out.1.lg.map.move rfl⟩
          exact ⟨(hcd.turn hg hl).cell, (World.cell?_of_block (a := ⟨G, 0, none⟩) h8).trans k0, (World.cell?_of_block (a := ⟨G, 1, none⟩) h8).trans k1, (World.cell?_of_block (a := ⟨G, 2, none⟩) h8).trans k2, (World.cell?_of_block (a := ⟨G, 3, none⟩) h8).trans k3, (World.cell?_of_block (a := ⟨G, 4, none⟩) h8).trans k4, (World.cell?_of_block (a := ⟨G, 5, none⟩) h8).trans k5, (World.cell?_of_block (a := ⟨G, 6, none⟩) h8).trans k6⟩)
        clear k0 k1 k2 k3 k4 k5 k6 kc hGb hGl
        go_region_held3 (fun w' => w'.cell? ⟨p, 0, none⟩ = some (.pointer (some ⟨g, 0, none⟩)) ∧ w'.cell? ⟨G, 0, none⟩ = some (.int .i64 m) ∧ w'.cell? ⟨G, 1, none⟩ = some (.int .i64 1) ∧ w'.cell? ⟨G, 2, none⟩ = some (.string t) ∧ w'.cell? ⟨G, 3, none⟩ = some (.int .i64 0) ∧ w'.cell? ⟨G, 4, none⟩ = some (.int .i64 0) ∧ w'.cell? ⟨G, 5, none⟩ = some (.string t) ∧ w'.cell? ⟨G, 6, none⟩ = some (.int .i64 (-q)))
          (first | assumption | exact HSA.out _ _ (by assumption))
          (first | (go_at_call 19; refine (HPO.out W.drew ⟨HCU.out.1.lg.blk, HCU.out.1.lg.map.move rfl⟩).mono ?_; rintro e w5 ⟨rfl, H5⟩; have kk := HSG.out w5 H5.out.1 H5.out.2))
        go_wp2
        go_ret
        have hcd : CU W.drew p g b M := ⟨HCU.out.1.blk, HCU.out.1.lg.blk, HCU.out.1.lg.map.move rfl⟩
        have hgd := HN.out _ HCU.out.2.drew
        exact ⟨rfl, ⟨hcd.turn H5.out.2 H5.out.1, hgd.andThen H5.out.2 (fun _ hj => .inr hj)⟩⟩
    · have f1 : (q < 0) = False := eq_false c1
      have hr : brL M m t q = ((postL [] M [⟨⟨0, 0, t⟩, ⟨m, 1, t⟩, q⟩]).1, (postL [] M [⟨⟨0, 0, t⟩, ⟨m, 1, t⟩, q⟩]).2.2) := by unfold brL brE; rw [if_neg (by rw [hw]; simp), if_neg (by omega), if_neg c1]
      rw [hr]
      obtain ⟨⟨M', n', f'⟩, hR⟩ : ∃ R, postL [] M [⟨⟨0, 0, t⟩, ⟨m, 1, t⟩, q⟩] = R := ⟨_, rfl⟩
      have HPO := Lib.hid (show ∀ W, LG W g b M → Calls Try.prog 19 #[.pointer (some ⟨g, 0, none⟩), .slice (some ⟨W.heap.size, 0, none⟩) 1 1] (W.alloc (.cells #[.int .i64 0, .int .i64 0, .string t, .int .i64 m, .int .i64 1, .string t, .int .i64 q] 107)) fun o w' => o = .returned (.tuple #[.int .i64 n', .int .i64 f']) ∧ Hid (LG w' g b M' ∧ W.grownBy w' (some b)) from fun W hL => by
        have h9 := post_one hL HBM.out.1 HBM.out.2 ⟨⟨0, 0, t⟩, ⟨m, 1, t⟩, q⟩
        rw [hR] at h9
        exact h9)
      rw [hR]
      clear h hw hnone hr c1 hR
      go_enter Try.func42, Try.ntmps42
      go_wp2_with (first
        | (go_at_call 76; refine (acc_any _ _ _ _).mono ?_; rintro e w3 ⟨rfl, H3⟩; replace H3 := Lib.hid H3)
        | (go_at_call 75; refine (HWR.out _).mono ?_; rintro e w2 ⟨rfl, H2⟩; replace H2 := Lib.hid H2)
        | (go_at_call 74; refine (cmade_any HU.out).mono ?_; rintro e w1 ⟨rfl, rfl⟩))
      obtain ⟨W, hW⟩ : ∃ W, W = w3.alloc (.cells #[.int .i64 0, .int .i64 0, .string t, .int .i64 m, .int .i64 1, .string t, .int .i64 q] 107) := ⟨_, rfl⟩
      have hb := (H2.out.trans (H3.out.mono H2.out.size)).alloc (Nat.le_trans H2.out.size H3.out.size) (.cells #[.int .i64 0, .int .i64 0, .string t, .int .i64 m, .int .i64 1, .string t, .int .i64 q] 107)
      rw [← hW] at hb
      have k0 : W.cell? ⟨w3.heap.size, 0, none⟩ = some (.int .i64 0) := by rw [hW]; simp
      have k1 : W.cell? ⟨w3.heap.size, 1, none⟩ = some (.int .i64 0) := by rw [hW]; simp
      have k2 : W.cell? ⟨w3.heap.size, 2, none⟩ = some (.string t) := by rw [hW]; simp
      have k3 : W.cell? ⟨w3.heap.size, 3, none⟩ = some (.int .i64 m) := by rw [hW]; simp
      have k4 : W.cell? ⟨w3.heap.size, 4, none⟩ = some (.int .i64 1) := by rw [hW]; simp
      have k5 : W.cell? ⟨w3.heap.size, 5, none⟩ = some (.string t) := by rw [hW]; simp
      have k6 : W.cell? ⟨w3.heap.size, 6, none⟩ = some (.int .i64 q) := by rw [hW]; simp
      rw [← hW]
      have hcu := HU.out.below hb
      have kc := hcu.cell
      have HCU := Lib.hid (And.intro hcu hb)
      clear hW hb hcu
      have hGb : w3.heap.size ≠ b := by
        have h9 := (HU.out.below H2.out).below H3.out
        have := h9.lg.map.lt
        omega
      have hGl : w3.heap.size < W.heap.size := World.block_lt_of_cell? W _ k0
      generalize w3.heap.size = G at k0 k1 k2 k3 k4 k5 k6 hGb hGl ⊢
      have hSD : W.drew.cell? ⟨p, 0, none⟩ = some (.pointer (some ⟨g, 0, none⟩)) ∧ W.drew.cell? ⟨G, 0, none⟩ = some (.int .i64 0) ∧ W.drew.cell? ⟨G, 1, none⟩ = some (.int .i64 0) ∧ W.drew.cell? ⟨G, 2, none⟩ = some (.string t) ∧ W.drew.cell? ⟨G, 3, none⟩ = some (.int .i64 m) ∧ W.drew.cell? ⟨G, 4, none⟩ = some (.int .i64 1) ∧ W.drew.cell? ⟨G, 5, none⟩ = some (.string t) ∧ W.drew.cell? ⟨G, 6, none⟩ = some (.int .i64 q) := ⟨kc, k0, k1, k2, k3, k4, k5, k6⟩
      have HSA := Lib.hid (show ∀ (w' : World) (o : Obj), (w'.cell? ⟨p, 0, none⟩ = some (.pointer (some ⟨g, 0, none⟩)) ∧ w'.cell? ⟨G, 0, none⟩ = some (.int .i64 0) ∧ w'.cell? ⟨G, 1, none⟩ = some (.int .i64 0) ∧ w'.cell? ⟨G, 2, none⟩ = some (.string t) ∧ w'.cell? ⟨G, 3, none⟩ = some (.int .i64 m) ∧ w'.cell? ⟨G, 4, none⟩ = some (.int .i64 1) ∧ w'.cell? ⟨G, 5, none⟩ = some (.string t) ∧ w'.cell? ⟨G, 6, none⟩ = some (.int .i64 q)) → ((w'.alloc o).cell? ⟨p, 0, none⟩ = some (.pointer (some ⟨g, 0, none⟩)) ∧ (w'.alloc o).cell? ⟨G, 0, none⟩ = some (.int .i64 0) ∧ (w'.alloc o).cell? ⟨G, 1, none⟩ = some (.int .i64 0) ∧ (w'.alloc o).cell? ⟨G, 2, none⟩ = some (.string t) ∧ (w'.alloc o).cell? ⟨G, 3, none⟩ = some (.int .i64 m) ∧ (w'.alloc o).cell? ⟨G, 4, none⟩ = some (.int .i64 1) ∧ (w'.alloc o).cell? ⟨G, 5, none⟩ = some (.string t) ∧ (w'.alloc o).cell? ⟨G, 6, none⟩ = some (.int .i64 q)) from fun w' o ⟨s0, s1, s2, s3, s4, s5, s6, s7⟩ =>
        ⟨cell_keep ((Below.refl _ _).alloc (Nat.le_refl _) _) s0, cell_keep ((Below.refl _ _).alloc (Nat.le_refl _) _) s1, cell_keep ((Below.refl _ _).alloc (Nat.le_refl _) _) s2, cell_keep ((Below.refl _ _).alloc (Nat.le_refl _) _) s3, cell_keep ((Below.refl _ _).alloc (Nat.le_refl _) _) s4, cell_keep ((Below.refl _ _).alloc (Nat.le_refl _) _) s5, cell_keep ((Below.refl _ _).alloc (Nat.le_refl _) _) s6, cell_keep ((Below.refl _ _).alloc (Nat.le_refl _) _) s7⟩)
      have HSG := Lib.hid (show ∀ w5 : World, LG w5 g b M' → W.drew.grownBy w5 (some b) → (w5.cell? ⟨p, 0, none⟩ = some (.pointer (some ⟨g, 0, none⟩)) ∧ w5.cell? ⟨G, 0, none⟩ = some (.int .i64 0) ∧ w5.cell? ⟨G, 1, none⟩ = some (.int .i64 0) ∧ w5.cell? ⟨G, 2, none⟩ = some (.string t) ∧ w5.cell? ⟨G, 3, none⟩ = some (.int .i64 m) ∧ w5.cell? ⟨G, 4, none⟩ = some (.int .i64 1) ∧ w5.cell? ⟨G, 5, none⟩ = some (.string t) ∧ w5.cell? ⟨G, 6, none⟩ = some (.int .i64 q)) from fun w5 hl hg => by
        have h8 := hg.block G hGl (by simpa using hGb)
        have hcd : CU W.drew p g b M := ⟨HCU.out.1.blk, HCU.out.1.lg.blk, HCU.out.1.lg.map.move rfl⟩
        exact ⟨(hcd.turn hg hl).cell, (World.cell?_of_block (a := ⟨G, 0, none⟩) h8).trans k0, (World.cell?_of_block (a := ⟨G, 1, none⟩) h8).trans k1, (World.cell?_of_block (a := ⟨G, 2, none⟩) h8).trans k2, (World.cell?_of_block (a := ⟨G, 3, none⟩) h8).trans k3, (World.cell?_of_block (a := ⟨G, 4, none⟩) h8).trans k4, (World.cell?_of_block (a := ⟨G, 5, none⟩) h8).trans k5, (World.cell?_of_block (a := ⟨G, 6, none⟩) h8).trans k6⟩)
      clear k0 k1 k2 k3 k4 k5 k6 kc hGb hGl
      go_region_held3 (fun w' => w'.cell? ⟨p, 0, none⟩ = some (.pointer (some ⟨g, 0, none⟩)) ∧ w'.cell? ⟨G, 0, none⟩ = some (.int .i64 0) ∧ w'.cell? ⟨G, 1, none⟩ = some (.int .i64 0) ∧ w'.cell? ⟨G, 2, none⟩ = some (.string t) ∧ w'.cell? ⟨G, 3, none⟩ = some (.int .i64 m) ∧ w'.cell? ⟨G, 4, none⟩ = some (.int .i64 1) ∧ w'.cell? ⟨G, 5, none⟩ = some (.string t) ∧ w'.cell? ⟨G, 6, none⟩ = some (.int .i64 q))
        (first | assumption | exact HSA.out _ _ (by assumption))
        (first | (go_at_call 19; refine (HPO.out W.drew ⟨HCU.out.1.lg.blk, HCU.out.1.lg.map.move rfl⟩).mono ?_; rintro e w5 ⟨rfl, H5⟩; have kk := HSG.out w5 H5.out.1 H5.out.2))
      go_wp2
      go_ret
      have hcd : CU W.drew p g b M := ⟨HCU.out.1.blk, HCU.out.1.lg.blk, HCU.out.1.lg.map.move rfl⟩
      have hgd := HN.out _ HCU.out.2.drew
      exact ⟨rfl, ⟨hcd.turn H5.out.2 H5.out.1, hgd.andThen H5.out.2 (fun _ hj => .inr hj)⟩⟩
end Go.Proofs.Ytoknlpecbdlbfaa.PL

-- Custody: Position, walked.
namespace Go.Proofs.Ytoknlpecbdlbfaa.PL
open Go Go.RowKit Go.Maps Go.Sort Go.Shelf Go.Proofs Go.Proofs.YtoknlpecbdlbfaaW.PrintWords Go.Proofs.YtoknlpecbdlbfaaW.PrintLast
/-- The three boxes that Position's closure holds. -/
def B3 (w : World) (x y z p : Nat) (m : Int) (t : ByteArray) : Prop := w.cell? ⟨x, 0, none⟩ = some (.pointer (some ⟨p, 0, none⟩)) ∧ w.cell? ⟨y, 0, none⟩ = some (.int .i64 m) ∧ w.cell? ⟨z, 0, none⟩ = some (.string t)
theorem B3.below {w w' : World} {x y z p : Nat} {m : Int} {t : ByteArray} (h : B3 w x y z p m t) (hb : Below w.heap.size w w') : B3 w' x y z p m t := ⟨cell_keep hb h.1, cell_keep hb h.2.1, cell_keep hb h.2.2⟩
set_option maxRecDepth 100000 in
set_option maxHeartbeats 1000000 in
theorem at_any {w : World} {p g b : Nat} {M : List (S42 × Int)} (h : CU w p g b M) {x y z : Nat} {m : Int} {t : ByteArray} (h3 : B3 w x y z p m t) (k : Int) (ha : Wfa ⟨m, k, t⟩) :
    Calls Try.prog 77 #[.int .i64 k, .pointer (some ⟨x, 0, none⟩), .pointer (some ⟨y, 0, none⟩), .pointer (some ⟨z, 0, none⟩)] w fun e w' => e = .returned (.int .i64 (getM M ⟨m, k, t⟩)) ∧ Below w.heap.size w w' := by
  have hd : CU w.drew p g b M := ⟨h.blk, h.lg.blk, h.lg.map.move rfl⟩
  have HD := Lib.hid hd
  have HA := Lib.hid ha
  obtain ⟨c1, c2, c3⟩ := h3
  have c0 := h.cell
  have hSD : w.drew.cell? ⟨x, 0, none⟩ = some (.pointer (some ⟨p, 0, none⟩)) ∧ w.drew.cell? ⟨y, 0, none⟩ = some (.int .i64 m) ∧ w.drew.cell? ⟨z, 0, none⟩ = some (.string t) ∧ w.drew.cell? ⟨p, 0, none⟩ = some (.pointer (some ⟨g, 0, none⟩)) := ⟨c1, c2, c3, c0⟩
  have HSB := Lib.hid (show ∀ w1 w2 : World, Below w1.heap.size w1 w2 → (w1.cell? ⟨x, 0, none⟩ = some (.pointer (some ⟨p, 0, none⟩)) ∧ w1.cell? ⟨y, 0, none⟩ = some (.int .i64 m) ∧ w1.cell? ⟨z, 0, none⟩ = some (.string t) ∧ w1.cell? ⟨p, 0, none⟩ = some (.pointer (some ⟨g, 0, none⟩))) → (w2.cell? ⟨x, 0, none⟩ = some (.pointer (some ⟨p, 0, none⟩)) ∧ w2.cell? ⟨y, 0, none⟩ = some (.int .i64 m) ∧ w2.cell? ⟨z, 0, none⟩ = some (.string t) ∧ w2.cell? ⟨p, 0, none⟩ = some (.pointer (some ⟨g, 0, none⟩))) from fun w1 w2 hb ⟨s0, s1, s2, s3⟩ => ⟨cell_keep hb s0, cell_keep hb s1, cell_keep hb s2, cell_keep hb s3⟩)
  have HS0 := Lib.hid hSD
  clear h hd ha
  go_enter Try.func77, Try.ntmps77
  go_wp2
  go_region_held3 (fun w' => w'.cell? ⟨x, 0, none⟩ = some (.pointer (some ⟨p, 0, none⟩)) ∧ w'.cell? ⟨y, 0, none⟩ = some (.int .i64 m) ∧ w'.cell? ⟨z, 0, none⟩ = some (.string t) ∧ w'.cell? ⟨p, 0, none⟩ = some (.pointer (some ⟨g, 0, none⟩)))
    (first | assumption)
    (first
      | (go_at_call 25; refine (balance_any (HD.out.below H2.out).lg (a := ⟨m, k, t⟩) HA.out).mono ?_; rintro e w3 ⟨rfl, H3⟩; have kk3 := HSB.out _ _ H3 (HSB.out _ _ H2.out HS0.out); replace H3 := Lib.hid H3)
      | (go_at_call 76; refine (acc_any _ _ _ _).mono ?_; rintro e w2 ⟨rfl, H2⟩; have kk2 := HSB.out _ _ H2 HS0.out; replace H2 := Lib.hid H2))
  go_wp2
  go_ret
  have hb := (Below.refl w.heap.size w).drew
  have hb2 := hb.trans (H2.out.mono hb.size)
  exact ⟨rfl, hb2.trans (H3.out.mono hb2.size)⟩
theorem cell4 {W : World} {k : Nat} {v0 v1 v2 v3 : Value} {t : TypeId} (h : W.heap[k]? = some (.cells #[v0, v1, v2, v3] t (0, 0))) : W.cell? ⟨k, 0, none⟩ = some v0 ∧ W.cell? ⟨k, 1, none⟩ = some v1 ∧ W.cell? ⟨k, 2, none⟩ = some v2 ∧ W.cell? ⟨k, 3, none⟩ = some v3 := by
  refine ⟨?_, ?_, ?_, ?_⟩ <;> (unfold World.cell?; rw [h]; rfl)
theorem froz4 {W : World} {k : Nat} {v0 v1 v2 v3 : Value} {t : TypeId} (h : W.heap[k]? = some (.cells #[v0, v1, v2, v3] t (0, 0))) : W.frozen? ⟨k, 0, none⟩ = false ∧ W.frozen? ⟨k, 1, none⟩ = false ∧ W.frozen? ⟨k, 2, none⟩ = false ∧ W.frozen? ⟨k, 3, none⟩ = false := by
  refine ⟨?_, ?_, ?_, ?_⟩ <;> simp [World.frozen?, h]
set_option maxRecDepth 100000 in
set_option maxHeartbeats 1000000 in
theorem pos_any {w : World} {p g b : Nat} {M : List (S42 × Int)} (h : CU w p g b M) (m : Int) (t : ByteArray) (hm : (Lit.int .i64 m).wf = true) (ht : t.size ≤ maxLen) :
    Calls Try.prog 47 #[.pointer (some ⟨p, 0, none⟩), .int .i64 m, .string t] w fun e w' => e = .returned (.agg #[.int .i64 (getM M ⟨m, 1, t⟩), .int .i64 (getM M ⟨m, 2, t⟩), .int .i64 (getM M ⟨m, 3, t⟩), .int .i64 (getM M ⟨m, 4, t⟩)]) ∧ Below w.heap.size w w' := by
  have H1 := Lib.hid (show Wfa ⟨m, 1, t⟩ from ⟨hm, by kernel_rfl, ht⟩)
  have H2 := Lib.hid (show Wfa ⟨m, 2, t⟩ from ⟨hm, by kernel_rfl, ht⟩)
  have H3 := Lib.hid (show Wfa ⟨m, 3, t⟩ from ⟨hm, by kernel_rfl, ht⟩)
  have H4 := Lib.hid (show Wfa ⟨m, 4, t⟩ from ⟨hm, by kernel_rfl, ht⟩)
  obtain ⟨W0, hW0⟩ : ∃ W0, W0 = (((w.alloc (.cells #[.pointer (some ⟨p, 0, none⟩)] 66)).alloc (.cells #[.int .i64 m] 3)).alloc (.cells #[.string t] 9)).alloc (.cells #[.int .i64 0, .int .i64 0, .int .i64 0, .int .i64 0] 93) := ⟨_, rfl⟩
  have hb0 : Below w.heap.size w W0 := by
    rw [hW0]
    exact ((((Below.refl _ _).alloc (Nat.le_refl _) _).alloc (by simp) _).alloc (by simp; omega) _).alloc (by simp; omega) _
  have hbox : B3 W0 w.heap.size (w.heap.size + 1) (w.heap.size + 1 + 1) p m t ∧ W0.heap[w.heap.size + 1 + 1 + 1]? = some (.cells #[.int .i64 0, .int .i64 0, .int .i64 0, .int .i64 0] 93 (0, 0)) := by
    have e1 : (w.alloc (.cells #[.pointer (some ⟨p, 0, none⟩)] 66)).heap.size = w.heap.size + 1 := by simp
    have e2 : ((w.alloc (.cells #[.pointer (some ⟨p, 0, none⟩)] 66)).alloc (.cells #[.int .i64 m] 3)).heap.size = w.heap.size + 1 + 1 := by simp
    have e3 : (((w.alloc (.cells #[.pointer (some ⟨p, 0, none⟩)] 66)).alloc (.cells #[.int .i64 m] 3)).alloc (.cells #[.string t] 9)).heap.size = w.heap.size + 1 + 1 + 1 := by simp
    have hA := Go.MapKept.heap_alloc w (.cells #[.pointer (some ⟨p, 0, none⟩)] 66)
    have hB := Go.MapKept.heap_alloc (w.alloc (.cells #[.pointer (some ⟨p, 0, none⟩)] 66)) (.cells #[.int .i64 m] 3)
    have hC := Go.MapKept.heap_alloc ((w.alloc (.cells #[.pointer (some ⟨p, 0, none⟩)] 66)).alloc (.cells #[.int .i64 m] 3)) (.cells #[.string t] 9)
    have hD := Go.MapKept.heap_alloc (((w.alloc (.cells #[.pointer (some ⟨p, 0, none⟩)] 66)).alloc (.cells #[.int .i64 m] 3)).alloc (.cells #[.string t] 9)) (.cells #[.int .i64 0, .int .i64 0, .int .i64 0, .int .i64 0] 93)
    rw [e1] at hB
    rw [e2] at hC
    rw [e3] at hD
    rw [← hW0] at hD
    have g0 := (hD.2 w.heap.size (by omega)).trans ((hC.2 w.heap.size (by omega)).trans ((hB.2 w.heap.size (by omega)).trans hA.1))
    have g1 := (hD.2 (w.heap.size + 1) (by omega)).trans ((hC.2 (w.heap.size + 1) (by omega)).trans hB.1)
    have g2 := (hD.2 (w.heap.size + 1 + 1) (by omega)).trans hC.1
    have cat : ∀ {k : Nat} {v : Value} {ty : TypeId}, W0.heap[k]? = some (.cells #[v] ty (0, 0)) → W0.cell? ⟨k, 0, none⟩ = some v := fun {k v ty} h => by
      unfold World.cell?
      rw [h]
      rfl
    exact ⟨⟨cat g0, cat g1, cat g2⟩, hD.1⟩
  have HU := Lib.hid (h.below hb0)
  have HB0 := Lib.hid (And.intro hb0 hbox)
  clear h hm ht hb0 hbox
  go_enter Try.func47, Try.ntmps47
  go_wp2_with (first
    | (go_at_call 77; refine (at_any (((HU.out.below K2.out).below K3.out).below K4.out) (((HB0.out.2.1.below K2.out).below K3.out).below K4.out) 4 H4.out).mono ?_; rintro e w5 ⟨rfl, K5⟩
       have hr5 : w5.heap[w.heap.size + 1 + 1 + 1]? = some (.cells #[.int .i64 0, .int .i64 0, .int .i64 0, .int .i64 0] 93 (0, 0)) := by
         have l0 := (Array.getElem?_eq_some_iff.1 HB0.out.2.2).1
         have l2 := Nat.lt_of_lt_of_le l0 K2.out.size
         have l3 := Nat.lt_of_lt_of_le l2 K3.out.size
         have l4 := Nat.lt_of_lt_of_le l3 K4.out.size
         exact (K5.block _ l4).trans ((K4.out.block _ l3).trans ((K3.out.block _ l2).trans ((K2.out.block _ l0).trans HB0.out.2.2)))
       obtain ⟨d0, d1, d2, d3⟩ := cell4 hr5
       obtain ⟨z0, z1, z2, z3⟩ := froz4 hr5
       have HR5 := Lib.hid hr5
       clear hr5
       replace K5 := Lib.hid K5)
    | (go_at_call 77; refine (at_any ((HU.out.below K2.out).below K3.out) ((HB0.out.2.1.below K2.out).below K3.out) 3 H3.out).mono ?_; rintro e w4 ⟨rfl, K4⟩; replace K4 := Lib.hid K4)
    | (go_at_call 77; refine (at_any (HU.out.below K2.out) (HB0.out.2.1.below K2.out) 2 H2.out).mono ?_; rintro e w3 ⟨rfl, K3⟩; replace K3 := Lib.hid K3)
    | (go_at_call 77; rw [← hW0]; refine (at_any HU.out HB0.out.2.1 1 H1.out).mono ?_; rintro e w2 ⟨rfl, K2⟩; replace K2 := Lib.hid K2)
    | (go_at_call 74; rw [← hW0]; refine (cmade_any HU.out).mono ?_; rintro e w1 ⟨rfl, rfl⟩))
  refine bodyPost_ret (results_cell_row rfl _ _ (w.heap.size + 1 + 1 + 1) 93 #[.int .i64 (getM M ⟨m, 1, t⟩), .int .i64 (getM M ⟨m, 2, t⟩), .int .i64 (getM M ⟨m, 3, t⟩), .int .i64 (getM M ⟨m, 4, t⟩)] (0, 0) _ rfl (by
    refine blk_put (cs := #[.int .i64 (getM M ⟨m, 1, t⟩), .int .i64 (getM M ⟨m, 2, t⟩), .int .i64 (getM M ⟨m, 3, t⟩), .int .i64 0]) ?_ 3 _ rfl
    refine blk_put (cs := #[.int .i64 (getM M ⟨m, 1, t⟩), .int .i64 (getM M ⟨m, 2, t⟩), .int .i64 0, .int .i64 0]) ?_ 2 _ rfl
    refine blk_put (cs := #[.int .i64 (getM M ⟨m, 1, t⟩), .int .i64 0, .int .i64 0, .int .i64 0]) ?_ 1 _ rfl
    refine blk_put (cs := #[.int .i64 0, .int .i64 0, .int .i64 0, .int .i64 0]) ?_ 0 _ rfl
    exact HR5.out) Try.underlying93 rfl (by kernel_rfl)) rfl ?_
  have b2 := HB0.out.1.trans (K2.out.mono HB0.out.1.size)
  have b3 := b2.trans (K3.out.mono b2.size)
  have b4 := b3.trans (K4.out.mono b3.size)
  have b5 := b4.trans (K5.out.mono b4.size)
  exact ⟨rfl, (((b5.setCell (by simp; omega) _).setCell (by simp; omega) _).setCell (by simp; omega) _).setCell (by simp; omega) _⟩
end Go.Proofs.Ytoknlpecbdlbfaa.PL
