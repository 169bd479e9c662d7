/- CustodyNobodyUpto holds: whatever act comes in whose reading is of bulk at most 1048576, nobody's books (nil, or a Custody that New did not make) move, shift, bring, have, tell and clone nothing; and the chapter's example holds. The bound on the bulk is the statement's own. -/
import Derived.Test.YtoknlpecbdlbfaaG5
import Derived.Test.YtoknlpecbdlbfaaPLx11
import Derived.Test.YtoknlpecbdlbfaaRows
import Derived.WalkKit
import Derived.ProofKit
import Derived.Deep.Slices
import Derived.OpenShut
import Derived.ShutString
import Derived.ChangeOld
import Derived.Below
import Derived.JoinedCond

-- Entries turned about take back what they did: the plain law.
namespace Go.Proofs.Ytoknlpecbdlbfaa.PL
open Go Go.RowKit Go.Maps Go.Sort Go.Shelf Go.Proofs Go.Proofs.YtoknlpecbdlbfaaW.PrintWords Go.Proofs.YtoknlpecbdlbfaaW.PrintLast
/-- None but the world has less than nothing. -/
def NN (M : List (S42 × Int)) : Prop := ∀ a, a.f0 ≠ 0 → 0 ≤ getM M a
/-- Two maps that have the same. -/
def Eqv (M M' : List (S42 × Int)) : Prop := ∀ a, getM M a = getM M' a
theorem Eqv.put {M M' : List (S42 × Int)} (h : Eqv M M') (a : S42) (n : Int) : Eqv (putM M a n) (putM M' a n) := by
  intro c
  rw [getM_putM, getM_putM, h c]
theorem NN.nil : NN [] := fun a _ => by simp [getM]
theorem NN.of {M M' : List (S42 × Int)} (h : NN M) (he : Eqv M' M) : NN M' := fun a ha => by rw [he a]; exact h a ha
theorem NN.put {M : List (S42 × Int)} (h : NN M) (a : S42) {n : Int} (hn : a.f0 ≠ 0 → 0 ≤ n) : NN (putM M a n) := by
  intro c hc
  rw [getM_putM]
  split
  · rename_i e
    subst e
    exact hn hc
  · exact h c hc
theorem Eqv.back (M : List (S42 × Int)) (a : S42) (m : Int) : Eqv (putM (putM M a (getM M a - m)) a (getM M a - m + m)) M := by
  intro c
  rw [getM_putM, getM_putM]
  split
  · rename_i e
    subst e
    omega
  · rfl
theorem NN.move {M : List (S42 × Int)} (h : NN M) (e : S107) : NN (moveM M e).1 := by
  unfold moveM
  split
  · exact h
  · rename_i hck
    have hck' := check_good (Classical.not_not.1 hck)
    split
    · exact h
    · rename_i hf
      split
      · exact h
      · split
        · exact h.of (Eqv.back M e.f0 e.f2)
        · have h1 : NN (putM M e.f0 (getM M e.f0 - e.f2)) := h.put _ (fun hz => by
            refine Classical.byContradiction fun hc => hf ⟨hz, ?_⟩
            omega)
          exact h1.put _ (fun hz => by have := h1 e.f1 hz; have := hck'.1; omega)
theorem moveM_congr {M M' : List (S42 × Int)} (h : Eqv M M') (e : S107) : (moveM M e).2 = (moveM M' e).2 ∧ Eqv (moveM M e).1 (moveM M' e).1 := by
  have h1 := h e.f0
  have h2 := (h.put e.f0 (getM M e.f0 - e.f2)) e.f1
  unfold moveM
  rw [← h1, ← h2]
  split
  · exact ⟨rfl, h⟩
  · split
    · exact ⟨rfl, h⟩
    · split
      · exact ⟨rfl, h⟩
      · split
        · exact ⟨rfl, (h.put _ _).put _ _⟩
        · exact ⟨rfl, (h.put _ _).put _ _⟩
/-- An entry turned about. -/
def sw (e : S107) : S107 := ⟨e.f1, e.f0, e.f2⟩
theorem check_sw {e : S107} (h : checkI e = 0) : checkI (sw e) = 0 := by
  obtain ⟨h1, h2, h3, h4, h5⟩ := check_good h
  unfold checkI sw
  simp only
  rw [if_neg (by omega), if_neg (by rw [h4]; simp), if_neg (by rw [h3]; simp), if_pos h5.symm]
theorem getM_move {M : List (S42 × Int)} {e : S107} (h : (moveM M e).2 = 0) (a : S42) : getM (moveM M e).1 a = if a = e.f1 then (if e.f1 = e.f0 then getM M e.f0 else getM M e.f1 + e.f2) else if a = e.f0 then getM M e.f0 - e.f2 else getM M a := by
  rw [move_ok h, getM_putM, getM_putM, getM_putM]
  split
  · split
    · omega
    · rfl
  · rfl
theorem move_conds {M : List (S42 × Int)} {e : S107} (h : (moveM M e).2 = 0) : checkI e = 0 ∧ ¬ (e.f0.f0 ≠ 0 ∧ getM M e.f0 - e.f2 < 0) ∧ ¬ (getM M e.f0 - e.f2 < -72057594037927936) := by
  have hck := moveM_ok h
  unfold moveM at h
  rw [if_neg (by simpa using hck)] at h
  by_cases c1 : e.f0.f0 ≠ 0 ∧ getM M e.f0 - e.f2 < 0
  · rw [if_pos c1] at h
    exact absurd (show (20 : Int) = 0 from h) (by decide)
  · rw [if_neg c1] at h
    by_cases c2 : getM M e.f0 - e.f2 < -72057594037927936
    · rw [if_pos c2] at h
      exact absurd (show (9 : Int) = 0 from h) (by decide)
    · exact ⟨hck, c1, c2⟩
theorem move_sw {M M' : List (S42 × Int)} {e : S107} (hn : NN M) (hB : BM M) (hok : (moveM M e).2 = 0) (he : Eqv M' (moveM M e).1) : (moveM M' (sw e)).2 = 0 ∧ Eqv (moveM M' (sw e)).1 M := by
  obtain ⟨hck, c1, c2⟩ := move_conds hok
  have hm := check_good hck
  have g1 : getM M' e.f1 = if e.f1 = e.f0 then getM M e.f0 else getM M e.f1 + e.f2 := by
    rw [he, getM_move hok, if_pos rfl]
  have g0 : getM M' e.f0 = if e.f0 = e.f1 then getM M e.f0 else getM M e.f0 - e.f2 := by
    rw [he, getM_move hok]
    by_cases q : e.f0 = e.f1
    · rw [if_pos q, if_pos q, if_pos q.symm]
    · rw [if_neg q, if_neg q, if_pos rfl]
  have hb0 := hB e.f0
  have hb1 := hB e.f1
  have hok2 : (moveM M' (sw e)).2 = 0 := by
    unfold moveM
    rw [if_neg (by simpa using check_sw hck)]
    show (if e.f1.f0 ≠ 0 ∧ getM M' e.f1 - e.f2 < 0 then (M', (20 : Int)) else _).2 = 0
    rw [if_neg, if_neg, if_neg]
    · show ¬ 72057594037927936 < getM (putM M' e.f1 (getM M' e.f1 - e.f2)) e.f0 + e.f2
      rw [getM_putM]
      by_cases q : e.f0 = e.f1
      · rw [if_pos q, g1, if_pos q.symm]
        omega
      · rw [if_neg q, g0, if_neg q]
        omega
    · show ¬ getM M' e.f1 - e.f2 < -72057594037927936
      rw [g1]
      split
      · exact c2
      · omega
    · rintro ⟨q1, q2⟩
      rw [g1] at q2
      by_cases q : e.f1 = e.f0
      · rw [if_pos q] at q2
        rw [q] at q1
        exact c1 ⟨q1, q2⟩
      · rw [if_neg q] at q2
        have := hn e.f1 q1
        omega
  refine ⟨hok2, fun a => ?_⟩
  rw [getM_move hok2]
  show (if a = e.f0 then (if e.f0 = e.f1 then getM M' e.f1 else getM M' e.f0 + e.f2) else if a = e.f1 then getM M' e.f1 - e.f2 else getM M' a) = getM M a
  by_cases q : e.f0 = e.f1
  · by_cases qa : a = e.f0
    · rw [if_pos qa, if_pos q, g1, if_pos q.symm, qa]
    · have qa1 : ¬ a = e.f1 := fun h => qa (h.trans q.symm)
      rw [if_neg qa, if_neg qa1, he, getM_move hok, if_neg qa1, if_neg qa]
  · by_cases qa : a = e.f0
    · rw [if_pos qa, if_neg q, g0, if_neg q, qa]
      omega
    · rw [if_neg qa]
      by_cases qb : a = e.f1
      · rw [if_pos qb, g1, if_neg (fun h => q h.symm), qb]
        omega
      · rw [if_neg qb, he, getM_move hok, if_neg qb, if_neg qa]
/-- All entries are done. -/
def allOk (M : List (S42 × Int)) : List S107 → Prop
  | [] => True
  | e :: r => (moveM M e).2 = 0 ∧ allOk (moveM M e).1 r
/-- What they come to. -/
def fin (M : List (S42 × Int)) : List S107 → List (S42 × Int)
  | [] => M
  | e :: r => fin (moveM M e).1 r
theorem post_allOk : ∀ (l done : List S107) (M : List (S42 × Int)), (postL done M l).2.2 = 0 → allOk M l ∧ (postL done M l).1 = fin M l
  | [], _, _, _ => ⟨trivial, rfl⟩
  | e :: r, done, M, h => by
    unfold postL at h ⊢
    by_cases c : (moveM M e).2 = 0
    · rw [if_pos c] at h ⊢
      obtain ⟨h1, h2⟩ := post_allOk r (e :: done) _ h
      exact ⟨⟨c, h1⟩, h2⟩
    · rw [if_neg c] at h
      exact absurd h c
theorem allOk_post : ∀ (l done : List S107) (M : List (S42 × Int)), allOk M l → (postL done M l).2.2 = 0 ∧ (postL done M l).1 = fin M l
  | [], _, _, _ => ⟨rfl, rfl⟩
  | e :: r, done, M, h => by
    unfold postL
    rw [if_pos h.1]
    exact allOk_post r (e :: done) _ h.2
theorem allOk_append : ∀ (l l' : List S107) (M : List (S42 × Int)), allOk M l → allOk (fin M l) l' → allOk M (l ++ l') ∧ fin M (l ++ l') = fin (fin M l) l'
  | [], _, _, _, h => ⟨h, rfl⟩
  | e :: r, l', M, h, h' => by
    obtain ⟨h1, h2⟩ := allOk_append r l' (moveM M e).1 h.2 h'
    exact ⟨⟨h.1, h1⟩, h2⟩
theorem back_ok : ∀ (l : List S107) (M M' : List (S42 × Int)), NN M → BM M → allOk M l → Eqv M' (fin M l) → allOk M' (l.map sw).reverse ∧ Eqv (fin M' (l.map sw).reverse) M
  | [], _, _, _, _, _, he => ⟨trivial, he⟩
  | e :: r, M, M', hn, hB, h, he => by
    obtain ⟨h1, h2⟩ := back_ok r (moveM M e).1 M' (hn.move e) (hB.move e) h.2 he
    obtain ⟨h3, h4⟩ := move_sw hn hB h.1 h2
    rw [List.map_cons, List.reverse_cons]
    obtain ⟨h5, h6⟩ := allOk_append (r.map sw).reverse [sw e] M' h1 ⟨h3, trivial⟩
    refine ⟨h5, ?_⟩
    rw [h6]
    exact h4
theorem fin_NN : ∀ (l : List S107) (M : List (S42 × Int)), NN M → NN (fin M l)
  | [], _, h => h
  | e :: r, _, h => fin_NN r _ (h.move e)
/-- A post that can't be done leaves the document's list. -/
theorem pst_fail : ∀ (x : List S107) (L0 : List S82) (n : Nat) (L : List S82), (pstL L0 n L x).2.2 ≠ 0 → (pstL L0 n L x).1 = L0
  | [], L0, n, L, h => by
    unfold pstL at h
    exact absurd rfl h
  | e :: r, L0, n, L, h => by
    unfold pstL at h ⊢
    by_cases c : (mvL L e).2 = 0
    · rw [if_pos c] at h ⊢
      exact pst_fail r L0 (n + 1) _ h
    · rw [if_neg c]
/-- NN holds behind every post. -/
theorem NN.post {M : List (S42 × Int)} {L : List S82} (hr : Rep M L) (hB : BM M) (hn : NN M) (l : List S107) : NN (postL [] M l).1 := by
  obtain ⟨e1, e2, e3, e4⟩ := rep_post0 hr hB l
  by_cases c : (postL [] M l).2.2 = 0
  · rw [(post_allOk l [] M c).2]
    exact fin_NN l M hn
  · rw [e2] at c
    have h1 := pst_fail l L 0 L c
    rw [h1] at e3
    refine hn.of (fun a => ?_)
    rw [e3.same, hr.same]
/-- What LedgerBack says, of maps. -/
theorem post_back {M : List (S42 × Int)} {L : List S82} (hr : Rep M L) (hB : BM M) (hn : NN M) (l : List S107) (hok : (postL [] M l).2.2 = 0) :
    (postL [] (postL [] M l).1 (l.map sw).reverse).2.2 = 0 ∧ Rep (postL [] (postL [] M l).1 (l.map sw).reverse).1 L := by
  obtain ⟨e1, e2, e3, e4⟩ := rep_post0 hr hB l
  obtain ⟨h1, h2⟩ := post_allOk l [] M hok
  obtain ⟨h3, h4⟩ := back_ok l M (postL [] M l).1 hn hB h1 (fun a => by rw [h2])
  obtain ⟨h5, h6⟩ := allOk_post _ [] _ h3
  refine ⟨h5, hr.of ?_ (fun a => by rw [h6]; exact h4 a)⟩
  exact (rep_post0 e3 e4 _).2.2.1.ok
end Go.Proofs.Ytoknlpecbdlbfaa.PL

-- LedgerBack, walked.
namespace Go.Proofs.Ytoknlpecbdlbfaa.PL
open Go Go.RowKit Go.Maps Go.Sort Go.Shelf Go.Proofs Go.Proofs.YtoknlpecbdlbfaaW.PrintWords Go.Proofs.YtoknlpecbdlbfaaW.PrintLast
theorem info47 : (Try.prog.info? 47).map (fun i => (i.zero, i.size, i.bytes)) = some (some (.agg #[(.int .i64 0), (.int .i64 0), (.string ⟨#[]⟩), (.int .i64 0), (.int .i64 0), (.string ⟨#[]⟩), (.int .i64 0)]), 7, 72) := by kernel_rfl
/-- A map, the document's list, and what is known of both. -/
structure St (M : List (S42 × Int)) (L : List S82) : Prop where
  rep : Rep M L
  bm : BM M
  nn : NN M
theorem St.nil : St [] [] := ⟨Rep.nil, BM.nil, NN.nil⟩
theorem St.post {M : List (S42 × Int)} {L : List S82} (h : St M L) (l : List S107) : St (postL [] M l).1 (pstL L 0 L l).1 := by
  obtain ⟨e1, e2, e3, e4⟩ := rep_post0 h.rep h.bm l
  exact ⟨e3, e4, h.nn.post h.rep h.bm l⟩
theorem St.fail {M : List (S42 × Int)} {L : List S82} (h : St M L) (l : List S107) (hf : (postL [] M l).2.2 ≠ 0) : Rep (postL [] M l).1 L := by
  obtain ⟨e1, e2, e3, e4⟩ := rep_post0 h.rep h.bm l
  rw [e2] at hf
  rw [pst_fail l L 0 L hf] at e3
  exact e3
theorem post_M {g b : Nat} {M : List (S42 × Int)} {L : List S82} {w : World} (h : LG w g b M) (hs : St M L) (A : Option Addr) (c : Nat) (xs : List S47) (hC : Kd.C k107 w A xs.length (xs.map toE)) (hx : xs.length ≤ 4096) (hL : L.length ≤ 1000000) (R : List (S42 × Int) × Int × Int) (hR : postL [] M (xs.map toE) = R) :
    Calls Try.prog 19 #[.pointer (some ⟨g, 0, none⟩), .slice A xs.length c] w fun e w' => e = .returned (.tuple #[.int .i64 R.2.1, .int .i64 R.2.2]) ∧ Hid (LG w' g b R.1 ∧ w.grownBy w' (some b)) := by
  have hlen := rep_length hs.rep
  have h1 := post_any h hs.bm A c (xs.map toE) (by rw [List.length_map]; exact hC) (by rw [List.length_map]; exact hx) (by rw [List.length_map]; unfold maxLen; omega)
  rw [List.length_map, hR] at h1
  exact h1
theorem clone_hid {g b : Nat} {M : List (S42 × Int)} {w : World} (h : LG w g b M) :
    Calls Try.prog 24 #[.pointer (some ⟨g, 0, none⟩)] w fun e w' => e = .returned (.pointer (some ⟨w.heap.size + 1, 0, none⟩)) ∧ Hid (LG w' (w.heap.size + 1) w.heap.size M ∧ Below w.heap.size w w') :=
  clone_any h
/-- What is told at the end: the ledger, its two clones, and what was told before. -/
structure XS (w : World) (g b gy by' gz bz : Nat) (Mx My Mz : List (S42 × Int)) (L1 L2 : List S82) (A1 A2 : Option Addr) (c1 c2 : Nat) (W : World) : Prop where
  x : LG W g b Mx
  y : LG W gy by' My
  z : LG W gz bz Mz
  rx : Rep Mx L1
  ry : Rep My L1
  rz : Rep Mz L2
  l1 : L1.length ≤ 1000000
  l2 : L2.length ≤ 1000000
  was : Kd.C k82 W A1 L1.length L1
  cw : L1.length ≤ c1
  now : Kd.C k82 W A2 L2.length L2
  cn : L2.length ≤ c2
  bl : Below w.heap.size w W
theorem XS.step {w : World} {g b gy by' gz bz : Nat} {Mx My Mz : List (S42 × Int)} {L1 L2 : List S82} {A1 A2 : Option Addr} {c1 c2 : Nat} {W W' : World} (h : XS w g b gy by' gz bz Mx My Mz L1 L2 A1 A2 c1 c2 W) (hb : Below W.heap.size W W') : XS w g b gy by' gz bz Mx My Mz L1 L2 A1 A2 c1 c2 W' :=
  ⟨h.x.below hb, h.y.below hb, h.z.below hb, h.rx, h.ry, h.rz, h.l1, h.l2, Kd.C_below h.was hb, h.cw, Kd.C_below h.now hb, h.cn, h.bl.trans (hb.mono h.bl.size)⟩
/-- An entry turned about, as it comes in. -/
def swE (e : S47) : S47 := ⟨e.f1, e.f0, e.f2⟩
theorem toE_sw (T : List S47) : ((T.map swE).reverse).map toE = ((T.map toE).map sw).reverse := by
  rw [List.map_reverse, List.map_map, List.map_map]
  rfl
set_option maxRecDepth 100000 in
theorem back_long (A B : Option Addr) (c d : Nat) (F T : List S47) (w : World) (h : 60 < F.length ∨ 60 < T.length) :
    Calls Try.prog 5 #[.slice A F.length c, .slice B T.length d] w fun e w' => e = .returned (.bool true) ∧ Below w.heap.size w w' := by
  by_cases c1 : 60 < F.length
  · have p1 : ((F.length : Int) > 60) = True := eq_true (by omega)
    clear c1 h
    go_enter Try.func5, Try.ntmps5
    go_wp2_with (go_at_call 16; refine (awake_walk _).mono ?_; rintro e w2 ⟨rfl, H2⟩; replace H2 := Lib.hid H2)
    go_ret
    exact ⟨rfl, H2.out⟩
  · have p1 : ((F.length : Int) > 60) = False := eq_false (by omega)
    have p2 : ((T.length : Int) > 60) = True := eq_true (by omega)
    clear c1 h
    go_enter Try.func5, Try.ntmps5
    go_wp2_with (go_at_call 16; refine (awake_walk _).mono ?_; rintro e w2 ⟨rfl, H2⟩; replace H2 := Lib.hid H2)
    go_ret
    exact ⟨rfl, H2.out⟩
end Go.Proofs.Ytoknlpecbdlbfaa.PL

-- Custody: New, made, Bring, walked.
namespace Go.Proofs.Ytoknlpecbdlbfaa.PL
open Go Go.RowKit Go.Maps Go.Sort Go.Shelf Go.Proofs Go.Proofs.YtoknlpecbdlbfaaW.PrintWords Go.Proofs.YtoknlpecbdlbfaaW.PrintLast
/-- Block p holds a Custody over the ledger at g. -/
structure CU (w : World) (p g b : Nat) (M : List (S42 × Int)) : Prop where
  blk : w.heap[p]? = some (.cells #[.pointer (some ⟨g, 0, none⟩)] 102 (0, 0))
  lg : LG w g b M
theorem CU.cell {w : World} {p g b : Nat} {M : List (S42 × Int)} (h : CU w p g b M) : w.cell? ⟨p, 0, none⟩ = some (.pointer (some ⟨g, 0, none⟩)) := by
  unfold World.cell?
  rw [h.blk]
  rfl
theorem CU.lt {w : World} {p g b : Nat} {M : List (S42 × Int)} (h : CU w p g b M) : p < w.heap.size := (Array.getElem?_eq_some_iff.1 h.blk).1
theorem CU.ne {w : World} {p g b : Nat} {M : List (S42 × Int)} (h : CU w p g b M) : p ≠ b := fun e => by
  obtain ⟨es, clock, hb, _⟩ := h.lg.map
  have h1 := h.blk
  rw [e, hb] at h1
  cases h1
theorem CU.below {w w' : World} {p g b : Nat} {M : List (S42 × Int)} (h : CU w p g b M) (hb : Below w.heap.size w w') : CU w' p g b M := ⟨(hb.block p h.lt).trans h.blk, h.lg.below hb⟩
theorem CU.turn {w w' : World} {p g b : Nat} {M M' : List (S42 × Int)} (h : CU w p g b M) (hg : w.grownBy w' (some b)) (hl : LG w' g b M') : CU w' p g b M' := ⟨(hg.block p h.lt (by simpa using h.ne)).trans h.blk, hl⟩
set_option maxRecDepth 100000 in
theorem cmade_any {w : World} {p g b : Nat} {M : List (S42 × Int)} (h : CU w p g b M) : Calls Try.prog 74 #[.pointer (some ⟨p, 0, none⟩)] w fun e w' => e = .returned (.bool true) ∧ w = w' := by
  have hc := h.cell
  clear h
  go_enter Try.func74, Try.ntmps74
  go_wp2
  go_ret
  exact ⟨rfl, rfl⟩
/-- p is no Custody in w. -/
def NoCU (w : World) (p : Value) : Prop := p = .pointer none ∨ ∃ q : Nat, p = .pointer (some ⟨q, 0, none⟩) ∧ w.cell? ⟨q, 0, none⟩ = some (.pointer none)
theorem NoCU.below {w w' : World} {p : Value} (h : NoCU w p) (hb : Below w.heap.size w w') : NoCU w' p := by
  rcases h with rfl | ⟨g, rfl, hc⟩
  · exact .inl rfl
  · exact .inr ⟨g, rfl, cell_keep hb hc⟩
set_option maxRecDepth 100000 in
theorem cmade_no {w : World} {p : Value} (h : NoCU w p) : Calls Try.prog 74 #[p] w fun e w' => e = .returned (.bool false) ∧ w = w' := by
  rcases h with rfl | ⟨g, rfl, hc⟩
  · go_enter Try.func74, Try.ntmps74
    go_wp2
    go_ret
    exact ⟨rfl, rfl⟩
  · go_enter Try.func74, Try.ntmps74
    go_wp2
    go_ret
    exact ⟨rfl, rfl⟩
set_option maxRecDepth 100000 in
theorem cnew_any (w : World) : Calls Try.prog 34 #[] w fun e w' => ∃ p g b, e = .returned (.pointer (some ⟨p, 0, none⟩)) ∧ Hid (CU w' p g b [] ∧ Below w.heap.size w w' ∧ w.heap.size ≤ b ∧ w.heap.size ≤ p ∧ w.heap.size ≤ g) := by
  go_enter Try.func34, Try.ntmps34
  go_wp2_with (go_at_call 17; refine (new_any _).mono ?_; rintro e w1 ⟨rfl, H1⟩; replace H1 := Lib.hid H1)
  go_ret
  have hb : Below w1.heap.size w1 (w1.alloc (.cells #[.pointer (some ⟨w.heap.size + 1, 0, none⟩)] 102)) := (Below.refl _ _).alloc (Nat.le_refl _) _
  exact ⟨w1.heap.size, w.heap.size + 1, w.heap.size, rfl, ⟨⟨(Go.MapKept.heap_alloc w1 _).1, H1.out.1.below hb⟩, H1.out.2.trans (hb.mono H1.out.2.size), Nat.le_refl _, H1.out.2.size, by omega⟩⟩
/-- No such member, or book. -/
def wrB (m b : Int) : Bool := decide (m < 1 ∨ 32 < m ∨ b < 1 ∨ 4 < b)
theorem wr_f (m b : Int) : custody_wrong.f m b = some (wrB m b) := by
  unfold custody_wrong.f wrB
  by_cases h1 : m < 1
  · rw [if_pos h1]; simp [h1]
  · rw [if_neg h1]
    by_cases h2 : m > 32
    · rw [if_pos h2]
      congr 1
      exact (decide_eq_true (by omega)).symm
    · rw [if_neg h2]
      by_cases h3 : b < 1
      · rw [if_pos h3]; simp [h3]
      · rw [if_neg h3]
        congr 1
        exact decide_eq_decide.2 (by omega)
theorem wr_any (m b : Int) (w : World) : Calls Try.prog 75 #[.int .i64 m, .int .i64 b] w fun e w' => e = .returned (.bool (wrB m b)) ∧ Below w.heap.size w w' :=
  (custody_wrong.calls m b _ w (wr_f m b)).mono (fun _ _ h => ⟨h.1, h.2.below⟩)
theorem acc_any (m b : Int) (t : ByteArray) (w : World) : Calls Try.prog 76 #[.int .i64 m, .int .i64 b, .string t] w fun e w' => e = .returned (.agg #[.int .i64 m, .int .i64 b, .string t]) ∧ Below w.heap.size w w' :=
  custody_account.calls m b t m b t w rfl
/-- A post of one entry that has just been laid. -/
theorem post_one {W : World} {g b : Nat} {M : List (S42 × Int)} (h : LG W g b M) (hB : BM M) (hm : M.length ≤ 1000000000) (e : S107) :
    Calls Try.prog 19 #[.pointer (some ⟨g, 0, none⟩), .slice (some ⟨W.heap.size, 0, none⟩) 1 1] (W.alloc (.cells #[.int .i64 e.f0.f0, .int .i64 e.f0.f1, .string e.f0.f2, .int .i64 e.f1.f0, .int .i64 e.f1.f1, .string e.f1.f2, .int .i64 e.f2] 107)) fun o w' => o = .returned (.tuple #[.int .i64 (postL [] M [e]).2.1, .int .i64 (postL [] M [e]).2.2]) ∧ Hid (LG w' g b (postL [] M [e]).1 ∧ W.grownBy w' (some b)) := by
  have hb : Below W.heap.size W (W.alloc (.cells ([e].flatMap c7).toArray 107)) := (Below.refl _ _).alloc (Nat.le_refl _) _
  have h1 := post_any (h.below hb) hB (some ⟨W.heap.size, 0, none⟩) 1 [e] (C107_new W _ (by unfold maxLen; simp)) (by simp) (by unfold maxLen; simp; omega)
  exact h1.mono (fun _ w' ⟨a, b, c⟩ => ⟨a, b, grown_box0 _ c⟩)
/-- What Bring posts. -/
def brE (m : Int) (t : ByteArray) (q : Int) : S107 := if q < 0 then ⟨⟨m, 1, t⟩, ⟨0, 0, t⟩, -q⟩ else ⟨⟨0, 0, t⟩, ⟨m, 1, t⟩, q⟩
/-- Bring. -/
def brL (M : List (S42 × Int)) (m : Int) (t : ByteArray) (q : Int) : List (S42 × Int) × Int := if wrB m 1 = true then (M, 22) else if q < -1125899906842624 then (M, 1) else ((postL [] M [brE m t q]).1, (postL [] M [brE m t q]).2.2)
set_option maxRecDepth 100000 in
theorem bring_no {w : World} {p : Value} (h : NoCU w p) (m q : Int) (t : ByteArray) : Calls Try.prog 42 #[p, .int .i64 m, .string t, .int .i64 q] w fun e w' => e = .returned (.int .i64 3) ∧ w = w' := by
  have H := Lib.hid (cmade_no h)
  clear h
  go_enter Try.func42, Try.ntmps42
  go_wp2_with (go_at_call 74; refine H.out.mono ?_; rintro e w1 ⟨rfl, rfl⟩)
  go_ret
  exact ⟨rfl, rfl⟩
set_option maxRecDepth 100000 in
set_option maxHeartbeats 1000000 in
theorem bring_any {w : World} {p g b : Nat} {M : List (S42 × Int)} (h : CU w p g b M) (hB : BM M) (hm : M.length ≤ 1000000000) (m q : Int) (t : ByteArray) :
    Calls Try.prog 42 #[.pointer (some ⟨p, 0, none⟩), .int .i64 m, .string t, .int .i64 q] w fun e w' => e = .returned (.int .i64 (brL M m t q).2) ∧ Hid (CU w' p g b (brL M m t q).1 ∧ w.grownBy w' (some b)) := by
  have hnone : ∀ w', Below w.heap.size w w' → w.grownBy w' (some b) := fun w' hb => ⟨hb.os, hb.tape, hb.output, hb.size, fun k hk _ => hb.block k hk⟩
  cases hw : wrB m 1 with
  | true =>
    have HWR := Lib.hid (show ∀ W, Calls Try.prog 75 #[.int .i64 m, .int .i64 1] W fun e w' => e = .returned (.bool true) ∧ Below W.heap.size W w' from fun W => by rw [← hw]; exact wr_any m 1 W)
    have HU := Lib.hid h
    have hr : brL M m t q = (M, 22) := by unfold brL; rw [if_pos hw]
    have HN := Lib.hid hnone
    rw [hr]
    clear h hw hnone hr
    go_enter Try.func42, Try.ntmps42
    go_wp2_with (first
      | (go_at_call 75; refine (HWR.out _).mono ?_; rintro e w2 ⟨rfl, H2⟩; replace H2 := Lib.hid H2)
      | (go_at_call 74; refine (cmade_any HU.out).mono ?_; rintro e w1 ⟨rfl, rfl⟩))
    go_ret
    exact ⟨rfl, ⟨HU.out.below H2.out, HN.out _ H2.out⟩⟩
  | false =>
    have HWR := Lib.hid (show ∀ W, Calls Try.prog 75 #[.int .i64 m, .int .i64 1] W fun e w' => e = .returned (.bool false) ∧ Below W.heap.size W w' from fun W => by rw [← hw]; exact wr_any m 1 W)
    have HU := Lib.hid h
    have HN := Lib.hid hnone
    have HBM := Lib.hid (And.intro hB hm)
    by_cases c1 : q < 0
    · have f1 : (q < 0) = True := eq_true c1
      by_cases c2 : q < -1125899906842624
      · have f2 : (q < -1125899906842624) = True := eq_true c2
        have hr : brL M m t q = (M, 1) := by unfold brL; rw [if_neg (by rw [hw]; simp), if_pos c2]
        rw [hr]
        clear h hw hnone hr c1 c2
        go_enter Try.func42, Try.ntmps42
        go_wp2_with (first
          | (go_at_call 76; refine (acc_any _ _ _ _).mono ?_; rintro e w3 ⟨rfl, H3⟩; replace H3 := Lib.hid H3)
          | (go_at_call 75; refine (HWR.out _).mono ?_; rintro e w2 ⟨rfl, H2⟩; replace H2 := Lib.hid H2)
          | (go_at_call 74; refine (cmade_any HU.out).mono ?_; rintro e w1 ⟨rfl, rfl⟩))
        go_ret
        have hb := (H2.out.trans (H3.out.mono H2.out.size)).alloc (Nat.le_trans H2.out.size H3.out.size) (.cells #[.int .i64 0, .int .i64 0, .string t, .int .i64 m, .int .i64 1, .string t, .int .i64 q] 107)
        exact ⟨rfl, ⟨HU.out.below hb, HN.out _ hb⟩⟩
      · have f2 : (q < -1125899906842624) = False := eq_false c2
        have hr : brL M m t q = ((postL [] M [⟨⟨m, 1, t⟩, ⟨0, 0, t⟩, -q⟩]).1, (postL [] M [⟨⟨m, 1, t⟩, ⟨0, 0, t⟩, -q⟩]).2.2) := by unfold brL brE; rw [if_neg (by rw [hw]; simp), if_neg c2, if_pos c1]
        have hneg : wrap64 (-q) = -q := wrap_id (by omega) (by omega)
        rw [hr]
        obtain ⟨⟨M', n', f'⟩, hR⟩ : ∃ R, postL [] M [⟨⟨m, 1, t⟩, ⟨0, 0, t⟩, -q⟩] = R := ⟨_, rfl⟩
        have HPO := Lib.hid (show ∀ W, LG W g b M → Calls Try.prog 19 #[.pointer (some ⟨g, 0, none⟩), .slice (some ⟨W.heap.size, 0, none⟩) 1 1] (W.alloc (.cells #[.int .i64 m, .int .i64 1, .string t, .int .i64 0, .int .i64 0, .string t, .int .i64 (-q)] 107)) fun o w' => o = .returned (.tuple #[.int .i64 n', .int .i64 f']) ∧ Hid (LG w' g b M' ∧ W.grownBy w' (some b)) from fun W hL => by
          have h9 := post_one hL HBM.out.1 HBM.out.2 ⟨⟨m, 1, t⟩, ⟨0, 0, t⟩, -q⟩
          rw [hR] at h9
          exact h9)
        rw [hR]
        clear h hw hnone hr c1 c2 hR
        go_enter Try.func42, Try.ntmps42
        go_wp2_with (first
          | (go_at_call 76; refine (acc_any _ _ _ _).mono ?_; rintro e w3 ⟨rfl, H3⟩; replace H3 := Lib.hid H3)
          | (go_at_call 75; refine (HWR.out _).mono ?_; rintro e w2 ⟨rfl, H2⟩; replace H2 := Lib.hid H2)
          | (go_at_call 74; refine (cmade_any HU.out).mono ?_; rintro e w1 ⟨rfl, rfl⟩))
        obtain ⟨W, hW⟩ : ∃ W, W = w3.alloc (.cells #[.int .i64 m, .int .i64 1, .string t, .int .i64 0, .int .i64 0, .string t, .int .i64 (-q)] 107) := ⟨_, rfl⟩
        have hb := (H2.out.trans (H3.out.mono H2.out.size)).alloc (Nat.le_trans H2.out.size H3.out.size) (.cells #[.int .i64 m, .int .i64 1, .string t, .int .i64 0, .int .i64 0, .string t, .int .i64 (-q)] 107)
        rw [← hW] at hb
        have k0 : W.cell? ⟨w3.heap.size, 0, none⟩ = some (.int .i64 m) := by rw [hW]; simp
        have k1 : W.cell? ⟨w3.heap.size, 1, none⟩ = some (.int .i64 1) := by rw [hW]; simp
        have k2 : W.cell? ⟨w3.heap.size, 2, none⟩ = some (.string t) := by rw [hW]; simp
        have k3 : W.cell? ⟨w3.heap.size, 3, none⟩ = some (.int .i64 0) := by rw [hW]; simp
        have k4 : W.cell? ⟨w3.heap.size, 4, none⟩ = some (.int .i64 0) := by rw [hW]; simp
        have k5 : W.cell? ⟨w3.heap.size, 5, none⟩ = some (.string t) := by rw [hW]; simp
        have k6 : W.cell? ⟨w3.heap.size, 6, none⟩ = some (.int .i64 (-q)) := by rw [hW]; simp
        rw [← hW]
        have hcu := HU.out.below hb
        have kc := hcu.cell
        have HCU := Lib.hid (And.intro hcu hb)
        clear hW hb hcu
        have hGb : w3.heap.size ≠ b := by
          have h9 := (HU.out.below H2.out).below H3.out
          have := h9.lg.map.lt
          omega
        have hGl : w3.heap.size < W.heap.size := World.block_lt_of_cell? W _ k0
        generalize w3.heap.size = G at k0 k1 k2 k3 k4 k5 k6 hGb hGl ⊢
        have hSD : W.drew.cell? ⟨p, 0, none⟩ = some (.pointer (some ⟨g, 0, none⟩)) ∧ W.drew.cell? ⟨G, 0, none⟩ = some (.int .i64 m) ∧ W.drew.cell? ⟨G, 1, none⟩ = some (.int .i64 1) ∧ W.drew.cell? ⟨G, 2, none⟩ = some (.string t) ∧ W.drew.cell? ⟨G, 3, none⟩ = some (.int .i64 0) ∧ W.drew.cell? ⟨G, 4, none⟩ = some (.int .i64 0) ∧ W.drew.cell? ⟨G, 5, none⟩ = some (.string t) ∧ W.drew.cell? ⟨G, 6, none⟩ = some (.int .i64 (-q)) := ⟨kc, k0, k1, k2, k3, k4, k5, k6⟩
        have HSA := Lib.hid (show ∀ (w' : World) (o : Obj), (w'.cell? ⟨p, 0, none⟩ = some (.pointer (some ⟨g, 0, none⟩)) ∧ w'.cell? ⟨G, 0, none⟩ = some (.int .i64 m) ∧ w'.cell? ⟨G, 1, none⟩ = some (.int .i64 1) ∧ w'.cell? ⟨G, 2, none⟩ = some (.string t) ∧ w'.cell? ⟨G, 3, none⟩ = some (.int .i64 0) ∧ w'.cell? ⟨G, 4, none⟩ = some (.int .i64 0) ∧ w'.cell? ⟨G, 5, none⟩ = some (.string t) ∧ w'.cell? ⟨G, 6, none⟩ = some (.int .i64 (-q))) → ((w'.alloc o).cell? ⟨p, 0, none⟩ = some (.pointer (some ⟨g, 0, none⟩)) ∧ (w'.alloc o).cell? ⟨G, 0, none⟩ = some (.int .i64 m) ∧ (w'.alloc o).cell? ⟨G, 1, none⟩ = some (.int .i64 1) ∧ (w'.alloc o).cell? ⟨G, 2, none⟩ = some (.string t) ∧ (w'.alloc o).cell? ⟨G, 3, none⟩ = some (.int .i64 0) ∧ (w'.alloc o).cell? ⟨G, 4, none⟩ = some (.int .i64 0) ∧ (w'.alloc o).cell? ⟨G, 5, none⟩ = some (.string t) ∧ (w'.alloc o).cell? ⟨G, 6, none⟩ = some (.int .i64 (-q))) from fun w' o ⟨s0, s1, s2, s3, s4, s5, s6, s7⟩ =>
          ⟨cell_keep ((Below.refl _ _).alloc (Nat.le_refl _) _) s0, cell_keep ((Below.refl _ _).alloc (Nat.le_refl _) _) s1, cell_keep ((Below.refl _ _).alloc (Nat.le_refl _) _) s2, cell_keep ((Below.refl _ _).alloc (Nat.le_refl _) _) s3, cell_keep ((Below.refl _ _).alloc (Nat.le_refl _) _) s4, cell_keep ((Below.refl _ _).alloc (Nat.le_refl _) _) s5, cell_keep ((Below.refl _ _).alloc (Nat.le_refl _) _) s6, cell_keep ((Below.refl _ _).alloc (Nat.le_refl _) _) s7⟩)
        have HSG := Lib.hid (show ∀ w5 : World, LG w5 g b M' → W.drew.grownBy w5 (some b) → (w5.cell? ⟨p, 0, none⟩ = some (.pointer (some ⟨g, 0, none⟩)) ∧ w5.cell? ⟨G, 0, none⟩ = some (.int .i64 m) ∧ w5.cell? ⟨G, 1, none⟩ = some (.int .i64 1) ∧ w5.cell? ⟨G, 2, none⟩ = some (.string t) ∧ w5.cell? ⟨G, 3, none⟩ = some (.int .i64 0) ∧ w5.cell? ⟨G, 4, none⟩ = some (.int .i64 0) ∧ w5.cell? ⟨G, 5, none⟩ = some (.string t) ∧ w5.cell? ⟨G, 6, none⟩ = some (.int .i64 (-q))) from fun w5 hl hg => by
          have h8 := hg.block G hGl (by simpa using hGb)
          have hcd : CU W.drew p g b M := ⟨HCU.out.1.blk, HCU.out.1.lg.blk, HCU.out.1.lg.map.move rfl⟩
          exact ⟨(hcd.turn hg hl).cell, (World.cell?_of_block (a := ⟨G, 0, none⟩) h8).trans k0, (World.cell?_of_block (a := ⟨G, 1, none⟩) h8).trans k1, (World.cell?_of_block (a := ⟨G, 2, none⟩) h8).trans k2, (World.cell?_of_block (a := ⟨G, 3, none⟩) h8).trans k3, (World.cell?_of_block (a := ⟨G, 4, none⟩) h8).trans k4, (World.cell?_of_block (a := ⟨G, 5, none⟩) h8).trans k5, (World.cell?_of_block (a := ⟨G, 6, none⟩) h8).trans k6⟩)
        clear k0 k1 k2 k3 k4 k5 k6 kc hGb hGl
        go_region_held3 (fun w' => w'.cell? ⟨p, 0, none⟩ = some (.pointer (some ⟨g, 0, none⟩)) ∧ w'.cell? ⟨G, 0, none⟩ = some (.int .i64 m) ∧ w'.cell? ⟨G, 1, none⟩ = some (.int .i64 1) ∧ w'.cell? ⟨G, 2, none⟩ = some (.string t) ∧ w'.cell? ⟨G, 3, none⟩ = some (.int .i64 0) ∧ w'.cell? ⟨G, 4, none⟩ = some (.int .i64 0) ∧ w'.cell? ⟨G, 5, none⟩ = some (.string t) ∧ w'.cell? ⟨G, 6, none⟩ = some (.int .i64 (-q)))
          (first | assumption | exact HSA.out _ _ (by assumption))
          (first | (go_at_call 19; refine (HPO.out W.drew ⟨HCU.out.1.lg.blk, HCU.out.1.lg.map.move rfl⟩).mono ?_; rintro e w5 ⟨rfl, H5⟩; have kk := HSG.out w5 H5.out.1 H5.out.2))
        go_wp2
        go_ret
        have hcd : CU W.drew p g b M := ⟨HCU.out.1.blk, HCU.out.1.lg.blk, HCU.out.1.lg.map.move rfl⟩
        have hgd := HN.out _ HCU.out.2.drew
        exact ⟨rfl, ⟨hcd.turn H5.out.2 H5.out.1, hgd.andThen H5.out.2 (fun _ hj => .inr hj)⟩⟩
    · have f1 : (q < 0) = False := eq_false c1
      have hr : brL M m t q = ((postL [] M [⟨⟨0, 0, t⟩, ⟨m, 1, t⟩, q⟩]).1, (postL [] M [⟨⟨0, 0, t⟩, ⟨m, 1, t⟩, q⟩]).2.2) := by unfold brL brE; rw [if_neg (by rw [hw]; simp), if_neg (by omega), if_neg c1]
      rw [hr]
      obtain ⟨⟨M', n', f'⟩, hR⟩ : ∃ R, postL [] M [⟨⟨0, 0, t⟩, ⟨m, 1, t⟩, q⟩] = R := ⟨_, rfl⟩
      have HPO := Lib.hid (show ∀ W, LG W g b M → Calls Try.prog 19 #[.pointer (some ⟨g, 0, none⟩), .slice (some ⟨W.heap.size, 0, none⟩) 1 1] (W.alloc (.cells #[.int .i64 0, .int .i64 0, .string t, .int .i64 m, .int .i64 1, .string t, .int .i64 q] 107)) fun o w' => o = .returned (.tuple #[.int .i64 n', .int .i64 f']) ∧ Hid (LG w' g b M' ∧ W.grownBy w' (some b)) from fun W hL => by
        have h9 := post_one hL HBM.out.1 HBM.out.2 ⟨⟨0, 0, t⟩, ⟨m, 1, t⟩, q⟩
        rw [hR] at h9
        exact h9)
      rw [hR]
      clear h hw hnone hr c1 hR
      go_enter Try.func42, Try.ntmps42
      go_wp2_with (first
        | (go_at_call 76; refine (acc_any _ _ _ _).mono ?_; rintro e w3 ⟨rfl, H3⟩; replace H3 := Lib.hid H3)
        | (go_at_call 75; refine (HWR.out _).mono ?_; rintro e w2 ⟨rfl, H2⟩; replace H2 := Lib.hid H2)
        | (go_at_call 74; refine (cmade_any HU.out).mono ?_; rintro e w1 ⟨rfl, rfl⟩))
      obtain ⟨W, hW⟩ : ∃ W, W = w3.alloc (.cells #[.int .i64 0, .int .i64 0, .string t, .int .i64 m, .int .i64 1, .string t, .int .i64 q] 107) := ⟨_, rfl⟩
      have hb := (H2.out.trans (H3.out.mono H2.out.size)).alloc (Nat.le_trans H2.out.size H3.out.size) (.cells #[.int .i64 0, .int .i64 0, .string t, .int .i64 m, .int .i64 1, .string t, .int .i64 q] 107)
      rw [← hW] at hb
      have k0 : W.cell? ⟨w3.heap.size, 0, none⟩ = some (.int .i64 0) := by rw [hW]; simp
      have k1 : W.cell? ⟨w3.heap.size, 1, none⟩ = some (.int .i64 0) := by rw [hW]; simp
      have k2 : W.cell? ⟨w3.heap.size, 2, none⟩ = some (.string t) := by rw [hW]; simp
      have k3 : W.cell? ⟨w3.heap.size, 3, none⟩ = some (.int .i64 m) := by rw [hW]; simp
      have k4 : W.cell? ⟨w3.heap.size, 4, none⟩ = some (.int .i64 1) := by rw [hW]; simp
      have k5 : W.cell? ⟨w3.heap.size, 5, none⟩ = some (.string t) := by rw [hW]; simp
      have k6 : W.cell? ⟨w3.heap.size, 6, none⟩ = some (.int .i64 q) := by rw [hW]; simp
      rw [← hW]
      have hcu := HU.out.below hb
      have kc := hcu.cell
      have HCU := Lib.hid (And.intro hcu hb)
      clear hW hb hcu
      have hGb : w3.heap.size ≠ b := by
        have h9 := (HU.out.below H2.out).below H3.out
        have := h9.lg.map.lt
        omega
      have hGl : w3.heap.size < W.heap.size := World.block_lt_of_cell? W _ k0
      generalize w3.heap.size = G at k0 k1 k2 k3 k4 k5 k6 hGb hGl ⊢
      have hSD : W.drew.cell? ⟨p, 0, none⟩ = some (.pointer (some ⟨g, 0, none⟩)) ∧ W.drew.cell? ⟨G, 0, none⟩ = some (.int .i64 0) ∧ W.drew.cell? ⟨G, 1, none⟩ = some (.int .i64 0) ∧ W.drew.cell? ⟨G, 2, none⟩ = some (.string t) ∧ W.drew.cell? ⟨G, 3, none⟩ = some (.int .i64 m) ∧ W.drew.cell? ⟨G, 4, none⟩ = some (.int .i64 1) ∧ W.drew.cell? ⟨G, 5, none⟩ = some (.string t) ∧ W.drew.cell? ⟨G, 6, none⟩ = some (.int .i64 q) := ⟨kc, k0, k1, k2, k3, k4, k5, k6⟩
      have HSA := Lib.hid (show ∀ (w' : World) (o : Obj), (w'.cell? ⟨p, 0, none⟩ = some (.pointer (some ⟨g, 0, none⟩)) ∧ w'.cell? ⟨G, 0, none⟩ = some (.int .i64 0) ∧ w'.cell? ⟨G, 1, none⟩ = some (.int .i64 0) ∧ w'.cell? ⟨G, 2, none⟩ = some (.string t) ∧ w'.cell? ⟨G, 3, none⟩ = some (.int .i64 m) ∧ w'.cell? ⟨G, 4, none⟩ = some (.int .i64 1) ∧ w'.cell? ⟨G, 5, none⟩ = some (.string t) ∧ w'.cell? ⟨G, 6, none⟩ = some (.int .i64 q)) → ((w'.alloc o).cell? ⟨p, 0, none⟩ = some (.pointer (some ⟨g, 0, none⟩)) ∧ (w'.alloc o).cell? ⟨G, 0, none⟩ = some (.int .i64 0) ∧ (w'.alloc o).cell? ⟨G, 1, none⟩ = some (.int .i64 0) ∧ (w'.alloc o).cell? ⟨G, 2, none⟩ = some (.string t) ∧ (w'.alloc o).cell? ⟨G, 3, none⟩ = some (.int .i64 m) ∧ (w'.alloc o).cell? ⟨G, 4, none⟩ = some (.int .i64 1) ∧ (w'.alloc o).cell? ⟨G, 5, none⟩ = some (.string t) ∧ (w'.alloc o).cell? ⟨G, 6, none⟩ = some (.int .i64 q)) from fun w' o ⟨s0, s1, s2, s3, s4, s5, s6, s7⟩ =>
        ⟨cell_keep ((Below.refl _ _).alloc (Nat.le_refl _) _) s0, cell_keep ((Below.refl _ _).alloc (Nat.le_refl _) _) s1, cell_keep ((Below.refl _ _).alloc (Nat.le_refl _) _) s2, cell_keep ((Below.refl _ _).alloc (Nat.le_refl _) _) s3, cell_keep ((Below.refl _ _).alloc (Nat.le_refl _) _) s4, cell_keep ((Below.refl _ _).alloc (Nat.le_refl _) _) s5, cell_keep ((Below.refl _ _).alloc (Nat.le_refl _) _) s6, cell_keep ((Below.refl _ _).alloc (Nat.le_refl _) _) s7⟩)
      have HSG := Lib.hid (show ∀ w5 : World, LG w5 g b M' → W.drew.grownBy w5 (some b) → (w5.cell? ⟨p, 0, none⟩ = some (.pointer (some ⟨g, 0, none⟩)) ∧ w5.cell? ⟨G, 0, none⟩ = some (.int .i64 0) ∧ w5.cell? ⟨G, 1, none⟩ = some (.int .i64 0) ∧ w5.cell? ⟨G, 2, none⟩ = some (.string t) ∧ w5.cell? ⟨G, 3, none⟩ = some (.int .i64 m) ∧ w5.cell? ⟨G, 4, none⟩ = some (.int .i64 1) ∧ w5.cell? ⟨G, 5, none⟩ = some (.string t) ∧ w5.cell? ⟨G, 6, none⟩ = some (.int .i64 q)) from fun w5 hl hg => by
        have h8 := hg.block G hGl (by simpa using hGb)
        have hcd : CU W.drew p g b M := ⟨HCU.out.1.blk, HCU.out.1.lg.blk, HCU.out.1.lg.map.move rfl⟩
        exact ⟨(hcd.turn hg hl).cell, (World.cell?_of_block (a := ⟨G, 0, none⟩) h8).trans k0, (World.cell?_of_block (a := ⟨G, 1, none⟩) h8).trans k1, (World.cell?_of_block (a := ⟨G, 2, none⟩) h8).trans k2, (World.cell?_of_block (a := ⟨G, 3, none⟩) h8).trans k3, (World.cell?_of_block (a := ⟨G, 4, none⟩) h8).trans k4, (World.cell?_of_block (a := ⟨G, 5, none⟩) h8).trans k5, (World.cell?_of_block (a := ⟨G, 6, none⟩) h8).trans k6⟩)
      clear k0 k1 k2 k3 k4 k5 k6 kc hGb hGl
      go_region_held3 (fun w' => w'.cell? ⟨p, 0, none⟩ = some (.pointer (some ⟨g, 0, none⟩)) ∧ w'.cell? ⟨G, 0, none⟩ = some (.int .i64 0) ∧ w'.cell? ⟨G, 1, none⟩ = some (.int .i64 0) ∧ w'.cell? ⟨G, 2, none⟩ = some (.string t) ∧ w'.cell? ⟨G, 3, none⟩ = some (.int .i64 m) ∧ w'.cell? ⟨G, 4, none⟩ = some (.int .i64 1) ∧ w'.cell? ⟨G, 5, none⟩ = some (.string t) ∧ w'.cell? ⟨G, 6, none⟩ = some (.int .i64 q))
        (first | assumption | exact HSA.out _ _ (by assumption))
        (first | (go_at_call 19; refine (HPO.out W.drew ⟨HCU.out.1.lg.blk, HCU.out.1.lg.map.move rfl⟩).mono ?_; rintro e w5 ⟨rfl, H5⟩; have kk := HSG.out w5 H5.out.1 H5.out.2))
      go_wp2
      go_ret
      have hcd : CU W.drew p g b M := ⟨HCU.out.1.blk, HCU.out.1.lg.blk, HCU.out.1.lg.map.move rfl⟩
      have hgd := HN.out _ HCU.out.2.drew
      exact ⟨rfl, ⟨hcd.turn H5.out.2 H5.out.1, hgd.andThen H5.out.2 (fun _ hj => .inr hj)⟩⟩
end Go.Proofs.Ytoknlpecbdlbfaa.PL

-- Custody: Position, walked.
namespace Go.Proofs.Ytoknlpecbdlbfaa.PL
open Go Go.RowKit Go.Maps Go.Sort Go.Shelf Go.Proofs Go.Proofs.YtoknlpecbdlbfaaW.PrintWords Go.Proofs.YtoknlpecbdlbfaaW.PrintLast
/-- The three boxes that Position's closure holds. -/
def B3 (w : World) (x y z p : Nat) (m : Int) (t : ByteArray) : Prop := w.cell? ⟨x, 0, none⟩ = some (.pointer (some ⟨p, 0, none⟩)) ∧ w.cell? ⟨y, 0, none⟩ = some (.int .i64 m) ∧ w.cell? ⟨z, 0, none⟩ = some (.string t)
theorem B3.below {w w' : World} {x y z p : Nat} {m : Int} {t : ByteArray} (h : B3 w x y z p m t) (hb : Below w.heap.size w w') : B3 w' x y z p m t := ⟨cell_keep hb h.1, cell_keep hb h.2.1, cell_keep hb h.2.2⟩
set_option maxRecDepth 100000 in
set_option maxHeartbeats 1000000 in
theorem at_any {w : World} {p g b : Nat} {M : List (S42 × Int)} (h : CU w p g b M) {x y z : Nat} {m : Int} {t : ByteArray} (h3 : B3 w x y z p m t) (k : Int) (ha : Wfa ⟨m, k, t⟩) :
    Calls Try.prog 77 #[.int .i64 k, .pointer (some ⟨x, 0, none⟩), .pointer (some ⟨y, 0, none⟩), .pointer (some ⟨z, 0, none⟩)] w fun e w' => e = .returned (.int .i64 (getM M ⟨m, k, t⟩)) ∧ Below w.heap.size w w' := by
  have hd : CU w.drew p g b M := ⟨h.blk, h.lg.blk, h.lg.map.move rfl⟩
  have HD := Lib.hid hd
  have HA := Lib.hid ha
  obtain ⟨c1, c2, c3⟩ := h3
  have c0 := h.cell
  have hSD : w.drew.cell? ⟨x, 0, none⟩ = some (.pointer (some ⟨p, 0, none⟩)) ∧ w.drew.cell? ⟨y, 0, none⟩ = some (.int .i64 m) ∧ w.drew.cell? ⟨z, 0, none⟩ = some (.string t) ∧ w.drew.cell? ⟨p, 0, none⟩ = some (.pointer (some ⟨g, 0, none⟩)) := ⟨c1, c2, c3, c0⟩
  have HSB := Lib.hid (show ∀ w1 w2 : World, Below w1.heap.size w1 w2 → (w1.cell? ⟨x, 0, none⟩ = some (.pointer (some ⟨p, 0, none⟩)) ∧ w1.cell? ⟨y, 0, none⟩ = some (.int .i64 m) ∧ w1.cell? ⟨z, 0, none⟩ = some (.string t) ∧ w1.cell? ⟨p, 0, none⟩ = some (.pointer (some ⟨g, 0, none⟩))) → (w2.cell? ⟨x, 0, none⟩ = some (.pointer (some ⟨p, 0, none⟩)) ∧ w2.cell? ⟨y, 0, none⟩ = some (.int .i64 m) ∧ w2.cell? ⟨z, 0, none⟩ = some (.string t) ∧ w2.cell? ⟨p, 0, none⟩ = some (.pointer (some ⟨g, 0, none⟩))) from fun w1 w2 hb ⟨s0, s1, s2, s3⟩ => ⟨cell_keep hb s0, cell_keep hb s1, cell_keep hb s2, cell_keep hb s3⟩)
  have HS0 := Lib.hid hSD
  clear h hd ha
  go_enter Try.func77, Try.ntmps77
  go_wp2
  go_region_held3 (fun w' => w'.cell? ⟨x, 0, none⟩ = some (.pointer (some ⟨p, 0, none⟩)) ∧ w'.cell? ⟨y, 0, none⟩ = some (.int .i64 m) ∧ w'.cell? ⟨z, 0, none⟩ = some (.string t) ∧ w'.cell? ⟨p, 0, none⟩ = some (.pointer (some ⟨g, 0, none⟩)))
    (first | assumption)
    (first
      | (go_at_call 25; refine (balance_any (HD.out.below H2.out).lg (a := ⟨m, k, t⟩) HA.out).mono ?_; rintro e w3 ⟨rfl, H3⟩; have kk3 := HSB.out _ _ H3 (HSB.out _ _ H2.out HS0.out); replace H3 := Lib.hid H3)
      | (go_at_call 76; refine (acc_any _ _ _ _).mono ?_; rintro e w2 ⟨rfl, H2⟩; have kk2 := HSB.out _ _ H2 HS0.out; replace H2 := Lib.hid H2))
  go_wp2
  go_ret
  have hb := (Below.refl w.heap.size w).drew
  have hb2 := hb.trans (H2.out.mono hb.size)
  exact ⟨rfl, hb2.trans (H3.out.mono hb2.size)⟩
theorem cell4 {W : World} {k : Nat} {v0 v1 v2 v3 : Value} {t : TypeId} (h : W.heap[k]? = some (.cells #[v0, v1, v2, v3] t (0, 0))) : W.cell? ⟨k, 0, none⟩ = some v0 ∧ W.cell? ⟨k, 1, none⟩ = some v1 ∧ W.cell? ⟨k, 2, none⟩ = some v2 ∧ W.cell? ⟨k, 3, none⟩ = some v3 := by
  refine ⟨?_, ?_, ?_, ?_⟩ <;> (unfold World.cell?; rw [h]; rfl)
theorem froz4 {W : World} {k : Nat} {v0 v1 v2 v3 : Value} {t : TypeId} (h : W.heap[k]? = some (.cells #[v0, v1, v2, v3] t (0, 0))) : W.frozen? ⟨k, 0, none⟩ = false ∧ W.frozen? ⟨k, 1, none⟩ = false ∧ W.frozen? ⟨k, 2, none⟩ = false ∧ W.frozen? ⟨k, 3, none⟩ = false := by
  refine ⟨?_, ?_, ?_, ?_⟩ <;> simp [World.frozen?, h]
set_option maxRecDepth 100000 in
set_option maxHeartbeats 1000000 in
theorem pos_any {w : World} {p g b : Nat} {M : List (S42 × Int)} (h : CU w p g b M) (m : Int) (t : ByteArray) (hm : (Lit.int .i64 m).wf = true) (ht : t.size ≤ maxLen) :
    Calls Try.prog 47 #[.pointer (some ⟨p, 0, none⟩), .int .i64 m, .string t] w fun e w' => e = .returned (.agg #[.int .i64 (getM M ⟨m, 1, t⟩), .int .i64 (getM M ⟨m, 2, t⟩), .int .i64 (getM M ⟨m, 3, t⟩), .int .i64 (getM M ⟨m, 4, t⟩)]) ∧ Below w.heap.size w w' := by
  have H1 := Lib.hid (show Wfa ⟨m, 1, t⟩ from ⟨hm, by kernel_rfl, ht⟩)
  have H2 := Lib.hid (show Wfa ⟨m, 2, t⟩ from ⟨hm, by kernel_rfl, ht⟩)
  have H3 := Lib.hid (show Wfa ⟨m, 3, t⟩ from ⟨hm, by kernel_rfl, ht⟩)
  have H4 := Lib.hid (show Wfa ⟨m, 4, t⟩ from ⟨hm, by kernel_rfl, ht⟩)
  obtain ⟨W0, hW0⟩ : ∃ W0, W0 = (((w.alloc (.cells #[.pointer (some ⟨p, 0, none⟩)] 66)).alloc (.cells #[.int .i64 m] 3)).alloc (.cells #[.string t] 9)).alloc (.cells #[.int .i64 0, .int .i64 0, .int .i64 0, .int .i64 0] 93) := ⟨_, rfl⟩
  have hb0 : Below w.heap.size w W0 := by
    rw [hW0]
    exact ((((Below.refl _ _).alloc (Nat.le_refl _) _).alloc (by simp) _).alloc (by simp; omega) _).alloc (by simp; omega) _
  have hbox : B3 W0 w.heap.size (w.heap.size + 1) (w.heap.size + 1 + 1) p m t ∧ W0.heap[w.heap.size + 1 + 1 + 1]? = some (.cells #[.int .i64 0, .int .i64 0, .int .i64 0, .int .i64 0] 93 (0, 0)) := by
    have e1 : (w.alloc (.cells #[.pointer (some ⟨p, 0, none⟩)] 66)).heap.size = w.heap.size + 1 := by simp
    have e2 : ((w.alloc (.cells #[.pointer (some ⟨p, 0, none⟩)] 66)).alloc (.cells #[.int .i64 m] 3)).heap.size = w.heap.size + 1 + 1 := by simp
    have e3 : (((w.alloc (.cells #[.pointer (some ⟨p, 0, none⟩)] 66)).alloc (.cells #[.int .i64 m] 3)).alloc (.cells #[.string t] 9)).heap.size = w.heap.size + 1 + 1 + 1 := by simp
    have hA := Go.MapKept.heap_alloc w (.cells #[.pointer (some ⟨p, 0, none⟩)] 66)
    have hB := Go.MapKept.heap_alloc (w.alloc (.cells #[.pointer (some ⟨p, 0, none⟩)] 66)) (.cells #[.int .i64 m] 3)
    have hC := Go.MapKept.heap_alloc ((w.alloc (.cells #[.pointer (some ⟨p, 0, none⟩)] 66)).alloc (.cells #[.int .i64 m] 3)) (.cells #[.string t] 9)
    have hD := Go.MapKept.heap_alloc (((w.alloc (.cells #[.pointer (some ⟨p, 0, none⟩)] 66)).alloc (.cells #[.int .i64 m] 3)).alloc (.cells #[.string t] 9)) (.cells #[.int .i64 0, .int .i64 0, .int .i64 0, .int .i64 0] 93)
    rw [e1] at hB
    rw [e2] at hC
    rw [e3] at hD
    rw [← hW0] at hD
    have g0 := (hD.2 w.heap.size (by omega)).trans ((hC.2 w.heap.size (by omega)).trans ((hB.2 w.heap.size (by omega)).trans hA.1))
    have g1 := (hD.2 (w.heap.size + 1) (by omega)).trans ((hC.2 (w.heap.size + 1) (by omega)).trans hB.1)
    have g2 := (hD.2 (w.heap.size + 1 + 1) (by omega)).trans hC.1
    have cat : ∀ {k : Nat} {v : Value} {ty : TypeId}, W0.heap[k]? = some (.cells #[v] ty (0, 0)) → W0.cell? ⟨k, 0, none⟩ = some v := fun {k v ty} h => by
      unfold World.cell?
      rw [h]
      rfl
    exact ⟨⟨cat g0, cat g1, cat g2⟩, hD.1⟩
  have HU := Lib.hid (h.below hb0)
  have HB0 := Lib.hid (And.intro hb0 hbox)
  clear h hm ht hb0 hbox
  go_enter Try.func47, Try.ntmps47
  go_wp2_with (first
    | (go_at_call 77; refine (at_any (((HU.out.below K2.out).below K3.out).below K4.out) (((HB0.out.2.1.below K2.out).below K3.out).below K4.out) 4 H4.out).mono ?_; rintro e w5 ⟨rfl, K5⟩
       have hr5 : w5.heap[w.heap.size + 1 + 1 + 1]? = some (.cells #[.int .i64 0, .int .i64 0, .int .i64 0, .int .i64 0] 93 (0, 0)) := by
         have l0 := (Array.getElem?_eq_some_iff.1 HB0.out.2.2).1
         have l2 := Nat.lt_of_lt_of_le l0 K2.out.size
         have l3 := Nat.lt_of_lt_of_le l2 K3.out.size
         have l4 := Nat.lt_of_lt_of_le l3 K4.out.size
         exact (K5.block _ l4).trans ((K4.out.block _ l3).trans ((K3.out.block _ l2).trans ((K2.out.block _ l0).trans HB0.out.2.2)))
       obtain ⟨d0, d1, d2, d3⟩ := cell4 hr5
       obtain ⟨z0, z1, z2, z3⟩ := froz4 hr5
       have HR5 := Lib.hid hr5
       clear hr5
       replace K5 := Lib.hid K5)
    | (go_at_call 77; refine (at_any ((HU.out.below K2.out).below K3.out) ((HB0.out.2.1.below K2.out).below K3.out) 3 H3.out).mono ?_; rintro e w4 ⟨rfl, K4⟩; replace K4 := Lib.hid K4)
    | (go_at_call 77; refine (at_any (HU.out.below K2.out) (HB0.out.2.1.below K2.out) 2 H2.out).mono ?_; rintro e w3 ⟨rfl, K3⟩; replace K3 := Lib.hid K3)
    | (go_at_call 77; rw [← hW0]; refine (at_any HU.out HB0.out.2.1 1 H1.out).mono ?_; rintro e w2 ⟨rfl, K2⟩; replace K2 := Lib.hid K2)
    | (go_at_call 74; rw [← hW0]; refine (cmade_any HU.out).mono ?_; rintro e w1 ⟨rfl, rfl⟩))
  refine bodyPost_ret (results_cell_row rfl _ _ (w.heap.size + 1 + 1 + 1) 93 #[.int .i64 (getM M ⟨m, 1, t⟩), .int .i64 (getM M ⟨m, 2, t⟩), .int .i64 (getM M ⟨m, 3, t⟩), .int .i64 (getM M ⟨m, 4, t⟩)] (0, 0) _ rfl (by
    refine blk_put (cs := #[.int .i64 (getM M ⟨m, 1, t⟩), .int .i64 (getM M ⟨m, 2, t⟩), .int .i64 (getM M ⟨m, 3, t⟩), .int .i64 0]) ?_ 3 _ rfl
    refine blk_put (cs := #[.int .i64 (getM M ⟨m, 1, t⟩), .int .i64 (getM M ⟨m, 2, t⟩), .int .i64 0, .int .i64 0]) ?_ 2 _ rfl
    refine blk_put (cs := #[.int .i64 (getM M ⟨m, 1, t⟩), .int .i64 0, .int .i64 0, .int .i64 0]) ?_ 1 _ rfl
    refine blk_put (cs := #[.int .i64 0, .int .i64 0, .int .i64 0, .int .i64 0]) ?_ 0 _ rfl
    exact HR5.out) Try.underlying93 rfl (by kernel_rfl)) rfl ?_
  have b2 := HB0.out.1.trans (K2.out.mono HB0.out.1.size)
  have b3 := b2.trans (K3.out.mono b2.size)
  have b4 := b3.trans (K4.out.mono b3.size)
  have b5 := b4.trans (K5.out.mono b4.size)
  exact ⟨rfl, (((b5.setCell (by simp; omega) _).setCell (by simp; omega) _).setCell (by simp; omega) _).setCell (by simp; omega) _⟩
end Go.Proofs.Ytoknlpecbdlbfaa.PL

-- Custody: Move, walked.
namespace Go.Proofs.Ytoknlpecbdlbfaa.PL
open Go Go.RowKit Go.Maps Go.Sort Go.Shelf Go.Proofs Go.Proofs.YtoknlpecbdlbfaaW.PrintWords Go.Proofs.YtoknlpecbdlbfaaW.PrintLast
/-- What a line posts. -/
def lnE (x : S125) : S107 := ⟨⟨x.f0, x.f1, x.f4⟩, ⟨x.f2, x.f3, x.f4⟩, x.f5⟩
/-- The first line with no such member or book. -/
def fbL : Nat → List S125 → Option Nat
  | _, [] => none
  | i, x :: r => if wrB x.f0 x.f1 = true ∨ wrB x.f2 x.f3 = true then some i else fbL (i + 1) r
/-- Move. -/
def cmL (M : List (S42 × Int)) (X : List S125) : List (S42 × Int) × Int × Int := match fbL 0 X with
  | some i => (M, i, 22)
  | none => postL [] M (X.map lnE)
theorem cmL_bad {M : List (S42 × Int)} {X : List S125} {i : Nat} (h : fbL 0 X = some i) : cmL M X = (M, (i : Int), 22) := by
  unfold cmL
  rw [h]
theorem cmL_ok {M : List (S42 × Int)} {X : List S125} (h : fbL 0 X = none) : cmL M X = postL [] M (X.map lnE) := by
  unfold cmL
  rw [h]
theorem below_grown {w w' : World} {b : Nat} (hb : Below w.heap.size w w') : w.grownBy w' (some b) := ⟨hb.os, hb.tape, hb.output, hb.size, fun k hk _ => hb.block k hk⟩
set_option maxRecDepth 100000 in
theorem cmove_no {w : World} {p : Value} (h : NoCU w p) (l : Value) : Calls Try.prog 43 #[p, l] w fun e w' => e = .returned (.tuple #[.int .i64 0, .int .i64 3]) ∧ w = w' := by
  have H := Lib.hid (cmade_no h)
  clear h
  go_enter Try.func43, Try.ntmps43
  go_wp2_with (go_at_call 74; refine H.out.mono ?_; rintro e w1 ⟨rfl, rfl⟩)
  go_ret2
  exact ⟨rfl, rfl⟩
set_option maxRecDepth 100000 in
set_option maxHeartbeats 4000000 in
theorem cmove_any {w : World} {p g b : Nat} {M : List (S42 × Int)} (h : CU w p g b M) (hB : BM M) (hm : M.length ≤ 1000000000) (A : Option Addr) (c : Nat) (X : List S125) (hr : Kd.C k125 w A X.length X) (hX : X.length ≤ 4000) :
    Calls Try.prog 43 #[.pointer (some ⟨p, 0, none⟩), .slice A X.length c] w fun e w' => e = .returned (.tuple #[.int .i64 (cmL M X).2.1, .int .i64 (cmL M X).2.2]) ∧ Hid (CU w' p g b (cmL M X).1 ∧ w.grownBy w' (some b)) := by
  obtain ⟨i0, hi, hz0, hz1, hz2⟩ := info_parts info107
  have hb2 : i0.bytes * X.length ≤ 281474976710656 := by rw [hz2]; omega
  have hb3 : X.length ≤ maxLen := by unfold maxLen; omega
  have HU := Lib.hid (And.intro h (And.intro hB (And.intro hm (And.intro hr hX))))
  have hc := h.cell
  clear h hB hm hr hX
  go_enter Try.func43, Try.ntmps43
  go_wp2_with (first
    | (go_at_call 74; refine (cmade_any HU.out.1).mono ?_; rintro e w1 ⟨rfl, rfl⟩)
    | (at_make; refine wpList_make_own _ rfl _ _ 34 rfl w.heap.size 107 i0 (.agg #[(.int .i64 0), (.int .i64 0), (.string ⟨#[]⟩), (.int .i64 0), (.int .i64 0), (.string ⟨#[]⟩), (.int .i64 0)]) 7 Try.underlying34 hi hz0 hz1 .i64 .i64 (X.length : Int) X.length rfl rfl rfl hb2 hb3 (Nat.le_refl _) ?_; intro w2 ho2 hg2; have HM2 := Lib.hid (And.intro ho2 hg2); clear ho2 hg2)
    | go_in)
  clear hc hb2 hb3 hi hz0 hz1 hz2
  go_loopg [6, 7, 8, 17] (X.length + 1) (fun kq v6 v7 v8 v17 w' => ∃ k : Nat, v17 = .int .i64 k ∧ Hid (kq + k = X.length + 1 ∧ k ≤ X.length ∧ Kd.R k107 107 w' w.heap.size (fun _ => True) v6 ((X.take k).map lnE) ∧ Below w.heap.size w w' ∧ fbL 0 X = fbL k (X.drop k)))
  case atStart =>
    refine ⟨0, rfl, ⟨rfl, Nat.zero_le _, ?_, grown_to HM2.out.2, rfl⟩⟩
    exact ⟨fun _ _ => trivial, [], HM2.out.1, Reps.none _ _⟩
  case round =>
    obtain ⟨k, rfl, HI⟩ := hrel
    by_cases hk : k < X.length
    · obtain ⟨ad, eA, x0, x1, x2, x3, x4, x5⟩ := at_T125 (Kd.C_below HU.out.2.2.2.1 HI.out.2.2.2.1) (k : Int) (by omega) (by omega)
      simp only [Int.toNat_natCast] at x0 x1 x2 x3 x4 x5
      have e1 : rd_T125 X (k : Int) = X[k] := by
        unfold rd_T125
        simp [List.getD, hk]
      have htk : (X.take (k + 1)).map lnE = (X.take k).map lnE ++ [lnE X[k]] := by rw [List.take_succ_eq_append_getElem hk, List.map_append]; rfl
      have hfb : fbL k (X.drop k) = if wrB X[k].f0 X[k].f1 = true ∨ wrB X[k].f2 X[k].f3 = true then some k else fbL (k + 1) (X.drop (k + 1)) := by rw [List.drop_eq_getElem_cons hk]; rfl
      rw [e1] at x0 x1 x2 x3 x4 x5
      obtain ⟨⟨a0, a1, a2, a3, a4, a5⟩, ha⟩ : ∃ a, X[k] = a := ⟨_, rfl⟩
      rw [ha] at x0 x1 x2 x3 x4 x5 htk hfb
      simp only at x0 x1 x2 x3 x4 x5 hfb
      have hl64 : wrap64 ((k : Int) + 1) = ((k + 1 : Nat) : Int) := by
        have h3 := HU.out.2.2.2.2
        rw [wrap_id (by omega) (by omega)]; rfl
      have hlen : ((X.take k).map lnE).length ≤ 4000 := by
        have := HU.out.2.2.2.2
        rw [List.length_map, List.length_take]
        omega
      have k0 : (wr.alloc (.cells #[.int .i64 a0, .int .i64 a1, .int .i64 a2, .int .i64 a3, .string a4, .int .i64 a5] 125)).cell? ⟨wr.heap.size, 0, none⟩ = some (.int .i64 a0) := by simp
      have k1 : (wr.alloc (.cells #[.int .i64 a0, .int .i64 a1, .int .i64 a2, .int .i64 a3, .string a4, .int .i64 a5] 125)).cell? ⟨wr.heap.size, 1, none⟩ = some (.int .i64 a1) := by simp
      have k2 : (wr.alloc (.cells #[.int .i64 a0, .int .i64 a1, .int .i64 a2, .int .i64 a3, .string a4, .int .i64 a5] 125)).cell? ⟨wr.heap.size, 2, none⟩ = some (.int .i64 a2) := by simp
      have k3 : (wr.alloc (.cells #[.int .i64 a0, .int .i64 a1, .int .i64 a2, .int .i64 a3, .string a4, .int .i64 a5] 125)).cell? ⟨wr.heap.size, 3, none⟩ = some (.int .i64 a3) := by simp
      have k4 : (wr.alloc (.cells #[.int .i64 a0, .int .i64 a1, .int .i64 a2, .int .i64 a3, .string a4, .int .i64 a5] 125)).cell? ⟨wr.heap.size, 4, none⟩ = some (.string a4) := by simp
      have k5 : (wr.alloc (.cells #[.int .i64 a0, .int .i64 a1, .int .i64 a2, .int .i64 a3, .string a4, .int .i64 a5] 125)).cell? ⟨wr.heap.size, 5, none⟩ = some (.int .i64 a5) := by simp
      have HB := Lib.hid ((Below.refl wr.heap.size wr).alloc (Nat.le_refl _) (.cells #[.int .i64 a0, .int .i64 a1, .int .i64 a2, .int .i64 a3, .string a4, .int .i64 a5] 125))
      have q1 : (0 ≤ (k : Int)) = True := eq_true (by omega)
      have q2 : ((k : Int) < (X.length : Int)) = True := eq_true (by omega)
      obtain ⟨xs0, hxs0⟩ : ∃ l, (X.take k).map lnE = l := ⟨_, rfl⟩
      have hR0 := HI.out.2.2.1
      rw [hxs0] at htk hlen hR0
      have HT := Lib.hid htk
      have HF := Lib.hid hfb
      have HLn := Lib.hid hlen
      have HR0 := Lib.hid hR0
      have Hw := Lib.hid hl64
      have HK := Lib.hid hk
      obtain ⟨z1, hz1⟩ : ∃ z, wrB a0 a1 = z := ⟨_, rfl⟩
      obtain ⟨z2, hz2⟩ : ∃ z, wrB a2 a3 = z := ⟨_, rfl⟩
      have HW1 := Lib.hid (show ∀ W, Calls Try.prog 75 #[.int .i64 a0, .int .i64 a1] W fun e w' => e = .returned (.bool z1) ∧ Below W.heap.size W w' from fun W => by rw [← hz1]; exact wr_any a0 a1 W)
      have HW2 := Lib.hid (show ∀ W, Calls Try.prog 75 #[.int .i64 a2, .int .i64 a3] W fun e w' => e = .returned (.bool z2) ∧ Below W.heap.size W w' from fun W => by rw [← hz2]; exact wr_any a2 a3 W)
      have HZ := Lib.hid (And.intro hz1 hz2)
      subst eA
      clear e1 htk hfb ha hl64 hlen hxs0 hR0 hk hz1 hz2
      cases z1 with
      | true =>
        go_wp2_with (first | (go_at_call 75; refine (HW1.out _).mono ?_; rintro e w2 ⟨rfl, H2⟩; clear x0 x1 x2 x3 x4 x5; replace k0 := cell_keep H2 k0; replace k1 := cell_keep H2 k1; replace k2 := cell_keep H2 k2; replace k3 := cell_keep H2 k3; replace k4 := cell_keep H2 k4; replace k5 := cell_keep H2 k5; replace H2 := Lib.hid H2))
        go_ret2
        have hb := HI.out.2.2.2.1.trans ((HB.out.trans (H2.out.mono (by simp))).mono HI.out.2.2.2.1.size)
        have e9 : cmL M X = (M, (k : Int), 22) := cmL_bad (by rw [HI.out.2.2.2.2, HF.out]; exact if_pos (.inl HZ.out.1))
        rw [e9]
        exact ⟨rfl, ⟨HU.out.1.below hb, below_grown hb⟩⟩
      | false =>
        cases z2 with
        | true =>
          go_wp2_with (first | (go_at_call 75; have _h := H2.out; clear _h; refine (HW2.out _).mono ?_; rintro e w3 ⟨rfl, H3⟩; replace k0 := cell_keep H3 k0; replace k1 := cell_keep H3 k1; replace k2 := cell_keep H3 k2; replace k3 := cell_keep H3 k3; replace k4 := cell_keep H3 k4; replace k5 := cell_keep H3 k5; replace H3 := Lib.hid H3) | (go_at_call 75; refine (HW1.out _).mono ?_; rintro e w2 ⟨rfl, H2⟩; clear x0 x1 x2 x3 x4 x5; replace k0 := cell_keep H2 k0; replace k1 := cell_keep H2 k1; replace k2 := cell_keep H2 k2; replace k3 := cell_keep H2 k3; replace k4 := cell_keep H2 k4; replace k5 := cell_keep H2 k5; replace H2 := Lib.hid H2))
          go_ret2
          have hb2 := HB.out.trans (H2.out.mono (by simp))
          have hb := HI.out.2.2.2.1.trans ((hb2.trans (H3.out.mono hb2.size)).mono HI.out.2.2.2.1.size)
          have e9 : cmL M X = (M, (k : Int), 22) := cmL_bad (by rw [HI.out.2.2.2.2, HF.out]; exact if_pos (.inr HZ.out.2))
          rw [e9]
          exact ⟨rfl, ⟨HU.out.1.below hb, below_grown hb⟩⟩
        | false =>
          go_wp2_with (first | (go_at_call 75; have _h := H2.out; clear _h; refine (HW2.out _).mono ?_; rintro e w3 ⟨rfl, H3⟩; replace k0 := cell_keep H3 k0; replace k1 := cell_keep H3 k1; replace k2 := cell_keep H3 k2; replace k3 := cell_keep H3 k3; replace k4 := cell_keep H3 k4; replace k5 := cell_keep H3 k5; replace H3 := Lib.hid H3) | (go_at_call 75; refine (HW1.out _).mono ?_; rintro e w2 ⟨rfl, H2⟩; clear x0 x1 x2 x3 x4 x5; replace k0 := cell_keep H2 k0; replace k1 := cell_keep H2 k1; replace k2 := cell_keep H2 k2; replace k3 := cell_keep H2 k3; replace k4 := cell_keep H2 k4; replace k5 := cell_keep H2 k5; replace H2 := Lib.hid H2))
          have hbb2 := HB.out.trans (H2.out.mono (by simp))
          have hbb := (hbb2.trans (H3.out.mono hbb2.size)).drew
          have hb := HI.out.2.2.2.1.trans (hbb.mono HI.out.2.2.2.1.size)
          have HQ := Lib.hid (And.intro (Kd.R_below HR0.out hbb) (And.intro hb (show (xs0.length + 1) * 72 ≤ 140737488355328 by have := HLn.out; omega)))
          have hGl : wr.heap.size < w3.heap.size := World.block_lt_of_cell? w3 _ k0
          have hG3 : w3.drew.heap[wr.heap.size]? = some (.cells #[.int .i64 a0, .int .i64 a1, .int .i64 a2, .int .i64 a3, .string a4, .int .i64 a5] 125 (0, 0)) := by
            have l1 : wr.heap.size < (wr.alloc (.cells #[.int .i64 a0, .int .i64 a1, .int .i64 a2, .int .i64 a3, .string a4, .int .i64 a5] 125)).heap.size := by simp
            exact (H3.out.block _ (Nat.lt_of_lt_of_le l1 H2.out.size)).trans ((H2.out.block _ l1).trans (Go.MapKept.heap_alloc wr _).1)
          clear hbb2 hbb hb
          generalize wr.heap.size = G at k0 k1 k2 k3 k4 k5 hGl hG3 ⊢
          have hSD : w3.drew.cell? ⟨G, 0, none⟩ = some (.int .i64 a0) ∧ w3.drew.cell? ⟨G, 1, none⟩ = some (.int .i64 a1) ∧ w3.drew.cell? ⟨G, 2, none⟩ = some (.int .i64 a2) ∧ w3.drew.cell? ⟨G, 3, none⟩ = some (.int .i64 a3) ∧ w3.drew.cell? ⟨G, 4, none⟩ = some (.string a4) ∧ w3.drew.cell? ⟨G, 5, none⟩ = some (.int .i64 a5) := ⟨k0, k1, k2, k3, k4, k5⟩
          have HSA := Lib.hid (show ∀ (w' : World) (o : Obj), (w'.cell? ⟨G, 0, none⟩ = some (.int .i64 a0) ∧ w'.cell? ⟨G, 1, none⟩ = some (.int .i64 a1) ∧ w'.cell? ⟨G, 2, none⟩ = some (.int .i64 a2) ∧ w'.cell? ⟨G, 3, none⟩ = some (.int .i64 a3) ∧ w'.cell? ⟨G, 4, none⟩ = some (.string a4) ∧ w'.cell? ⟨G, 5, none⟩ = some (.int .i64 a5)) → ((w'.alloc o).cell? ⟨G, 0, none⟩ = some (.int .i64 a0) ∧ (w'.alloc o).cell? ⟨G, 1, none⟩ = some (.int .i64 a1) ∧ (w'.alloc o).cell? ⟨G, 2, none⟩ = some (.int .i64 a2) ∧ (w'.alloc o).cell? ⟨G, 3, none⟩ = some (.int .i64 a3) ∧ (w'.alloc o).cell? ⟨G, 4, none⟩ = some (.string a4) ∧ (w'.alloc o).cell? ⟨G, 5, none⟩ = some (.int .i64 a5)) from fun w' o ⟨s0, s1, s2, s3, s4, s5⟩ =>
            ⟨cell_keep ((Below.refl _ _).alloc (Nat.le_refl _) _) s0, cell_keep ((Below.refl _ _).alloc (Nat.le_refl _) _) s1, cell_keep ((Below.refl _ _).alloc (Nat.le_refl _) _) s2, cell_keep ((Below.refl _ _).alloc (Nat.le_refl _) _) s3, cell_keep ((Below.refl _ _).alloc (Nat.le_refl _) _) s4, cell_keep ((Below.refl _ _).alloc (Nat.le_refl _) _) s5⟩)
          have HSB := Lib.hid (show ∀ (w1 w2 : World), Below w1.heap.size w1 w2 → (w1.cell? ⟨G, 0, none⟩ = some (.int .i64 a0) ∧ w1.cell? ⟨G, 1, none⟩ = some (.int .i64 a1) ∧ w1.cell? ⟨G, 2, none⟩ = some (.int .i64 a2) ∧ w1.cell? ⟨G, 3, none⟩ = some (.int .i64 a3) ∧ w1.cell? ⟨G, 4, none⟩ = some (.string a4) ∧ w1.cell? ⟨G, 5, none⟩ = some (.int .i64 a5)) → (w2.cell? ⟨G, 0, none⟩ = some (.int .i64 a0) ∧ w2.cell? ⟨G, 1, none⟩ = some (.int .i64 a1) ∧ w2.cell? ⟨G, 2, none⟩ = some (.int .i64 a2) ∧ w2.cell? ⟨G, 3, none⟩ = some (.int .i64 a3) ∧ w2.cell? ⟨G, 4, none⟩ = some (.string a4) ∧ w2.cell? ⟨G, 5, none⟩ = some (.int .i64 a5)) from fun w1 w2 hb ⟨s0, s1, s2, s3, s4, s5⟩ => ⟨cell_keep hb s0, cell_keep hb s1, cell_keep hb s2, cell_keep hb s3, cell_keep hb s4, cell_keep hb s5⟩)
          have HS0 := Lib.hid hSD
          have HSG := Lib.hid (show ∀ (w5 w6 : World), Below w3.drew.heap.size w3.drew w5 → Kd.R k107 107 w5 w.heap.size (fun _ => True) u6 xs0 → w5.grownBy w6 u6.ownBlock → (w6.cell? ⟨G, 0, none⟩ = some (.int .i64 a0) ∧ w6.cell? ⟨G, 1, none⟩ = some (.int .i64 a1) ∧ w6.cell? ⟨G, 2, none⟩ = some (.int .i64 a2) ∧ w6.cell? ⟨G, 3, none⟩ = some (.int .i64 a3) ∧ w6.cell? ⟨G, 4, none⟩ = some (.string a4) ∧ w6.cell? ⟨G, 5, none⟩ = some (.int .i64 a5)) from fun w5 w6 hb hR hg => by
            have h5 : w5.heap[G]? = some (.cells #[.int .i64 a0, .int .i64 a1, .int .i64 a2, .int .i64 a3, .string a4, .int .i64 a5] 125 (0, 0)) := (hb.block G hGl).trans hG3
            have n1 := Kd.R_ne hR h5 (by decide)
            have e1 := hg.block G (Array.getElem?_eq_some_iff.1 h5).1 n1
            obtain ⟨s0, s1, s2, s3, s4, s5⟩ := HSB.out _ _ hb hSD
            exact ⟨(World.cell?_of_block (a := ⟨G, 0, none⟩) e1).trans s0, (World.cell?_of_block (a := ⟨G, 1, none⟩) e1).trans s1, (World.cell?_of_block (a := ⟨G, 2, none⟩) e1).trans s2, (World.cell?_of_block (a := ⟨G, 3, none⟩) e1).trans s3, (World.cell?_of_block (a := ⟨G, 4, none⟩) e1).trans s4, (World.cell?_of_block (a := ⟨G, 5, none⟩) e1).trans s5⟩)
          clear k0 k1 k2 k3 k4 k5 hGl hG3
          go_region_held3 (fun w' => w'.cell? ⟨G, 0, none⟩ = some (.int .i64 a0) ∧ w'.cell? ⟨G, 1, none⟩ = some (.int .i64 a1) ∧ w'.cell? ⟨G, 2, none⟩ = some (.int .i64 a2) ∧ w'.cell? ⟨G, 3, none⟩ = some (.int .i64 a3) ∧ w'.cell? ⟨G, 4, none⟩ = some (.string a4) ∧ w'.cell? ⟨G, 5, none⟩ = some (.int .i64 a5))
            (first | assumption | exact HSA.out _ _ (by assumption) | exact HS0.out)
            (first
              | (refine Kd.R_append_step k107 (w0 := w) (W := w5) w.heap.size (by rfl) (.tmp 35) (.tmp 53) 34 107 (.agg #[(.int .i64 0), (.int .i64 0), (.string ⟨#[]⟩), (.int .i64 0), (.int .i64 0), (.string ⟨#[]⟩), (.int .i64 0)]) 72 rfl Try.underlying34 info107 rfl (by decide) (by decide) u6 xs0 ⟨⟨a0, a1, a4⟩, ⟨a2, a3, a4⟩, a5⟩ [.int .i64 a0, .int .i64 a1, .string a4, .int .i64 a2, .int .i64 a3, .string a4, .int .i64 a5] (fun _ => True) (fun _ => False) rfl rfl (k107_mkM _ _ _ _) (fun _ h => h.elim) (fun _ _ => trivial) HZ5.out.1 HZ5.out.2.1 HZ5.out.2.2 HQ.out.2.2 ?_; intro v1 w6 ho hb hg hat; have kk6 := HSG.out w5 w6 (H4.out.trans (H5.out.mono H4.out.size)) HZ5.out.1 hg; have H6 := Lib.hid (And.intro ho hb); clear ho hb hg hat)
              | (go_at_call 76; have _h := H4.out; clear _h; refine (acc_any a2 a3 a4 _).mono ?_; rintro e w5 ⟨rfl, H5⟩; have kk5 := HSB.out _ _ H5 (HSB.out _ _ H4.out HS0.out); have HZ5 := Lib.hid (And.intro (Kd.R_below (Kd.R_below HQ.out.1 H4.out) H5) (And.intro (HQ.out.2.1.trans ((H4.out.trans (H5.mono H4.out.size)).mono HQ.out.2.1.size)) (Nat.le_trans HQ.out.2.1.size (Nat.le_trans H4.out.size H5.size)))); replace H5 := Lib.hid H5)
              | (go_at_call 76; refine (acc_any a0 a1 a4 _).mono ?_; rintro e w4 ⟨rfl, H4⟩; have kk4 := HSB.out _ _ H4 HS0.out; replace H4 := Lib.hid H4))
          go_wp2
          go_roundg (X.length - k)
          case measure => have := HI.out.1; have := HK.out; omega
          case rel =>
            refine ⟨k + 1, by rw [Hw.out], ⟨by have := HI.out.1; have := HK.out; omega, HK.out, ?_, H6.out.2, ?_⟩⟩
            · rw [HT.out]
              exact H6.out.1
            · rw [HI.out.2.2.2.2, HF.out, if_neg (by rw [HZ.out.1, HZ.out.2]; simp)]
    · have q2 : ((k : Int) < (X.length : Int)) = False := eq_false (by omega)
      have hR0 := HI.out.2.2.1
      rw [List.take_of_length_le (by omega)] at hR0
      obtain ⟨A6, c6, rfl, hc6, hC6⟩ := Kd.R_reads hR0
      have hfn : fbL 0 X = none := by
        rw [HI.out.2.2.2.2, List.drop_eq_nil_of_le (by omega)]
        rfl
      have hcu := HU.out.1.below HI.out.2.2.2.1
      rw [List.length_map] at hC6
      have hpo := post_any hcu.lg HU.out.2.1 A6 c6 (X.map lnE) (by rw [List.length_map]; exact hC6) (by rw [List.length_map]; have := HU.out.2.2.2.2; omega) (by rw [List.length_map]; have := HU.out.2.2.2.2; have := HU.out.2.2.1; unfold maxLen; omega)
      obtain ⟨⟨M', n', f'⟩, hR⟩ : ∃ R, postL [] M (X.map lnE) = R := ⟨_, rfl⟩
      rw [hR] at hpo
      have E9 := Lib.hid (show cmL M X = (M', n', f') from (cmL_ok hfn).trans hR)
      rw [List.length_map] at hpo
      have kc := hcu.cell
      have HPO := Lib.hid hpo
      have HCU := Lib.hid hcu
      clear hR0 hc6 hC6 hfn hcu hpo hR hk
      go_wp2_with (go_at_call 19; refine HPO.out.mono ?_; rintro e w5 ⟨rfl, h5, h6⟩; have H5 := Lib.hid (And.intro h5 h6); clear h5 h6)
      go_ret2
      rw [E9.out]
      exact ⟨rfl, ⟨HCU.out.turn H5.out.2 H5.out.1, (below_grown HI.out.2.2.2.1).andThen H5.out.2 (fun _ hj => .inr hj)⟩⟩
end Go.Proofs.Ytoknlpecbdlbfaa.PL

-- Custody: Trade, walked.
namespace Go.Proofs.Ytoknlpecbdlbfaa.PL
open Go Go.RowKit Go.Maps Go.Sort Go.Shelf Go.Proofs Go.Proofs.YtoknlpecbdlbfaaW.PrintWords Go.Proofs.YtoknlpecbdlbfaaW.PrintLast
/-- A trade's lines: the lots, then the cash. -/
def trX (s b : Int) (T : List S79) (cur : ByteArray) (cash : Int) : List S125 := T.map (fun x => ⟨s, 1, b, 1, x.f0, x.f1⟩) ++ [⟨b, 1, s, 1, cur, cash⟩]
set_option maxRecDepth 100000 in
set_option maxHeartbeats 600000 in
theorem ctrade_any {w : World} {p g b : Nat} {M : List (S42 × Int)} (h : CU w p g b M) (hB : BM M) (hm : M.length ≤ 1000000000) (s y cash : Int) (cur : ByteArray) (A : Option Addr) (c : Nat) (T : List S79) (hr : Kd.C k79 w A T.length T) (hT : T.length ≤ 1000) :
    Calls Try.prog 39 #[.pointer (some ⟨p, 0, none⟩), .int .i64 s, .int .i64 y, .slice A T.length c, .string cur, .int .i64 cash] w fun e w' => e = .returned (.tuple #[.int .i64 (cmL M (trX s y T cur cash)).2.1, .int .i64 (cmL M (trX s y T cur cash)).2.2]) ∧ Hid (CU w' p g b (cmL M (trX s y T cur cash)).1 ∧ w.grownBy w' (some b)) := by
  obtain ⟨i0, hi, hz0, hz1, hz2⟩ := info_parts info125
  have hb2 : i0.bytes * (T.length + 1) ≤ 281474976710656 := by rw [hz2]; omega
  have hb3 : T.length + 1 ≤ maxLen := by unfold maxLen; omega
  have hl : wrap64 ((T.length : Int) + 1) = ((T.length + 1 : Nat) : Int) := by
    rw [wrap_id (by omega) (by omega)]; rfl
  have HU := Lib.hid (And.intro h (And.intro hB (And.intro hm (And.intro hr hT))))
  replace hl := Lib.hid hl
  clear h hB hm hr hT
  go_enter Try.func39, Try.ntmps39
  go_wp2_with (first
    | (at_make; refine wpList_make_own _ rfl _ _ 89 rfl w.heap.size 125 i0 (.agg #[(.int .i64 0), (.int .i64 0), (.int .i64 0), (.int .i64 0), (.string ⟨#[]⟩), (.int .i64 0)]) 6 Try.underlying89 hi hz0 hz1 .i64 .i64 (wrap64 ((T.length : Int) + 1)) (T.length + 1) rfl rfl hl.out hb2 hb3 (Nat.le_refl _) ?_; intro w2 ho2 hg2; have HM2 := Lib.hid (And.intro ho2 hg2); clear ho2 hg2)
    | go_in)
  clear hb2 hb3 hi hz0 hz1 hz2 hl
  go_loopg [14, 16, 23] (T.length + 1) (fun kq v14 v16 v23 w' => ∃ k : Nat, v23 = .int .i64 k ∧ Hid (kq + k = T.length + 1 ∧ k ≤ T.length ∧ Kd.R k125 125 w' w.heap.size (fun _ => True) v14 ((T.take k).map (fun x => (⟨s, 1, y, 1, x.f0, x.f1⟩ : S125))) ∧ Below w.heap.size w w'))
  case atStart =>
    refine ⟨0, rfl, ⟨rfl, Nat.zero_le _, ?_, grown_to HM2.out.2⟩⟩
    exact ⟨fun _ _ => trivial, [], HM2.out.1, Reps.none _ _⟩
  case round =>
    obtain ⟨k, rfl, HI⟩ := hrel
    by_cases hk : k < T.length
    · obtain ⟨ad, eA, x0, x1⟩ := at_T79 (Kd.C_below HU.out.2.2.2.1 HI.out.2.2.2) (k : Int) (by omega) (by omega)
      simp only [Int.toNat_natCast] at x0 x1
      have e1 : rd_T79 T (k : Int) = T[k] := by
        unfold rd_T79
        simp [List.getD, hk]
      have htk : (T.take (k + 1)).map (fun x => (⟨s, 1, y, 1, x.f0, x.f1⟩ : S125)) = (T.take k).map (fun x => (⟨s, 1, y, 1, x.f0, x.f1⟩ : S125)) ++ [⟨s, 1, y, 1, T[k].f0, T[k].f1⟩] := by rw [List.take_succ_eq_append_getElem hk, List.map_append]; rfl
      rw [e1] at x0 x1
      obtain ⟨⟨a0, a1⟩, ha⟩ : ∃ a, T[k] = a := ⟨_, rfl⟩
      rw [ha] at x0 x1 htk
      simp only at x0 x1
      have hl64 : wrap64 ((k : Int) + 1) = ((k + 1 : Nat) : Int) := by
        have h3 := HU.out.2.2.2.2
        rw [wrap_id (by omega) (by omega)]; rfl
      have hlen : ((T.take k).map (fun x => (⟨s, 1, y, 1, x.f0, x.f1⟩ : S125))).length ≤ 1000 := by
        have := HU.out.2.2.2.2
        rw [List.length_map, List.length_take]
        omega
      obtain ⟨xs0, hxs0⟩ : ∃ l, (T.take k).map (fun x => (⟨s, 1, y, 1, x.f0, x.f1⟩ : S125)) = l := ⟨_, rfl⟩
      have hR0 := HI.out.2.2.1
      rw [hxs0] at htk hlen hR0
      obtain ⟨W, hW⟩ : ∃ W, wr.alloc (.cells #[.string a0, .int .i64 a1] 79) = W := ⟨_, rfl⟩
      have hB1 : Below wr.heap.size wr W := by rw [← hW]; exact (Below.refl _ _).alloc (Nat.le_refl _) _
      have k0 : W.cell? ⟨wr.heap.size, 0, none⟩ = some (.string a0) := by rw [← hW]; simp
      have k1 : W.cell? ⟨wr.heap.size, 1, none⟩ = some (.int .i64 a1) := by rw [← hW]; simp
      have HQ := Lib.hid (And.intro (Kd.R_below hR0 hB1) (And.intro (HI.out.2.2.2.trans (hB1.mono HI.out.2.2.2.size)) (And.intro (Nat.le_trans HI.out.2.2.2.size hB1.size) (show (xs0.length + 1) * 56 ≤ 140737488355328 by omega))))
      have HT := Lib.hid htk
      have Hw := Lib.hid hl64
      have HK := Lib.hid hk
      have q1 : (0 ≤ (k : Int)) = True := eq_true (by omega)
      have q2 : ((k : Int) < (T.length : Int)) = True := eq_true (by omega)
      subst eA
      clear e1 htk ha hl64 hlen hxs0 hR0 hB1 hk
      go_wp2_with (first
        | (at_builtin; refine Kd.R_append k125 (w0 := w) (W := W) w.heap.size rfl (.tmp 27) (.tmp 35) 89 125 (.agg #[(.int .i64 0), (.int .i64 0), (.int .i64 0), (.int .i64 0), (.string ⟨#[]⟩), (.int .i64 0)]) 56 rfl Try.underlying89 info125 rfl (by decide) (by decide) u14 xs0 ⟨s, 1, y, 1, a0, a1⟩ [.int .i64 s, .int .i64 1, .int .i64 y, .int .i64 1, .string a0, .int .i64 a1] (fun _ => True) (fun _ => False) rfl rfl (k125_mkM _ _ _ _) (fun _ h => h.elim) (fun _ _ => trivial) HQ.out.1 HQ.out.2.1 HQ.out.2.2.1 HQ.out.2.2.2 ?_; intro v1 w5 ho hb hg hat; have H5 := Lib.hid (And.intro ho hb); clear ho hb hg hat)
        | go_in)
      go_roundg (T.length - k)
      case measure => have := HI.out.1; have := HK.out; omega
      case rel =>
        refine ⟨k + 1, by rw [Hw.out], ⟨by have := HI.out.1; have := HK.out; omega, HK.out, ?_, H5.out.2⟩⟩
        rw [HT.out]
        exact H5.out.1
    · have q2 : ((k : Int) < (T.length : Int)) = False := eq_false (by omega)
      have hR0 := HI.out.2.2.1
      rw [List.take_of_length_le (by omega)] at hR0
      have hlen : (T.map (fun x => (⟨s, 1, y, 1, x.f0, x.f1⟩ : S125))).length ≤ 1000 := by
        have := HU.out.2.2.2.2
        rw [List.length_map]
        omega
      have hX : trX s y T cur cash = T.map (fun x => (⟨s, 1, y, 1, x.f0, x.f1⟩ : S125)) ++ [⟨y, 1, s, 1, cur, cash⟩] := rfl
      obtain ⟨xs0, hxs0⟩ : ∃ l, T.map (fun x => (⟨s, 1, y, 1, x.f0, x.f1⟩ : S125)) = l := ⟨_, rfl⟩
      rw [hxs0] at hlen hR0 hX
      have hXl : (xs0 ++ [(⟨y, 1, s, 1, cur, cash⟩ : S125)]).length ≤ 4000 := by simp; omega
      rw [← hX] at hXl
      obtain ⟨X, hXe⟩ : ∃ X, trX s y T cur cash = X := ⟨_, rfl⟩
      rw [hXe] at hXl hX
      have HQ := Lib.hid (And.intro hR0 (And.intro HI.out.2.2.2 (And.intro HI.out.2.2.2.size (show (xs0.length + 1) * 56 ≤ 140737488355328 by omega))))
      have HX := Lib.hid (And.intro hX.symm (And.intro hXl hXe))
      have kc := (HU.out.1.below HI.out.2.2.2).cell
      clear hR0 hlen hxs0 hX hXl hXe hk
      go_wp2_with (first
        | (go_at_call 43; refine (cmove_any (HU.out.1.below H5.out.2) HU.out.2.1 HU.out.2.2.1 A5 c5 X H5.out.1 HX.out.2.1).mono ?_; rintro e w6 ⟨rfl, H6⟩)
        | (at_builtin; refine Kd.R_append k125 (w0 := w) (W := wr) w.heap.size rfl (.tmp 39) (.tmp 45) 89 125 (.agg #[(.int .i64 0), (.int .i64 0), (.int .i64 0), (.int .i64 0), (.string ⟨#[]⟩), (.int .i64 0)]) 56 rfl Try.underlying89 info125 rfl (by decide) (by decide) u14 xs0 ⟨y, 1, s, 1, cur, cash⟩ [.int .i64 y, .int .i64 1, .int .i64 s, .int .i64 1, .string cur, .int .i64 cash] (fun _ => True) (fun _ => False) rfl rfl (k125_mkM _ _ _ _) (fun _ h => h.elim) (fun _ _ => trivial) HQ.out.1 HQ.out.2.1 HQ.out.2.2.1 HQ.out.2.2.2 ?_; intro v1 w5 ho hb hg hat; rw [HX.out.1] at ho; obtain ⟨A5, c5, rfl, _, hC5⟩ := Kd.R_reads ho; have H5 := Lib.hid (And.intro hC5 hb); clear ho hb hg hat hC5)
        | go_in)
      go_ret2
      rw [HX.out.2.2]
      exact ⟨rfl, ⟨H6.out.1, (below_grown H5.out.2).andThen H6.out.2 (fun _ hj => .inr hj)⟩⟩
end Go.Proofs.Ytoknlpecbdlbfaa.PL

-- Custody: awake, the chapter's example.
namespace Go.Proofs.Ytoknlpecbdlbfaa.PL
open Go Go.RowKit Go.Maps Go.Sort Go.Shelf Go.Proofs Go.Proofs.YtoknlpecbdlbfaaW.PrintWords Go.Proofs.YtoknlpecbdlbfaaW.PrintLast
def tX : ByteArray := ⟨#[88, 49, 50, 51, 52]⟩
def tE : ByteArray := ⟨#[69, 85, 82]⟩
def mX1 : List (S42 × Int) := [(⟨0, 0, tX⟩, -9), (⟨1, 1, tX⟩, 9)]
def mX2 : List (S42 × Int) := [(⟨0, 0, tX⟩, -9), (⟨1, 1, tX⟩, 9), (⟨0, 0, tE⟩, -50), (⟨2, 1, tE⟩, 50)]
def mX3 : List (S42 × Int) := [(⟨0, 0, tX⟩, -9), (⟨0, 0, tE⟩, -50), (⟨2, 1, tX⟩, 9), (⟨1, 1, tE⟩, 50)]
theorem cx1 : brL [] 1 tX 9 = (mX1, 0) := by kernel_rfl
theorem cx2 : brL mX1 2 tE 50 = (mX2, 0) := by kernel_rfl
theorem cx3 : cmL mX2 (trX 1 2 [⟨tX, 9⟩] tE 50) = (mX3, 2, 0) := by kernel_rfl
theorem cx4 : cmL mX3 (trX 1 2 [⟨tX, 9⟩] tE 50) = (mX3, 0, 20) := by kernel_rfl
theorem cp1 : getM mX3 ⟨2, 1, tX⟩ = 9 := by kernel_rfl
theorem cp2 : getM mX3 ⟨1, 1, tE⟩ = 50 ∧ getM mX3 ⟨1, 2, tE⟩ = 0 ∧ getM mX3 ⟨1, 3, tE⟩ = 0 ∧ getM mX3 ⟨1, 4, tE⟩ = 0 := ⟨by kernel_rfl, by kernel_rfl, by kernel_rfl, by kernel_rfl⟩
theorem BM.list : ∀ {M : List (S42 × Int)}, (∀ p ∈ M, -72057594037927936 ≤ p.2 ∧ p.2 ≤ 72057594037927936) → BM M
  | [], _ => BM.nil
  | p :: r, h => fun a => by
    show -72057594037927936 ≤ (if p.1 = a then p.2 else getM r a) ∧ (if p.1 = a then p.2 else getM r a) ≤ 72057594037927936
    split
    · exact h p List.mem_cons_self
    · exact BM.list (M := r) (fun q hq => h q (List.mem_cons_of_mem _ hq)) a
theorem bm1 : BM mX1 := BM.list (fun p hp => by simp [mX1] at hp; rcases hp with rfl | rfl <;> simp)
theorem bm2 : BM mX2 := BM.list (fun p hp => by simp [mX2] at hp; rcases hp with rfl | rfl | rfl | rfl <;> simp)
theorem bm3 : BM mX3 := BM.list (fun p hp => by simp [mX3] at hp; rcases hp with rfl | rfl | rfl | rfl <;> simp)
theorem C79_one {W : World} {k : Nat} {a : ByteArray} {n : Int} (h : W.heap[k]? = some (.cells #[.string a, .int .i64 n] 79 (0, 0))) : Kd.C k79 W (some ⟨k, 0, none⟩) 1 [⟨a, n⟩] := by
  refine ⟨rfl, by omega, fun _ => ⟨⟨k, 0, none⟩, rfl, fun j p hj => ?_⟩⟩
  cases j with
  | zero =>
    simp at hj
    subst hj
    refine ⟨[.string a, .int .i64 n], rfl, k79_mk _ _, fun i u hu => ?_⟩
    match i, hu with
    | 0, hu =>
      simp at hu
      subst hu
      simp [World.cell?, h, Addr.add]
    | 1, hu =>
      simp at hu
      subst hu
      simp [World.cell?, h, Addr.add]
  | succ j => simp at hj
/-- The example's custody, and its lots' row. -/
structure AX (W : World) (p g b k : Nat) (M : List (S42 × Int)) : Prop where
  cu : CU W p g b M
  lots : W.heap[k]? = some (.cells #[.string tX, .int .i64 9] 79 (0, 0))
theorem AX.turn {W W' : World} {p g b k : Nat} {M M' : List (S42 × Int)} (h : AX W p g b k M) (hc : CU W' p g b M') (hg : W.grownBy W' (some b)) : AX W' p g b k M' := by
  refine ⟨hc, (hg.block k (Array.getElem?_eq_some_iff.1 h.lots).1 (fun e => ?_)).trans h.lots⟩
  injection e with e
  obtain ⟨es, clock, hb, _⟩ := h.cu.lg.map
  have h1 := h.lots
  rw [e, hb] at h1
  cases h1
theorem AX.bring {W : World} {p g b k : Nat} {M M' : List (S42 × Int)} (h : AX W p g b k M) (hB : BM M) (hm : M.length ≤ 1000000000) (m q v : Int) (t : ByteArray) (hR : brL M m t q = (M', v)) :
    Calls Try.prog 42 #[.pointer (some ⟨p, 0, none⟩), .int .i64 m, .string t, .int .i64 q] W fun e w' => e = .returned (.int .i64 v) ∧ Hid (AX w' p g b k M' ∧ W.grownBy w' (some b)) := by
  have h1 := bring_any h.cu hB hm m q t
  rw [hR] at h1
  exact h1.mono (fun e w' ⟨h2, h3⟩ => ⟨h2, h.turn h3.out.1 h3.out.2, h3.out.2⟩)
theorem AX.trade {W : World} {p g b k : Nat} {M M' : List (S42 × Int)} (h : AX W p g b k M) (hB : BM M) (hm : M.length ≤ 1000000000) (n v : Int) (hR : cmL M (trX 1 2 [⟨tX, 9⟩] tE 50) = (M', n, v)) :
    Calls Try.prog 39 #[.pointer (some ⟨p, 0, none⟩), .int .i64 1, .int .i64 2, .slice (some ⟨k, 0, none⟩) 1 1, .string tE, .int .i64 50] W fun e w' => e = .returned (.tuple #[.int .i64 n, .int .i64 v]) ∧ Hid (AX w' p g b k M' ∧ W.grownBy w' (some b)) := by
  have h1 := ctrade_any h.cu hB hm 1 2 50 tE (some ⟨k, 0, none⟩) 1 [⟨tX, 9⟩] (C79_one h.lots) (by simp)
  rw [hR] at h1
  exact h1.mono (fun e w' ⟨h2, h3⟩ => ⟨h2, h.turn h3.out.1 h3.out.2, h3.out.2⟩)
theorem AX.posX {W : World} {p g b k : Nat} (h : AX W p g b k mX3) :
    Calls Try.prog 47 #[.pointer (some ⟨p, 0, none⟩), .int .i64 2, .string tX] W fun e w' => ∃ v1 v2 v3, e = .returned (.agg #[.int .i64 9, .int .i64 v1, .int .i64 v2, .int .i64 v3]) ∧ Hid (CU w' p g b mX3 ∧ Below W.heap.size W w') := by
  have h1 := pos_any h.cu 2 tX (by kernel_rfl) (by show tX.size ≤ maxLen; rw [show tX.size = 5 from by kernel_rfl]; unfold maxLen; omega)
  rw [cp1] at h1
  exact h1.mono (fun e w' ⟨h2, h3⟩ => ⟨_, _, _, h2, h.cu.below h3, h3⟩)
theorem posE {W : World} {p g b : Nat} (h : CU W p g b mX3) :
    Calls Try.prog 47 #[.pointer (some ⟨p, 0, none⟩), .int .i64 1, .string tE] W fun e w' => e = .returned (.agg #[.int .i64 50, .int .i64 0, .int .i64 0, .int .i64 0]) ∧ Below W.heap.size W w' := by
  have h1 := pos_any h 1 tE (by kernel_rfl) (by show tE.size ≤ maxLen; rw [show tE.size = 3 from by kernel_rfl]; unfold maxLen; omega)
  rw [cp2.1, cp2.2.1, cp2.2.2.1, cp2.2.2.2] at h1
  exact h1
theorem all50 (W : World) : Calls Try.prog 48 #[.agg #[.int .i64 50, .int .i64 0, .int .i64 0, .int .i64 0]] W fun e w' => e = .returned (.int .i64 50) ∧ Below W.heap.size W w' :=
  custody_Position_All.calls 50 0 0 0 50 W (by kernel_rfl)
set_option maxRecDepth 100000 in
set_option maxHeartbeats 1000000 in
theorem cawake_walk (w : World) : Calls Try.prog 38 #[] w fun e w' => e = .returned (.bool true) ∧ Below w.heap.size w w' := by
  have hfd : ∀ (v1 v2 v3 : Int) (W : World), (Instr.field 93 (.agg #[.int .i64 9, .int .i64 v1, .int .i64 v2, .int .i64 v3]) 0).run Try.prog W = .ok (.int .i64 9) W := fun v1 v2 v3 W => by rfl
  go_enter Try.func38, Try.ntmps38
  go_wp2_with (first
    | (go_at_call 48; refine (all50 _).mono ?_; rintro e w8 ⟨rfl, H8⟩; replace H8 := Lib.hid H8)
    | (go_at_call 47; refine (posE H6.out.1).mono ?_; rintro e w7 ⟨rfl, H7⟩; replace H7 := Lib.hid H7)
    | (go_at_call 47; refine H5.out.1.posX.mono ?_; rintro e w6 ⟨v1, v2, v3, rfl, H6⟩)
    | (go_at_call 39; refine (AX.trade H4.out.1 bm3 (by simp [mX3]) 0 20 cx4).mono ?_; rintro e w5 ⟨rfl, H5⟩)
    | (go_at_call 39; refine (AX.trade H3.out.1 bm2 (by simp [mX2]) 2 0 cx3).mono ?_; rintro e w4 ⟨rfl, H4⟩)
    | (go_at_call 42; refine (AX.bring H2.out.1 bm1 (by simp [mX1]) 2 50 0 tE cx2).mono ?_; rintro e w3 ⟨rfl, H3⟩)
    | (go_at_call 42; have H1 := Lib.hid (show AX (w1.alloc (.cells #[.string tX, .int .i64 9] 79)) p g b w1.heap.size [] from ⟨H0.out.1.below ((Below.refl _ _).alloc (Nat.le_refl _) _), (Go.MapKept.heap_alloc w1 _).1⟩); refine (AX.bring H1.out BM.nil (by simp) 1 9 0 tX cx1).mono ?_; rintro e w2 ⟨rfl, H2⟩)
    | (go_at_call 34; refine (cnew_any _).mono ?_; rintro e w1 ⟨p, g, b, rfl, H0⟩))
  go_ret
  have b1 : Below w.heap.size w (w1.alloc (.cells #[.string tX, .int .i64 9] 79)) := H0.out.2.1.alloc H0.out.2.1.size _
  have hb := H0.out.2.2.1
  have b2 := b1.grown H2.out.2 b1.size (fun k e => by cases e; exact hb)
  have b3 := b2.grown H3.out.2 b2.size (fun k e => by cases e; exact hb)
  have b4 := b3.grown H4.out.2 b3.size (fun k e => by cases e; exact hb)
  have b5 := b4.grown H5.out.2 b4.size (fun k e => by cases e; exact hb)
  have b6 := b5.trans (H6.out.2.mono b5.size)
  have b7 := b6.trans (H7.out.mono b6.size)
  exact ⟨rfl, b7.trans (H8.out.mono b7.size)⟩
end Go.Proofs.Ytoknlpecbdlbfaa.PL

-- Custody: Shift, All, Clone, Things, Out, walked.
namespace Go.Proofs.Ytoknlpecbdlbfaa.PL
open Go Go.RowKit Go.Maps Go.Sort Go.Shelf Go.Proofs Go.Proofs.YtoknlpecbdlbfaaW.PrintWords Go.Proofs.YtoknlpecbdlbfaaW.PrintLast
/-- A shift's lines. -/
def shX (m fr tq : Int) (T : List S79) : List S125 := T.map (fun x => ⟨m, fr, m, tq, x.f0, x.f1⟩)
set_option maxRecDepth 100000 in
set_option maxHeartbeats 1000000 in
theorem shift_walk {w : World} (p : Value) (m fr tq n f : Int) (A : Option Addr) (c : Nat) (T : List S79) (hr : Kd.C k79 w A T.length T) (hT : T.length ≤ 2000000) (Q : World → Prop)
    (hmv : ∀ (W : World) (A5 : Option Addr) (c5 : Nat), Below w.heap.size w W → Kd.C k125 W A5 (shX m fr tq T).length (shX m fr tq T) → Calls Try.prog 43 #[p, .slice A5 (shX m fr tq T).length c5] W fun e w' => e = .returned (.tuple #[.int .i64 n, .int .i64 f]) ∧ Q w') :
    Calls Try.prog 45 #[p, .int .i64 m, .int .i64 fr, .int .i64 tq, .slice A T.length c] w fun e w' => e = .returned (.tuple #[.int .i64 n, .int .i64 f]) ∧ Q w' := by
  obtain ⟨i0, hi, hz0, hz1, hz2⟩ := info_parts info125
  have hb2 : i0.bytes * T.length ≤ 281474976710656 := by rw [hz2]; omega
  have hb3 : T.length ≤ maxLen := by unfold maxLen; omega
  have HU := Lib.hid (And.intro hmv (And.intro hr hT))
  clear hr hT hmv
  go_enter Try.func45, Try.ntmps45
  go_wp2_with (first
    | (at_make; refine wpList_make_own _ rfl _ _ 89 rfl w.heap.size 125 i0 (.agg #[(.int .i64 0), (.int .i64 0), (.int .i64 0), (.int .i64 0), (.string ⟨#[]⟩), (.int .i64 0)]) 6 Try.underlying89 hi hz0 hz1 .i64 .i64 (T.length : Int) T.length rfl rfl rfl hb2 hb3 (Nat.le_refl _) ?_; intro w2 ho2 hg2; have HM2 := Lib.hid (And.intro ho2 hg2); clear ho2 hg2)
    | go_in)
  clear hb2 hb3 hi hz0 hz1 hz2
  go_loopg [12, 14, 20] (T.length + 1) (fun kq v12 v14 v20 w' => ∃ k : Nat, v20 = .int .i64 k ∧ Hid (kq + k = T.length + 1 ∧ k ≤ T.length ∧ Kd.R k125 125 w' w.heap.size (fun _ => True) v12 ((T.take k).map (fun x => (⟨m, fr, m, tq, x.f0, x.f1⟩ : S125))) ∧ Below w.heap.size w w'))
  case atStart =>
    refine ⟨0, rfl, ⟨rfl, Nat.zero_le _, ?_, grown_to HM2.out.2⟩⟩
    exact ⟨fun _ _ => trivial, [], HM2.out.1, Reps.none _ _⟩
  case round =>
    obtain ⟨k, rfl, HI⟩ := hrel
    by_cases hk : k < T.length
    · obtain ⟨ad, eA, x0, x1⟩ := at_T79 (Kd.C_below HU.out.2.1 HI.out.2.2.2) (k : Int) (by omega) (by omega)
      simp only [Int.toNat_natCast] at x0 x1
      have e1 : rd_T79 T (k : Int) = T[k] := by
        unfold rd_T79
        simp [List.getD, hk]
      have htk : (T.take (k + 1)).map (fun x => (⟨m, fr, m, tq, x.f0, x.f1⟩ : S125)) = (T.take k).map (fun x => (⟨m, fr, m, tq, x.f0, x.f1⟩ : S125)) ++ [⟨m, fr, m, tq, T[k].f0, T[k].f1⟩] := by rw [List.take_succ_eq_append_getElem hk, List.map_append]; rfl
      rw [e1] at x0 x1
      obtain ⟨⟨a0, a1⟩, ha⟩ : ∃ a, T[k] = a := ⟨_, rfl⟩
      rw [ha] at x0 x1 htk
      simp only at x0 x1
      have hl64 : wrap64 ((k : Int) + 1) = ((k + 1 : Nat) : Int) := by
        have h3 := HU.out.2.2
        rw [wrap_id (by omega) (by omega)]; rfl
      have hlen : ((T.take k).map (fun x => (⟨m, fr, m, tq, x.f0, x.f1⟩ : S125))).length ≤ 2000000 := by
        have := HU.out.2.2
        rw [List.length_map, List.length_take]
        omega
      obtain ⟨xs0, hxs0⟩ : ∃ l, (T.take k).map (fun x => (⟨m, fr, m, tq, x.f0, x.f1⟩ : S125)) = l := ⟨_, rfl⟩
      have hR0 := HI.out.2.2.1
      rw [hxs0] at htk hlen hR0
      obtain ⟨W, hW⟩ : ∃ W, wr.alloc (.cells #[.string a0, .int .i64 a1] 79) = W := ⟨_, rfl⟩
      have hB1 : Below wr.heap.size wr W := by rw [← hW]; exact (Below.refl _ _).alloc (Nat.le_refl _) _
      have k0 : W.cell? ⟨wr.heap.size, 0, none⟩ = some (.string a0) := by rw [← hW]; simp
      have k1 : W.cell? ⟨wr.heap.size, 1, none⟩ = some (.int .i64 a1) := by rw [← hW]; simp
      have HQ := Lib.hid (And.intro (Kd.R_below hR0 hB1) (And.intro (HI.out.2.2.2.trans (hB1.mono HI.out.2.2.2.size)) (And.intro (Nat.le_trans HI.out.2.2.2.size hB1.size) (show (xs0.length + 1) * 56 ≤ 140737488355328 by omega))))
      have HT := Lib.hid htk
      have Hw := Lib.hid hl64
      have HK := Lib.hid hk
      have q1 : (0 ≤ (k : Int)) = True := eq_true (by omega)
      have q2 : ((k : Int) < (T.length : Int)) = True := eq_true (by omega)
      subst eA
      clear e1 htk ha hl64 hlen hxs0 hR0 hB1 hk
      go_wp2_with (first
        | (at_builtin; refine Kd.R_append k125 (w0 := w) (W := W) w.heap.size rfl (.tmp 24) (.tmp 34) 89 125 (.agg #[(.int .i64 0), (.int .i64 0), (.int .i64 0), (.int .i64 0), (.string ⟨#[]⟩), (.int .i64 0)]) 56 rfl Try.underlying89 info125 rfl (by decide) (by decide) u12 xs0 ⟨m, fr, m, tq, a0, a1⟩ [.int .i64 m, .int .i64 fr, .int .i64 m, .int .i64 tq, .string a0, .int .i64 a1] (fun _ => True) (fun _ => False) rfl rfl (k125_mkM _ _ _ _) (fun _ h => h.elim) (fun _ _ => trivial) HQ.out.1 HQ.out.2.1 HQ.out.2.2.1 HQ.out.2.2.2 ?_; intro v1 w5 ho hb hg hat; have H5 := Lib.hid (And.intro ho hb); clear ho hb hg hat)
        | go_in)
      go_roundg (T.length - k)
      case measure => have := HI.out.1; have := HK.out; omega
      case rel =>
        refine ⟨k + 1, by rw [Hw.out], ⟨by have := HI.out.1; have := HK.out; omega, HK.out, ?_, H5.out.2⟩⟩
        rw [HT.out]
        exact H5.out.1
    · have q2 : ((k : Int) < (T.length : Int)) = False := eq_false (by omega)
      have hR0 := HI.out.2.2.1
      rw [List.take_of_length_le (by omega)] at hR0
      replace hR0 : Kd.R k125 125 wr w.heap.size (fun _ => True) u12 (shX m fr tq T) := hR0
      obtain ⟨A5, c5, rfl, _, hC5⟩ := Kd.R_reads hR0
      have HMV := Lib.hid (HU.out.1 wr A5 c5 HI.out.2.2.2 hC5)
      obtain ⟨N, hN⟩ : ∃ N, (shX m fr tq T).length = N := ⟨_, rfl⟩
      rw [hN] at HMV ⊢
      clear hR0 hC5 hN hk
      go_wp2_with (go_at_call 43; refine HMV.out.mono ?_; rintro e w6 ⟨rfl, h6⟩; have H6 := Lib.hid h6; clear h6)
      go_ret2
      exact ⟨rfl, H6.out⟩
set_option maxRecDepth 100000 in
theorem call_any {w : World} {p g b : Nat} {M : List (S42 × Int)} (h : CU w p g b M) {L : List S82} (hg : Gives 23 (.pointer (some ⟨g, 0, none⟩)) 44 w L) : Gives 53 (.pointer (some ⟨p, 0, none⟩)) 44 w L := by
  unfold Gives at hg ⊢
  have HG := Lib.hid hg
  have HU := Lib.hid h
  have hc := h.cell
  clear h hg
  go_enter Try.func53, Try.ntmps53
  go_wp2_with (first
    | (go_at_call 74; refine (cmade_any HU.out).mono ?_; rintro e w1 ⟨rfl, rfl⟩)
    | (go_at_call 23; refine HG.out.mono ?_; rintro e w2 ⟨v, rfl, h1, h2⟩; have H2 := Lib.hid (And.intro h1 h2); clear h1 h2))
  go_ret
  exact ⟨_, rfl, H2.out.1, H2.out.2⟩
set_option maxRecDepth 100000 in
theorem call_no {w : World} {p : Value} (h : NoCU w p) : Gives 53 p 44 w [] := by
  unfold Gives
  have H := Lib.hid (cmade_no h)
  clear h
  go_enter Try.func53, Try.ntmps53
  go_wp2_with (go_at_call 74; refine H.out.mono ?_; rintro e w1 ⟨rfl, rfl⟩)
  go_ret
  exact ⟨_, rfl, Kd.R_nil _ _ _ _ _, Below.refl _ _⟩
set_option maxRecDepth 100000 in
theorem cclone_any {w : World} {p g b : Nat} {M : List (S42 × Int)} (h : CU w p g b M) :
    Calls Try.prog 54 #[.pointer (some ⟨p, 0, none⟩)] w fun e w' => ∃ p2 g2 b2, e = .returned (.pointer (some ⟨p2, 0, none⟩)) ∧ Hid (CU w' p2 g2 b2 M ∧ Below w.heap.size w w' ∧ w.heap.size ≤ b2 ∧ w.heap.size ≤ g2 ∧ w.heap.size ≤ p2) := by
  have HU := Lib.hid h
  have hc := h.cell
  clear h
  go_enter Try.func54, Try.ntmps54
  go_wp2_with (first
    | (go_at_call 74; refine (cmade_any HU.out).mono ?_; rintro e w1 ⟨rfl, rfl⟩)
    | (go_at_call 24; refine (clone_hid HU.out.lg).mono ?_; rintro e w2 ⟨rfl, H2⟩))
  go_ret
  have hb : Below w2.heap.size w2 (w2.alloc (.cells #[.pointer (some ⟨w.heap.size + 1, 0, none⟩)] 102)) := (Below.refl _ _).alloc (Nat.le_refl _) _
  exact ⟨w2.heap.size, w.heap.size + 1, w.heap.size, rfl, ⟨⟨(Go.MapKept.heap_alloc w2 _).1, H2.out.1.below hb⟩, H2.out.2.trans (hb.mono H2.out.2.size), Nat.le_refl _, by omega, H2.out.2.size⟩⟩
set_option maxRecDepth 100000 in
theorem cclone_no {w : World} {p : Value} (h : NoCU w p) : Calls Try.prog 54 #[p] w fun e w' => e = .returned (.pointer none) ∧ w = w' := by
  have H := Lib.hid (cmade_no h)
  clear h
  go_enter Try.func54, Try.ntmps54
  go_wp2_with (go_at_call 74; refine H.out.mono ?_; rintro e w1 ⟨rfl, rfl⟩)
  go_ret
  exact ⟨rfl, rfl⟩
end Go.Proofs.Ytoknlpecbdlbfaa.PL

-- Custody: told, Things, Out, and what no custody answers.
namespace Go.Proofs.Ytoknlpecbdlbfaa.PL
open Go Go.RowKit Go.Maps Go.Sort Go.Shelf Go.Proofs Go.Proofs.YtoknlpecbdlbfaaW.PrintWords Go.Proofs.YtoknlpecbdlbfaaW.PrintLast
set_option maxRecDepth 100000 in
set_option maxHeartbeats 2000000 in
theorem ctold_walk (p : Value) (w : World) (l : List S82) (h : Gives 53 p 44 w l) (hs : l.length * 40 ≤ 140737488355328) : Gives 37 p 82 w l := by
  unfold Gives
  have HS := Lib.hid h.slice
  have HH := Lib.hid hs
  clear h hs
  go_enter Try.func37, Try.ntmps37
  go_wp2_with (first
    | (go_at_call 53; refine HS.out.mono ?_; rintro e w1 ⟨A, c, rfl, H1⟩))
  go_loopg [4, 5, 6] (l.length + 1) (fun kq v4 v5 v6 w' => ∃ k : Nat, v5 = .int .i64 k ∧ Hid (kq + k = l.length + 1 ∧ k ≤ l.length ∧ Kd.R k82 82 w' w1.heap.size (fun _ => True) v4 (l.take k) ∧ Below w1.heap.size w1 w'))
  case atStart =>
    exact ⟨0, rfl, ⟨rfl, Nat.zero_le _, Kd.R_nil _ _ _ _ _, Below.refl _ _⟩⟩
  case round =>
    obtain ⟨k, rfl, HI⟩ := hrel
    by_cases hk : k < l.length
    · have hC : Kd.C k82 wr A l.length l := Kd.C_below H1.out.1 HI.out.2.2.2
      have h4 : ∀ (w' : World), Below w1.heap.size w1 w' → Kd.C k82 w' A l.length l := fun w' hb => Kd.C_below H1.out.1 hb
      obtain ⟨ad, eA, x0, x1, x2, x3⟩ := at_T82 hC (k : Int) (by omega) (by omega)
      simp only [Int.toNat_natCast] at x0 x1 x2 x3
      have hx : ∀ (w' : World), Below w1.heap.size w1 w' → w'.cell? ⟨(ad.add (k * 4)).block, (ad.add (k * 4)).off + 3, none⟩ = some (.int .i64 (rd_T82 l (k : Int)).f1) := fun w' hb => by
        obtain ⟨ad', eA', _, _, _, y3⟩ := at_T82 (h4 w' hb) (k : Int) (by omega) (by omega)
        obtain rfl : ad = ad' := by rw [eA] at eA'; injection eA'
        simpa only [Int.toNat_natCast] using y3
      obtain ⟨⟨⟨a0, a1, a2⟩, n⟩, ha⟩ : ∃ a, rd_T82 l (k : Int) = a := ⟨_, rfl⟩
      rw [ha] at x0 x1 x2 x3 hx
      have HX := Lib.hid hx
      clear hC h4 hx
      subst eA
      have HK := Lib.hid (And.intro hk ha)
      clear ha
      go_wp2
      obtain ⟨W, hW⟩ : ∃ W, W = wr.alloc (.cells #[.int .i64 a0, .int .i64 a1, .string a2] 42) := ⟨_, rfl⟩
      have HB : Below wr.heap.size wr W := by rw [hW]; exact (Below.refl _ _).alloc (Nat.le_refl _) _
      have k0 : W.cell? ⟨wr.heap.size, 0, none⟩ = some (.int .i64 a0) := by rw [hW]; simp
      have k1 : W.cell? ⟨wr.heap.size, 1, none⟩ = some (.int .i64 a1) := by rw [hW]; simp
      have k2 : W.cell? ⟨wr.heap.size, 2, none⟩ = some (.string a2) := by rw [hW]; simp
      have hGb : W.drew.heap[wr.heap.size]? = some (.cells #[.int .i64 a0, .int .i64 a1, .string a2] 42 (0, 0)) := by rw [hW]; exact (Go.MapKept.heap_alloc wr _).1
      rw [← hW]
      have hB2 : Below w1.heap.size w1 W.drew := (HI.out.2.2.2.trans (HB.mono HI.out.2.2.2.size)).drew
      have hR : Kd.R k82 82 W.drew w1.heap.size (fun _ => True) u4 (l.take k) := Kd.R_drew (Kd.R_below HI.out.2.2.1 HB)
      have hlen : ((l.take k).length + 1) * 40 ≤ 140737488355328 := by
        have h1 := HK.out.1
        have h3 := HH.out
        simp
        omega
      have HP := Lib.hid (And.intro hR (And.intro hB2 (And.intro hB2.size hlen)))
      clear x0 x1 x2 x3 HB hW hR hlen
      generalize wr.heap.size = G at k0 k1 k2 hGb ⊢
      have hSD : W.drew.cell? ⟨G, 0, none⟩ = some (.int .i64 a0) ∧ W.drew.cell? ⟨G, 1, none⟩ = some (.int .i64 a1) ∧ W.drew.cell? ⟨G, 2, none⟩ = some (.string a2) ∧ W.drew.cell? ⟨(ad.add (k * 4)).block, (ad.add (k * 4)).off + 3, none⟩ = some (.int .i64 n) := ⟨k0, k1, k2, HX.out _ hB2⟩
      have HSA := Lib.hid (show ∀ (w' : World) (o : Obj), (w'.cell? ⟨G, 0, none⟩ = some (.int .i64 a0) ∧ w'.cell? ⟨G, 1, none⟩ = some (.int .i64 a1) ∧ w'.cell? ⟨G, 2, none⟩ = some (.string a2) ∧ w'.cell? ⟨(ad.add (k * 4)).block, (ad.add (k * 4)).off + 3, none⟩ = some (.int .i64 n)) → ((w'.alloc o).cell? ⟨G, 0, none⟩ = some (.int .i64 a0) ∧ (w'.alloc o).cell? ⟨G, 1, none⟩ = some (.int .i64 a1) ∧ (w'.alloc o).cell? ⟨G, 2, none⟩ = some (.string a2) ∧ (w'.alloc o).cell? ⟨(ad.add (k * 4)).block, (ad.add (k * 4)).off + 3, none⟩ = some (.int .i64 n)) from fun w' o ⟨s0, s1, s2, s3⟩ =>
        ⟨((Below.refl w'.heap.size w').alloc (Nat.le_refl _) o |>.cell (World.block_lt_of_cell? w' _ s0)).trans s0, ((Below.refl w'.heap.size w').alloc (Nat.le_refl _) o |>.cell (World.block_lt_of_cell? w' _ s1)).trans s1, ((Below.refl w'.heap.size w').alloc (Nat.le_refl _) o |>.cell (World.block_lt_of_cell? w' _ s2)).trans s2, ((Below.refl w'.heap.size w').alloc (Nat.le_refl _) o |>.cell (World.block_lt_of_cell? w' _ s3)).trans s3⟩)
      have HSG := Lib.hid (show ∀ w5 : World, W.drew.grownBy w5 u4.ownBlock → Below w1.heap.size w1 w5 → (w5.cell? ⟨G, 0, none⟩ = some (.int .i64 a0) ∧ w5.cell? ⟨G, 1, none⟩ = some (.int .i64 a1) ∧ w5.cell? ⟨G, 2, none⟩ = some (.string a2) ∧ w5.cell? ⟨(ad.add (k * 4)).block, (ad.add (k * 4)).off + 3, none⟩ = some (.int .i64 n)) from fun w5 hg hb => by
        have n1 := Kd.R_ne HP.out.1 hGb (by decide)
        have e1 := hg.block G (Array.getElem?_eq_some_iff.1 hGb).1 n1
        exact ⟨(World.cell?_of_block (a := ⟨G, 0, none⟩) e1).trans k0, (World.cell?_of_block (a := ⟨G, 1, none⟩) e1).trans k1, (World.cell?_of_block (a := ⟨G, 2, none⟩) e1).trans k2, HX.out _ hb⟩)
      clear k0 k1 k2 hGb hB2
      go_region_held3 (fun w' => w'.cell? ⟨G, 0, none⟩ = some (.int .i64 a0) ∧ w'.cell? ⟨G, 1, none⟩ = some (.int .i64 a1) ∧ w'.cell? ⟨G, 2, none⟩ = some (.string a2) ∧ w'.cell? ⟨(ad.add (k * 4)).block, (ad.add (k * 4)).off + 3, none⟩ = some (.int .i64 n))
        (first | assumption | exact HSA.out _ _ (by assumption))
        (first | (refine Kd.R_append_step k82 (w0 := w1) (W := W.drew) w1.heap.size (by rfl) (.tmp 20) (.tmp 34) 27 82 (.agg #[(.int .i64 0), (.int .i64 0), (.string ⟨#[]⟩), (.int .i64 0)]) 40 rfl Try.underlying27 info82 rfl (by decide) (by decide) u4 (l.take k) ⟨⟨a0, a1, a2⟩, n⟩ [.int .i64 a0, .int .i64 a1, .string a2, .int .i64 n] (fun _ => True) (fun _ => False) rfl rfl (k82_mkM _ _ _ _) (fun _ h => h.elim) (fun _ _ => trivial) HP.out.1 HP.out.2.1 HP.out.2.2.1 HP.out.2.2.2 ?_; intro v1 w5 ho hb hg hat; have kk := HSG.out w5 hg hb; have H5 := Lib.hid (And.intro ho hb); clear ho hb hg hat))
      go_wp2
      go_roundg (l.length - k)
      case measure => have := HI.out.1; have := HK.out.1; omega
      case rel =>
        have h1 := HK.out.1
        have h2 := HI.out.1
        have h3 := HH.out
        refine ⟨k + 1, ?_, ⟨by omega, by omega, ?_, H5.out.2⟩⟩
        · rw [wrap_id (by omega) (by omega)]; rfl
        · have e1 : l.take (k + 1) = l.take k ++ [⟨⟨a0, a1, a2⟩, n⟩] := by
            have e2 : l[k] = ⟨⟨a0, a1, a2⟩, n⟩ := by
              have := HK.out.2
              unfold rd_T82 at this
              simpa [List.getD, h1] using this
            rw [List.take_succ_eq_append_getElem h1, e2]
          rw [e1]
          exact H5.out.1
    · have hk' : (k < l.length) = False := eq_false hk
      have HK := Lib.hid hk
      clear hk
      go_wp2
      go_ret
      obtain ⟨h1, h2, h3, h4⟩ := HI.out
      have e1 : l.take k = l := List.take_of_length_le (by have := HK.out; omega)
      rw [e1] at h3
      exact ⟨_, rfl, Kd.R_lower h3 H1.out.2.1.size, H1.out.2.1.trans (h4.mono H1.out.2.1.size)⟩
/-- What custody's told hands back. -/
theorem ctold_gives {p g b : Nat} {M : List (S42 × Int)} {L : List S82} {w : World} (h : CU w p g b M) (hr : Rep M L) (hs : L.length ≤ 1000000) :
    Calls Try.prog 37 #[.pointer (some ⟨p, 0, none⟩)] w fun o w' => ∃ (A : Option Addr) (c : Nat), o = .returned (.slice A L.length c) ∧ Hid (Kd.C k82 w' A L.length L ∧ Below w.heap.size w w' ∧ L.length ≤ c) :=
  (ctold_walk _ w L (call_any h (all_gives h.lg hr (by omega))) (by omega)).slice
set_option maxRecDepth 100000 in
theorem cthings_any {w : World} {p g b : Nat} {M : List (S42 × Int)} (h : CU w p g b M) {L : List S82} (hr : Rep M L) (hs : L.length ≤ 1000000) :
    Calls Try.prog 46 #[.pointer (some ⟨p, 0, none⟩)] w fun e w' => ∃ v, e = .returned v ∧ Hid (Kd.R Kd.string 9 w' w.heap.size (fun _ => True) v (compB (thingsOf L)) ∧ Below w.heap.size w w') := by
  have HG := Lib.hid (things_walk _ w L (all_gives h.lg hr (by omega)) (by omega))
  have HU := Lib.hid h
  have hc := h.cell
  clear h hr hs
  go_enter Try.func46, Try.ntmps46
  go_wp2_with (first
    | (go_at_call 74; refine (cmade_any HU.out).mono ?_; rintro e w1 ⟨rfl, rfl⟩)
    | (go_at_call 32; refine HG.out.mono ?_; rintro e w2 ⟨v, rfl, h1, h2⟩; have H2 := Lib.hid (And.intro h1 h2); clear h1 h2))
  go_ret
  exact ⟨_, rfl, H2.out⟩
set_option maxRecDepth 100000 in
theorem cthings_no {w : World} {p : Value} (h : NoCU w p) : Calls Try.prog 46 #[p] w fun e w' => e = .returned (.slice none 0 0) ∧ w = w' := by
  have H := Lib.hid (cmade_no h)
  clear h
  go_enter Try.func46, Try.ntmps46
  go_wp2_with (go_at_call 74; refine H.out.mono ?_; rintro e w1 ⟨rfl, rfl⟩)
  go_ret
  exact ⟨rfl, rfl⟩
set_option maxRecDepth 100000 in
theorem cout_any {w : World} {p g b : Nat} {M : List (S42 × Int)} (h : CU w p g b M) {L : List S82} (hr : Rep M L) (hs : L.length ≤ 1000000) (t : ByteArray) :
    Calls Try.prog 49 #[.pointer (some ⟨p, 0, none⟩), .string t] w fun e w' => e = .returned (.int .i64 (wrap64 (-(heldL L 0 t)))) ∧ Below w.heap.size w w' := by
  have HG := Lib.hid (out_walk _ w L t (all_gives h.lg hr (by omega)) (by omega))
  have HU := Lib.hid h
  have hc := h.cell
  clear h hr hs
  go_enter Try.func49, Try.ntmps49
  go_wp2_with (first
    | (go_at_call 74; refine (cmade_any HU.out).mono ?_; rintro e w1 ⟨rfl, rfl⟩)
    | (go_at_call 30; refine HG.out.mono ?_; rintro e w2 ⟨rfl, h2⟩; have H2 := Lib.hid h2; clear h2))
  go_ret
  exact ⟨rfl, H2.out⟩
set_option maxRecDepth 100000 in
theorem cout_no {w : World} {p : Value} (h : NoCU w p) (t : ByteArray) : Calls Try.prog 49 #[p, .string t] w fun e w' => e = .returned (.int .i64 0) ∧ w = w' := by
  have H := Lib.hid (cmade_no h)
  clear h
  go_enter Try.func49, Try.ntmps49
  go_wp2_with (go_at_call 74; refine H.out.mono ?_; rintro e w1 ⟨rfl, rfl⟩)
  go_ret
  exact ⟨rfl, rfl⟩
set_option maxRecDepth 100000 in
theorem clots_no {w : World} {p : Value} (h : NoCU w p) (m k : Int) : Calls Try.prog 51 #[p, .int .i64 m, .int .i64 k] w fun e w' => e = .returned (.slice none 0 0) ∧ w = w' := by
  have H := Lib.hid (cmade_no h)
  clear h
  go_enter Try.func51, Try.ntmps51
  go_wp2_with (go_at_call 74; refine H.out.mono ?_; rintro e w1 ⟨rfl, rfl⟩)
  go_ret
  exact ⟨rfl, rfl⟩
end Go.Proofs.Ytoknlpecbdlbfaa.PL

-- Custody: Position of none.
namespace Go.Proofs.Ytoknlpecbdlbfaa.PL
open Go Go.RowKit Go.Maps Go.Sort Go.Shelf Go.Proofs Go.Proofs.YtoknlpecbdlbfaaW.PrintWords Go.Proofs.YtoknlpecbdlbfaaW.PrintLast
set_option maxRecDepth 100000 in
set_option maxHeartbeats 600000 in
theorem pos_nil {w : World} (h : NoCU w (.pointer none)) (m : Int) (t : ByteArray) :
    Calls Try.prog 47 #[.pointer none, .int .i64 m, .string t] w fun e w' => e = .returned (.agg #[.int .i64 0, .int .i64 0, .int .i64 0, .int .i64 0]) ∧ Below w.heap.size w w' := by
  obtain ⟨W0, hW0⟩ : ∃ W0, W0 = (((w.alloc (.cells #[.pointer none] 66)).alloc (.cells #[.int .i64 m] 3)).alloc (.cells #[.string t] 9)).alloc (.cells #[.int .i64 0, .int .i64 0, .int .i64 0, .int .i64 0] 93) := ⟨_, rfl⟩
  have hb0 : Below w.heap.size w W0 := by
    rw [hW0]
    exact ((((Below.refl _ _).alloc (Nat.le_refl _) _).alloc (by simp) _).alloc (by simp; omega) _).alloc (by simp; omega) _
  have hbox : W0.cell? ⟨w.heap.size, 0, none⟩ = some (.pointer none) ∧ W0.heap[w.heap.size + 1 + 1 + 1]? = some (.cells #[.int .i64 0, .int .i64 0, .int .i64 0, .int .i64 0] 93 (0, 0)) := by
    have e1 : (w.alloc (.cells #[.pointer none] 66)).heap.size = w.heap.size + 1 := by simp
    have e2 : ((w.alloc (.cells #[.pointer none] 66)).alloc (.cells #[.int .i64 m] 3)).heap.size = w.heap.size + 1 + 1 := by simp
    have e3 : (((w.alloc (.cells #[.pointer none] 66)).alloc (.cells #[.int .i64 m] 3)).alloc (.cells #[.string t] 9)).heap.size = w.heap.size + 1 + 1 + 1 := by simp
    have hA := Go.MapKept.heap_alloc w (.cells #[.pointer none] 66)
    have hB := Go.MapKept.heap_alloc (w.alloc (.cells #[.pointer none] 66)) (.cells #[.int .i64 m] 3)
    have hC := Go.MapKept.heap_alloc ((w.alloc (.cells #[.pointer none] 66)).alloc (.cells #[.int .i64 m] 3)) (.cells #[.string t] 9)
    have hD := Go.MapKept.heap_alloc (((w.alloc (.cells #[.pointer none] 66)).alloc (.cells #[.int .i64 m] 3)).alloc (.cells #[.string t] 9)) (.cells #[.int .i64 0, .int .i64 0, .int .i64 0, .int .i64 0] 93)
    rw [e1] at hB
    rw [e2] at hC
    rw [e3] at hD
    rw [← hW0] at hD
    have g0 := (hD.2 w.heap.size (by omega)).trans ((hC.2 w.heap.size (by omega)).trans ((hB.2 w.heap.size (by omega)).trans hA.1))
    have g1 := (hD.2 (w.heap.size + 1) (by omega)).trans ((hC.2 (w.heap.size + 1) (by omega)).trans hB.1)
    have g2 := (hD.2 (w.heap.size + 1 + 1) (by omega)).trans hC.1
    have cat : ∀ {k : Nat} {v : Value} {ty : TypeId}, W0.heap[k]? = some (.cells #[v] ty (0, 0)) → W0.cell? ⟨k, 0, none⟩ = some v := fun {k v ty} h => by
      unfold World.cell?
      rw [h]
      rfl
    exact ⟨cat g0, hD.1⟩
  have HM := Lib.hid (cmade_no (h.below hb0))
  obtain ⟨c0, hr5⟩ := hbox
  have HR5 := Lib.hid hr5
  have HB0 := Lib.hid hb0
  have ZF := froz4 hr5
  have ZC := cell4 hr5
  clear h hb0
  go_enter Try.func47, Try.ntmps47
  go_wp2_with (first
    | (go_at_call 74; rw [← hW0]; refine HM.out.mono ?_; rintro e w1 ⟨rfl, rfl⟩))
  refine bodyPost_ret (results_cell_row rfl _ _ (w.heap.size + 1 + 1 + 1) 93 #[.int .i64 0, .int .i64 0, .int .i64 0, .int .i64 0] (0, 0) _ rfl (by
    rw [← hW0]
    exact HR5.out) Try.underlying93 rfl (by kernel_rfl)) rfl ?_
  rw [← hW0]
  exact ⟨rfl, HB0.out⟩
set_option maxRecDepth 100000 in
set_option maxHeartbeats 600000 in
theorem pos_zero {w : World} {q : Nat} (h : NoCU w (.pointer (some ⟨q, 0, none⟩))) (m : Int) (t : ByteArray) :
    Calls Try.prog 47 #[.pointer (some ⟨q, 0, none⟩), .int .i64 m, .string t] w fun e w' => e = .returned (.agg #[.int .i64 0, .int .i64 0, .int .i64 0, .int .i64 0]) ∧ Below w.heap.size w w' := by
  obtain ⟨W0, hW0⟩ : ∃ W0, W0 = (((w.alloc (.cells #[.pointer (some ⟨q, 0, none⟩)] 66)).alloc (.cells #[.int .i64 m] 3)).alloc (.cells #[.string t] 9)).alloc (.cells #[.int .i64 0, .int .i64 0, .int .i64 0, .int .i64 0] 93) := ⟨_, rfl⟩
  have hb0 : Below w.heap.size w W0 := by
    rw [hW0]
    exact ((((Below.refl _ _).alloc (Nat.le_refl _) _).alloc (by simp) _).alloc (by simp; omega) _).alloc (by simp; omega) _
  have hbox : W0.cell? ⟨w.heap.size, 0, none⟩ = some (.pointer (some ⟨q, 0, none⟩)) ∧ W0.heap[w.heap.size + 1 + 1 + 1]? = some (.cells #[.int .i64 0, .int .i64 0, .int .i64 0, .int .i64 0] 93 (0, 0)) := by
    have e1 : (w.alloc (.cells #[.pointer (some ⟨q, 0, none⟩)] 66)).heap.size = w.heap.size + 1 := by simp
    have e2 : ((w.alloc (.cells #[.pointer (some ⟨q, 0, none⟩)] 66)).alloc (.cells #[.int .i64 m] 3)).heap.size = w.heap.size + 1 + 1 := by simp
    have e3 : (((w.alloc (.cells #[.pointer (some ⟨q, 0, none⟩)] 66)).alloc (.cells #[.int .i64 m] 3)).alloc (.cells #[.string t] 9)).heap.size = w.heap.size + 1 + 1 + 1 := by simp
    have hA := Go.MapKept.heap_alloc w (.cells #[.pointer (some ⟨q, 0, none⟩)] 66)
    have hB := Go.MapKept.heap_alloc (w.alloc (.cells #[.pointer (some ⟨q, 0, none⟩)] 66)) (.cells #[.int .i64 m] 3)
    have hC := Go.MapKept.heap_alloc ((w.alloc (.cells #[.pointer (some ⟨q, 0, none⟩)] 66)).alloc (.cells #[.int .i64 m] 3)) (.cells #[.string t] 9)
    have hD := Go.MapKept.heap_alloc (((w.alloc (.cells #[.pointer (some ⟨q, 0, none⟩)] 66)).alloc (.cells #[.int .i64 m] 3)).alloc (.cells #[.string t] 9)) (.cells #[.int .i64 0, .int .i64 0, .int .i64 0, .int .i64 0] 93)
    rw [e1] at hB
    rw [e2] at hC
    rw [e3] at hD
    rw [← hW0] at hD
    have g0 := (hD.2 w.heap.size (by omega)).trans ((hC.2 w.heap.size (by omega)).trans ((hB.2 w.heap.size (by omega)).trans hA.1))
    have g1 := (hD.2 (w.heap.size + 1) (by omega)).trans ((hC.2 (w.heap.size + 1) (by omega)).trans hB.1)
    have g2 := (hD.2 (w.heap.size + 1 + 1) (by omega)).trans hC.1
    have cat : ∀ {k : Nat} {v : Value} {ty : TypeId}, W0.heap[k]? = some (.cells #[v] ty (0, 0)) → W0.cell? ⟨k, 0, none⟩ = some v := fun {k v ty} h => by
      unfold World.cell?
      rw [h]
      rfl
    exact ⟨cat g0, hD.1⟩
  have HM := Lib.hid (cmade_no (h.below hb0))
  obtain ⟨c0, hr5⟩ := hbox
  have HR5 := Lib.hid hr5
  have HB0 := Lib.hid hb0
  have ZF := froz4 hr5
  have ZC := cell4 hr5
  clear h hb0
  go_enter Try.func47, Try.ntmps47
  go_wp2_with (first
    | (go_at_call 74; rw [← hW0]; refine HM.out.mono ?_; rintro e w1 ⟨rfl, rfl⟩))
  refine bodyPost_ret (results_cell_row rfl _ _ (w.heap.size + 1 + 1 + 1) 93 #[.int .i64 0, .int .i64 0, .int .i64 0, .int .i64 0] (0, 0) _ rfl (by
    rw [← hW0]
    exact HR5.out) Try.underlying93 rfl (by kernel_rfl)) rfl ?_
  rw [← hW0]
  exact ⟨rfl, HB0.out⟩
theorem pos_no {w : World} {p : Value} (h : NoCU w p) (m : Int) (t : ByteArray) :
    Calls Try.prog 47 #[p, .int .i64 m, .string t] w fun e w' => e = .returned (.agg #[.int .i64 0, .int .i64 0, .int .i64 0, .int .i64 0]) ∧ Below w.heap.size w w' := by
  have h' := h
  rcases h with rfl | ⟨q, rfl, _⟩
  · exact pos_nil h' m t
  · exact pos_zero h' m t
end Go.Proofs.Ytoknlpecbdlbfaa.PL

-- Custody: lines plain; CustodyNobody, walked (lists of at most two million).
namespace Go.Proofs.Ytoknlpecbdlbfaa.PL
open Go Go.RowKit Go.Maps Go.Sort Go.Shelf Go.Proofs Go.Proofs.YtoknlpecbdlbfaaW.PrintWords Go.Proofs.YtoknlpecbdlbfaaW.PrintLast
/-- The program's line. -/
def toLn (x : S131) : S125 := ⟨x.f0, x.f1, x.f2, x.f3, x.f4, x.f5⟩
theorem rd_drop131 {L : List S131} {i : Nat} {b : S131} {r : List S131} (h : L.drop i = b :: r) : rd_T131 L (i : Int) = b ∧ i < L.length ∧ L.drop (i + 1) = r := by
  have hlt : i < L.length := by
    have := congrArg List.length h
    simp at this
    omega
  rw [List.drop_eq_getElem_cons hlt] at h
  injection h with h1 h2
  refine ⟨?_, hlt, h2⟩
  unfold rd_T131
  simp [List.getD, hlt, h1]
theorem lines_l0 (L : List S131) (hL : L.length ≤ 2513169434916) : ∀ (k i : Nat) (out : List S125) (R : List S131), L.drop i = R → R.length + 1 ≤ k → i ≤ L.length → out.length + R.length ≤ 2513169434916 → lombardlaw12_lines.l0 k L out (i : Int) = some (out ++ R.map toLn)
  | 0, _, _, _, _, hk, _, _ => by omega
  | k + 1, i, out, [], hR, hk, hi, ho => by
    have : L.length ≤ i := by
      have := congrArg List.length hR
      simp at this
      omega
    unfold lombardlaw12_lines.l0
    rw [if_neg (by omega)]
    simp
  | k + 1, i, out, b :: r, hR, hk, hi, ho => by
    obtain ⟨h1, h2, h3⟩ := rd_drop131 hR
    have hw : wrap64 ((i : Int) + 1) = ((i + 1 : Nat) : Int) := by rw [wrap_id (by omega) (by omega)]; rfl
    unfold lombardlaw12_lines.l0
    rw [if_pos (by omega), if_pos (by omega), h1, hw, if_pos (by simp at ho; omega), lines_l0 L hL k (i + 1) _ r h3 (by simp at hk; omega) (by omega) (by simp at ho ⊢; omega)]
    simp [toLn]
theorem lines_any (A : Option Addr) (c : Nat) (xs : List S131) (w : World) (hr : Kd.C k131 w A xs.length xs) (hc : xs.length ≤ c) (hl : xs.length ≤ 2513169434916) :
    Calls Try.prog 44 #[.slice A xs.length c] w fun e w' => ∃ (A' : Option Addr) (c' : Nat), e = .returned (.slice A' xs.length c') ∧ Hid (Kd.C k125 w' A' xs.length (xs.map toLn) ∧ Below w.heap.size w w') := by
  refine (lombardlaw12_lines.calls (xs.length + 1) A c xs (xs.map toLn) w hr hc (lines_l0 xs hl _ 0 [] xs rfl (by omega) (by omega) (by simpa using hl))).mono ?_
  rintro e w' ⟨v, rfl, h1, h2⟩
  obtain ⟨A', c', rfl, h3, h4⟩ := Kd.R_reads h1
  rw [List.length_map] at h4 ⊢
  exact ⟨A', c', rfl, h4, h2⟩
theorem shift_no {w : World} {p : Value} (h : NoCU w p) (m fr tq : Int) (A : Option Addr) (c : Nat) (T : List S79) (hr : Kd.C k79 w A T.length T) (hT : T.length ≤ 2000000) :
    Calls Try.prog 45 #[p, .int .i64 m, .int .i64 fr, .int .i64 tq, .slice A T.length c] w fun e w' => e = .returned (.tuple #[.int .i64 0, .int .i64 3]) ∧ Below w.heap.size w w' :=
  shift_walk p m fr tq 0 3 A c T hr hT (fun w' => Below w.heap.size w w') (fun W A5 c5 hb _ => (cmove_no (h.below hb) _).mono (fun _ _ ⟨e, hw⟩ => ⟨e, by rw [← hw]; exact hb⟩))
theorem all0 (W : World) : Calls Try.prog 48 #[.agg #[.int .i64 0, .int .i64 0, .int .i64 0, .int .i64 0]] W fun e w' => e = .returned (.int .i64 0) ∧ Below W.heap.size W w' :=
  custody_Position_All.calls 0 0 0 0 0 W (by kernel_rfl)
theorem call_none {w : World} {p : Value} (h : NoCU w p) : Calls Try.prog 53 #[p] w fun o w' => ∃ (A : Option Addr) (c : Nat), o = .returned (.slice A 0 c) ∧ Below w.heap.size w w' :=
  (call_no h).slice.mono (fun _ _ ⟨A, c, h1, h2⟩ => ⟨A, c, h1, h2.2.1⟩)
/-- An act's own cells, at the block k. -/
structure A8 (W : World) (k : Nat) (cs : Array Value) : Prop where
  blk : W.heap[k]? = some (.cells cs 72 (0, 0))
theorem A8.below {W W' : World} {k : Nat} {cs : Array Value} (h : A8 W k cs) (hb : Below W.heap.size W W') : A8 W' k cs := ⟨(hb.block k (Array.getElem?_eq_some_iff.1 h.blk).1).trans h.blk⟩
/-- What the walk of CustodyNobody has laid. -/
structure NV (w : World) (cs : Array Value) (p : Value) (W : World) : Prop where
  a8 : A8 W w.heap.size cs
  c0 : W.cell? ⟨w.heap.size + 1, 0, none⟩ = some (.pointer none)
  c1 : W.cell? ⟨w.heap.size + 1 + 1, 0, none⟩ = some (.pointer none)
  c2 : W.cell? ⟨w.heap.size + 1 + 1, 1, none⟩ = some (.pointer (some ⟨w.heap.size + 1, 0, none⟩))
  no : NoCU W p
  bl : Below w.heap.size w W
theorem NV.below {w : World} {cs : Array Value} {p : Value} {W W' : World} (h : NV w cs p W) (hb : Below W.heap.size W W') : NV w cs p W' :=
  ⟨h.a8.below hb, cell_keep hb h.c0, cell_keep hb h.c1, cell_keep hb h.c2, h.no.below hb, h.bl.trans (hb.mono h.bl.size)⟩
theorem NV.at {w : World} {cs : Array Value} {W : World} (h : NV w cs (.pointer none) W) {k : Nat} (hk : k < 2) : ∃ p, W.cell? ⟨w.heap.size + 1 + 1, k, none⟩ = some p ∧ NV w cs p W := by
  have h2 : k = 0 ∨ k = 1 := by omega
  rcases h2 with rfl | rfl
  · exact ⟨_, h.c1, h⟩
  · exact ⟨_, h.c2, h.a8, h.c0, h.c1, h.c2, .inr ⟨_, rfl, h.c0⟩, h.bl⟩
theorem NV.new {w : World} {cs : Array Value} : NV w cs (.pointer none) (((w.alloc (.cells cs 72)).alloc (.cells #[.pointer none] 102)).alloc (.cells #[.pointer none, .pointer (some ⟨w.heap.size + 1, 0, none⟩)] 66)) := by
  have e1 : (w.alloc (.cells cs 72)).heap.size = w.heap.size + 1 := by simp
  have e2 : ((w.alloc (.cells cs 72)).alloc (.cells #[.pointer none] 102)).heap.size = w.heap.size + 1 + 1 := by simp
  have hA := (Go.MapKept.heap_alloc w (.cells cs 72)).1
  have hB := (Go.MapKept.heap_alloc (w.alloc (.cells cs 72)) (.cells #[.pointer none] 102))
  have hC := (Go.MapKept.heap_alloc ((w.alloc (.cells cs 72)).alloc (.cells #[.pointer none] 102)) (.cells #[.pointer none, .pointer (some ⟨w.heap.size + 1, 0, none⟩)] 66))
  have hb : Below w.heap.size w (((w.alloc (.cells cs 72)).alloc (.cells #[.pointer none] 102)).alloc (.cells #[.pointer none, .pointer (some ⟨w.heap.size + 1, 0, none⟩)] 66)) := (((Below.refl _ _).alloc (Nat.le_refl _) _).alloc (by simp) _).alloc (by simp; omega) _
  rw [e1] at hB
  rw [e2] at hC
  have h1 := (hC.2 w.heap.size (by omega)).trans ((hB.2 w.heap.size (by omega)).trans hA)
  have h2 := (hC.2 (w.heap.size + 1) (by omega)).trans hB.1
  have h3 := hC.1
  clear hA hB hC e1 e2
  generalize (((w.alloc (.cells cs 72)).alloc (.cells #[.pointer none] 102)).alloc (.cells #[.pointer none, .pointer (some ⟨w.heap.size + 1, 0, none⟩)] 66)) = W at h1 h2 h3 hb ⊢
  refine ⟨⟨h1⟩, ?_, ?_, ?_, .inl rfl, hb⟩
  · unfold World.cell?; rw [h2]; rfl
  · unfold World.cell?; rw [h3]; rfl
  · unfold World.cell?; rw [h3]; rfl
end Go.Proofs.Ytoknlpecbdlbfaa.PL

-- CustodyNobody, walked (lists of at most two million).
namespace Go.Proofs.Ytoknlpecbdlbfaa.PL
open Go Go.RowKit Go.Maps Go.Sort Go.Shelf Go.Proofs Go.Proofs.YtoknlpecbdlbfaaW.PrintWords Go.Proofs.YtoknlpecbdlbfaaW.PrintLast
theorem A8.cells {W : World} {k : Nat} {v0 v1 v2 v3 v4 v5 v6 v7 : Value} (h : A8 W k #[v0, v1, v2, v3, v4, v5, v6, v7]) : W.cell? ⟨k, 1, none⟩ = some v1 ∧ W.cell? ⟨k, 2, none⟩ = some v2 ∧ W.cell? ⟨k, 3, none⟩ = some v3 ∧ W.cell? ⟨k, 4, none⟩ = some v4 ∧ W.cell? ⟨k, 5, none⟩ = some v5 ∧ W.cell? ⟨k, 6, none⟩ = some v6 ∧ W.cell? ⟨k, 7, none⟩ = some v7 := by
  have hb := h.blk
  refine ⟨?_, ?_, ?_, ?_, ?_, ?_, ?_⟩ <;> (unfold World.cell?; rw [hb]; rfl)
set_option maxRecDepth 100000 in
set_option maxHeartbeats 1000000 in
theorem cnobody_walk (a0 a1 a2 a3 a5 : Int) (a4 : ByteArray) (A : Option Addr) (c : Nat) (xs : List S131) (B : Option Addr) (d : Nat) (T : List S79) (w : World) (hx : Kd.C k131 w A xs.length xs) (hxc : xs.length ≤ c) (hxl : xs.length ≤ 2000000) (hT : Kd.C k79 w B T.length T) (hTl : T.length ≤ 2000000) :
    Calls Try.prog 13 #[.agg #[.int .i64 a0, .int .i64 a1, .int .i64 a2, .int .i64 a3, .string a4, .int .i64 a5, .slice A xs.length c, .slice B T.length d]] w fun e w' => e = .returned (.bool true) ∧ Below w.heap.size w w' := by
  have HP := Lib.hid (And.intro hx (And.intro hxc (And.intro hxl (And.intro hT hTl))))
  clear hx hxc hxl hT hTl
  go_enter Try.func13, Try.ntmps13
  go_wp2
  go_loopg [4, 5, 6, 7, 8, 13] 3 (fun kq v4 v5 v6 v7 v8 v13 w' => ∃ k : Nat, v13 = .int .i64 k ∧ Hid (kq + k = 3 ∧ k ≤ 2 ∧ NV w #[.int .i64 a0, .int .i64 a1, .int .i64 a2, .int .i64 a3, .string a4, .int .i64 a5, .slice A xs.length c, .slice B T.length d] (.pointer none) w'))
  case atStart => exact ⟨0, rfl, ⟨rfl, by omega, NV.new⟩⟩
  case round =>
    obtain ⟨k, rfl, HI⟩ := hrel
    by_cases hk : k < 2
    · obtain ⟨p, x0, hS⟩ := HI.out.2.2.at hk
      have S1 := Lib.hid hS
      obtain ⟨y1, y2, y3, y4, y5, y6, y7⟩ := hS.a8.cells
      clear hS
      have p1 : (0 ≤ (k : Int)) = True := eq_true (by omega)
      have q1 : ((k : Int) < 2) = True := eq_true (by omega)
      have hl64 : wrap64 ((k : Int) + 1) = ((k + 1 : Nat) : Int) := by
        rw [wrap_id (by omega) (by omega)]; rfl
      have HK := Lib.hid hk
      have Hw := Lib.hid hl64
      clear hk hl64
      go_wp2_with (first
        | (go_at_call 54; refine (cclone_no S6.out.no).mono ?_; rintro e w10 ⟨rfl, rfl⟩)
        | (go_at_call 53; refine (call_none S5.out.no).mono ?_; rintro e w6 ⟨A6, c6, rfl, H6⟩; have S6 := Lib.hid (S5.out.below H6); clear H6)
        | (go_at_call 51; refine (clots_no S5.out.no _ _).mono ?_; rintro e w9 ⟨rfl, rfl⟩)
        | (go_at_call 49; refine (cout_no S5.out.no _).mono ?_; rintro e w8 ⟨rfl, rfl⟩)
        | (go_at_call 46; refine (cthings_no S5.out.no).mono ?_; rintro e w7 ⟨rfl, rfl⟩)
        | (go_at_call 48; refine (all0 _).mono ?_; rintro e w5 ⟨rfl, H5⟩; have S5 := Lib.hid (S4.out.below H5); clear H5 y1 y2 y3 y4 y5 y6 y7; obtain ⟨y1, y2, y3, y4, y5, y6, y7⟩ := S5.out.a8.cells)
        | (go_at_call 47; refine (pos_no S3.out.no _ _).mono ?_; rintro e w4 ⟨rfl, H4⟩; have S4 := Lib.hid (S3.out.below H4); clear H4 y1 y2 y3 y4 y5 y6 y7; obtain ⟨y1, y2, y3, y4, y5, y6, y7⟩ := S4.out.a8.cells)
        | (go_at_call 42; refine (bring_no S3.out.no _ _ _).mono ?_; rintro e w11 ⟨rfl, rfl⟩)
        | (go_at_call 45; refine (shift_no S2.out.no _ _ _ B d T (Kd.C_below HP.out.2.2.2.1 S2.out.bl) HP.out.2.2.2.2).mono ?_; rintro e w3 ⟨rfl, H3⟩; have S3 := Lib.hid (S2.out.below H3); clear H3 y1 y2 y3 y4 y5 y6 y7; obtain ⟨y1, y2, y3, y4, y5, y6, y7⟩ := S3.out.a8.cells)
        | (go_at_call 43; refine (cmove_no S2.out.no _).mono ?_; rintro e w12 ⟨rfl, rfl⟩)
        | (go_at_call 44; refine (lines_any A c xs _ (Kd.C_below HP.out.1 S1.out.bl) HP.out.2.1 (by have := HP.out.2.2.1; omega)).mono ?_; rintro e w2 ⟨A2, c2, rfl, H2⟩; have S2 := Lib.hid (S1.out.below H2.out.2); clear H2 y1 y2 y3 y4 y5 y6 y7; obtain ⟨y1, y2, y3, y4, y5, y6, y7⟩ := S2.out.a8.cells))
      go_roundg (2 - k)
      case measure => have := HI.out.1; have := HK.out; omega
      case rel =>
        have h9 := S6.out
        refine ⟨k + 1, by rw [Hw.out], ⟨by have := HI.out.1; have := HK.out; omega, HK.out, h9.a8, h9.c0, h9.c1, h9.c2, .inl rfl, h9.bl⟩⟩
    · have hk' : ((k : Int) < 2) = False := eq_false (by omega)
      clear hk
      go_wp2_with (go_at_call 38; refine (cawake_walk _).mono ?_; rintro e w2 ⟨rfl, H2⟩; replace H2 := Lib.hid H2)
      go_ret
      exact ⟨rfl, HI.out.2.2.bl.trans (H2.out.mono HI.out.2.2.bl.size)⟩
end Go.Proofs.Ytoknlpecbdlbfaa.PL

-- An act that comes in, and how long its lists are.
namespace Go.Proofs.Ytoknlpecbdlbfaa.PL
open Go Go.RowKit Go.ChangeShapes Go.WideShapes Go.Deep Go.Proofs Go.Proofs.YtoknlpecbdlbfaaW.PrintWords Go.Proofs.YtoknlpecbdlbfaaW.PrintLast
theorem one_le {H : Type} (d : DataW H) : 1 ≤ Rows.uptoBulk d := by
  cases d with
  | lit l => cases l <;> simp [Rows.uptoBulk]
  | nil => simp [Rows.uptoBulk]
  | ptr d => simp [Rows.uptoBulk]
  | slice elems spare => simp [Rows.uptoBulk]
  | agg parts => simp [Rows.uptoBulk]
  | iface t d => simp [Rows.uptoBulk]
  | map entries => simp [Rows.uptoBulk]
  | held h => simp [Rows.uptoBulk]
theorem part_le {H : Type} {d : DataW H} {l : List (DataW H)} (h : d ∈ l) : Rows.uptoBulk d ≤ Rows.uptoBulkAll l := by
  induction l with
  | nil => cases h
  | cons x r ih =>
    simp only [Rows.uptoBulkAll]
    cases List.mem_cons.1 h with
    | inl e => subst e; omega
    | inr e => have := ih e; omega
theorem length_le {H : Type} (l : List (DataW H)) : l.length ≤ Rows.uptoBulkAll l := by
  induction l with
  | nil => simp [Rows.uptoBulkAll]
  | cons x r ih => have := one_le x; simp only [Rows.uptoBulkAll, List.length_cons]; omega
theorem slice_le {H : Type} (elems spare : List (DataW H)) : elems.length ≤ Rows.uptoBulk (.slice elems spare) := by
  have h1 := length_le elems
  simp only [Rows.uptoBulk]
  omega
/-- Whatever cells are read at the type t are those of some x of the kind d, no longer than the datum's bulk. -/
def OpensB {α : Type} (d : Kd α) (t : TypeId) (β : α → Nat) : Prop :=
  ∀ {H : Type} (enc : TypeId × Value → H) (w : World) (base : Nat) (spare : Nat → Bool) (held : Bool) (n : Nat) (cs : List Value) (y : DataW H × List MemPlace), DataW.trod enc Try.prog w base spare held n t cs = some y → ∃ x : α, d.K w x cs ∧ β x ≤ Rows.uptoBulk y.1
theorem opensB_slice {α : Type} {d : Kd α} {t e : TypeId} (ht : Try.prog.underlying t = some (.slice e)) (hc : Try.prog.cellsOf e = d.sz) (h : OpensB d e (fun _ => 0)) : OpensB (Kd.slice e d) t List.length := by
  intro H enc w base spare held n cs y hy
  rcases open_slice ht hy with ⟨rfl, _⟩ | ⟨a, len, cap, m, n', D, Pl, rfl, hb, hl, hm, hmm, rfl, hi⟩
  · exact ⟨[], ⟨none, 0, rfl, Nat.le_refl _, rfl, by simp, fun h => absurd h (by simp)⟩, by simp⟩
  · have hlm : len ≤ m := by rw [hmm]; split <;> omega
    have hx : ∀ i : Fin len, ∃ x cs', w.cells? base (a.add (i.1 * Try.prog.cellsOf e)) (Try.prog.cellsOf e) = some cs' ∧ d.K w x cs' := by
      intro i
      obtain ⟨cs', h1, h2⟩ := hi i.1 (by have := i.2; omega)
      obtain ⟨x, h3, _⟩ := h enc w base spare held _ _ _ h2
      exact ⟨x, cs', h1, h3⟩
    obtain ⟨f, hf⟩ := Classical.axiomOfChoice hx
    refine ⟨List.ofFn f, ⟨some a, cap, by simp, by simpa using hl, by simp, by simp; unfold maxLen at hm; omega, fun _ => ⟨a, rfl, fun j p hj => ?_⟩⟩, ?_⟩
    · have hjl : j < len := by
        have := (List.getElem?_eq_some_iff.1 hj).1
        simpa using this
      obtain ⟨cs', h1, h2⟩ := hf ⟨j, hjl⟩
      have hp : p = f ⟨j, hjl⟩ := by
        have := (List.getElem?_eq_some_iff.1 hj).2
        simpa using this.symm
      subst hp
      obtain ⟨_, hcl, hat⟩ := World.cells?_some h1
      refine ⟨cs', by rw [hcl, hc], h2, fun i u hu => ?_⟩
      have hil : i < cs'.length := (List.getElem?_eq_some_iff.1 hu).1
      have h3 := hat i (by omega)
      rw [hu] at h3
      rw [← hc, ← Go.Deep.add_add]
      exact h3
    · have h9 := slice_le ((List.range len).map D) ((List.range (m - len)).map fun j => D (len + j))
      rw [List.length_map, List.length_range] at h9
      rw [List.length_ofFn]
      exact h9
theorem cells79' : Try.prog.cellsOf 79 = 2 := by kernel_rfl
theorem cells131' : Try.prog.cellsOf 131 = 6 := by kernel_rfl
theorem cells72' : Try.prog.cellsOf 72 = 8 := by kernel_rfl
theorem cells69' : Try.prog.cellsOf 69 = 1 := by kernel_rfl
theorem cells70' : Try.prog.cellsOf 70 = 1 := by kernel_rfl
theorem at_part {H : Type} {xs : List (DataW H × List MemPlace)} {k j : Nat} (h : xs.length = k) (hj : j < k) : ∃ y0, xs[j]? = some y0 := ⟨xs[j]'(by omega), List.getElem?_eq_getElem _⟩
theorem opens79 : OpensB k79 79 (fun _ => 0) := by
  intro H enc w base spare held n cs y hy
  obtain ⟨xs, n', _, rfl, hlen, hxl, hf⟩ := DataW.trod_struct Try.underlying79 hy
  obtain ⟨y0, e0⟩ := at_part (j := 0) hxl (by simp)
  obtain ⟨y1, e1⟩ := at_part (j := 1) hxl (by simp)
  obtain ⟨a0, h0, _⟩ := DataW.trod_string Try.underlying9 ((hf 0 _ rfl).trans e0)
  obtain ⟨a1, h1, _⟩ := DataW.trod_int Try.underlying3 ((hf 1 _ rfl).trans e1)
  rw [cells79'] at hlen
  replace h0 : (cs.drop 0).take (Try.prog.cellsOf 9) = _ := h0
  replace h1 : (cs.drop 1).take (Try.prog.cellsOf 3) = _ := h1
  rw [cells9'] at h0
  rw [cells3'] at h1
  refine ⟨⟨a0, a1⟩, ?_, Nat.zero_le _⟩
  have : cs = [.string a0, .int .i64 a1] := by
    clear hf hy hxl e0 e1
    match cs, hlen with
    | [c0, c1], _ =>
      simp at h0 h1
      simp [h0, h1]
  rw [this]
  exact k79_mk w ⟨a0, a1⟩
theorem opens131 : OpensB k131 131 (fun _ => 0) := by
  intro H enc w base spare held n cs y hy
  obtain ⟨xs, n', _, rfl, hlen, hxl, hf⟩ := DataW.trod_struct Try.underlying131 hy
  obtain ⟨y0, e0⟩ := at_part (j := 0) hxl (by simp)
  obtain ⟨y1, e1⟩ := at_part (j := 1) hxl (by simp)
  obtain ⟨y2, e2⟩ := at_part (j := 2) hxl (by simp)
  obtain ⟨y3, e3⟩ := at_part (j := 3) hxl (by simp)
  obtain ⟨y4, e4⟩ := at_part (j := 4) hxl (by simp)
  obtain ⟨y5, e5⟩ := at_part (j := 5) hxl (by simp)
  obtain ⟨a0, h0, _⟩ := DataW.trod_int Try.underlying3 ((hf 0 _ rfl).trans e0)
  obtain ⟨a1, h1, _⟩ := DataW.trod_int Try.underlying3 ((hf 1 _ rfl).trans e1)
  obtain ⟨a2, h2, _⟩ := DataW.trod_int Try.underlying3 ((hf 2 _ rfl).trans e2)
  obtain ⟨a3, h3, _⟩ := DataW.trod_int Try.underlying3 ((hf 3 _ rfl).trans e3)
  obtain ⟨a4, h4, _⟩ := DataW.trod_string Try.underlying9 ((hf 4 _ rfl).trans e4)
  obtain ⟨a5, h5, _⟩ := DataW.trod_int Try.underlying3 ((hf 5 _ rfl).trans e5)
  rw [cells131'] at hlen
  replace h0 : (cs.drop 0).take (Try.prog.cellsOf 3) = _ := h0
  replace h1 : (cs.drop 1).take (Try.prog.cellsOf 3) = _ := h1
  replace h2 : (cs.drop 2).take (Try.prog.cellsOf 3) = _ := h2
  replace h3 : (cs.drop 3).take (Try.prog.cellsOf 3) = _ := h3
  replace h4 : (cs.drop 4).take (Try.prog.cellsOf 9) = _ := h4
  replace h5 : (cs.drop 5).take (Try.prog.cellsOf 3) = _ := h5
  rw [cells3'] at h0 h1 h2 h3 h5
  rw [cells9'] at h4
  refine ⟨⟨a0, a1, a2, a3, a4, a5⟩, ?_, Nat.zero_le _⟩
  have : cs = [.int .i64 a0, .int .i64 a1, .int .i64 a2, .int .i64 a3, .string a4, .int .i64 a5] := by
    clear hf hy hxl e0 e1 e2 e3 e4 e5
    match cs, hlen with
    | [c0, c1, c2, c3, c4, c5], _ =>
      simp at h0 h1 h2 h3 h4 h5
      simp [h0, h1, h2, h3, h4, h5]
  rw [this]
  exact k131_mk w ⟨a0, a1, a2, a3, a4, a5⟩
theorem opens69 : OpensB (Kd.slice 131 k131) 69 List.length := opensB_slice Try.underlying69 cells131' opens131
theorem opens70 : OpensB (Kd.slice 79 k79) 70 List.length := opensB_slice Try.underlying70 cells79' opens79
set_option maxRecDepth 100000 in
theorem opened72 {r : Reach} {b0 : Nat} {H : Type} {enc : TypeId × Value → H} {w : World} {base : Nat} {spare : Nat → Bool} {held : Bool} {v : Value} {y : DataW H} {p : List MemPlace}
    (hv : Value.okWide Try.prog w r b0 72 v) (hy : DataW.Trod enc Try.prog w base spare held 72 v y p) (hb : Rows.uptoBulk y ≤ 1048576) :
    ∃ (a0 a1 a2 a3 a5 : Int) (a4 : ByteArray) (A : Option Addr) (c : Nat) (xs : List S131) (B : Option Addr) (d : Nat) (T : List S79), v = .agg #[.int .i64 a0, .int .i64 a1, .int .i64 a2, .int .i64 a3, .string a4, .int .i64 a5, .slice A xs.length c, .slice B T.length d] ∧
      Kd.C k131 w A xs.length xs ∧ xs.length ≤ c ∧ xs.length ≤ 2000000 ∧ Kd.C k79 w B T.length T ∧ T.length ≤ 2000000 := by
  obtain ⟨vs, rfl, hsz⟩ := okWide_struct Try.underlying72 hv
  obtain ⟨fuel, hf0⟩ := hy
  obtain ⟨cs, hcs⟩ : ∃ cs, Value.cells (.agg vs) = cs := ⟨_, rfl⟩
  have hcl : vs.toList = cs.toList := by rw [← hcs]; simp [Value.cells]
  rw [hcs] at hf0
  obtain ⟨xs, n', _, hyy, hlen, hxl, hf⟩ := DataW.trod_struct Try.underlying72 hf0
  simp only [Prod.mk.injEq] at hyy
  have hyb : Rows.uptoBulkAll (xs.map (·.1)) ≤ 1048576 := by
    rw [hyy.1] at hb
    simp only [Rows.uptoBulk] at hb
    omega
  obtain ⟨y0, e0⟩ := at_part (j := 0) hxl (by simp)
  obtain ⟨y1, e1⟩ := at_part (j := 1) hxl (by simp)
  obtain ⟨y2, e2⟩ := at_part (j := 2) hxl (by simp)
  obtain ⟨y3, e3⟩ := at_part (j := 3) hxl (by simp)
  obtain ⟨y4, e4⟩ := at_part (j := 4) hxl (by simp)
  obtain ⟨y5, e5⟩ := at_part (j := 5) hxl (by simp)
  obtain ⟨y6, e6⟩ := at_part (j := 6) hxl (by simp)
  obtain ⟨y7, e7⟩ := at_part (j := 7) hxl (by simp)
  obtain ⟨a0, h0, _⟩ := DataW.trod_int Try.underlying3 ((hf 0 _ rfl).trans e0)
  obtain ⟨a1, h1, _⟩ := DataW.trod_int Try.underlying3 ((hf 1 _ rfl).trans e1)
  obtain ⟨a2, h2, _⟩ := DataW.trod_int Try.underlying3 ((hf 2 _ rfl).trans e2)
  obtain ⟨a3, h3, _⟩ := DataW.trod_int Try.underlying3 ((hf 3 _ rfl).trans e3)
  obtain ⟨a4, h4, _⟩ := DataW.trod_string Try.underlying9 ((hf 4 _ rfl).trans e4)
  obtain ⟨a5, h5, _⟩ := DataW.trod_int Try.underlying3 ((hf 5 _ rfl).trans e5)
  obtain ⟨X, ⟨A, c, h6, l6, C6⟩, b6⟩ := opens69 _ _ _ _ _ _ _ _ ((hf 6 _ rfl).trans e6)
  obtain ⟨T, ⟨B, d, h7, l7, C7⟩, b7⟩ := opens70 _ _ _ _ _ _ _ _ ((hf 7 _ rfl).trans e7)
  have m6 : Rows.uptoBulk y6.1 ≤ 1048576 := Nat.le_trans (part_le (List.mem_map.2 ⟨y6, List.mem_of_getElem? e6, rfl⟩)) hyb
  have m7 : Rows.uptoBulk y7.1 ≤ 1048576 := Nat.le_trans (part_le (List.mem_map.2 ⟨y7, List.mem_of_getElem? e7, rfl⟩)) hyb
  rw [cells72', ← hcl] at hlen
  obtain ⟨l⟩ := vs
  replace h0 : (cs.toList.drop 0).take (Try.prog.cellsOf 3) = _ := h0
  replace h1 : (cs.toList.drop 1).take (Try.prog.cellsOf 3) = _ := h1
  replace h2 : (cs.toList.drop 2).take (Try.prog.cellsOf 3) = _ := h2
  replace h3 : (cs.toList.drop 3).take (Try.prog.cellsOf 3) = _ := h3
  replace h4 : (cs.toList.drop 4).take (Try.prog.cellsOf 9) = _ := h4
  replace h5 : (cs.toList.drop 5).take (Try.prog.cellsOf 3) = _ := h5
  replace h6 : (cs.toList.drop 6).take (Try.prog.cellsOf 69) = _ := h6
  replace h7 : (cs.toList.drop 7).take (Try.prog.cellsOf 70) = _ := h7
  rw [cells3', ← hcl] at h0 h1 h2 h3 h5
  rw [cells9', ← hcl] at h4
  rw [cells69', ← hcl] at h6
  rw [cells70', ← hcl] at h7
  refine ⟨a0, a1, a2, a3, a5, a4, A, c, X, B, d, T, ?_, C6, l6, by omega, C7, by omega⟩
  have : l = [.int .i64 a0, .int .i64 a1, .int .i64 a2, .int .i64 a3, .string a4, .int .i64 a5, .slice A X.length c, .slice B T.length d] := by
    clear hf hf0 hxl e0 e1 e2 e3 e4 e5 e6 e7 C6 C7 b6 b7 m6 m7 hcl hcs hyb hyy hb hsz l6 l7 hv
    match l, hlen with
    | [v0, v1, v2, v3, v4, v5, v6, v7], _ =>
      simp at h0 h1 h2 h3 h4 h5 h6 h7
      simp [h0, h1, h2, h3, h4, h5, h6, h7]
  rw [this]
end Go.Proofs.Ytoknlpecbdlbfaa.PL

/- CustodyNobody's row, the second form. -/
namespace Go.Proofs.Ytoknlpecbdlbfaa.custodyNobody
open Go Go.RowKit Go.ChangeShapes Go.WideShapes Go.ChangeAt Go.Proofs
open Go.ChangeMaps (open_string shut_string)
set_option linter.unusedVariables false
theorem own : ownKnob Try.prog.godebug = none := by kernel_rfl
set_option maxRecDepth 100000 in
theorem contract (H : Type) (enc : TypeId × Value → H) (W : World) (base : Nat) (args : Array Value) (ds gs : List (DataW H)) (before : List MemPlace)
    (hval : ∀ (j : Nat) t v, Try.f13.params[j]? = some t → args[j]? = some v → Value.okWide Try.prog W .any base t v)
    (hW : DataW.Whole enc Try.prog Try.f13.params.toList Rows.custodyNobodySpec.vars false W args.toList ds gs before) (hk : Rows.uptoSmall H (ds ++ gs) = true) :
    Calls Try.prog 13 args W fun e W' => ∃ v, e = .returned v ∧ Rows.custodyNobodySpec.post enc Try.prog Try.f13 false true false false W args v W' := by
  have hW' := hW
  obtain ⟨p, q, hA0, hV, rfl, hfz, hnd⟩ := hW
  have hA : DataW.TrodAll enc Try.prog W 0 (fun _ => true) true Try.f13.params.toList args.toList ds p := hA0
  rw [Try.params13] at hA hval
  obtain ⟨v0, vs0, d0, ds0, p0, q0, hargs, rfl, rfl, h0, r0⟩ := trodAll_cons hA
  obtain ⟨rfl, rfl, rfl⟩ := trodAll_nil r0
  obtain rfl : args = #[v0] := by cases args; simp_all
  obtain ⟨rfl, rfl⟩ := trodVars_none hV
  have k0 := h0
  have lt0 : ∀ x ∈ p0, x.block < W.heap.size := by obtain ⟨m, hm⟩ := k0; exact DataW.trod_lt m _ _ _ hm
  have hb : Rows.uptoBulk d0 ≤ 1048576 := by
    have h9 : Rows.uptoBulkAll ([d0] ++ []) ≤ 1048576 := of_decide_eq_true hk
    simp only [List.append_nil, Rows.uptoBulkAll] at h9
    omega
  obtain ⟨a0, a1, a2, a3, a5, a4, A, c, xs, B, d, T, rfl, c1, c2, c3, c4, c5⟩ := PL.opened72 (hval 0 72 v0 rfl rfl) h0 hb
  clear hA0
  refine (PL.cnobody_walk a0 a1 a2 a3 a5 a4 A c xs B d T W c1 c2 c3 c4 c5).mono fun e W' ⟨he, bel⟩ => ?_
  subst he
  exact ⟨_, rfl, _, _, _, [], _, [], hW', trodAll_mk1 (shut_bool Try.underlying4 _), (trodAll_cons_mk (Below.trod PL.laidOut (by kernel_rfl) (of_decide_eq_true (by kernel_rfl)) k0 bel lt0) trodAll_mk0), rfl, bel.frame _, fun h => by cases h⟩
set_option maxRecDepth 100000 in
theorem lifted (os : Os) (started : os.Started) (H : Type) (enc : TypeId × Value → H) (F : Stop.Interp) :
    ReturnsInHanded {} Try.checked os 13 .any ((Rows.OpenSpec.upto Rows.custodyNobodySpec).pre6 enc Try.prog Try.f13 Rows.custodyNobodyUptoRow.domain false) (((Rows.OpenSpec.upto Rows.custodyNobodySpec).at F).post enc Try.prog Try.f13 false true false false) := by
  refine returnsInHanded_of_cond (C := Try.checked) (s := Rows.OpenSpec.upto Rows.custodyNobodySpec) (k := Rows.uptoSmall) rfl own started (by kernel_rfl) Try.func13
    (OpenSpec.witness (enc := enc) (C := Try.checked) (s := Rows.OpenSpec.upto Rows.custodyNobodySpec) (k := Rows.uptoSmall) rfl false ⟨#[], #[.agg #[.int .i64 0, .int .i64 0, .int .i64 0, .int .i64 0, .string ByteArray.empty, .int .i64 0, .slice none 0 0, .slice none 0 0]], []⟩ 8 (by kernel_rfl) (by kernel_rfl) (by kernel_rfl)
      (x := ([.agg [.lit (.int .i64 0), .lit (.int .i64 0), .lit (.int .i64 0), .lit (.int .i64 0), .lit (.string []), .lit (.int .i64 0), .nil, .nil]], [], [])) (by kernel_rfl) rfl (by kernel_rfl)) ?_
  intro W base args ds gs before hval hW _ hk _
  exact contract H enc W base args ds gs before hval hW hk
theorem over : Rows.custodyNobodyUptoRow.holds Try.pinned (Rows.OpenSpec.upto Rows.custodyNobodySpec) :=
  OpenClaim.holds_of_cond 13 Try.f13 rfl rfl rfl rfl rfl rfl rfl ⟨rfl, rfl, rfl, rfl, rfl⟩ rfl rfl rfl rfl rfl (by kernel_rfl) Try.func13 (by kernel_rfl)
    (of_decide_eq_true (by kernel_rfl)) (by unfold Func.isWrapper; first | (rw [if_pos (by decide +kernel)]; kernel_rfl) | (rw [if_neg (by decide +kernel)]; exact ⟨rfl, rfl⟩))
    (fun os started H enc _ F => lifted os started H enc F)
theorem proved : Rows.CustodyNobodyUptoSaid := over
end Go.Proofs.Ytoknlpecbdlbfaa.custodyNobody
namespace Go.Proofs.Ytoknlpecbdlbfaa
/-- The row, under a short name, for the claim. -/
theorem custodyNobody_holds : Rows.CustodyNobodyUptoSaid := custodyNobody.proved
end Go.Proofs.Ytoknlpecbdlbfaa
