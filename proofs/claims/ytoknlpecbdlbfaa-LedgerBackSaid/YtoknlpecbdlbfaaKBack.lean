/- LedgerBack holds: whatever two lists of entries come in (more than sixty entries in one of them are let go, as the statement says), what can't be done changes nothing, and what is done is taken back by the same entries turned about, from the last to the first; a clone knows nothing of either; and the chapter's example holds. No condition on the inputs. -/
import Derived.Test.YtoknlpecbdlbfaaG5
import Derived.Test.YtoknlpecbdlbfaaRows
import Derived.WalkKit
import Derived.ProofKit
import Derived.OpenShut
import Derived.ShutString
import Derived.ChangeOld
import Derived.Below
import Derived.SizedLaws

-- Entries turned about take back what they did: the plain law.
namespace Go.Proofs.Ytoknlpecbdlbfaa.PL
open Go Go.RowKit Go.Maps Go.Sort Go.Shelf Go.Proofs Go.Proofs.YtoknlpecbdlbfaaW.PrintWords Go.Proofs.YtoknlpecbdlbfaaW.PrintLast
/-- None but the world has less than nothing. -/
def NN (M : List (S42 × Int)) : Prop := ∀ a, a.f0 ≠ 0 → 0 ≤ getM M a
/-- Two maps that have the same. -/
def Eqv (M M' : List (S42 × Int)) : Prop := ∀ a, getM M a = getM M' a
theorem Eqv.put {M M' : List (S42 × Int)} (h : Eqv M M') (a : S42) (n : Int) : Eqv (putM M a n) (putM M' a n) := by
  intro c
  rw [getM_putM, getM_putM, h c]
theorem NN.nil : NN [] := fun a _ => by simp [getM]
theorem NN.of {M M' : List (S42 × Int)} (h : NN M) (he : Eqv M' M) : NN M' := fun a ha => by rw [he a]; exact h a ha
theorem NN.put {M : List (S42 × Int)} (h : NN M) (a : S42) {n : Int} (hn : a.f0 ≠ 0 → 0 ≤ n) : NN (putM M a n) := by
  intro c hc
  rw [getM_putM]
  split
  · rename_i e
    subst e
    exact hn hc
  · exact h c hc
theorem Eqv.back (M : List (S42 × Int)) (a : S42) (m : Int) : Eqv (putM (putM M a (getM M a - m)) a (getM M a - m + m)) M := by
  intro c
  rw [getM_putM, getM_putM]
  split
  · rename_i e
    subst e
    omega
  · rfl
theorem NN.move {M : List (S42 × Int)} (h : NN M) (e : S107) : NN (moveM M e).1 := by
  unfold moveM
  split
  · exact h
  · rename_i hck
    have hck' := check_good (Classical.not_not.1 hck)
    split
    · exact h
    · rename_i hf
      split
      · exact h
      · split
        · exact h.of (Eqv.back M e.f0 e.f2)
        · have h1 : NN (putM M e.f0 (getM M e.f0 - e.f2)) := h.put _ (fun hz => by
            refine Classical.byContradiction fun hc => hf ⟨hz, ?_⟩
            omega)
          exact h1.put _ (fun hz => by have := h1 e.f1 hz; have := hck'.1; omega)
theorem moveM_congr {M M' : List (S42 × Int)} (h : Eqv M M') (e : S107) : (moveM M e).2 = (moveM M' e).2 ∧ Eqv (moveM M e).1 (moveM M' e).1 := by
  have h1 := h e.f0
  have h2 := (h.put e.f0 (getM M e.f0 - e.f2)) e.f1
  unfold moveM
  rw [← h1, ← h2]
  split
  · exact ⟨rfl, h⟩
  · split
    · exact ⟨rfl, h⟩
    · split
      · exact ⟨rfl, h⟩
      · split
        · exact ⟨rfl, (h.put _ _).put _ _⟩
        · exact ⟨rfl, (h.put _ _).put _ _⟩
/-- An entry turned about. -/
def sw (e : S107) : S107 := ⟨e.f1, e.f0, e.f2⟩
theorem check_sw {e : S107} (h : checkI e = 0) : checkI (sw e) = 0 := by
  obtain ⟨h1, h2, h3, h4, h5⟩ := check_good h
  unfold checkI sw
  simp only
  rw [if_neg (by omega), if_neg (by rw [h4]; simp), if_neg (by rw [h3]; simp), if_pos h5.symm]
theorem getM_move {M : List (S42 × Int)} {e : S107} (h : (moveM M e).2 = 0) (a : S42) : getM (moveM M e).1 a = if a = e.f1 then (if e.f1 = e.f0 then getM M e.f0 else getM M e.f1 + e.f2) else if a = e.f0 then getM M e.f0 - e.f2 else getM M a := by
  rw [move_ok h, getM_putM, getM_putM, getM_putM]
  split
  · split
    · omega
    · rfl
  · rfl
theorem move_conds {M : List (S42 × Int)} {e : S107} (h : (moveM M e).2 = 0) : checkI e = 0 ∧ ¬ (e.f0.f0 ≠ 0 ∧ getM M e.f0 - e.f2 < 0) ∧ ¬ (getM M e.f0 - e.f2 < -72057594037927936) := by
  have hck := moveM_ok h
  unfold moveM at h
  rw [if_neg (by simpa using hck)] at h
  by_cases c1 : e.f0.f0 ≠ 0 ∧ getM M e.f0 - e.f2 < 0
  · rw [if_pos c1] at h
    exact absurd (show (20 : Int) = 0 from h) (by decide)
  · rw [if_neg c1] at h
    by_cases c2 : getM M e.f0 - e.f2 < -72057594037927936
    · rw [if_pos c2] at h
      exact absurd (show (9 : Int) = 0 from h) (by decide)
    · exact ⟨hck, c1, c2⟩
theorem move_sw {M M' : List (S42 × Int)} {e : S107} (hn : NN M) (hB : BM M) (hok : (moveM M e).2 = 0) (he : Eqv M' (moveM M e).1) : (moveM M' (sw e)).2 = 0 ∧ Eqv (moveM M' (sw e)).1 M := by
  obtain ⟨hck, c1, c2⟩ := move_conds hok
  have hm := check_good hck
  have g1 : getM M' e.f1 = if e.f1 = e.f0 then getM M e.f0 else getM M e.f1 + e.f2 := by
    rw [he, getM_move hok, if_pos rfl]
  have g0 : getM M' e.f0 = if e.f0 = e.f1 then getM M e.f0 else getM M e.f0 - e.f2 := by
    rw [he, getM_move hok]
    by_cases q : e.f0 = e.f1
    · rw [if_pos q, if_pos q, if_pos q.symm]
    · rw [if_neg q, if_neg q, if_pos rfl]
  have hb0 := hB e.f0
  have hb1 := hB e.f1
  have hok2 : (moveM M' (sw e)).2 = 0 := by
    unfold moveM
    rw [if_neg (by simpa using check_sw hck)]
    show (if e.f1.f0 ≠ 0 ∧ getM M' e.f1 - e.f2 < 0 then (M', (20 : Int)) else _).2 = 0
    rw [if_neg, if_neg, if_neg]
    · show ¬ 72057594037927936 < getM (putM M' e.f1 (getM M' e.f1 - e.f2)) e.f0 + e.f2
      rw [getM_putM]
      by_cases q : e.f0 = e.f1
      · rw [if_pos q, g1, if_pos q.symm]
        omega
      · rw [if_neg q, g0, if_neg q]
        omega
    · show ¬ getM M' e.f1 - e.f2 < -72057594037927936
      rw [g1]
      split
      · exact c2
      · omega
    · rintro ⟨q1, q2⟩
      rw [g1] at q2
      by_cases q : e.f1 = e.f0
      · rw [if_pos q] at q2
        rw [q] at q1
        exact c1 ⟨q1, q2⟩
      · rw [if_neg q] at q2
        have := hn e.f1 q1
        omega
  refine ⟨hok2, fun a => ?_⟩
  rw [getM_move hok2]
  show (if a = e.f0 then (if e.f0 = e.f1 then getM M' e.f1 else getM M' e.f0 + e.f2) else if a = e.f1 then getM M' e.f1 - e.f2 else getM M' a) = getM M a
  by_cases q : e.f0 = e.f1
  · by_cases qa : a = e.f0
    · rw [if_pos qa, if_pos q, g1, if_pos q.symm, qa]
    · have qa1 : ¬ a = e.f1 := fun h => qa (h.trans q.symm)
      rw [if_neg qa, if_neg qa1, he, getM_move hok, if_neg qa1, if_neg qa]
  · by_cases qa : a = e.f0
    · rw [if_pos qa, if_neg q, g0, if_neg q, qa]
      omega
    · rw [if_neg qa]
      by_cases qb : a = e.f1
      · rw [if_pos qb, g1, if_neg (fun h => q h.symm), qb]
        omega
      · rw [if_neg qb, he, getM_move hok, if_neg qb, if_neg qa]
/-- All entries are done. -/
def allOk (M : List (S42 × Int)) : List S107 → Prop
  | [] => True
  | e :: r => (moveM M e).2 = 0 ∧ allOk (moveM M e).1 r
/-- What they come to. -/
def fin (M : List (S42 × Int)) : List S107 → List (S42 × Int)
  | [] => M
  | e :: r => fin (moveM M e).1 r
theorem post_allOk : ∀ (l done : List S107) (M : List (S42 × Int)), (postL done M l).2.2 = 0 → allOk M l ∧ (postL done M l).1 = fin M l
  | [], _, _, _ => ⟨trivial, rfl⟩
  | e :: r, done, M, h => by
    unfold postL at h ⊢
    by_cases c : (moveM M e).2 = 0
    · rw [if_pos c] at h ⊢
      obtain ⟨h1, h2⟩ := post_allOk r (e :: done) _ h
      exact ⟨⟨c, h1⟩, h2⟩
    · rw [if_neg c] at h
      exact absurd h c
theorem allOk_post : ∀ (l done : List S107) (M : List (S42 × Int)), allOk M l → (postL done M l).2.2 = 0 ∧ (postL done M l).1 = fin M l
  | [], _, _, _ => ⟨rfl, rfl⟩
  | e :: r, done, M, h => by
    unfold postL
    rw [if_pos h.1]
    exact allOk_post r (e :: done) _ h.2
theorem allOk_append : ∀ (l l' : List S107) (M : List (S42 × Int)), allOk M l → allOk (fin M l) l' → allOk M (l ++ l') ∧ fin M (l ++ l') = fin (fin M l) l'
  | [], _, _, _, h => ⟨h, rfl⟩
  | e :: r, l', M, h, h' => by
    obtain ⟨h1, h2⟩ := allOk_append r l' (moveM M e).1 h.2 h'
    exact ⟨⟨h.1, h1⟩, h2⟩
theorem back_ok : ∀ (l : List S107) (M M' : List (S42 × Int)), NN M → BM M → allOk M l → Eqv M' (fin M l) → allOk M' (l.map sw).reverse ∧ Eqv (fin M' (l.map sw).reverse) M
  | [], _, _, _, _, _, he => ⟨trivial, he⟩
  | e :: r, M, M', hn, hB, h, he => by
    obtain ⟨h1, h2⟩ := back_ok r (moveM M e).1 M' (hn.move e) (hB.move e) h.2 he
    obtain ⟨h3, h4⟩ := move_sw hn hB h.1 h2
    rw [List.map_cons, List.reverse_cons]
    obtain ⟨h5, h6⟩ := allOk_append (r.map sw).reverse [sw e] M' h1 ⟨h3, trivial⟩
    refine ⟨h5, ?_⟩
    rw [h6]
    exact h4
theorem fin_NN : ∀ (l : List S107) (M : List (S42 × Int)), NN M → NN (fin M l)
  | [], _, h => h
  | e :: r, M, h => fin_NN r _ (h.move e)
/-- A post that can't be done leaves the document's list. -/
theorem pst_fail : ∀ (x : List S107) (L0 : List S82) (n : Nat) (L : List S82), (pstL L0 n L x).2.2 ≠ 0 → (pstL L0 n L x).1 = L0
  | [], L0, n, L, h => by
    unfold pstL at h
    exact absurd rfl h
  | e :: r, L0, n, L, h => by
    unfold pstL at h ⊢
    by_cases c : (mvL L e).2 = 0
    · rw [if_pos c] at h ⊢
      exact pst_fail r L0 (n + 1) _ h
    · rw [if_neg c]
/-- NN holds behind every post. -/
theorem NN.post {M : List (S42 × Int)} {L : List S82} (hr : Rep M L) (hB : BM M) (hn : NN M) (l : List S107) : NN (postL [] M l).1 := by
  obtain ⟨e1, e2, e3, e4⟩ := rep_post0 hr hB l
  by_cases c : (postL [] M l).2.2 = 0
  · rw [(post_allOk l [] M c).2]
    exact fin_NN l M hn
  · rw [e2] at c
    have h1 := pst_fail l L 0 L c
    rw [h1] at e3
    refine hn.of (fun a => ?_)
    rw [e3.same, hr.same]
/-- What LedgerBack says, of maps. -/
theorem post_back {M : List (S42 × Int)} {L : List S82} (hr : Rep M L) (hB : BM M) (hn : NN M) (l : List S107) (hok : (postL [] M l).2.2 = 0) :
    (postL [] (postL [] M l).1 (l.map sw).reverse).2.2 = 0 ∧ Rep (postL [] (postL [] M l).1 (l.map sw).reverse).1 L := by
  obtain ⟨e1, e2, e3, e4⟩ := rep_post0 hr hB l
  obtain ⟨h1, h2⟩ := post_allOk l [] M hok
  obtain ⟨h3, h4⟩ := back_ok l M (postL [] M l).1 hn hB h1 (fun a => by rw [h2])
  obtain ⟨h5, h6⟩ := allOk_post _ [] _ h3
  refine ⟨h5, hr.of ?_ (fun a => by rw [h6]; exact h4 a)⟩
  exact (rep_post0 e3 e4 _).2.2.1.ok
end Go.Proofs.Ytoknlpecbdlbfaa.PL

-- LedgerBack, walked.
namespace Go.Proofs.Ytoknlpecbdlbfaa.PL
open Go Go.RowKit Go.Maps Go.Sort Go.Shelf Go.Proofs Go.Proofs.YtoknlpecbdlbfaaW.PrintWords Go.Proofs.YtoknlpecbdlbfaaW.PrintLast
theorem info47 : (Try.prog.info? 47).map (fun i => (i.zero, i.size, i.bytes)) = some (some (.agg #[(.int .i64 0), (.int .i64 0), (.string ⟨#[]⟩), (.int .i64 0), (.int .i64 0), (.string ⟨#[]⟩), (.int .i64 0)]), 7, 72) := by kernel_rfl
/-- A map, the document's list, and what is known of both. -/
structure St (M : List (S42 × Int)) (L : List S82) : Prop where
  rep : Rep M L
  bm : BM M
  nn : NN M
theorem St.nil : St [] [] := ⟨Rep.nil, BM.nil, NN.nil⟩
theorem St.post {M : List (S42 × Int)} {L : List S82} (h : St M L) (l : List S107) : St (postL [] M l).1 (pstL L 0 L l).1 := by
  obtain ⟨e1, e2, e3, e4⟩ := rep_post0 h.rep h.bm l
  exact ⟨e3, e4, h.nn.post h.rep h.bm l⟩
theorem St.fail {M : List (S42 × Int)} {L : List S82} (h : St M L) (l : List S107) (hf : (postL [] M l).2.2 ≠ 0) : Rep (postL [] M l).1 L := by
  obtain ⟨e1, e2, e3, e4⟩ := rep_post0 h.rep h.bm l
  rw [e2] at hf
  rw [pst_fail l L 0 L hf] at e3
  exact e3
theorem post_M {g b : Nat} {M : List (S42 × Int)} {L : List S82} {w : World} (h : LG w g b M) (hs : St M L) (A : Option Addr) (c : Nat) (xs : List S47) (hC : Kd.C k107 w A xs.length (xs.map toE)) (hx : xs.length ≤ 4096) (hL : L.length ≤ 1000000) (R : List (S42 × Int) × Int × Int) (hR : postL [] M (xs.map toE) = R) :
    Calls Try.prog 19 #[.pointer (some ⟨g, 0, none⟩), .slice A xs.length c] w fun e w' => e = .returned (.tuple #[.int .i64 R.2.1, .int .i64 R.2.2]) ∧ Hid (LG w' g b R.1 ∧ w.grownBy w' (some b)) := by
  have hlen := rep_length hs.rep
  have h1 := post_any h hs.bm A c (xs.map toE) (by rw [List.length_map]; exact hC) (by rw [List.length_map]; exact hx) (by rw [List.length_map]; unfold maxLen; omega)
  rw [List.length_map, hR] at h1
  exact h1
theorem clone_hid {g b : Nat} {M : List (S42 × Int)} {w : World} (h : LG w g b M) :
    Calls Try.prog 24 #[.pointer (some ⟨g, 0, none⟩)] w fun e w' => e = .returned (.pointer (some ⟨w.heap.size + 1, 0, none⟩)) ∧ Hid (LG w' (w.heap.size + 1) w.heap.size M ∧ Below w.heap.size w w') :=
  clone_any h
/-- What is told at the end: the ledger, its two clones, and what was told before. -/
structure XS (w : World) (g b gy by' gz bz : Nat) (Mx My Mz : List (S42 × Int)) (L1 L2 : List S82) (A1 A2 : Option Addr) (c1 c2 : Nat) (W : World) : Prop where
  x : LG W g b Mx
  y : LG W gy by' My
  z : LG W gz bz Mz
  rx : Rep Mx L1
  ry : Rep My L1
  rz : Rep Mz L2
  l1 : L1.length ≤ 1000000
  l2 : L2.length ≤ 1000000
  was : Kd.C k82 W A1 L1.length L1
  cw : L1.length ≤ c1
  now : Kd.C k82 W A2 L2.length L2
  cn : L2.length ≤ c2
  bl : Below w.heap.size w W
theorem XS.step {w : World} {g b gy by' gz bz : Nat} {Mx My Mz : List (S42 × Int)} {L1 L2 : List S82} {A1 A2 : Option Addr} {c1 c2 : Nat} {W W' : World} (h : XS w g b gy by' gz bz Mx My Mz L1 L2 A1 A2 c1 c2 W) (hb : Below W.heap.size W W') : XS w g b gy by' gz bz Mx My Mz L1 L2 A1 A2 c1 c2 W' :=
  ⟨h.x.below hb, h.y.below hb, h.z.below hb, h.rx, h.ry, h.rz, h.l1, h.l2, Kd.C_below h.was hb, h.cw, Kd.C_below h.now hb, h.cn, h.bl.trans (hb.mono h.bl.size)⟩
/-- An entry turned about, as it comes in. -/
def swE (e : S47) : S47 := ⟨e.f1, e.f0, e.f2⟩
theorem toE_sw (T : List S47) : ((T.map swE).reverse).map toE = ((T.map toE).map sw).reverse := by
  rw [List.map_reverse, List.map_map, List.map_map]
  rfl
set_option maxRecDepth 100000 in
theorem back_long (A B : Option Addr) (c d : Nat) (F T : List S47) (w : World) (h : 60 < F.length ∨ 60 < T.length) :
    Calls Try.prog 5 #[.slice A F.length c, .slice B T.length d] w fun e w' => e = .returned (.bool true) ∧ Below w.heap.size w w' := by
  by_cases c1 : 60 < F.length
  · have p1 : ((F.length : Int) > 60) = True := eq_true (by omega)
    clear c1 h
    go_enter Try.func5, Try.ntmps5
    go_wp2_with (go_at_call 16; refine (awake_walk _).mono ?_; rintro e w2 ⟨rfl, H2⟩; replace H2 := Lib.hid H2)
    go_ret
    exact ⟨rfl, H2.out⟩
  · have p1 : ((F.length : Int) > 60) = False := eq_false (by omega)
    have p2 : ((T.length : Int) > 60) = True := eq_true (by omega)
    clear c1 h
    go_enter Try.func5, Try.ntmps5
    go_wp2_with (go_at_call 16; refine (awake_walk _).mono ?_; rintro e w2 ⟨rfl, H2⟩; replace H2 := Lib.hid H2)
    go_ret
    exact ⟨rfl, H2.out⟩
end Go.Proofs.Ytoknlpecbdlbfaa.PL

-- LedgerBack, walked: both halves.
namespace Go.Proofs.Ytoknlpecbdlbfaa.PL
open Go Go.RowKit Go.Maps Go.Sort Go.Shelf Go.Proofs Go.Proofs.YtoknlpecbdlbfaaW.PrintWords Go.Proofs.YtoknlpecbdlbfaaW.PrintLast
/-- What stands while the entries are turned about. -/
structure YS (w : World) (g b gy by' : Nat) (Mx My : List (S42 × Int)) (L1 L2 : List S82) (A1 A2 : Option Addr) (W : World) : Prop where
  x : LG W g b Mx
  y : LG W gy by' My
  was : Kd.C k82 W A1 L1.length L1
  now : Kd.C k82 W A2 L2.length L2
  bl : Below w.heap.size w W
theorem YS.step {w : World} {g b gy by' : Nat} {Mx My : List (S42 × Int)} {L1 L2 : List S82} {A1 A2 : Option Addr} {W W' : World} (h : YS w g b gy by' Mx My L1 L2 A1 A2 W) (hb : Below W.heap.size W W') : YS w g b gy by' Mx My L1 L2 A1 A2 W' :=
  ⟨h.x.below hb, h.y.below hb, Kd.C_below h.was hb, Kd.C_below h.now hb, h.bl.trans (hb.mono h.bl.size)⟩
/-- A ledger stays behind another one's post. -/
theorem LG.far {w w' : World} {b gy by' : Nat} {M : List (S42 × Int)} (h : LG w gy by' M) (hg : w.grownBy w' (some b)) (h1 : gy ≠ b) (h2 : by' ≠ b) : LG w' gy by' M :=
  h.grown hg (by simpa using h1) (by simpa using h2)
set_option maxRecDepth 100000 in
set_option maxHeartbeats 2000000 in
theorem back_walk (A B : Option Addr) (c d : Nat) (F T : List S47) (w : World) (hF : F.length ≤ 60) (hT : T.length ≤ 60) (hrF : Kd.C k47 w A F.length F) (hcF : F.length ≤ c) (hrT : Kd.C k47 w B T.length T) (hcT : T.length ≤ d) :
    Calls Try.prog 5 #[.slice A F.length c, .slice B T.length d] w fun e w' => e = .returned (.bool true) ∧ Below w.heap.size w w' := by
  have p1 : ((F.length : Int) > 60) = False := eq_false (by omega)
  have p2 : ((T.length : Int) > 60) = False := eq_false (by omega)
  have hs1 := St.nil.post (F.map toE)
  have hl1 : (pstL [] 0 [] (F.map toE)).1.length ≤ 120 := length_pstL _ [] 0 [] 120 (by simp) (by simp; omega)
  obtain ⟨⟨M1, n1, f1⟩, hR1⟩ : ∃ R, postL [] [] (F.map toE) = R := ⟨_, rfl⟩
  rw [hR1] at hs1
  replace hs1 : St M1 (pstL [] 0 [] (F.map toE)).1 := hs1
  generalize (pstL [] 0 [] (F.map toE)).1 = L1 at hs1 hl1
  have hs2 := hs1.post (T.map toE)
  have hl2 : (pstL L1 0 L1 (T.map toE)).1.length ≤ 240 := length_pstL _ L1 0 L1 240 (by omega) (by rw [List.length_map]; omega)
  have hsf := hs1.fail (T.map toE)
  have hbk := post_back hs1.rep hs1.bm hs1.nn (T.map toE)
  obtain ⟨⟨M2, n2, f2⟩, hR2⟩ : ∃ R, postL [] M1 (T.map toE) = R := ⟨_, rfl⟩
  rw [hR2] at hs2 hsf hbk
  replace hs2 : St M2 (pstL L1 0 L1 (T.map toE)).1 := hs2
  replace hsf : f2 ≠ 0 → Rep M2 L1 := hsf
  generalize (pstL L1 0 L1 (T.map toE)).1 = L2 at hs2 hl2
  rw [← toE_sw] at hbk
  have HA := Lib.hid (And.intro hrF hcF)
  have HB := Lib.hid (And.intro hrT hcT)
  have HF := Lib.hid hF
  have HT := Lib.hid hT
  have S1 := Lib.hid hs1
  have S2 := Lib.hid hs2
  have K1 := Lib.hid hl1
  have K2 := Lib.hid hl2
  have G1 := Lib.hid hR1
  have G2 := Lib.hid hR2
  by_cases hf : f2 = 0
  · have q1 : (f2 != 0) = false := by simp [hf]
    have hbk' := hbk hf
    obtain ⟨⟨M3, n3, f3⟩, hR3⟩ : ∃ R, postL [] M2 (((T.map swE).reverse).map toE) = R := ⟨_, rfl⟩
    have hbk2 : f3 = 0 ∧ Rep M3 L1 := by
      have h9 : (postL [] M2 (((T.map swE).reverse).map toE)).2.2 = 0 ∧ Rep (postL [] M2 (((T.map swE).reverse).map toE)).1 L1 := hbk'
      rw [hR3] at h9
      exact h9
    obtain ⟨rfl, hr3⟩ := hbk2
    have G3 := Lib.hid hR3
    have S3 := Lib.hid hr3
    clear hrF hcF hrT hcT hF hT hs1 hl1 hs2 hl2 hsf hbk hbk' hR1 hR2 hR3 hr3 hf
    go_enter Try.func5, Try.ntmps5
    go_wp2_with (first
      | (go_at_call 22; refine (told_gives H7.out.1 S2.out.rep (by have := K2.out; omega)).mono ?_; rintro e w8 ⟨A8, c8, rfl, H8⟩)
      | (go_at_call 19; refine (post_M (((H3.out.1.below H4.out.2.1).below H5.out.2).below H6.out.2) S1.out A6 c6 T H6.out.1 (by have := HT.out; omega) (by have := K1.out; omega) _ G2.out).mono ?_; rintro e w7 ⟨rfl, H7⟩)
      | (go_at_call 20; refine (entries_any B d T _ (Kd.C_below HB.out.1 B5.out) HB.out.2 (by have := HT.out; omega)).mono ?_; rintro e w6 ⟨A6, c6, rfl, H6⟩)
      | (go_at_call 24; refine (clone_hid (H3.out.1.below H4.out.2.1)).mono ?_; rintro e w5 ⟨rfl, H5⟩; have B5 := Lib.hid (B4.out.trans (H5.out.2.mono B4.out.size)))
      | (go_at_call 22; refine (told_gives H3.out.1 S1.out.rep (by have := K1.out; omega)).mono ?_; rintro e w4 ⟨A4, c4, rfl, H4⟩; have B4 := Lib.hid (B3.out.trans (H4.out.2.1.mono B3.out.size)))
      | (go_at_call 19; refine (post_M (H1.out.1.below H2.out.2) St.nil A2 c2 F H2.out.1 (by have := HF.out; omega) (by simp) _ G1.out).mono ?_; rintro e w3 ⟨rfl, H3⟩; have B3 := Lib.hid ((H1.out.2.trans (H2.out.2.mono H1.out.2.size)).grown H3.out.2 (Nat.le_trans H1.out.2.size H2.out.2.size) (by simp)))
      | (go_at_call 20; refine (entries_any A c F _ (Kd.C_below HA.out.1 H1.out.2) HA.out.2 (by have := HF.out; omega)).mono ?_; rintro e w2 ⟨A2, c2, rfl, H2⟩)
      | (go_at_call 17; refine (new_any _).mono ?_; rintro e w1 ⟨rfl, H1⟩; replace H1 := Lib.hid H1))
    have Y8 := Lib.hid (show YS w (w.heap.size + 1) w.heap.size (w4.heap.size + 1) w4.heap.size M2 M1 L1 L2 A4 A8 w8 from by
      have hlt : w.heap.size < w4.heap.size := Nat.lt_of_lt_of_le (H3.out.1.below H4.out.2.1).map.lt (Nat.le_refl _)
      have hbb := B5.out.trans (H6.out.2.mono B5.out.size)
      have hC := C82_grown (Kd.C_below (Kd.C_below H4.out.1 H5.out.2) H6.out.2) H7.out.2 (((H3.out.1.below H4.out.2.1).below H5.out.2).below H6.out.2).map
      have hy := (H5.out.1.below H6.out.2).far H7.out.2 (by omega) (by omega)
      have hb7 := hbb.grown H7.out.2 hbb.size (by simp)
      exact ⟨H7.out.1.below H8.out.2.1, hy.below H8.out.2.1, Kd.C_below hC H8.out.2.1, H8.out.1, hb7.trans (H8.out.2.1.mono hb7.size)⟩)
    have Z4 := Lib.hid H4.out.2.2
    have Z8 := Lib.hid H8.out.2.2
    have Hlt := Lib.hid (show w.heap.size < w4.heap.size from Nat.lt_of_lt_of_le (H3.out.1.below H4.out.2.1).map.lt (Nat.le_refl _))
    clear H1 H2 H3 H4 H5 H6 H7 H8 B3 B4 B5
    go_loopg [11, 12] (T.length + 1) (fun kq v11 v12 w' => ∃ (m : Nat) (i : Int), v12 = .int .i64 i ∧ Hid (i = (m : Int) - 1 ∧ kq = m + 1 ∧ m ≤ T.length ∧ Kd.R k47 47 w' w8.heap.size (fun _ => True) v11 ((T.drop m).reverse.map swE) ∧ Below w8.heap.size w8 w'))
    case atStart =>
      refine ⟨T.length, _, rfl, ⟨?_, rfl, Nat.le_refl _, ?_, Below.refl _ _⟩⟩
      · have := HT.out
        rw [wrap_id (by omega) (by omega)]
      · rw [List.drop_length]
        exact Kd.R_nil _ _ _ _ _
    case round =>
      obtain ⟨m, i, rfl, HI⟩ := hrel
      cases m with
      | zero =>
        have q2 : (i ≥ 0) = False := eq_false (by have := HI.out.1; omega)
        have Y9 := Lib.hid (Y8.out.step HI.out.2.2.2.2)
        have hR0 := HI.out.2.2.2.1
        rw [List.drop_zero, ← List.map_reverse.symm] at hR0
        obtain ⟨A9, c9, rfl, hc9, hC9⟩ := Kd.R_reads hR0
        have hXl : ((T.map swE).reverse).length ≤ 60 := by have := HT.out; simp; omega
        obtain ⟨X, hX⟩ : ∃ X, (T.map swE).reverse = X := ⟨_, rfl⟩
        rw [hX] at hc9 hC9 hXl G3
        have HC9 := Lib.hid hC9
        have Hc9 := Lib.hid hc9
        have HXl := Lib.hid hXl
        rw [hX]
        clear hR0 hc9 hC9 hXl hX HB HA HI
        go_wp2_with (first
          | (go_at_call 16; refine (awake_walk _).mono ?_; rintro e w19 ⟨rfl, H19⟩; replace H19 := Lib.hid H19)
          | (go_at_call 21; refine (same_any A17 A8 c17 c8 L2 _ H17.out.1 H17.out.2.2 X17.out.now X17.out.cn X17.out.l2).mono ?_; rintro e w18 ⟨rfl, H18⟩; have X18 := Lib.hid (X17.out.step H18); clear H18)
          | (go_at_call 22; refine (told_gives X16.out.z X16.out.rz X16.out.l2).mono ?_; rintro e w17 ⟨A17, c17, rfl, H17⟩; have X17 := Lib.hid (X16.out.step H17.out.2.1))
          | (go_at_call 21; refine (same_any A15 A4 c15 c4 L1 _ H15.out.1 H15.out.2.2 X15.out.was X15.out.cw X15.out.l1).mono ?_; rintro e w16 ⟨rfl, H16⟩; have X16 := Lib.hid (X15.out.step H16); clear H16)
          | (go_at_call 22; refine (told_gives X14.out.y X14.out.ry X14.out.l1).mono ?_; rintro e w15 ⟨A15, c15, rfl, H15⟩; have X15 := Lib.hid (X14.out.step H15.out.2.1))
          | (go_at_call 21; refine (same_any A13 A4 c13 c4 L1 _ H13.out.1 H13.out.2.2 X13.out.was X13.out.cw X13.out.l1).mono ?_; rintro e w14 ⟨rfl, H14⟩; have X14 := Lib.hid (X13.out.step H14); clear H14)
          | (go_at_call 22; refine (told_gives X12.out.x X12.out.rx X12.out.l1).mono ?_; rintro e w13 ⟨A13, c13, rfl, H13⟩; have X13 := Lib.hid (X12.out.step H13.out.2.1))
          | (go_at_call 19; refine (post_M Y11.out.x S2.out A11 c11 X H11.out.1 (by have := HXl.out; omega) (by have := K2.out; omega) _ G3.out).mono ?_; rintro e w12 ⟨rfl, H12⟩; have X12 := Lib.hid (show XS w (w.heap.size + 1) w.heap.size (w4.heap.size + 1) w4.heap.size (wr.heap.size + 1) wr.heap.size M3 M1 M2 L1 L2 A4 A8 c4 c8 w12 from by
              have h1 := Hlt.out
              have h2 := Y9.out.y.map.lt
              exact ⟨H12.out.1, Y11.out.y.far H12.out.2 (by omega) (by omega), (H10.out.1.below H11.out.2).far H12.out.2 (by omega) (by omega), S3.out, S1.out.rep, S2.out.rep, (by have := K1.out; omega), (by have := K2.out; omega), C82_grown Y11.out.was H12.out.2 Y11.out.x.map, Z4.out, C82_grown Y11.out.now H12.out.2 Y11.out.x.map, Z8.out, Y11.out.bl.grown H12.out.2 Y11.out.bl.size (by simp)⟩))
          | (go_at_call 20; refine (entries_any A9 c9 X _ (Kd.C_below HC9.out H10.out.2) Hc9.out (by have := HXl.out; omega)).mono ?_; rintro e w11 ⟨A11, c11, rfl, H11⟩; have Y11 := Lib.hid (Y10.out.step H11.out.2))
          | (go_at_call 24; refine (clone_hid Y9.out.x).mono ?_; rintro e w10 ⟨rfl, H10⟩; have Y10 := Lib.hid (Y9.out.step H10.out.2)))
        go_ret
        exact ⟨rfl, X18.out.bl.trans (H19.out.mono X18.out.bl.size)⟩
      | succ j =>
        obtain rfl : i = (j : Int) := by have := HI.out.1; omega
        have q2 : ((j : Int) ≥ 0) = True := eq_true (by omega)
        have hjl : j < T.length := HI.out.2.2.1
        have q3 : (0 ≤ (j : Int)) = True := eq_true (by omega)
        have q4 : ((j : Int) < (T.length : Int)) = True := eq_true (by omega)
        have hw : wrap64 ((j : Int) - 1) = (j : Int) - 1 := by
          have := HT.out
          rw [wrap_id (by omega) (by omega)]
        have h4 : ∀ (w' : World), Below w8.heap.size w8 w' → Kd.C k47 w' B T.length T := fun w' hb => Kd.C_below (Kd.C_below HB.out.1 Y8.out.bl) hb
        obtain ⟨ad, eA, x0, x1, x2, x3, x4, x5, x6⟩ := at_T47 (h4 wr HI.out.2.2.2.2) (j : Int) (by omega) (by omega)
        have hx : ∀ (w' : World), Below w8.heap.size w8 w' → (w'.cell? (ad.add (j * 7)) = some (.int .i64 (rd_T47 T (j : Int)).f0.f0) ∧ w'.cell? ⟨(ad.add (j * 7)).block, (ad.add (j * 7)).off + 1, none⟩ = some (.int .i64 (rd_T47 T (j : Int)).f0.f1) ∧ w'.cell? ⟨(ad.add (j * 7)).block, (ad.add (j * 7)).off + 2, none⟩ = some (.string (rd_T47 T (j : Int)).f0.f2) ∧ w'.cell? ⟨(ad.add (j * 7)).block, (ad.add (j * 7)).off + 3, none⟩ = some (.int .i64 (rd_T47 T (j : Int)).f1.f0) ∧ w'.cell? ⟨(ad.add (j * 7)).block, (ad.add (j * 7)).off + 4, none⟩ = some (.int .i64 (rd_T47 T (j : Int)).f1.f1) ∧ w'.cell? ⟨(ad.add (j * 7)).block, (ad.add (j * 7)).off + 5, none⟩ = some (.string (rd_T47 T (j : Int)).f1.f2) ∧ w'.cell? ⟨(ad.add (j * 7)).block, (ad.add (j * 7)).off + 6, none⟩ = some (.int .i64 (rd_T47 T (j : Int)).f2)) := fun w' hb => by
          obtain ⟨ad', eA', y0, y1, y2, y3, y4, y5, y6⟩ := at_T47 (h4 w' hb) (j : Int) (by omega) (by omega)
          obtain rfl : ad = ad' := by rw [eA] at eA'; injection eA'
          simp only [Int.toNat_natCast] at y0 y1 y2 y3 y4 y5 y6
          exact ⟨y0, y1, y2, y3, y4, y5, y6⟩
        have hTj : rd_T47 T (j : Int) = T[j] := by
          unfold rd_T47
          simp [List.getD, hjl]
        have hdrop : (T.drop j).reverse.map swE = (T.drop (j + 1)).reverse.map swE ++ [swE T[j]] := by
          rw [List.drop_eq_getElem_cons hjl, List.reverse_cons, List.map_append]
          rfl
        rw [← hTj] at hdrop
        obtain ⟨⟨⟨a0, a1, a2⟩, ⟨b0, b1, b2⟩, n⟩, ha⟩ : ∃ a, rd_T47 T (j : Int) = a := ⟨_, rfl⟩
        rw [ha] at hx hdrop
        have hlen : ((T.drop (j + 1)).reverse.map swE).length ≤ 60 := by
          have := HT.out
          simp
          omega
        obtain ⟨xs0, hxs0⟩ : ∃ l, (T.drop (j + 1)).reverse.map swE = l := ⟨_, rfl⟩
        rw [hxs0] at hdrop hlen
        have hR0 := HI.out.2.2.2.1
        rw [hxs0] at hR0
        have HX := Lib.hid hx
        have HD := Lib.hid hdrop
        have HW := Lib.hid hw
        have hB2 : Below w8.heap.size w8 wr.drew := HI.out.2.2.2.2.drew
        have HP := Lib.hid (And.intro (Kd.R_drew hR0) (And.intro hB2 (And.intro hB2.size (show (xs0.length + 1) * 72 ≤ 140737488355328 by omega))))
        have hSD := HX.out _ hB2
        simp only at hSD
        clear x0 x1 x2 x3 x4 x5 x6 h4 hx hTj hdrop ha hlen hxs0 hR0 hw hB2
        have HSA := Lib.hid (show ∀ (w' : World) (o : Obj), (w'.cell? (ad.add (j * 7)) = some (.int .i64 a0) ∧ w'.cell? ⟨(ad.add (j * 7)).block, (ad.add (j * 7)).off + 1, none⟩ = some (.int .i64 a1) ∧ w'.cell? ⟨(ad.add (j * 7)).block, (ad.add (j * 7)).off + 2, none⟩ = some (.string a2) ∧ w'.cell? ⟨(ad.add (j * 7)).block, (ad.add (j * 7)).off + 3, none⟩ = some (.int .i64 b0) ∧ w'.cell? ⟨(ad.add (j * 7)).block, (ad.add (j * 7)).off + 4, none⟩ = some (.int .i64 b1) ∧ w'.cell? ⟨(ad.add (j * 7)).block, (ad.add (j * 7)).off + 5, none⟩ = some (.string b2) ∧ w'.cell? ⟨(ad.add (j * 7)).block, (ad.add (j * 7)).off + 6, none⟩ = some (.int .i64 n)) → ((w'.alloc o).cell? (ad.add (j * 7)) = some (.int .i64 a0) ∧ (w'.alloc o).cell? ⟨(ad.add (j * 7)).block, (ad.add (j * 7)).off + 1, none⟩ = some (.int .i64 a1) ∧ (w'.alloc o).cell? ⟨(ad.add (j * 7)).block, (ad.add (j * 7)).off + 2, none⟩ = some (.string a2) ∧ (w'.alloc o).cell? ⟨(ad.add (j * 7)).block, (ad.add (j * 7)).off + 3, none⟩ = some (.int .i64 b0) ∧ (w'.alloc o).cell? ⟨(ad.add (j * 7)).block, (ad.add (j * 7)).off + 4, none⟩ = some (.int .i64 b1) ∧ (w'.alloc o).cell? ⟨(ad.add (j * 7)).block, (ad.add (j * 7)).off + 5, none⟩ = some (.string b2) ∧ (w'.alloc o).cell? ⟨(ad.add (j * 7)).block, (ad.add (j * 7)).off + 6, none⟩ = some (.int .i64 n)) from fun w' o ⟨s0, s1, s2, s3, s4, s5, s6⟩ =>
          ⟨cell_keep ((Below.refl _ _).alloc (Nat.le_refl _) _) s0, cell_keep ((Below.refl _ _).alloc (Nat.le_refl _) _) s1, cell_keep ((Below.refl _ _).alloc (Nat.le_refl _) _) s2, cell_keep ((Below.refl _ _).alloc (Nat.le_refl _) _) s3, cell_keep ((Below.refl _ _).alloc (Nat.le_refl _) _) s4, cell_keep ((Below.refl _ _).alloc (Nat.le_refl _) _) s5, cell_keep ((Below.refl _ _).alloc (Nat.le_refl _) _) s6⟩)
        subst eA
        go_wp2
        go_region_held3 (fun w' => w'.cell? (ad.add (j * 7)) = some (.int .i64 a0) ∧ w'.cell? ⟨(ad.add (j * 7)).block, (ad.add (j * 7)).off + 1, none⟩ = some (.int .i64 a1) ∧ w'.cell? ⟨(ad.add (j * 7)).block, (ad.add (j * 7)).off + 2, none⟩ = some (.string a2) ∧ w'.cell? ⟨(ad.add (j * 7)).block, (ad.add (j * 7)).off + 3, none⟩ = some (.int .i64 b0) ∧ w'.cell? ⟨(ad.add (j * 7)).block, (ad.add (j * 7)).off + 4, none⟩ = some (.int .i64 b1) ∧ w'.cell? ⟨(ad.add (j * 7)).block, (ad.add (j * 7)).off + 5, none⟩ = some (.string b2) ∧ w'.cell? ⟨(ad.add (j * 7)).block, (ad.add (j * 7)).off + 6, none⟩ = some (.int .i64 n))
          (first | assumption | exact HSA.out _ _ (by assumption))
          (first | (refine Kd.R_append_step k47 (w0 := w8) (W := wr.drew) w8.heap.size (by rfl) (.tmp 65) (.tmp 82) 30 47 (.agg #[(.int .i64 0), (.int .i64 0), (.string ⟨#[]⟩), (.int .i64 0), (.int .i64 0), (.string ⟨#[]⟩), (.int .i64 0)]) 72 rfl Try.underlying30 info47 rfl (by decide) (by decide) u11 xs0 ⟨⟨b0, b1, b2⟩, ⟨a0, a1, a2⟩, n⟩ [.int .i64 b0, .int .i64 b1, .string b2, .int .i64 a0, .int .i64 a1, .string a2, .int .i64 n] (fun _ => True) (fun _ => False) rfl rfl (k47_mkM _ _ _ _) (fun _ h => h.elim) (fun _ _ => trivial) HP.out.1 HP.out.2.1 HP.out.2.2.1 HP.out.2.2.2 ?_; intro v1 w9 ho hb hg hat; have kk := HX.out w9 hb; have H9 := Lib.hid (And.intro ho hb); clear ho hb hg hat))
        go_wp2
        go_roundg (j + 1)
        case measure => have := HI.out.2.1; omega
        case rel =>
          refine ⟨j, (j : Int) - 1, by rw [HW.out], ⟨rfl, rfl, by have := HI.out.2.2.1; omega, ?_, H9.out.2⟩⟩
          rw [HD.out]
          exact H9.out.1
  · have q1 : (f2 != 0) = true := by simp [hf]
    have SF := Lib.hid (hsf hf)
    clear hrF hcF hrT hcT hF hT hs1 hl1 hs2 hl2 hsf hbk hR1 hR2 hf
    go_enter Try.func5, Try.ntmps5
    go_wp2_with (first
      | (go_at_call 16; refine (awake_walk _).mono ?_; rintro e w12 ⟨rfl, H12⟩; replace H12 := Lib.hid H12)
      | (go_at_call 21; refine (same_any A10 A4 c10 c4 L1 _ H10.out.1 H10.out.2.2 X10.out.was X10.out.cw X10.out.l1).mono ?_; rintro e w11 ⟨rfl, H11⟩; have X11 := Lib.hid (X10.out.step H11); clear H11)
      | (go_at_call 22; refine (told_gives X9.out.y X9.out.ry X9.out.l1).mono ?_; rintro e w10 ⟨A10, c10, rfl, H10⟩; have X10 := Lib.hid (X9.out.step H10.out.2.1))
      | (go_at_call 21; refine (same_any A8 A4 c8 c4 L1 _ H8.out.1 H8.out.2.2 X8.out.was X8.out.cw X8.out.l1).mono ?_; rintro e w9 ⟨rfl, H9⟩; have X9 := Lib.hid (X8.out.step H9); clear H9)
      | (go_at_call 22; refine (told_gives X7.out.x X7.out.rx X7.out.l1).mono ?_; rintro e w8 ⟨A8, c8, rfl, H8⟩; have X8 := Lib.hid (X7.out.step H8.out.2.1))
      | (go_at_call 19; refine (post_M (((H3.out.1.below H4.out.2.1).below H5.out.2).below H6.out.2) S1.out A6 c6 T H6.out.1 (by have := HT.out; omega) (by have := K1.out; omega) _ G2.out).mono ?_; rintro e w7 ⟨rfl, H7⟩; have X7 := Lib.hid (show XS w (w.heap.size + 1) w.heap.size (w4.heap.size + 1) w4.heap.size (w4.heap.size + 1) w4.heap.size M2 M1 M1 L1 L1 A4 A4 c4 c4 w7 from by
          have hlt : w.heap.size < w4.heap.size := Nat.lt_of_lt_of_le (H3.out.1.below H4.out.2.1).map.lt (Nat.le_refl _)
          have hbb := B5.out.trans (H6.out.2.mono B5.out.size)
          have hC := C82_grown (Kd.C_below (Kd.C_below H4.out.1 H5.out.2) H6.out.2) H7.out.2 (((H3.out.1.below H4.out.2.1).below H5.out.2).below H6.out.2).map
          have hy := (H5.out.1.below H6.out.2).far H7.out.2 (by omega) (by omega)
          exact ⟨H7.out.1, hy, hy, SF.out, S1.out.rep, S1.out.rep, (by have := K1.out; omega), (by have := K1.out; omega), hC, H4.out.2.2, hC, H4.out.2.2, hbb.grown H7.out.2 hbb.size (by simp)⟩))
      | (go_at_call 20; refine (entries_any B d T _ (Kd.C_below HB.out.1 B5.out) HB.out.2 (by have := HT.out; omega)).mono ?_; rintro e w6 ⟨A6, c6, rfl, H6⟩)
      | (go_at_call 24; refine (clone_hid (H3.out.1.below H4.out.2.1)).mono ?_; rintro e w5 ⟨rfl, H5⟩; have B5 := Lib.hid (B4.out.trans (H5.out.2.mono B4.out.size)))
      | (go_at_call 22; refine (told_gives H3.out.1 S1.out.rep (by have := K1.out; omega)).mono ?_; rintro e w4 ⟨A4, c4, rfl, H4⟩; have B4 := Lib.hid (B3.out.trans (H4.out.2.1.mono B3.out.size)))
      | (go_at_call 19; refine (post_M (H1.out.1.below H2.out.2) St.nil A2 c2 F H2.out.1 (by have := HF.out; omega) (by simp) _ G1.out).mono ?_; rintro e w3 ⟨rfl, H3⟩; have B3 := Lib.hid ((H1.out.2.trans (H2.out.2.mono H1.out.2.size)).grown H3.out.2 (Nat.le_trans H1.out.2.size H2.out.2.size) (by simp)))
      | (go_at_call 20; refine (entries_any A c F _ (Kd.C_below HA.out.1 H1.out.2) HA.out.2 (by have := HF.out; omega)).mono ?_; rintro e w2 ⟨A2, c2, rfl, H2⟩)
      | (go_at_call 17; refine (new_any _).mono ?_; rintro e w1 ⟨rfl, H1⟩; replace H1 := Lib.hid H1))
    go_ret
    exact ⟨rfl, X11.out.bl.trans (H12.out.mono X11.out.bl.size)⟩
theorem back_row (A : Option Addr) (c : Nat) (F : List S47) (B : Option Addr) (d : Nat) (T : List S47) (w : World) (_ : QS 72 Q47 F) (hrF : Kd.C k47 w A F.length F) (hcF : F.length ≤ c) (_ : QS 72 Q47 T) (hrT : Kd.C k47 w B T.length T) (hcT : T.length ≤ d) :
    Calls Try.prog 5 #[.slice A F.length c, .slice B T.length d] w fun e w' => e = .returned (.bool true) ∧ Below w.heap.size w w' := by
  by_cases h : 60 < F.length ∨ 60 < T.length
  · exact back_long A B c d F T w h
  · exact back_walk A B c d F T w (by omega) (by omega) hrF hcF hrT hcT
end Go.Proofs.Ytoknlpecbdlbfaa.PL

/- LedgerBack's row. -/
namespace Go.Proofs.Ytoknlpecbdlbfaa.ledgerBack
open Go Go.RowKit Go.ChangeShapes Go.WideShapes Go.ChangeAt Go.Proofs
open Go.ChangeMaps (open_string shut_string)
set_option linter.unusedVariables false
theorem own : ownKnob Try.prog.godebug = none := by kernel_rfl
set_option maxRecDepth 100000 in
theorem lifted (os : Os) (started : os.Started) (H : Type) (enc : TypeId × Value → H) :
    ReturnsInHanded {} Try.checked os 5 .any (Rows.ledgerBackSpec.pre6 enc Try.prog Try.f5 Rows.ledgerBackRow.domain false) (Rows.ledgerBackSpec.post enc Try.prog Try.f5 false true false false) := by
  refine returnsInHanded_of_change_sized (C := Try.checked) own started (by kernel_rfl) Try.func5
    (ChangeSpec.witness6 (enc := enc) (C := Try.checked) false ⟨#[], #[.slice none 0 0, .slice none 0 0], []⟩ 8 (by kernel_rfl) (by kernel_rfl) (by kernel_rfl) (by kernel_rfl)) ?_
  intro W base args ds gs before hval0 hW hcnd hsz0 _
  have hsz : (DataW.weightsEach Try.prog (Try.f5.params.toList ++ Rows.ledgerBackSpec.plain.varTypes Try.prog) (ds ++ gs)).all (· ≤ reachBytes) = true := hsz0
  have hval : ∀ (j : Nat) t v, Try.f5.params[j]? = some t → args[j]? = some v → Value.okWide Try.prog W .any base t v := hval0
  have hW' := hW
  obtain ⟨p, q, hA0, hV, rfl, hfz, hnd⟩ := hW
  have hA : DataW.TrodAll enc Try.prog W 0 (fun _ => true) true Try.f5.params.toList args.toList ds p := hA0
  rw [Try.params5] at hA hval hsz
  obtain ⟨v0, vs0, d0, ds0, p0, q0, hargs, rfl, rfl, h0, r0⟩ := trodAll_cons hA
  obtain ⟨v1, vs1, d1, ds1, p1, q1, rfl, rfl, rfl, h1, r1⟩ := trodAll_cons r0
  obtain ⟨rfl, rfl, rfl⟩ := trodAll_nil r1
  obtain rfl : args = #[v0, v1] := by cases args; simp_all
  obtain ⟨rfl, rfl⟩ := trodVars_none hV
  have k0 := h0
  have lt0 : ∀ x ∈ p0, x.block < W.heap.size := by obtain ⟨m, hm⟩ := k0; exact DataW.trod_lt m _ _ _ hm
  have sm0 : PL.Small 30 d0 := PL.small_arg hsz (j := 0) rfl rfl
  obtain ⟨a0, len0, cap0, rfl⟩ := okWide_slice Try.underlying30 (hval 0 30 v0 rfl rfl)
  obtain ⟨x0, rfl, hc0, hC0, hq0⟩ := PL.opened PL.opens30 h0 sm0
  have k1 := h1
  have lt1 : ∀ x ∈ p1, x.block < W.heap.size := by obtain ⟨m, hm⟩ := k1; exact DataW.trod_lt m _ _ _ hm
  have sm1 : PL.Small 30 d1 := PL.small_arg hsz (j := 1) rfl rfl
  obtain ⟨a1, len1, cap1, rfl⟩ := okWide_slice Try.underlying30 (hval 1 30 v1 rfl rfl)
  obtain ⟨x1, rfl, hc1, hC1, hq1⟩ := PL.opened PL.opens30 h1 sm1
  clear hA0 hval0 hsz0 hsz
  refine (PL.back_row a0 cap0 x0 a1 cap1 x1 W hq0 hC0 hc0 hq1 hC1 hc1).mono fun e W' ⟨he, bel⟩ => ?_
  subst he
  exact ⟨_, rfl, _, _, _, [], _, [], hW', trodAll_mk1 (shut_bool Try.underlying4 _), (trodAll_cons_mk (Below.trod PL.laidOut (by kernel_rfl) (of_decide_eq_true (by kernel_rfl)) k0 bel lt0) (trodAll_cons_mk (Below.trod PL.laidOut (by kernel_rfl) (of_decide_eq_true (by kernel_rfl)) k1 bel lt1) trodAll_mk0)), rfl, bel.frame _, fun h => by cases h⟩
theorem over : Rows.ledgerBackRow.holds Try.pinned (OpenSpec.ofChange Rows.ledgerBackSpec) :=
  OpenClaim.holds_of_wide 5 Try.f5 rfl rfl rfl rfl rfl rfl rfl ⟨rfl, rfl, rfl, rfl, rfl⟩ rfl rfl rfl rfl rfl (by kernel_rfl) Try.func5 (by kernel_rfl)
    (of_decide_eq_true (by kernel_rfl)) (by unfold Func.isWrapper; first | (rw [if_pos (by decide +kernel)]; kernel_rfl) | (rw [if_neg (by decide +kernel)]; exact ⟨rfl, rfl⟩))
    (fun os started H enc _ => lifted os started H enc)
theorem proved : Rows.LedgerBackSaid := over
end Go.Proofs.Ytoknlpecbdlbfaa.ledgerBack
namespace Go.Proofs.Ytoknlpecbdlbfaa
/-- The row, under a short name, for the claim. -/
theorem ledgerBack_holds : Rows.LedgerBackSaid := ledgerBack.proved
end Go.Proofs.Ytoknlpecbdlbfaa
