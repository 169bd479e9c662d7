/- LedgerOf holds: whatever balances come in (more than a hundred are let go, as the statement says), the program's ledger.Of finds wrong with them just what the document's own Of finds, a ledger is made just when nothing is, and it has just these balances; and the chapter's example holds. No condition on the inputs. -/
import Derived.Test.YtoknlpecbdlbfaaG5
import Derived.StringKeys
import Derived.Maps.RangeWalk
import Derived.Test.YtoknlpecbdlbfaaPLx12
import Derived.Test.YtoknlpecbdlbfaaRows
import Derived.WalkKit
import Derived.ProofKit
import Derived.OpenShut
import Derived.ShutString
import Derived.ChangeOld
import Derived.Below
import Derived.SizedLaws

-- Entries turned about take back what they did: the plain law.
namespace Go.Proofs.Ytoknlpecbdlbfaa.PL
open Go Go.RowKit Go.Maps Go.Sort Go.Shelf Go.Proofs Go.Proofs.YtoknlpecbdlbfaaW.PrintWords Go.Proofs.YtoknlpecbdlbfaaW.PrintLast
/-- None but the world has less than nothing. -/
def NN (M : List (S42 × Int)) : Prop := ∀ a, a.f0 ≠ 0 → 0 ≤ getM M a
/-- Two maps that have the same. -/
def Eqv (M M' : List (S42 × Int)) : Prop := ∀ a, getM M a = getM M' a
theorem Eqv.put {M M' : List (S42 × Int)} (h : Eqv M M') (a : S42) (n : Int) : Eqv (putM M a n) (putM M' a n) := by
  intro c
  rw [getM_putM, getM_putM, h c]
theorem NN.nil : NN [] := fun a _ => by simp [getM]
theorem NN.of {M M' : List (S42 × Int)} (h : NN M) (he : Eqv M' M) : NN M' := fun a ha => by rw [he a]; exact h a ha
theorem NN.put {M : List (S42 × Int)} (h : NN M) (a : S42) {n : Int} (hn : a.f0 ≠ 0 → 0 ≤ n) : NN (putM M a n) := by
  intro c hc
  rw [getM_putM]
  split
  · rename_i e
    subst e
    exact hn hc
  · exact h c hc
theorem Eqv.back (M : List (S42 × Int)) (a : S42) (m : Int) : Eqv (putM (putM M a (getM M a - m)) a (getM M a - m + m)) M := by
  intro c
  rw [getM_putM, getM_putM]
  split
  · rename_i e
    subst e
    omega
  · rfl
theorem NN.move {M : List (S42 × Int)} (h : NN M) (e : S107) : NN (moveM M e).1 := by
  unfold moveM
  split
  · exact h
  · rename_i hck
    have hck' := check_good (Classical.not_not.1 hck)
    split
    · exact h
    · rename_i hf
      split
      · exact h
      · split
        · exact h.of (Eqv.back M e.f0 e.f2)
        · have h1 : NN (putM M e.f0 (getM M e.f0 - e.f2)) := h.put _ (fun hz => by
            refine Classical.byContradiction fun hc => hf ⟨hz, ?_⟩
            omega)
          exact h1.put _ (fun hz => by have := h1 e.f1 hz; have := hck'.1; omega)
theorem moveM_congr {M M' : List (S42 × Int)} (h : Eqv M M') (e : S107) : (moveM M e).2 = (moveM M' e).2 ∧ Eqv (moveM M e).1 (moveM M' e).1 := by
  have h1 := h e.f0
  have h2 := (h.put e.f0 (getM M e.f0 - e.f2)) e.f1
  unfold moveM
  rw [← h1, ← h2]
  split
  · exact ⟨rfl, h⟩
  · split
    · exact ⟨rfl, h⟩
    · split
      · exact ⟨rfl, h⟩
      · split
        · exact ⟨rfl, (h.put _ _).put _ _⟩
        · exact ⟨rfl, (h.put _ _).put _ _⟩
/-- An entry turned about. -/
def sw (e : S107) : S107 := ⟨e.f1, e.f0, e.f2⟩
theorem check_sw {e : S107} (h : checkI e = 0) : checkI (sw e) = 0 := by
  obtain ⟨h1, h2, h3, h4, h5⟩ := check_good h
  unfold checkI sw
  simp only
  rw [if_neg (by omega), if_neg (by rw [h4]; simp), if_neg (by rw [h3]; simp), if_pos h5.symm]
theorem getM_move {M : List (S42 × Int)} {e : S107} (h : (moveM M e).2 = 0) (a : S42) : getM (moveM M e).1 a = if a = e.f1 then (if e.f1 = e.f0 then getM M e.f0 else getM M e.f1 + e.f2) else if a = e.f0 then getM M e.f0 - e.f2 else getM M a := by
  rw [move_ok h, getM_putM, getM_putM, getM_putM]
  split
  · split
    · omega
    · rfl
  · rfl
theorem move_conds {M : List (S42 × Int)} {e : S107} (h : (moveM M e).2 = 0) : checkI e = 0 ∧ ¬ (e.f0.f0 ≠ 0 ∧ getM M e.f0 - e.f2 < 0) ∧ ¬ (getM M e.f0 - e.f2 < -72057594037927936) := by
  have hck := moveM_ok h
  unfold moveM at h
  rw [if_neg (by simpa using hck)] at h
  by_cases c1 : e.f0.f0 ≠ 0 ∧ getM M e.f0 - e.f2 < 0
  · rw [if_pos c1] at h
    exact absurd (show (20 : Int) = 0 from h) (by decide)
  · rw [if_neg c1] at h
    by_cases c2 : getM M e.f0 - e.f2 < -72057594037927936
    · rw [if_pos c2] at h
      exact absurd (show (9 : Int) = 0 from h) (by decide)
    · exact ⟨hck, c1, c2⟩
theorem move_sw {M M' : List (S42 × Int)} {e : S107} (hn : NN M) (hB : BM M) (hok : (moveM M e).2 = 0) (he : Eqv M' (moveM M e).1) : (moveM M' (sw e)).2 = 0 ∧ Eqv (moveM M' (sw e)).1 M := by
  obtain ⟨hck, c1, c2⟩ := move_conds hok
  have hm := check_good hck
  have g1 : getM M' e.f1 = if e.f1 = e.f0 then getM M e.f0 else getM M e.f1 + e.f2 := by
    rw [he, getM_move hok, if_pos rfl]
  have g0 : getM M' e.f0 = if e.f0 = e.f1 then getM M e.f0 else getM M e.f0 - e.f2 := by
    rw [he, getM_move hok]
    by_cases q : e.f0 = e.f1
    · rw [if_pos q, if_pos q, if_pos q.symm]
    · rw [if_neg q, if_neg q, if_pos rfl]
  have hb0 := hB e.f0
  have hb1 := hB e.f1
  have hok2 : (moveM M' (sw e)).2 = 0 := by
    unfold moveM
    rw [if_neg (by simpa using check_sw hck)]
    show (if e.f1.f0 ≠ 0 ∧ getM M' e.f1 - e.f2 < 0 then (M', (20 : Int)) else _).2 = 0
    rw [if_neg, if_neg, if_neg]
    · show ¬ 72057594037927936 < getM (putM M' e.f1 (getM M' e.f1 - e.f2)) e.f0 + e.f2
      rw [getM_putM]
      by_cases q : e.f0 = e.f1
      · rw [if_pos q, g1, if_pos q.symm]
        omega
      · rw [if_neg q, g0, if_neg q]
        omega
    · show ¬ getM M' e.f1 - e.f2 < -72057594037927936
      rw [g1]
      split
      · exact c2
      · omega
    · rintro ⟨q1, q2⟩
      rw [g1] at q2
      by_cases q : e.f1 = e.f0
      · rw [if_pos q] at q2
        rw [q] at q1
        exact c1 ⟨q1, q2⟩
      · rw [if_neg q] at q2
        have := hn e.f1 q1
        omega
  refine ⟨hok2, fun a => ?_⟩
  rw [getM_move hok2]
  show (if a = e.f0 then (if e.f0 = e.f1 then getM M' e.f1 else getM M' e.f0 + e.f2) else if a = e.f1 then getM M' e.f1 - e.f2 else getM M' a) = getM M a
  by_cases q : e.f0 = e.f1
  · by_cases qa : a = e.f0
    · rw [if_pos qa, if_pos q, g1, if_pos q.symm, qa]
    · have qa1 : ¬ a = e.f1 := fun h => qa (h.trans q.symm)
      rw [if_neg qa, if_neg qa1, he, getM_move hok, if_neg qa1, if_neg qa]
  · by_cases qa : a = e.f0
    · rw [if_pos qa, if_neg q, g0, if_neg q, qa]
      omega
    · rw [if_neg qa]
      by_cases qb : a = e.f1
      · rw [if_pos qb, g1, if_neg (fun h => q h.symm), qb]
        omega
      · rw [if_neg qb, he, getM_move hok, if_neg qb, if_neg qa]
/-- All entries are done. -/
def allOk (M : List (S42 × Int)) : List S107 → Prop
  | [] => True
  | e :: r => (moveM M e).2 = 0 ∧ allOk (moveM M e).1 r
/-- What they come to. -/
def fin (M : List (S42 × Int)) : List S107 → List (S42 × Int)
  | [] => M
  | e :: r => fin (moveM M e).1 r
theorem post_allOk : ∀ (l done : List S107) (M : List (S42 × Int)), (postL done M l).2.2 = 0 → allOk M l ∧ (postL done M l).1 = fin M l
  | [], _, _, _ => ⟨trivial, rfl⟩
  | e :: r, done, M, h => by
    unfold postL at h ⊢
    by_cases c : (moveM M e).2 = 0
    · rw [if_pos c] at h ⊢
      obtain ⟨h1, h2⟩ := post_allOk r (e :: done) _ h
      exact ⟨⟨c, h1⟩, h2⟩
    · rw [if_neg c] at h
      exact absurd h c
theorem allOk_post : ∀ (l done : List S107) (M : List (S42 × Int)), allOk M l → (postL done M l).2.2 = 0 ∧ (postL done M l).1 = fin M l
  | [], _, _, _ => ⟨rfl, rfl⟩
  | e :: r, done, M, h => by
    unfold postL
    rw [if_pos h.1]
    exact allOk_post r (e :: done) _ h.2
theorem allOk_append : ∀ (l l' : List S107) (M : List (S42 × Int)), allOk M l → allOk (fin M l) l' → allOk M (l ++ l') ∧ fin M (l ++ l') = fin (fin M l) l'
  | [], _, _, _, h => ⟨h, rfl⟩
  | e :: r, l', M, h, h' => by
    obtain ⟨h1, h2⟩ := allOk_append r l' (moveM M e).1 h.2 h'
    exact ⟨⟨h.1, h1⟩, h2⟩
theorem back_ok : ∀ (l : List S107) (M M' : List (S42 × Int)), NN M → BM M → allOk M l → Eqv M' (fin M l) → allOk M' (l.map sw).reverse ∧ Eqv (fin M' (l.map sw).reverse) M
  | [], _, _, _, _, _, he => ⟨trivial, he⟩
  | e :: r, M, M', hn, hB, h, he => by
    obtain ⟨h1, h2⟩ := back_ok r (moveM M e).1 M' (hn.move e) (hB.move e) h.2 he
    obtain ⟨h3, h4⟩ := move_sw hn hB h.1 h2
    rw [List.map_cons, List.reverse_cons]
    obtain ⟨h5, h6⟩ := allOk_append (r.map sw).reverse [sw e] M' h1 ⟨h3, trivial⟩
    refine ⟨h5, ?_⟩
    rw [h6]
    exact h4
theorem fin_NN : ∀ (l : List S107) (M : List (S42 × Int)), NN M → NN (fin M l)
  | [], _, h => h
  | e :: r, M, h => fin_NN r _ (h.move e)
/-- A post that can't be done leaves the document's list. -/
theorem pst_fail : ∀ (x : List S107) (L0 : List S82) (n : Nat) (L : List S82), (pstL L0 n L x).2.2 ≠ 0 → (pstL L0 n L x).1 = L0
  | [], L0, n, L, h => by
    unfold pstL at h
    exact absurd rfl h
  | e :: r, L0, n, L, h => by
    unfold pstL at h ⊢
    by_cases c : (mvL L e).2 = 0
    · rw [if_pos c] at h ⊢
      exact pst_fail r L0 (n + 1) _ h
    · rw [if_neg c]
/-- NN holds behind every post. -/
theorem NN.post {M : List (S42 × Int)} {L : List S82} (hr : Rep M L) (hB : BM M) (hn : NN M) (l : List S107) : NN (postL [] M l).1 := by
  obtain ⟨e1, e2, e3, e4⟩ := rep_post0 hr hB l
  by_cases c : (postL [] M l).2.2 = 0
  · rw [(post_allOk l [] M c).2]
    exact fin_NN l M hn
  · rw [e2] at c
    have h1 := pst_fail l L 0 L c
    rw [h1] at e3
    refine hn.of (fun a => ?_)
    rw [e3.same, hr.same]
/-- What LedgerBack says, of maps. -/
theorem post_back {M : List (S42 × Int)} {L : List S82} (hr : Rep M L) (hB : BM M) (hn : NN M) (l : List S107) (hok : (postL [] M l).2.2 = 0) :
    (postL [] (postL [] M l).1 (l.map sw).reverse).2.2 = 0 ∧ Rep (postL [] (postL [] M l).1 (l.map sw).reverse).1 L := by
  obtain ⟨e1, e2, e3, e4⟩ := rep_post0 hr hB l
  obtain ⟨h1, h2⟩ := post_allOk l [] M hok
  obtain ⟨h3, h4⟩ := back_ok l M (postL [] M l).1 hn hB h1 (fun a => by rw [h2])
  obtain ⟨h5, h6⟩ := allOk_post _ [] _ h3
  refine ⟨h5, hr.of ?_ (fun a => by rw [h6]; exact h4 a)⟩
  exact (rep_post0 e3 e4 _).2.2.1.ok
end Go.Proofs.Ytoknlpecbdlbfaa.PL

-- LedgerBack, walked.
namespace Go.Proofs.Ytoknlpecbdlbfaa.PL
open Go Go.RowKit Go.Maps Go.Sort Go.Shelf Go.Proofs Go.Proofs.YtoknlpecbdlbfaaW.PrintWords Go.Proofs.YtoknlpecbdlbfaaW.PrintLast
theorem info47 : (Try.prog.info? 47).map (fun i => (i.zero, i.size, i.bytes)) = some (some (.agg #[(.int .i64 0), (.int .i64 0), (.string ⟨#[]⟩), (.int .i64 0), (.int .i64 0), (.string ⟨#[]⟩), (.int .i64 0)]), 7, 72) := by kernel_rfl
/-- A map, the document's list, and what is known of both. -/
structure St (M : List (S42 × Int)) (L : List S82) : Prop where
  rep : Rep M L
  bm : BM M
  nn : NN M
theorem St.nil : St [] [] := ⟨Rep.nil, BM.nil, NN.nil⟩
theorem St.post {M : List (S42 × Int)} {L : List S82} (h : St M L) (l : List S107) : St (postL [] M l).1 (pstL L 0 L l).1 := by
  obtain ⟨e1, e2, e3, e4⟩ := rep_post0 h.rep h.bm l
  exact ⟨e3, e4, h.nn.post h.rep h.bm l⟩
theorem St.fail {M : List (S42 × Int)} {L : List S82} (h : St M L) (l : List S107) (hf : (postL [] M l).2.2 ≠ 0) : Rep (postL [] M l).1 L := by
  obtain ⟨e1, e2, e3, e4⟩ := rep_post0 h.rep h.bm l
  rw [e2] at hf
  rw [pst_fail l L 0 L hf] at e3
  exact e3
theorem post_M {g b : Nat} {M : List (S42 × Int)} {L : List S82} {w : World} (h : LG w g b M) (hs : St M L) (A : Option Addr) (c : Nat) (xs : List S47) (hC : Kd.C k107 w A xs.length (xs.map toE)) (hx : xs.length ≤ 4096) (hL : L.length ≤ 1000000) (R : List (S42 × Int) × Int × Int) (hR : postL [] M (xs.map toE) = R) :
    Calls Try.prog 19 #[.pointer (some ⟨g, 0, none⟩), .slice A xs.length c] w fun e w' => e = .returned (.tuple #[.int .i64 R.2.1, .int .i64 R.2.2]) ∧ Hid (LG w' g b R.1 ∧ w.grownBy w' (some b)) := by
  have hlen := rep_length hs.rep
  have h1 := post_any h hs.bm A c (xs.map toE) (by rw [List.length_map]; exact hC) (by rw [List.length_map]; exact hx) (by rw [List.length_map]; unfold maxLen; omega)
  rw [List.length_map, hR] at h1
  exact h1
theorem clone_hid {g b : Nat} {M : List (S42 × Int)} {w : World} (h : LG w g b M) :
    Calls Try.prog 24 #[.pointer (some ⟨g, 0, none⟩)] w fun e w' => e = .returned (.pointer (some ⟨w.heap.size + 1, 0, none⟩)) ∧ Hid (LG w' (w.heap.size + 1) w.heap.size M ∧ Below w.heap.size w w') :=
  clone_any h
/-- What is told at the end: the ledger, its two clones, and what was told before. -/
structure XS (w : World) (g b gy by' gz bz : Nat) (Mx My Mz : List (S42 × Int)) (L1 L2 : List S82) (A1 A2 : Option Addr) (c1 c2 : Nat) (W : World) : Prop where
  x : LG W g b Mx
  y : LG W gy by' My
  z : LG W gz bz Mz
  rx : Rep Mx L1
  ry : Rep My L1
  rz : Rep Mz L2
  l1 : L1.length ≤ 1000000
  l2 : L2.length ≤ 1000000
  was : Kd.C k82 W A1 L1.length L1
  cw : L1.length ≤ c1
  now : Kd.C k82 W A2 L2.length L2
  cn : L2.length ≤ c2
  bl : Below w.heap.size w W
theorem XS.step {w : World} {g b gy by' gz bz : Nat} {Mx My Mz : List (S42 × Int)} {L1 L2 : List S82} {A1 A2 : Option Addr} {c1 c2 : Nat} {W W' : World} (h : XS w g b gy by' gz bz Mx My Mz L1 L2 A1 A2 c1 c2 W) (hb : Below W.heap.size W W') : XS w g b gy by' gz bz Mx My Mz L1 L2 A1 A2 c1 c2 W' :=
  ⟨h.x.below hb, h.y.below hb, h.z.below hb, h.rx, h.ry, h.rz, h.l1, h.l2, Kd.C_below h.was hb, h.cw, Kd.C_below h.now hb, h.cn, h.bl.trans (hb.mono h.bl.size)⟩
/-- An entry turned about, as it comes in. -/
def swE (e : S47) : S47 := ⟨e.f1, e.f0, e.f2⟩
theorem toE_sw (T : List S47) : ((T.map swE).reverse).map toE = ((T.map toE).map sw).reverse := by
  rw [List.map_reverse, List.map_map, List.map_map]
  rfl
set_option maxRecDepth 100000 in
theorem back_long (A B : Option Addr) (c d : Nat) (F T : List S47) (w : World) (h : 60 < F.length ∨ 60 < T.length) :
    Calls Try.prog 5 #[.slice A F.length c, .slice B T.length d] w fun e w' => e = .returned (.bool true) ∧ Below w.heap.size w w' := by
  by_cases c1 : 60 < F.length
  · have p1 : ((F.length : Int) > 60) = True := eq_true (by omega)
    clear c1 h
    go_enter Try.func5, Try.ntmps5
    go_wp2_with (go_at_call 16; refine (awake_walk _).mono ?_; rintro e w2 ⟨rfl, H2⟩; replace H2 := Lib.hid H2)
    go_ret
    exact ⟨rfl, H2.out⟩
  · have p1 : ((F.length : Int) > 60) = False := eq_false (by omega)
    have p2 : ((T.length : Int) > 60) = True := eq_true (by omega)
    clear c1 h
    go_enter Try.func5, Try.ntmps5
    go_wp2_with (go_at_call 16; refine (awake_walk _).mono ?_; rintro e w2 ⟨rfl, H2⟩; replace H2 := Lib.hid H2)
    go_ret
    exact ⟨rfl, H2.out⟩
end Go.Proofs.Ytoknlpecbdlbfaa.PL

-- A map of things in memory.
namespace Go.Proofs.Ytoknlpecbdlbfaa.PL
open Go.RowKit Go.Maps Go.MapKept
open Go.ChangeMaps (setBlock)
open Go.WideElems (Fit rd rd_mk rd_key rd_val other_key)
theorem law9 : Keyed Try.prog 9 := Keyed.of_law (Go.WideMaps.string_law Try.underlying9)
/-- A thing's value. -/
def ks (s : ByteArray) : Value := .string s
theorem ks_inj {a b : ByteArray} (h : ks a = ks b) : a = b := by
  injection h
theorem keyOf_ks {a : ByteArray} (h : a.size ≤ maxLen) : ∃ l, keyOf Try.prog 9 (ks a) = some l := by
  unfold ks
  exact ⟨_, Go.WideMaps.keyOf_string_mk Try.underlying9 h⟩
instance memDec (a : ByteArray) (l : List ByteArray) : Decidable (a ∈ l) := decidable_of_iff (∃ x ∈ l, x = a) ⟨fun ⟨_, h, e⟩ => e ▸ h, fun h => ⟨a, h, rfl⟩⟩
/-- What a thing has; a store: over the list of the map's entries. -/
def getT : List (ByteArray × Int) → ByteArray → Int
  | [], _ => 0
  | p :: r, a => if p.1 = a then p.2 else getT r a
def setT (M : List (ByteArray × Int)) (a : ByteArray) (n : Int) : List (ByteArray × Int) := if a ∈ M.map Prod.fst then M.map (fun p => if p.1 = a then (a, n) else p) else M ++ [(a, n)]
theorem getT_none {M : List (ByteArray × Int)} {a : ByteArray} (h : a ∉ M.map Prod.fst) : getT M a = 0 := by
  induction M with
  | nil => rfl
  | cons p r ih =>
    simp only [List.map_cons, List.mem_cons, not_or] at h
    unfold getT
    rw [if_neg (fun e => h.1 e.symm), ih h.2]
theorem getT_at {M : List (ByteArray × Int)} (hn : (M.map Prod.fst).Nodup) : ∀ {j : Nat} {a : ByteArray} {n : Int}, M[j]? = some (a, n) → getT M a = n := by
  induction M with
  | nil => intro j a n h; simp at h
  | cons p r ih =>
    intro j a n h
    simp only [List.map_cons, List.nodup_cons] at hn
    unfold getT
    cases j with
    | zero =>
      simp at h
      subst h
      rw [if_pos rfl]
    | succ j =>
      simp at h
      have hm : a ∈ r.map Prod.fst := List.mem_map.2 ⟨(a, n), List.mem_of_getElem? h, rfl⟩
      rw [if_neg (fun e => hn.1 (by rw [e]; exact hm)), ih hn.2 h]
theorem setT_at {M : List (ByteArray × Int)} (hn : (M.map Prod.fst).Nodup) {j : Nat} {a : ByteArray} {n m : Int} (h : M[j]? = some (a, n)) : setT M a m = M.set j (a, m) := by
  have hm : a ∈ M.map Prod.fst := List.mem_map.2 ⟨(a, n), List.mem_of_getElem? h, rfl⟩
  unfold setT
  rw [if_pos hm]
  clear hm
  induction M generalizing j with
  | nil => simp at h
  | cons p r ih =>
    simp only [List.map_cons, List.nodup_cons] at hn
    cases j with
    | zero =>
      simp at h
      subst h
      simp only [List.map_cons, if_true, List.set_cons_zero, List.cons.injEq, true_and]
      have : ∀ q ∈ r, (if q.1 = a then (a, m) else q) = q := by
        intro q hq
        rw [if_neg]
        intro e
        exact hn.1 (List.mem_map.2 ⟨q, hq, e⟩)
      rw [List.map_congr_left this]; simp
    | succ j =>
      simp at h
      have hm : a ∈ r.map Prod.fst := List.mem_map.2 ⟨(a, n), List.mem_of_getElem? h, rfl⟩
      rw [List.map_cons, if_neg (fun e => hn.1 (by rw [e]; exact hm)), List.set_cons_succ, ih hn.2 h]
/-- Block b holds the map M (in the order in which the entries lie). -/
def SM (w : World) (b : Nat) (M : List (ByteArray × Int)) : Prop :=
  ∃ es clock, w.heap[b]? = some (.map es clock) ∧ Fit (H := Unit) Try.prog 9 (plainElem Try.prog 3) es clock ∧ es.toList.map (fun e => (e.key, e.val)) = M.map (fun p => (ks p.1, Value.int .i64 p.2))
theorem SM.lt {w : World} {b : Nat} {M : List (ByteArray × Int)} (h : SM w b M) : b < w.heap.size := by
  obtain ⟨es, clock, hb, _⟩ := h
  exact (Array.getElem?_eq_some_iff.1 hb).1
theorem SM.move {w w' : World} {b : Nat} {M : List (ByteArray × Int)} (h : SM w b M) (hm : w'.heap[b]? = w.heap[b]?) : SM w' b M := by
  obtain ⟨es, clock, hb, rest⟩ := h
  exact ⟨es, clock, hm.trans hb, rest⟩
theorem SM.grown {w w' : World} {b : Nat} {M : List (ByteArray × Int)} {row : Option Nat} (h : SM w b M) (hg : w.grownBy w' row) (hr : some b ≠ row) : SM w' b M := h.move (hg.block b h.lt hr)
theorem SM.below {w w' : World} {b : Nat} {M : List (ByteArray × Int)} (h : SM w b M) (hb : Below w.heap.size w w') : SM w' b M := h.move (hb.block b h.lt)
theorem SM.get {es : Array MapEntry} {M : List (ByteArray × Int)} (hM : es.toList.map (fun e => (e.key, e.val)) = M.map (fun p => (ks p.1, Value.int .i64 p.2))) {j : Nat} {e : MapEntry} (h : es.toList[j]? = some e) : ∃ p, M[j]? = some p ∧ e.key = ks p.1 ∧ e.val = .int .i64 p.2 := by
  have h1 : (es.toList.map (fun e => (e.key, e.val)))[j]? = some (e.key, e.val) := by rw [List.getElem?_map, h]; rfl
  rw [hM, List.getElem?_map] at h1
  cases hp : M[j]? with
  | none => rw [hp] at h1; cases h1
  | some p =>
    rw [hp] at h1
    simp at h1
    exact ⟨p, rfl, h1.1.symm, h1.2.symm⟩
theorem SM.nodup_of {es : Array MapEntry} {clock : Nat} {M : List (ByteArray × Int)} (F : Fit (H := Unit) Try.prog 9 (plainElem Try.prog 3) es clock) (hM : es.toList.map (fun e => (e.key, e.val)) = M.map (fun p => (ks p.1, Value.int .i64 p.2))) : (M.map Prod.fst).Nodup := by
  have hn : es.toList.Pairwise (fun x y => x.key ≠ y.key) := ((stamped_iff es clock).1 F.stamped).2.2
  have h1 : (es.toList.map (fun e => (e.key, e.val))).Pairwise (fun x y => x.1 ≠ y.1) := List.pairwise_map.2 hn
  rw [hM] at h1
  exact List.pairwise_map.2 ((List.pairwise_map.1 h1).imp (fun hne e => hne (by show ks _ = ks _; rw [e])))
theorem SM.nodup {w : World} {b : Nat} {M : List (ByteArray × Int)} (h : SM w b M) : (M.map Prod.fst).Nodup := by
  obtain ⟨es, clock, hb, F, hM⟩ := h
  exact SM.nodup_of F hM
theorem SM.none_of {es : Array MapEntry} {M : List (ByteArray × Int)} {a : ByteArray} (hM : es.toList.map (fun e => (e.key, e.val)) = M.map (fun p => (ks p.1, Value.int .i64 p.2))) (h : ∀ e ∈ es.toList, e.key ≠ ks a) : a ∉ M.map Prod.fst := by
  intro hm
  obtain ⟨p, hp, rfl⟩ := List.mem_map.1 hm
  have : (ks p.1, Value.int .i64 p.2) ∈ es.toList.map (fun e => (e.key, e.val)) := by rw [hM]; exact List.mem_map.2 ⟨p, hp, rfl⟩
  obtain ⟨e, he, hee⟩ := List.mem_map.1 this
  exact h e he (by simp at hee; exact hee.1)
/-- x.m[a]. -/
theorem SM.lookup {w : World} {b : Nat} {M : List (ByteArray × Int)} (h : SM w b M) {a : ByteArray} (ha : a.size ≤ maxLen) : (Instr.lookup 40 (.map (some b)) (ks a) false).run Try.prog w = .ok (.int .i64 (getT M a)) w := by
  obtain ⟨es, clock, hb, F, hM⟩ := h
  obtain ⟨l, hkey⟩ := keyOf_ks ha
  have hn := SM.nodup_of F hM
  rcases law9.find w hkey es.toList F.keys with ⟨h1, h2⟩ | ⟨j, e0, h1, h2, h3⟩
  · rw [getT_none (SM.none_of hM h2)]
    simp [Instr.lookup, run_underlying Try.underlying40, MapKept.run_getObj_map hb, law9.check w _ hkey, h1, zero3 w, Result.andThen]
  · obtain ⟨p, hp, e1, e2⟩ := SM.get hM h2
    obtain rfl : p.1 = a := ks_inj (e1.symm.trans h3)
    rw [getT_at hn (n := p.2) hp]
    simp [Instr.lookup, run_underlying Try.underlying40, MapKept.run_getObj_map hb, law9.check w _ hkey, h1, e2, Result.andThen]
/-- x.m[a] = n. -/
theorem SM.store {w : World} {b : Nat} {M : List (ByteArray × Int)} (h : SM w b M) {a : ByteArray} (ha : a.size ≤ maxLen) {n : Int} (hn : (Lit.int .i64 n).wf = true) (hroom : M.length < maxLen) :
    ∃ w', (Instr.mapUpdate 40 (.map (some b)) (ks a) (.int .i64 n)).run Try.prog w = .ok () w' ∧ SM w' b (setT M a n) ∧ w.grownBy w' (some b) ∧ w'.heap.size = w.heap.size := by
  obtain ⟨es, clock, hb, F, hM⟩ := h
  obtain ⟨l, hkey⟩ := keyOf_ks ha
  have hnd := SM.nodup_of F hM
  have hlen : es.size = M.length := by have := congrArg List.length hM; simpa using this
  have hv : plainElem (H := Unit) Try.prog 3 (.int .i64 n) = some (.lit (.int .i64 n), []) := plainElem_int Try.underlying3 hn
  rcases law9.find w hkey es.toList F.keys with ⟨h1, h2⟩ | ⟨j, e0, h1, h2, h3⟩
  · refine ⟨setBlock w b (.map (es.push ⟨ks a, .int .i64 n, clock⟩) (clock + 1)), ?_, ⟨_, _, Go.ChangeMaps.heap_setBlock_same hb _, ⟨by simp; omega, stamped_push F.stamped h2, ?_⟩, ?_⟩, grown_setBlock hb, by simp [setBlock]⟩
    · simp [Instr.mapUpdate, run_underlying Try.underlying40, MapKept.run_getObj_map hb, law9.check w false hkey, h1, MapKept.run_setObj_map _ hb, Result.andThen, setBlock]
    · intro x hx
      simp only [Array.toList_push, List.mem_append, List.mem_singleton] at hx
      rcases hx with hx | rfl
      · exact F.reads x hx
      · exact ⟨_, rd_mk hkey hv⟩
    · unfold setT
      rw [if_neg (SM.none_of hM h2), Array.toList_push, List.map_append, List.map_append, hM]
      rfl
  · have hj : es[j]? = some e0 := by simpa using h2
    obtain ⟨p, hp, e1, e2⟩ := SM.get hM h2
    obtain rfl : p.1 = a := ks_inj (e1.symm.trans h3)
    have hkeyf : ∀ e', es[j]? = some e' → ({ e' with key := ks p.1, val := .int .i64 n } : MapEntry).key = e'.key := fun e' he' => by rw [hj] at he'; cases he'; exact h3.symm
    have hlist : (es.modify j (fun e' => { e' with key := ks p.1, val := .int .i64 n })).toList = es.toList.set j { e0 with key := ks p.1, val := .int .i64 n } := by rw [Array.toList_modify, Go.ChangeMaps.modify_eq_set _ _ _ _ h2]
    refine ⟨setBlock w b (.map (es.modify j (fun e' => { e' with key := ks p.1, val := .int .i64 n })) clock), ?_, ⟨_, _, Go.ChangeMaps.heap_setBlock_same hb _, ⟨by simpa using F.size, stamped_modify F.stamped _ _ (fun _ _ => rfl) (fun e' _ he' => hkeyf e' he'), ?_⟩, ?_⟩, grown_setBlock hb, by simp [setBlock]⟩
    · simp [Instr.mapUpdate, run_underlying Try.underlying40, MapKept.run_getObj_map hb, law9.check w false hkey, h1, hj, h3, law9.stays w hkey, MapKept.run_setObj_map _ hb, Result.andThen, setBlock]
    · intro x hx
      rw [hlist] at hx
      rcases List.mem_or_eq_of_mem_set hx with hx | rfl
      · exact F.reads x hx
      · exact ⟨_, rd_mk hkey hv⟩
    · rw [hlist, List.map_set, hM, setT_at hnd (n := p.2) hp, List.map_set]
end Go.Proofs.Ytoknlpecbdlbfaa.PL

-- Of each thing all accounts together have nothing: the plain law.
namespace Go.Proofs.Ytoknlpecbdlbfaa.PL
open Go Go.RowKit Go.Maps Go.Sort Go.Shelf Go.Proofs Go.Proofs.YtoknlpecbdlbfaaW.PrintWords Go.Proofs.YtoknlpecbdlbfaaW.PrintLast
theorem getT_append {M R : List (ByteArray × Int)} {a : ByteArray} : getT (M ++ R) a = if a ∈ M.map Prod.fst then getT M a else getT R a := by
  induction M with
  | nil => simp
  | cons p r ih =>
    simp only [List.cons_append, getT, List.map_cons, List.mem_cons]
    by_cases e : p.1 = a
    · rw [if_pos e, if_pos (.inl e.symm), if_pos e]
    · rw [if_neg e, ih, if_neg e]
      by_cases h : a ∈ r.map Prod.fst
      · rw [if_pos h, if_pos (.inr h)]
      · rw [if_neg h, if_neg (fun x => x.elim (fun x => e x.symm) h)]
theorem getT_map_set (M : List (ByteArray × Int)) (a c : ByteArray) (n : Int) : getT (M.map (fun p => if p.1 = a then (a, n) else p)) c = if c = a ∧ a ∈ M.map Prod.fst then n else getT M c := by
  induction M with
  | nil => simp [getT]
  | cons p r ih =>
    simp only [List.map_cons, getT, List.mem_cons]
    by_cases e : p.1 = a
    · rw [if_pos e]
      by_cases hc : a = c
      · subst hc
        rw [if_pos rfl, if_pos ⟨rfl, .inl e.symm⟩]
      · rw [if_neg hc, ih, if_neg (fun x => hc x.1.symm), if_neg (fun x => hc x.1.symm), if_neg (fun x => hc (e.symm.trans x))]
    · rw [if_neg e]
      by_cases hc : p.1 = c
      · rw [if_pos hc, if_pos hc, if_neg (fun x => e (hc.trans x.1))]
      · rw [if_neg hc, if_neg hc, ih]
        by_cases hm : c = a ∧ a ∈ r.map Prod.fst
        · rw [if_pos hm, if_pos ⟨hm.1, .inr hm.2⟩]
        · rw [if_neg hm, if_neg]
          rintro ⟨h1, h2⟩
          rcases h2 with h2 | h2
          · exact e h2.symm
          · exact hm ⟨h1, h2⟩
theorem getT_setT (M : List (ByteArray × Int)) (a c : ByteArray) (n : Int) : getT (setT M a n) c = if c = a then n else getT M c := by
  unfold setT
  by_cases h : a ∈ M.map Prod.fst
  · rw [if_pos h, getT_map_set]
    by_cases e : c = a
    · rw [if_pos ⟨e, h⟩, if_pos e]
    · rw [if_neg (fun x => e x.1), if_neg e]
  · rw [if_neg h, getT_append]
    by_cases e : c = a
    · subst e
      rw [if_neg h, if_pos rfl]
      simp [getT]
    · rw [if_neg e]
      by_cases hc : c ∈ M.map Prod.fst
      · rw [if_pos hc]
      · rw [if_neg hc, getT_none hc]
        simp only [getT]
        rw [if_neg (fun x => e x.symm)]
theorem length_setT (M : List (ByteArray × Int)) (a : ByteArray) (n : Int) : (setT M a n).length ≤ M.length + 1 := by
  unfold setT
  split <;> simp
/-- What all accounts together have of a thing. -/
def sumM (M : List (S42 × Int)) (t : ByteArray) : Int := (M.map (fun p => if p.1.f2 = t then p.2 else 0)).sum
def sumL (L : List S82) (t : ByteArray) : Int := (L.map (fun b => if b.f0.f2 = t then b.f1 else 0)).sum
theorem sumM_set {M : List (S42 × Int)} (hn : (M.map Prod.fst).Nodup) (a : S42) (n : Int) (t : ByteArray) : sumM (setM M a n) t = sumM M t + (if a.f2 = t then n - getM M a else 0) := by
  unfold setM
  by_cases h : a ∈ M.map Prod.fst
  · rw [if_pos h]
    induction M with
    | nil => simp at h
    | cons p r ih =>
      simp only [List.map_cons, List.nodup_cons] at hn
      by_cases e : p.1 = a
      · have hr : r.map (fun p => if p.1 = a then (a, n) else p) = r := by
          have : ∀ q ∈ r, (if q.1 = a then (a, n) else q) = q := by
            intro q hq
            rw [if_neg]
            intro e2
            exact hn.1 (by rw [e]; exact List.mem_map.2 ⟨q, hq, e2⟩)
          rw [List.map_congr_left this]; simp
        rw [List.map_cons, if_pos e, hr]
        unfold sumM getM
        rw [if_pos e]
        simp only [List.map_cons, List.sum_cons]
        rw [e]
        split <;> omega
      · have h' : a ∈ r.map Prod.fst := by
          rcases List.mem_cons.1 h with h | h
          · exact absurd h.symm e
          · exact h
        have := ih hn.2 h'
        rw [List.map_cons, if_neg e]
        unfold sumM at this ⊢
        have hg : getM (p :: r) a = getM r a := by
          show (if p.1 = a then p.2 else getM r a) = _
          rw [if_neg e]
        rw [List.map_cons, List.sum_cons, this, hg, List.map_cons, List.sum_cons]
        omega
  · rw [if_neg h, getM_none h]
    unfold sumM
    rw [List.map_append, List.sum_append]
    simp
theorem sumM_del {M : List (S42 × Int)} (hn : (M.map Prod.fst).Nodup) (a : S42) (t : ByteArray) : sumM (delM M a) t = sumM M t + (if a.f2 = t then 0 - getM M a else 0) := by
  by_cases h : a ∈ M.map Prod.fst
  · induction M with
    | nil => simp at h
    | cons p r ih =>
      simp only [List.map_cons, List.nodup_cons] at hn
      unfold delM
      by_cases e : p.1 = a
      · have hr : r.filter (fun p => !decide (p.1 = a)) = r := by
          refine List.filter_eq_self.2 (fun q hq => ?_)
          simp only [Bool.not_eq_true', decide_eq_false_iff_not]
          intro e2
          exact hn.1 (by rw [e]; exact List.mem_map.2 ⟨q, hq, e2⟩)
        rw [List.filter_cons, if_neg (by simp [e]), hr]
        unfold sumM getM
        rw [if_pos e]
        simp only [List.map_cons, List.sum_cons]
        rw [e]
        split <;> omega
      · have h' : a ∈ r.map Prod.fst := by
          rcases List.mem_cons.1 h with h | h
          · exact absurd h.symm e
          · exact h
        have := ih hn.2 h'
        unfold delM at this
        rw [List.filter_cons, if_pos (by simp [e])]
        unfold sumM at this ⊢
        have hg : getM (p :: r) a = getM r a := by
          show (if p.1 = a then p.2 else getM r a) = _
          rw [if_neg e]
        rw [List.map_cons, List.sum_cons, this, hg, List.map_cons, List.sum_cons]
        omega
  · rw [delM_none h, getM_none h]
    simp
theorem sumM_put {M : List (S42 × Int)} (hn : (M.map Prod.fst).Nodup) (a : S42) (n : Int) (t : ByteArray) : sumM (putM M a n) t = sumM M t + (if a.f2 = t then n - getM M a else 0) := by
  unfold putM
  split
  · rename_i e
    subst e
    exact sumM_del hn a t
  · exact sumM_set hn a n t
/-- What is known of every reached map: sums are nothing, and every account that has something is one. -/
structure Wh (M : List (S42 × Int)) : Prop where
  sum : ∀ t, sumM M t = 0
  good : ∀ a, getM M a ≠ 0 → goodI a = 0
theorem Wh.nil : Wh [] := ⟨fun _ => rfl, fun _ h => absurd rfl h⟩
theorem Wh.move {M : List (S42 × Int)} (h : Wh M) (hk : OkM M) (e : S107) : Wh (moveM M e).1 := by
  unfold moveM
  split
  · exact h
  · rename_i hck
    have hck' := check_good (Classical.not_not.1 hck)
    have hth : e.f0.f2 = e.f1.f2 := (toList_iff _ _).1 hck'.2.2.2.2
    split
    · exact h
    · split
      · exact h
      · split
        · refine ⟨fun t => ?_, fun a ha => ?_⟩
          · rw [sumM_put (hk.put _ _).nd, sumM_put hk.nd, getM_putM, if_pos rfl, h.sum]
            split <;> omega
          · rw [Eqv.back M e.f0 e.f2 a] at ha
            exact h.good a ha
        · refine ⟨fun t => ?_, fun a ha => ?_⟩
          · rw [sumM_put (hk.put _ _).nd, sumM_put hk.nd, h.sum, hth]
            split <;> omega
          · rw [getM_putM] at ha
            by_cases c1 : a = e.f1
            · rw [c1]; exact hck'.2.2.2.1
            · rw [if_neg c1, getM_putM] at ha
              by_cases c0 : a = e.f0
              · rw [c0]; exact hck'.2.2.1
              · rw [if_neg c0] at ha
                exact h.good a ha
theorem sum_perm {l l' : List Int} (h : l.Perm l') : l.sum = l'.sum := by
  induction h with
  | nil => rfl
  | cons x _ ih => rw [List.sum_cons, List.sum_cons, ih]
  | swap x y l => rw [List.sum_cons, List.sum_cons, List.sum_cons, List.sum_cons]; omega
  | trans _ _ h1 h2 => exact h1.trans h2
theorem rep_sum {M : List (S42 × Int)} {L : List S82} (h : Rep M L) (t : ByteArray) : sumL L t = sumM M t := by
  have h1 : (M.map (fun p => b82 p.1 p.2)).Perm L := by
    have h2 := rep_all h (ts := keysL L) (rep_keys h).symm (asc_keys h.up)
    have h3 : (M.map (fun p => b82 p.1 p.2)) = (M.map Prod.fst).map (fun a => b82 a (getM M a)) := by
      rw [List.map_map]
      refine List.map_congr_left (fun p hp => ?_)
      obtain ⟨j, hj, e⟩ := List.getElem_of_mem hp
      show b82 p.1 p.2 = b82 p.1 (getM M p.1)
      rw [getM_at h.ok.nd (j := j) (a := p.1) (n := p.2) (by rw [List.getElem?_eq_getElem hj, e])]
    rw [h3]
    conv => rhs; rw [← h2]
    exact (rep_keys h).map _
  unfold sumL sumM
  rw [← sum_perm (h1.map (fun b : S82 => if b.f0.f2 = t then b.f1 else 0)), List.map_map]
  rfl
/-- The same for the undone: it has what it had. -/
theorem Wh.of {M M' : List (S42 × Int)} {L : List S82} (h : Wh M) (hr : Rep M L) (hr' : Rep M' L) : Wh M' :=
  ⟨fun t => by rw [← rep_sum hr', rep_sum hr, h.sum], fun a ha => h.good a (by rw [hr.same, ← hr'.same]; exact ha)⟩
theorem fin_Wh : ∀ (l : List S107) (M : List (S42 × Int)), Wh M → OkM M → Wh (fin M l)
  | [], _, h, _ => h
  | e :: r, M, h, hk => fin_Wh r _ (h.move hk e) (hk.move e)
theorem Wh.post {M : List (S42 × Int)} {L : List S82} (h : Wh M) (hr : Rep M L) (hB : BM M) (l : List S107) : Wh (postL [] M l).1 := by
  obtain ⟨e1, e2, e3, e4⟩ := rep_post0 hr hB l
  by_cases c : (postL [] M l).2.2 = 0
  · rw [(post_allOk l [] M c).2]
    exact fin_Wh l M h hr.ok
  · rw [e2] at c
    rw [pst_fail l L 0 L c] at e3
    exact h.of hr e3
/-- What the law's own map has behind a list of balances. -/
def tall (T : List (ByteArray × Int)) : List S82 → List (ByteArray × Int)
  | [] => T
  | b :: r => tall (setT T b.f0.f2 (wrap64 (getT T b.f0.f2 + b.f1))) r
theorem wrap64_add (a b : Int) : wrap64 (wrap64 a + b) = wrap64 (a + b) := by
  unfold wrap64
  omega
theorem getT_tall : ∀ (L : List S82) (T : List (ByteArray × Int)) (t : ByteArray) (z : Int), getT T t = wrap64 z → getT (tall T L) t = wrap64 (z + sumL L t)
  | [], T, t, z, h => by
    unfold tall sumL
    rw [h]
    simp
  | b :: r, T, t, z, h => by
    unfold tall
    have e : sumL (b :: r) t = (if b.f0.f2 = t then b.f1 else 0) + sumL r t := by simp [sumL]
    by_cases c : b.f0.f2 = t
    · rw [getT_tall r _ t (z + b.f1) (by rw [getT_setT, if_pos c.symm, c, h, wrap64_add]), e, if_pos c]
      congr 1
      omega
    · rw [getT_tall r _ t z (by rw [getT_setT, if_neg (fun x => c x.symm), h]), e, if_neg c]
      congr 1
      omega
theorem tall_zero {M : List (S42 × Int)} {L : List S82} (hr : Rep M L) (h : Wh M) (t : ByteArray) : getT (tall [] L) t = 0 := by
  rw [getT_tall L [] t 0 (by show (0 : Int) = wrap64 0; unfold wrap64; omega), rep_sum hr, h.sum]
  unfold wrap64
  omega
theorem tall_length : ∀ (L : List S82) (T : List (ByteArray × Int)), (tall T L).length ≤ T.length + L.length
  | [], T => by simp [tall]
  | b :: r, T => by
    unfold tall
    have h1 := tall_length r (setT T b.f0.f2 (wrap64 (getT T b.f0.f2 + b.f1)))
    have h2 := length_setT T b.f0.f2 (wrap64 (getT T b.f0.f2 + b.f1))
    simp only [List.length_cons]
    omega
theorem tall_take {L : List S82} {k : Nat} (hk : k < L.length) (T : List (ByteArray × Int)) : tall T (L.take (k + 1)) = setT (tall T (L.take k)) L[k].f0.f2 (wrap64 (getT (tall T (L.take k)) L[k].f0.f2 + L[k].f1)) := by
  rw [List.take_succ_eq_append_getElem hk]
  have : ∀ (l : List S82) (T : List (ByteArray × Int)) (b : S82), tall T (l ++ [b]) = setT (tall T l) b.f0.f2 (wrap64 (getT (tall T l) b.f0.f2 + b.f1)) := by
    intro l
    induction l with
    | nil => intro T b; rfl
    | cons x r ih => intro T b; exact ih _ b
  exact this _ T _
/-- What each balance is. -/
theorem bal_good {M : List (S42 × Int)} {L : List S82} (hr : Rep M L) (h : Wh M) (hn : NN M) {x : S82} (hx : x ∈ L) : x.f1 ≠ 0 ∧ (x.f1 < 0 → x.f0.f0 = 0) ∧ x.f0.f2.size ≤ 40 := by
  have h1 := hr.nz x hx
  have h2 : getM M (to42 x.f0) = x.f1 := by rw [hr.same, gL_mem hr.up hx]
  refine ⟨h1, fun hlt => ?_, ?_⟩
  · refine Classical.byContradiction fun hc => ?_
    have := hn (to42 x.f0) hc
    omega
  · exact (good_wf (h.good (to42 x.f0) (by rw [h2]; exact h1))).2.2.2.2.2.2
end Go.Proofs.Ytoknlpecbdlbfaa.PL

-- sum, walked: a range over the ledger's map.
namespace Go.Proofs.Ytoknlpecbdlbfaa.PL
open Go Go.RowKit Go.Maps Go.Sort Go.Shelf Go.Proofs Go.Proofs.YtoknlpecbdlbfaaW.PrintWords Go.Proofs.YtoknlpecbdlbfaaW.PrintLast
/-- What the accounts that have come have of a thing. -/
def sumK (M : List (S42 × Int)) (ss : List S42) (t : ByteArray) : Int := (ss.map (fun a => if a.f2 = t then getM M a else 0)).sum
theorem sumK_perm {M : List (S42 × Int)} {ss : List S42} (h : ss.Perm (M.map Prod.fst)) (hn : (M.map Prod.fst).Nodup) (t : ByteArray) : sumK M ss t = sumM M t := by
  unfold sumK sumM
  rw [sum_perm (h.map _), List.map_map]
  congr 1
  refine List.map_congr_left (fun p hp => ?_)
  obtain ⟨j, hj, e⟩ := List.getElem_of_mem hp
  show (if p.1.f2 = t then getM M p.1 else 0) = _
  rw [getM_at hn (j := j) (a := p.1) (n := p.2) (by rw [List.getElem?_eq_getElem hj, e])]
theorem sumK_snoc (M : List (S42 × Int)) (ss : List S42) (a : S42) (t : ByteArray) : sumK M (ss ++ [a]) t = sumK M ss t + (if a.f2 = t then getM M a else 0) := by
  unfold sumK
  rw [List.map_append, List.sum_append]
  simp
/-- The entry that has come holds what the map has there. -/
theorem ranges_val {w : World} {b r n : Nat} {D0 : DataW Unit} {left : Lit → Bool} {cnt : Nat} {M : List (S42 × Int)} (hrg : w.ranges Try.prog 42 (plainElem (H := Unit) Try.prog 3) b r n D0 left cnt) (h : LM w b M) {p : S42 × Int} (hp : p ∈ M) {kl : Lit} (hk : keyOf Try.prog 42 (kv p.1) = some kl) {a : Int} (hat : ∀ zd, D0.atKey kl zd = .lit (.int .i64 a)) : a = getM M p.1 := by
  obtain ⟨c, h1, h2, _⟩ := hrg.owns.lookup_int law42 Try.underlying60 Try.underlying3 (zero3 w) hk
  have h3 := (h.lookup_mem (List.mem_map.2 ⟨p, hp, rfl⟩)).symm.trans h1
  have h4 := (hat (.lit (.int .i64 0))).symm.trans h2
  simp only [Result.ok.injEq, Value.int.injEq, true_and, and_true] at h3
  simp only [DataW.lit.injEq, Lit.int.injEq, true_and] at h4
  rw [h4, h3]
set_option maxRecDepth 100000 in
set_option maxHeartbeats 2000000 in
theorem sum_walk {g b : Nat} {M : List (S42 × Int)} {w : World} (h : LG w g b M) (t : ByteArray) :
    Calls Try.prog 71 #[.pointer (some ⟨g, 0, none⟩), .string t] w fun e w' => e = .returned (.int .i64 (wrap64 (sumM M t))) ∧ Below w.heap.size w w' := by
  have hc := h.cell
  have hM := h.map
  obtain ⟨D0, hown, hsz⟩ := hM.owns
  have HM := Lib.hid hM
  have HO := Lib.hid hown
  have HZ := Lib.hid hsz
  clear h hM hsz
  go_enter Try.func71, Try.ntmps71
  go_wp2_with (first
    | (at_range; refine wpList_range_own _ rfl _ 60 rfl 42 3 law42 Try.underlying60 _ b M.length _ rfl hown ?_; intro w0 hrg0 hg0 hs0)
    | go_in)
  go_frame
  have R0 := Lib.hid (And.intro hrg0 (And.intro hg0 hs0))
  clear hown hrg0 hg0 hs0 hc
  go_loopg [5, 6, 7] (M.length + 1) (fun kq v5 v6 v7 wr => ∃ (left : Lit → Bool) (cnt : Nat) (ss : List S42), v5 = .int .i64 (wrap64 (sumK M ss t)) ∧ Hid (kq = cnt + 1 ∧ wr.ranges Try.prog 42 (plainElem (H := Unit) Try.prog 3) b w.heap.size M.length D0 left cnt ∧ Coll M left ss ∧ LM wr b M ∧ Below w.heap.size w wr))
  case atStart =>
    obtain ⟨h1, h2, h3⟩ := R0.out
    refine ⟨_, _, [], ?_, ⟨by rw [HZ.out], h1, Coll.start HO.out HM.out, HM.out.grown h2 (by simp), (Below.refl _ _).grown h2 (Nat.le_refl _) (fun k hk => by cases hk)⟩⟩
    have : wrap64 (sumK M [] t) = 0 := by unfold sumK wrap64; simp
    rw [this]
  case round =>
    obtain ⟨left, cnt, ss, rfl, HI⟩ := hrel
    go_wp2_with (first
      | (at_next; refine wpList_next_ranges _ rfl _ rfl 42 law42 (plainElem (H := Unit) Try.prog 3) id id (fun key kl hk => ⟨key, rfl⟩) (fun v _ _ => ⟨v, rfl⟩) b w.heap.size M.length _ _ _ rfl HI.out.2.1 ?_ ?_)
      | go_in)
    · intro hc0 hl0
      have HL := Lib.hid hl0
      clear hc0 hl0
      go_wp2
      go_ret
      obtain ⟨_, h2, h3, h4, h5⟩ := HI.out
      refine ⟨?_, h5⟩
      show Ending.returned (.int .i64 (wrap64 (sumK M ss t))) = _
      rw [sumK_perm (h3.perm h4 HL.out) h4.nodup]
    · intro x c kl yd yp w2 cnt2 hkey hlk hv hat hrg2 hlt hg2 hs2 hen
      obtain ⟨p, hp, ex, ekl⟩ := ranges_key HI.out.2.1 HI.out.2.2.2.1 hlk hkey
      have hbr : b ≠ w.heap.size := fun e => by
        have := HM.out.lt
        omega
      have hM2 : LM w2 b M := HI.out.2.2.2.1.grown hg2 (fun e => hbr (by cases e; rfl))
      change x = kv p.1 at ex
      subst ex
      obtain ⟨a, ec, ey, _⟩ := plainElem_int_inv Try.underlying3 hv
      simp only [Prod.mk.injEq] at ey
      obtain ⟨rfl, _⟩ := ey
      change c = .int .i64 a at ec
      subst ec
      have ha := ranges_val HI.out.2.1 HI.out.2.2.2.1 hp hkey hat
      rw [← ekl] at hlk hrg2
      have hC2 := HI.out.2.2.1.step HI.out.2.2.2.1 hp hlk
      have hb2 : Below w.heap.size w w2 := HI.out.2.2.2.2.grown hg2 HI.out.2.2.2.2.size (fun k hk => by cases hk; exact Nat.le_refl _)
      have hsn := sumK_snoc M ss p.1 t
      obtain ⟨⟨a0, a1, a2⟩, pn⟩ := p
      simp only at hsn ha
      rw [← ha] at hsn
      have HR := Lib.hid (And.intro hrg2 (And.intro hM2 (And.intro hC2 (And.intro hb2 (And.intro hlt hsn)))))
      simp only [kv, id] at hen ⊢
      clear hrg2 hM2 hC2 hb2 hlt hs2 hg2 hat hlk hkey hp ekl hv hsn ha hbr
      by_cases ct : a2.toList = t.toList
      · have c1 : (a2.toList == t.toList) = true := by simp [ct]
        have HT := Lib.hid ((toList_iff a2 t).1 ct)
        clear ct
        go_wp2
        go_roundg (cnt2 + 1)
        case measure => have := HI.out.1; have := HR.out.2.2.2.2.1; omega
        case rel =>
          obtain ⟨r1, r2, r3, r4, r5, r6⟩ := HR.out
          refine ⟨_, cnt2, ss ++ [⟨a0, a1, a2⟩], ?_, ⟨rfl, r1.alloc _, r3, r2.below ((Below.refl _ _).alloc (Nat.le_refl _) _), r4.alloc r4.size _⟩⟩
          rw [r6, if_pos HT.out, wrap64_add]
      · have c1 : (a2.toList == t.toList) = false := by simp [ct]
        have HT := Lib.hid (fun h => ct ((toList_iff a2 t).2 h))
        clear ct
        go_wp2
        go_roundg (cnt2 + 1)
        case measure => have := HI.out.1; have := HR.out.2.2.2.2.1; omega
        case rel =>
          obtain ⟨r1, r2, r3, r4, r5, r6⟩ := HR.out
          refine ⟨_, cnt2, ss ++ [⟨a0, a1, a2⟩], ?_, ⟨rfl, r1.alloc _, r3, r2.below ((Below.refl _ _).alloc (Nat.le_refl _) _), r4.alloc r4.size _⟩⟩
          rw [r6, if_neg HT.out, Int.add_zero]
end Go.Proofs.Ytoknlpecbdlbfaa.PL

-- Which balances are a ledger's: the plain law.
namespace Go.Proofs.Ytoknlpecbdlbfaa.PL
open Go Go.RowKit Go.Maps Go.Sort Go.Shelf Go.Proofs Go.Proofs.YtoknlpecbdlbfaaW.PrintWords Go.Proofs.YtoknlpecbdlbfaaW.PrintLast
/-- What no account may have. -/
def badN (a0 n : Int) : Prop := n = 0 ∨ (n < 0 ∧ 0 < a0) ∨ 72057594037927936 < n ∨ n < -72057594037927936
instance (a0 n : Int) : Decidable (badN a0 n) := by unfold badN; infer_instance
/-- Does the account ahead stand ahead? -/
def ahO : Option S45 → S45 → Bool
  | none, _ => true
  | some a, b => aheadB a.f0 a.f1 a.f2 b
/-- What is wrong with balances, one by one. -/
def ofP : Option S45 → List S82 → Int
  | _, [] => 0
  | p, b :: r => if goodI (to42 b.f0) ≠ 0 then goodI (to42 b.f0) else if badN b.f0.f0 b.f1 then 1 else if ahO p b.f0 = true then ofP (some b.f0) r else 7
/-- Some thing's sum is not nothing. -/
def offD (L R : List S82) : Prop := ∃ x ∈ R, ¬ wrap64 (sumL L x.f0.f2) = 0
instance (L R : List S82) : Decidable (offD L R) := by unfold offD; infer_instance
def offL (L : List S82) : Prop := offD L L
instance (L : List S82) : Decidable (offL L) := by unfold offL; infer_instance
/-- What is wrong with balances. -/
def ofR (L : List S82) : Int := if ofP none L ≠ 0 then ofP none L else if offL L then 20 else 0
theorem ahead_f (a b : S45) : lombardref11_Ahead.f a.f0 a.f1 a.f2 b.f0 b.f1 b.f2 = some (aheadB a.f0 a.f1 a.f2 b) := by
  unfold lombardref11_Ahead.f aheadB
  split
  · split <;> rfl
  · rfl
theorem rd_drop82 {L : List S82} {i : Nat} {b : S82} {r : List S82} (h : L.drop i = b :: r) : rd_T82 L (i : Int) = b ∧ i < L.length ∧ L.drop (i + 1) = r := by
  have hlt : i < L.length := by
    have := congrArg List.length h
    simp at this
    omega
  rw [List.drop_eq_getElem_cons hlt] at h
  injection h with h1 h2
  refine ⟨?_, hlt, h2⟩
  unfold rd_T82
  simp [List.getD, hlt, h1]
theorem of_l2 (L : List S82) (hL : L.length ≤ 1000) (i : Nat) (hi : i < L.length) (K : Nat) (s : Int) (hs : ∀ k, K ≤ k → lombardref11_Of.l1 k L ((i + 1 : Nat) : Int) = some s) :
    ∀ (k j : Nat) (z : Int) (R : List S82), L.drop j = R → j ≤ L.length → R.length + 1 + K ≤ k → lombardref11_Of.l2 k L (i : Int) (wrap64 z) (j : Int) = some (if wrap64 (z + sumL R (rd_T82 L (i : Int)).f0.f2) ≠ 0 then 20 else s)
  | 0, _, _, _, _, _, hk => by omega
  | k + 1, j, z, [], hR, hj, hk => by
    have hjl : ¬ (j : Int) < (L.length : Int) := by
      have := congrArg List.length hR
      simp at this
      omega
    have hw : wrap64 ((i : Int) + 1) = ((i + 1 : Nat) : Int) := by rw [wrap_id (by omega) (by omega)]; rfl
    unfold lombardref11_Of.l2
    rw [if_neg hjl, hw, hs k (by simp at hk; omega)]
    have e : sumL [] (rd_T82 L (i : Int)).f0.f2 = 0 := rfl
    rw [e, Int.add_zero]
    by_cases c : wrap64 z = 0
    · rw [if_pos c, if_neg (fun h => h c)]
    · rw [if_neg c, if_pos c]
  | k + 1, j, z, b :: r, hR, hj, hk => by
    obtain ⟨h1, h2, h3⟩ := rd_drop82 hR
    have hw : wrap64 ((j : Int) + 1) = ((j + 1 : Nat) : Int) := by rw [wrap_id (by omega) (by omega)]; rfl
    have e : sumL (b :: r) (rd_T82 L (i : Int)).f0.f2 = (if b.f0.f2 = (rd_T82 L (i : Int)).f0.f2 then b.f1 else 0) + sumL r (rd_T82 L (i : Int)).f0.f2 := by simp [sumL]
    unfold lombardref11_Of.l2
    rw [if_pos (by omega), if_pos (by omega), if_pos (by omega), if_pos (by omega), h1, hw, e]
    simp only [List.length_cons] at hk
    by_cases c : b.f0.f2 = (rd_T82 L (i : Int)).f0.f2
    · rw [if_pos ((toList_iff _ _).2 c), wrap64_add, of_l2 L hL i hi K s hs k (j + 1) (z + b.f1) r h3 (by omega) (by omega), if_pos c, Int.add_assoc]
    · rw [if_neg (fun h => c ((toList_iff _ _).1 h)), of_l2 L hL i hi K s hs k (j + 1) z r h3 (by omega) (by omega), if_neg c, Int.zero_add]
theorem of_l1 (L : List S82) (hL : L.length ≤ 1000) : ∀ (m i k : Nat), i + m = L.length → m * (L.length + 2) + 1 ≤ k → lombardref11_Of.l1 k L (i : Int) = some (if offD L (L.drop i) then 20 else 0)
  | 0, i, 0, _, hk => by omega
  | 0, i, k + 1, hi, hk => by
    unfold lombardref11_Of.l1
    rw [if_neg (by omega), List.drop_eq_nil_of_le (by omega), if_neg (by rintro ⟨x, hx, _⟩; cases hx)]
  | m + 1, i, k, hi, hk => by
    have hil : i < L.length := by omega
    have hk2 : (m + 1) * (L.length + 2) = m * (L.length + 2) + (L.length + 2) := by rw [Nat.add_mul, Nat.one_mul]
    obtain ⟨k, rfl⟩ : ∃ k', k = k' + 1 := ⟨k - 1, by omega⟩
    unfold lombardref11_Of.l1
    rw [if_pos (by omega)]
    have h2 := of_l2 L hL i hil (m * (L.length + 2) + 1) (if offD L (L.drop (i + 1)) then 20 else 0) (fun k' hk' => of_l1 L hL m (i + 1) k' (by omega) hk') k 0 0 L rfl (Nat.zero_le _) (by omega)
    have hz : wrap64 0 = 0 := by unfold wrap64; omega
    rw [hz, Int.zero_add] at h2
    refine h2.trans ?_
    have e1 : rd_T82 L (i : Int) = L[i] := by
      unfold rd_T82
      simp [List.getD, hil]
    rw [e1, List.drop_eq_getElem_cons hil]
    by_cases c : wrap64 (sumL L L[i].f0.f2) ≠ 0
    · rw [if_pos c, if_pos (show offD _ _ from ⟨_, List.mem_cons_self, c⟩)]
    · rw [if_neg c]
      by_cases c2 : offD L (L.drop (i + 1))
      · rw [if_pos c2]
        obtain ⟨x, hx, hc⟩ := c2
        rw [if_pos (show offD _ _ from ⟨x, List.mem_cons_of_mem _ hx, hc⟩)]
      · rw [if_neg c2, if_neg]
        rintro ⟨x, hx, hc⟩
        rcases List.mem_cons.1 hx with rfl | hx
        · exact c hc
        · exact c2 ⟨x, hx, hc⟩
/-- The account ahead of place i. -/
def prevO (L : List S82) : Nat → Option S45
  | 0 => none
  | i + 1 => some (rd_T82 L (i : Int)).f0
theorem of_l0 (L : List S82) (hL : L.length ≤ 1000) (K : Nat) (s : Int) (hs : ∀ k, K ≤ k → lombardref11_Of.l1 k L 0 = some s) : ∀ (k i : Nat) (R : List S82), L.drop i = R → i ≤ L.length → 2 * R.length + 3 + K ≤ k →
    lombardref11_Of.l0 k L (i : Int) = some (if ofP (prevO L i) R ≠ 0 then ofP (prevO L i) R else s)
  | 0, _, _, _, _, hk => by omega
  | k + 1, i, [], hR, hi, hk => by
    have hil : ¬ (i : Int) < (L.length : Int) := by
      have := congrArg List.length hR
      simp at this
      omega
    unfold lombardref11_Of.l0
    rw [if_neg hil, hs k (by omega)]
    simp [ofP]
  | 1, i, b :: r, hR, hi, hk => by simp only [List.length_cons] at hk; omega
  | 2, i, b :: r, hR, hi, hk => by simp only [List.length_cons] at hk; omega
  | k + 3, i, b :: r, hR, hi, hk => by
    obtain ⟨h1, h2, h3⟩ := rd_drop82 hR
    simp only [List.length_cons] at hk
    have hw : wrap64 ((i : Int) + 1) = ((i + 1 : Nat) : Int) := by rw [wrap_id (by omega) (by omega)]; rfl
    have hnext := of_l0 L hL K s hs (k + 1) (i + 1) r h3 (by omega) (by omega)
    have hp : prevO L (i + 1) = some b.f0 := by show some (rd_T82 L (i : Int)).f0 = some b.f0; rw [h1]
    have hwr : lombardref11_Wrong.f (k + 2) b.f0.f0 b.f0.f1 b.f0.f2 = some (goodI (to42 b.f0)) := wrong_f (to42 b.f0) (k + 1)
    have hj : lombardref11_Of.j1 (k + 2) L (i : Int) false b.f0.f0 b.f0.f1 b.f0.f2 = some (if (if ahO (prevO L i) b.f0 = true then ofP (some b.f0) r else 7) ≠ 0 then (if ahO (prevO L i) b.f0 = true then ofP (some b.f0) r else 7) else s) := by
      unfold lombardref11_Of.j1
      rw [if_neg (by simp)]
      cases i with
      | zero =>
        rw [if_neg (by simp), hw, hnext, hp]
        simp [prevO, ahO]
      | succ i' =>
        have hw1 : wrap64 (((i' + 1 : Nat) : Int) - 1) = (i' : Int) := by
          rw [wrap_id (by omega) (by omega)]
          omega
        rw [if_pos (by omega), hw1, if_pos (by omega), if_pos (by omega), ahead_f]
        obtain ⟨q, hq⟩ : ∃ q, ahO (prevO L (i' + 1)) b.f0 = q := ⟨_, rfl⟩
        have hq' : aheadB (rd_T82 L (i' : Int)).f0.f0 (rd_T82 L (i' : Int)).f0.f1 (rd_T82 L (i' : Int)).f0.f2 b.f0 = q := hq
        rw [hq, hq']
        simp only [Option.bind_some]
        cases q with
        | true => rw [if_pos rfl, hw, hnext, hp, if_pos rfl]
        | false =>
          simp
    have hjt : lombardref11_Of.j1 (k + 2) L (i : Int) true b.f0.f0 b.f0.f1 b.f0.f2 = some 1 := by
      unfold lombardref11_Of.j1
      rw [if_pos rfl]
    unfold lombardref11_Of.l0
    rw [if_pos (by omega), if_pos (by omega), h1, hwr]
    simp only [Option.bind_some]
    by_cases cg : goodI (to42 b.f0) = 0
    · have hof : ofP (prevO L i) (b :: r) = if badN b.f0.f0 b.f1 then 1 else if ahO (prevO L i) b.f0 = true then ofP (some b.f0) r else 7 := by
        show (if goodI (to42 b.f0) ≠ 0 then _ else _) = _
        rw [if_neg (fun h => h cg)]
      rw [if_pos cg, hof]
      by_cases c0 : b.f1 = 0
      · rw [if_pos c0, hjt, if_pos (show badN _ _ from .inl c0)]
        simp
      · rw [if_neg c0]
        by_cases c1 : b.f1 < 0
        · rw [if_pos c1]
          by_cases c2 : b.f0.f0 > 0
          · rw [if_pos c2, hjt, if_pos (show badN _ _ from .inr (.inl ⟨c1, c2⟩))]
            simp
          · rw [if_neg c2, if_neg (by omega)]
            by_cases c3 : b.f1 < -72057594037927936
            · rw [show decide (b.f1 < -72057594037927936) = true from decide_eq_true c3, hjt, if_pos (show badN _ _ from .inr (.inr (.inr c3)))]
              simp
            · rw [show decide (b.f1 < -72057594037927936) = false from decide_eq_false c3, hj, if_neg (show ¬ badN _ _ from by unfold badN; omega)]
        · rw [if_neg c1]
          by_cases c2 : b.f1 > 72057594037927936
          · rw [if_pos c2, hjt, if_pos (show badN _ _ from .inr (.inr (.inl c2)))]
            simp
          · rw [if_neg c2]
            rw [show decide (b.f1 < -72057594037927936) = false from decide_eq_false (by omega), hj, if_neg (show ¬ badN _ _ from by unfold badN; omega)]
    · have hof : ofP (prevO L i) (b :: r) = goodI (to42 b.f0) := by
        show (if goodI (to42 b.f0) ≠ 0 then _ else _) = _
        rw [if_pos cg]
      rw [if_neg cg, hof, if_pos cg]
theorem of_f (L : List S82) (hL : L.length ≤ 1000) : ∃ k, lombardref11_Of.f k L = some (ofR L) := by
  have hs : ∀ k, L.length * (L.length + 2) + 1 ≤ k → lombardref11_Of.l1 k L 0 = some (if offL L then 20 else 0) := fun k hk => by
    have := of_l1 L hL L.length 0 k (by omega) hk
    rw [List.drop_zero] at this
    exact this
  have h := of_l0 L hL _ _ hs (2 * L.length + 3 + (L.length * (L.length + 2) + 1)) 0 L rfl (Nat.zero_le _) (Nat.le_refl _)
  exact ⟨_, h⟩
end Go.Proofs.Ytoknlpecbdlbfaa.PL

-- The ledger that Of makes: the plain law.
namespace Go.Proofs.Ytoknlpecbdlbfaa.PL
open Go Go.RowKit Go.Maps Go.Sort Go.Shelf Go.Proofs Go.Proofs.YtoknlpecbdlbfaaW.PrintWords Go.Proofs.YtoknlpecbdlbfaaW.PrintLast
theorem ofP_ok : ∀ (L : List S82) (p : Option S45), ofP p L = 0 → Up L ∧ (∀ x ∈ L, goodI (to42 x.f0) = 0 ∧ ¬ badN x.f0.f0 x.f1) ∧ (∀ a, p = some a → ∀ x ∈ L, Bef (to42 a) (to42 x.f0))
  | [], p, _ => ⟨List.Pairwise.nil, (fun x hx => by cases hx), (fun a _ x hx => by cases hx)⟩
  | b :: r, p, h => by
    unfold ofP at h
    by_cases cg : goodI (to42 b.f0) = 0
    · rw [if_neg (fun q => q cg)] at h
      by_cases cb : badN b.f0.f0 b.f1
      · rw [if_pos cb] at h
        exact absurd h (by decide)
      · rw [if_neg cb] at h
        by_cases ca : ahO p b.f0 = true
        · rw [if_pos ca] at h
          obtain ⟨h1, h2, h3⟩ := ofP_ok r (some b.f0) h
          have h4 := h3 b.f0 rfl
          refine ⟨List.pairwise_cons.2 ⟨h4, h1⟩, ?_, ?_⟩
          · intro x hx
            rcases List.mem_cons.1 hx with rfl | hx
            · exact ⟨cg, cb⟩
            · exact h2 x hx
          · rintro a rfl x hx
            have h5 : Bef (to42 a) (to42 b.f0) := (ahead_iff (to42 a) b.f0).1 ca
            rcases List.mem_cons.1 hx with rfl | hx
            · exact h5
            · exact h5.trans (h4 x hx)
        · rw [if_neg ca] at h
          exact absurd h (by decide)
    · rw [if_pos cg] at h
      exact absurd h cg
/-- The map behind the stores. -/
def storeF (M : List (S42 × Int)) : List S82 → List (S42 × Int)
  | [] => M
  | b :: r => storeF (setM M (to42 b.f0) b.f1) r
theorem storeF_snoc (b : S82) : ∀ (L : List S82) (M : List (S42 × Int)), storeF M (L ++ [b]) = setM (storeF M L) (to42 b.f0) b.f1
  | [], _ => rfl
  | x :: r, M => storeF_snoc b r _
theorem storeF_take {L : List S82} {k : Nat} (hk : k < L.length) (M : List (S42 × Int)) : storeF M (L.take (k + 1)) = setM (storeF M (L.take k)) (to42 L[k].f0) L[k].f1 := by
  rw [List.take_succ_eq_append_getElem hk]
  exact storeF_snoc _ _ _
theorem length_storeF : ∀ (L : List S82) (M : List (S42 × Int)), (storeF M L).length ≤ M.length + L.length
  | [], M => by simp [storeF]
  | b :: r, M => by
    have h1 := length_storeF r (setM M (to42 b.f0) b.f1)
    have h2 : (setM M (to42 b.f0) b.f1).length ≤ M.length + 1 := by unfold setM; split <;> simp
    unfold storeF
    simp only [List.length_cons]
    omega
/-- Balances as a map. -/
def mapOf (L : List S82) : List (S42 × Int) := L.map (fun b => (to42 b.f0, b.f1))
theorem keys_mapOf (L : List S82) : (mapOf L).map Prod.fst = keysL L := by
  unfold mapOf keysL
  rw [List.map_map]
  rfl
theorem storeF_map : ∀ (L : List S82) (M : List (S42 × Int)), Up L → (∀ a ∈ M.map Prod.fst, ∀ x ∈ L, Bef a (to42 x.f0)) → storeF M L = M ++ mapOf L
  | [], M, _, _ => by simp [storeF, mapOf]
  | b :: r, M, hu, hM => by
    have hu' := List.pairwise_cons.1 hu
    have hn : to42 b.f0 ∉ M.map Prod.fst := fun h => Bef.irrefl _ (hM _ h b List.mem_cons_self)
    unfold storeF
    rw [storeF_map r _ hu'.2]
    · unfold setM
      rw [if_neg hn]
      simp [mapOf]
    · intro a ha x hx
      unfold setM at ha
      rw [if_neg hn, List.map_append, List.mem_append] at ha
      rcases ha with ha | ha
      · exact hM a ha x (List.mem_cons_of_mem _ hx)
      · simp at ha
        subst ha
        exact hu'.1 x hx
theorem getM_mapOf : ∀ (L : List S82) (a : S42), getM (mapOf L) a = gL L a
  | [], a => by rw [gL_nil]; rfl
  | b :: r, a => by
    rw [gL_cons, ← getM_mapOf r a]
    rfl
theorem rep_mapOf {L : List S82} (h : ofP none L = 0) : Rep (storeF [] L) L := by
  obtain ⟨hu, hg, _⟩ := ofP_ok L none h
  have hnz : ∀ x ∈ L, x.f1 ≠ 0 := fun x hx hz => (hg x hx).2 (.inl hz)
  rw [storeF_map L [] hu (fun a ha => by cases ha), List.nil_append]
  refine ⟨⟨by rw [keys_mapOf]; exact asc_nodup (asc_keys hu), ?_⟩, hu, hnz, getM_mapOf L⟩
  intro p hp
  obtain ⟨x, hx, rfl⟩ := List.mem_map.1 hp
  exact hnz x hx
/-- Which things the program's list of things has. -/
theorem compB_eq (L : List S82) : compB (thingsOf L) = ((List.range L.length).filter (Lib.keeps ((thingsOf L).map bl).toArray)).map (fun j : Nat => (rd_T82 L (j : Int)).f0.f2) := by
  unfold compB Lib.compact Lib.compactUpTo
  rw [List.map_map, List.length_map]
  have e : (thingsOf L).length = L.length := by simp [thingsOf]
  rw [e]
  refine List.map_congr_left fun j hj => ?_
  have hj' : j < L.length := by
    have := (List.mem_filter.1 hj).1
    rw [List.mem_range] at this
    exact this
  show (⟨(((thingsOf L).map bl).toArray[j]!).toArray⟩ : ByteArray) = _
  rw [at_bl L hj']
  unfold bl
  simp
theorem mem_compB (L : List S82) (t : ByteArray) : t ∈ compB (thingsOf L) ↔ ∃ x ∈ L, x.f0.f2 = t := by
  have hat : ∀ {j : Nat} (h : j < L.length), rd_T82 L (j : Int) = L[j] := fun {j} h => by
    unfold rd_T82
    simp [List.getD, h]
  rw [compB_eq]
  constructor
  · intro h
    obtain ⟨j, hj, rfl⟩ := List.mem_map.1 h
    have hj' : j < L.length := by
      have := (List.mem_filter.1 hj).1
      rw [List.mem_range] at this
      exact this
    exact ⟨L[j], List.getElem_mem hj', by rw [hat hj']⟩
  · rintro ⟨x, hx, rfl⟩
    obtain ⟨j, hj, rfl⟩ := List.getElem_of_mem hx
    clear hx
    have key : ∀ j, ∀ hj : j < L.length, L[j].f0.f2 ∈ ((List.range L.length).filter (Lib.keeps ((thingsOf L).map bl).toArray)).map (fun j : Nat => (rd_T82 L (j : Int)).f0.f2) := by
      intro j
      induction j with
      | zero =>
        intro hj
        refine List.mem_map.2 ⟨0, List.mem_filter.2 ⟨by simpa using hj, (keeps_iff L hj).2 (.inl rfl)⟩, ?_⟩
        rw [hat hj]
      | succ j ih =>
        intro hj
        by_cases hk : Lib.keeps ((thingsOf L).map bl).toArray (j + 1) = true
        · exact List.mem_map.2 ⟨j + 1, List.mem_filter.2 ⟨by simpa using hj, hk⟩, by rw [hat hj]⟩
        · have h1 : (rd_T82 L ((j + 1 : Nat) : Int)).f0.f2.toList = (rd_T82 L ((j + 1 - 1 : Nat) : Int)).f0.f2.toList := by
            refine Classical.byContradiction fun hc => hk ((keeps_iff L hj).2 (.inr hc))
          rw [hat hj, Nat.add_sub_cancel, hat (j := j) (by omega)] at h1
          rw [(toList_iff _ _).1 h1]
          exact ih (by omega)
    exact key j hj
theorem off_iff {M : List (S42 × Int)} {L : List S82} (hr : Rep M L) : (∃ t ∈ compB (thingsOf L), ¬ wrap64 (sumM M t) = 0) ↔ offL L := by
  constructor
  · rintro ⟨t, ht, hc⟩
    obtain ⟨x, hx, rfl⟩ := (mem_compB L t).1 ht
    exact ⟨x, hx, by rw [rep_sum hr]; exact hc⟩
  · rintro ⟨x, hx, hc⟩
    exact ⟨x.f0.f2, (mem_compB L _).2 ⟨x, hx, rfl⟩, by rw [← rep_sum hr]; exact hc⟩
end Go.Proofs.Ytoknlpecbdlbfaa.PL

-- ledger.Of, walked.
namespace Go.Proofs.Ytoknlpecbdlbfaa.PL
open Go Go.RowKit Go.Maps Go.Sort Go.Shelf Go.Proofs Go.Proofs.YtoknlpecbdlbfaaW.PrintWords Go.Proofs.YtoknlpecbdlbfaaW.PrintLast
theorem good_any (a : S42) (w : World) : Calls Try.prog 70 #[.agg #[.int .i64 a.f0, .int .i64 a.f1, .string a.f2]] w fun e w' => e = .returned (.int .i64 (goodI a)) ∧ Below w.heap.size w w' :=
  ledger_good.calls 1 a.f0 a.f1 a.f2 _ w (good_f a 0)
theorem order_any (a b : S42) (w : World) : Calls Try.prog 63 #[.agg #[.int .i64 a.f0, .int .i64 a.f1, .string a.f2], .agg #[.int .i64 b.f0, .int .i64 b.f1, .string b.f2]] w fun e w' => e = .returned (.int .i64 (ordI a b)) ∧ Below w.heap.size w w' :=
  (order_walk a.f0 a.f1 a.f2 b.f0 b.f1 b.f2 w).mono (fun _ _ ⟨e, hw⟩ => ⟨e, by
    rw [hw]
    exact ((((Below.refl _ _).alloc (Nat.le_refl _) _).alloc (by simp) _).drew).alloc (by simp; omega) _⟩)
/-- What Of hands back. -/
def OfPost (L : List S82) (w : World) (e : Ending) (w' : World) : Prop := ∃ p, e = .returned (.tuple #[p, .int .i64 (ofR L)]) ∧ Below w.heap.size w w' ∧ ((ofR L ≠ 0 ∧ p = .pointer none) ∨ (ofR L = 0 ∧ ∃ (g b : Nat) (M : List (S42 × Int)), p = .pointer (some ⟨g, 0, none⟩) ∧ LG w' g b M ∧ Rep M L))
theorem OfPost.bad {L : List S82} {w w' : World} {v : Int} (h : ofP none L = v) (hv : v ≠ 0) (hb : Below w.heap.size w w') : OfPost L w (.returned (.tuple #[.pointer none, .int .i64 v])) w' := by
  have e : ofR L = v := by unfold ofR; rw [h, if_pos hv]
  exact ⟨_, by rw [e], hb, .inl ⟨by rw [e]; exact hv, rfl⟩⟩
set_option maxRecDepth 100000 in
set_option maxHeartbeats 4000000 in
theorem of_walk (A : Option Addr) (c : Nat) (L : List S82) (w : World) (hC : Kd.C k82 w A L.length L) (hc : L.length ≤ c) (hL : L.length ≤ 100) :
    Calls Try.prog 40 #[.slice A L.length c] w (OfPost L w) := by
  have HC := Lib.hid (And.intro hC hc)
  have HL := Lib.hid hL
  clear hC hc hL
  go_enter Try.func40, Try.ntmps40
  go_wp2_with (go_at_call 17; refine (new_any _).mono ?_; rintro e w1 ⟨rfl, H1⟩; replace H1 := Lib.hid H1)
  go_loopg [5, 6, 7, 13] (L.length + 1) (fun kq v5 v6 v7 v13 w' => ∃ i : Nat, v13 = .int .i64 i ∧ Hid (kq + i = L.length + 1 ∧ i ≤ L.length ∧ LG w' (w.heap.size + 1) w.heap.size (storeF [] (L.take i)) ∧ Below w.heap.size w w' ∧ ofP none L = ofP (prevO L i) (L.drop i)))
  case atStart =>
    exact ⟨0, rfl, ⟨rfl, Nat.zero_le _, H1.out.1, H1.out.2, rfl⟩⟩
  case round =>
    obtain ⟨i, rfl, HI⟩ := hrel
    by_cases hi : i < L.length
    · obtain ⟨ad, eA, x0, x1, x2, x3⟩ := at_T82 (Kd.C_below HC.out.1 HI.out.2.2.2.1) (i : Int) (by omega) (by omega)
      simp only [Int.toNat_natCast] at x0 x1 x2 x3
      have e1 : rd_T82 L (i : Int) = L[i] := by
        unfold rd_T82
        simp [List.getD, hi]
      have hst := storeF_take hi []
      have hdr : L.drop i = L[i] :: L.drop (i + 1) := List.drop_eq_getElem_cons hi
      have hpv : prevO L (i + 1) = some L[i].f0 := by show some (rd_T82 L (i : Int)).f0 = _; rw [e1]
      have hof := HI.out.2.2.2.2
      rw [hdr] at hof
      rw [e1] at x0 x1 x2 x3
      obtain ⟨⟨⟨a0, a1, a2⟩, n⟩, ha⟩ : ∃ a, L[i] = a := ⟨_, rfl⟩
      rw [ha] at x0 x1 x2 x3 hst hof hpv
      simp only at x0 x1 x2 x3
      replace hof : ofP none L = (if goodI ⟨a0, a1, a2⟩ ≠ 0 then goodI ⟨a0, a1, a2⟩ else if badN a0 n then 1 else if ahO (prevO L i) ⟨a0, a1, a2⟩ = true then ofP (some ⟨a0, a1, a2⟩) (L.drop (i + 1)) else 7) := hof
      obtain ⟨gv, hgv⟩ : ∃ gv, goodI ⟨a0, a1, a2⟩ = gv := ⟨_, rfl⟩
      have HG := Lib.hid (show ∀ W, Calls Try.prog 70 #[.agg #[.int .i64 a0, .int .i64 a1, .string a2]] W fun e w' => e = .returned (.int .i64 gv) ∧ Below W.heap.size W w' from fun W => by rw [← hgv]; exact good_any ⟨a0, a1, a2⟩ W)
      have hl64 : wrap64 ((i : Int) + 1) = ((i + 1 : Nat) : Int) := by
        have h3 := HL.out
        rw [wrap_id (by omega) (by omega)]; rfl
      have k0 : (wr.alloc (.cells #[.int .i64 a0, .int .i64 a1, .string a2, .int .i64 n] 44)).cell? ⟨wr.heap.size, 0, none⟩ = some (.int .i64 a0) := by simp
      have k1 : (wr.alloc (.cells #[.int .i64 a0, .int .i64 a1, .string a2, .int .i64 n] 44)).cell? ⟨wr.heap.size, 1, none⟩ = some (.int .i64 a1) := by simp
      have k2 : (wr.alloc (.cells #[.int .i64 a0, .int .i64 a1, .string a2, .int .i64 n] 44)).cell? ⟨wr.heap.size, 2, none⟩ = some (.string a2) := by simp
      have k3 : (wr.alloc (.cells #[.int .i64 a0, .int .i64 a1, .string a2, .int .i64 n] 44)).cell? ⟨wr.heap.size, 3, none⟩ = some (.int .i64 n) := by simp
      have HB := Lib.hid ((Below.refl wr.heap.size wr).alloc (Nat.le_refl _) (.cells #[.int .i64 a0, .int .i64 a1, .string a2, .int .i64 n] 44))
      have p1 : (0 ≤ (i : Int)) = True := eq_true (by omega)
      have q1 : ((i : Int) < (L.length : Int)) = True := eq_true (by omega)
      have HO := Lib.hid hof
      have HS := Lib.hid hst
      have HV := Lib.hid hgv
      have HPV := Lib.hid hpv
      have Hw := Lib.hid hl64
      have HK := Lib.hid hi
      subst eA
      clear e1 hdr hpv hof hst ha hl64 hi
      by_cases cg : gv = 0
      · have f0 : (gv != 0) = false := by simp [cg]
        have CG := Lib.hid cg
        clear cg
        by_cases cb : badN a0 n
        · have hcase : (n == 0) = true ∨ ((n == 0) = false ∧ (n < 0) = True ∧ (a0 != 0) = true) ∨ ((n == 0) = false ∧ (n < 0) = True ∧ (a0 != 0) = false ∧ (n > 72057594037927936) = False ∧ (n < -72057594037927936) = True) ∨ ((n == 0) = false ∧ (n < 0) = False ∧ (n > 72057594037927936) = True) := by
            by_cases z0 : n = 0
            · exact .inl (by simp [z0])
            · have z0' : (n == 0) = false := by simp [z0]
              unfold badN at cb
              by_cases z1 : n < 0
              · by_cases z2 : a0 = 0
                · exact .inr (.inr (.inl ⟨z0', eq_true z1, by simp [z2], eq_false (by omega), eq_true (by omega)⟩))
                · exact .inr (.inl ⟨z0', eq_true z1, by simp [z2]⟩)
              · exact .inr (.inr (.inr ⟨z0', eq_false z1, eq_true (by omega)⟩))
          have CB := Lib.hid cb
          clear cb
          rcases hcase with f1 | ⟨f1, f2, f3⟩ | ⟨f1, f2, f3, f4, f5⟩ | ⟨f1, f2, f4⟩
          all_goals
            go_wp2_with (go_at_call 70; refine (HG.out _).mono ?_; rintro e w2 ⟨rfl, H2⟩; clear x0 x1 x2 x3; replace k0 := cell_keep H2 k0; replace k1 := cell_keep H2 k1; replace k2 := cell_keep H2 k2; replace k3 := cell_keep H2 k3; replace H2 := Lib.hid H2)
            go_ret2
            have hb := HI.out.2.2.2.1.trans ((HB.out.trans (H2.out.mono (by simp))).mono HI.out.2.2.2.1.size)
            refine OfPost.bad ?_ (by decide) hb
            rw [HO.out, HV.out, if_neg (fun h => h CG.out), if_pos CB.out]
        · have hcase : ((n == 0) = false ∧ (n < 0) = True ∧ (a0 != 0) = false ∧ (n > 72057594037927936) = False ∧ (n < -72057594037927936) = False) ∨ ((n == 0) = false ∧ (n < 0) = False ∧ (n > 72057594037927936) = False ∧ (n < -72057594037927936) = False) := by
            have cg2 := HV.out
            rw [CG.out] at cg2
            have hw := good_wf cg2
            have hw2 : 0 ≤ a0 := hw.2.1
            unfold badN at cb
            have z0' : (n == 0) = false := by
              have : n ≠ 0 := fun h => cb (.inl h)
              simp [this]
            by_cases z1 : n < 0
            · have z2 : a0 = 0 := by omega
              exact .inl ⟨z0', eq_true z1, by simp [z2], eq_false (by omega), eq_false (by omega)⟩
            · exact .inr ⟨z0', eq_false z1, eq_false (by omega), eq_false (by omega)⟩
          have CB := Lib.hid cb
          clear cb
          by_cases h0 : i = 0
          · have q5 : ((i : Int) > 0) = False := eq_false (by omega)
            have q6 : (0 < (i : Int)) = False := eq_false (by omega)
            have q7 : (0 < i) = False := eq_false (by omega)
            have H0 := Lib.hid h0
            clear h0
            rcases hcase with ⟨f1, f2, f3, f4, f5⟩ | ⟨f1, f2, f4, f5⟩
            all_goals
              go_wp2_with (go_at_call 70; refine (HG.out _).mono ?_; rintro e w2 ⟨rfl, H2⟩; clear x0 x1 x2 x3; replace k0 := cell_keep H2 k0; replace k1 := cell_keep H2 k1; replace k2 := cell_keep H2 k2; replace k3 := cell_keep H2 k3; replace H2 := Lib.hid H2)
              go_quiet (fail)
              go_wp2
              generalize hW : w2.drewN _ = w3
              replace k0 : w3.cell? ⟨wr.heap.size, 0, none⟩ = some (.int .i64 a0) := by rw [← hW]; exact k0
              replace k1 : w3.cell? ⟨wr.heap.size, 1, none⟩ = some (.int .i64 a1) := by rw [← hW]; exact k1
              replace k2 : w3.cell? ⟨wr.heap.size, 2, none⟩ = some (.string a2) := by rw [← hW]; exact k2
              replace k3 : w3.cell? ⟨wr.heap.size, 3, none⟩ = some (.int .i64 n) := by rw [← hW]; exact k3
              have hB3 : Below w.heap.size w w3.drew := by
                have hb2 := HI.out.2.2.2.1.trans ((HB.out.trans (H2.out.mono (by simp))).mono HI.out.2.2.2.1.size)
                rw [← hW]
                exact (pw_below_drewN hb2 _).drew
              have hLW : LG w3.drew (w.heap.size + 1) w.heap.size (storeF [] (L.take i)) := by
                have h1 := (HI.out.2.2.1.below HB.out).below H2.out
                rw [← hW]
                exact ⟨h1.blk, h1.map.move rfl⟩
              clear hW
              have hgs : Wfa ⟨a0, a1, a2⟩ := by
                have cg2 := HV.out
                rw [CG.out] at cg2
                exact (good_wf cg2).1
              have hnw : (Lit.int .i64 n).wf = true := by
                have h9 := CB.out
                unfold badN at h9
                exact wf_i64 (by omega) (by omega)
              have hlen : (storeF [] (L.take i)).length ≤ 100 := by
                have h9 := length_storeF (L.take i) []
                have h8 := HL.out
                rw [List.length_take] at h9
                simp at h9
                omega
              obtain ⟨w6, hst, hs6, hg6, hz6⟩ := hLW.map.store hgs (n := n) hnw (Nat.lt_of_le_of_lt hlen (by unfold maxLen; omega))
              have hc6 := hLW.cell
              simp only [kv] at hst
              have H6 := Lib.hid (And.intro hs6 (And.intro hg6 (And.intro hLW hB3)))
              clear hgs hnw hLW hlen hs6 hg6 hz6 hB3
              go_still_tail 8, (by kernel_rfl)
              show wpList _ _ _ _ _ w3.drew
              go_wp2
              go_roundg (L.length - i)
              case measure => have := HI.out.1; have := HK.out; omega
              case rel =>
                obtain ⟨m1, m2, m3, m4⟩ := H6.out
                refine ⟨i + 1, by rw [Hw.out], ⟨by have := HI.out.1; have := HK.out; omega, HK.out, ⟨(m2.block _ m3.glt (by simp)).trans m3.blk, by rw [HS.out]; exact m1⟩, m4.grown m2 m4.size (by simp), ?_⟩⟩
                rw [HPV.out, HO.out, HV.out, if_neg (fun h => h CG.out), if_neg CB.out, if_pos (by rw [H0.out]; rfl)]
          · have q5 : ((i : Int) > 0) = True := eq_true (by omega)
            have q6 : (0 < (i : Int)) = True := eq_true (by omega)
            have q7 : (0 < i) = True := eq_true (by omega)
            obtain ⟨j, hj⟩ : ∃ j, i = j + 1 := ⟨i - 1, by omega⟩
            have q8 : wrap64 ((i : Int) - 1) = (j : Int) := by
              have h3 := HL.out
              have h4 := HK.out
              rw [wrap_id (by omega) (by omega)]
              omega
            have q8b : IntKind.i64.wrap ((i : Int) - 1) = (j : Int) := (IntKind.wrap_i64 _).trans (by have h9 := q8; unfold wrap64 at h9; exact h9)
            have q9 : (0 ≤ (j : Int)) = True := eq_true (by omega)
            have hjl : j < L.length := by have := HK.out; omega
            have q10 : ((j : Int) < (L.length : Int)) = True := eq_true (by omega)
            obtain ⟨ad', eA', y0, y1, y2, _⟩ := at_T82 (Kd.C_below HC.out.1 HI.out.2.2.2.1) (j : Int) (by omega) (by omega)
            obtain rfl : ad = ad' := by injection eA'
            simp only [Int.toNat_natCast] at y0 y1 y2
            have hpr : prevO L i = some (rd_T82 L (j : Int)).f0 := by rw [hj]; rfl
            obtain ⟨⟨⟨b0, b1, b2⟩, bn⟩, hb⟩ : ∃ b, rd_T82 L (j : Int) = b := ⟨_, rfl⟩
            rw [hb] at y0 y1 y2 hpr
            simp only at y0 y1 y2
            obtain ⟨o, ho⟩ : ∃ o, ordI ⟨b0, b1, b2⟩ ⟨a0, a1, a2⟩ = o := ⟨_, rfl⟩
            have HOR := Lib.hid (show ∀ W, Calls Try.prog 63 #[.agg #[.int .i64 b0, .int .i64 b1, .string b2], .agg #[.int .i64 a0, .int .i64 a1, .string a2]] W fun e w' => e = .returned (.int .i64 o) ∧ Below W.heap.size W w' from fun W => by rw [← ho]; exact order_any ⟨b0, b1, b2⟩ ⟨a0, a1, a2⟩ W)
            have HP := Lib.hid (And.intro hpr ho)
            have hah : ahO (prevO L i) ⟨a0, a1, a2⟩ = true ↔ o < 0 := by
              rw [hpr, ← ho]
              exact (ahead_iff ⟨b0, b1, b2⟩ ⟨a0, a1, a2⟩).trans (ord_lt ⟨b0, b1, b2⟩ ⟨a0, a1, a2⟩).symm
            have HAH := Lib.hid hah
            clear hpr hb ho hah eA' hj hjl
            by_cases co : o < 0
            · have q11 : (o ≥ 0) = False := eq_false (by omega)
              have CO := Lib.hid co
              clear co
              rcases hcase with ⟨f1, f2, f3, f4, f5⟩ | ⟨f1, f2, f4, f5⟩
              all_goals
                go_wp2_with (go_at_call 70; refine (HG.out _).mono ?_; rintro e w2 ⟨rfl, H2⟩; replace y0 := cell_keep H2 (cell_keep HB.out y0); replace y1 := cell_keep H2 (cell_keep HB.out y1); replace y2 := cell_keep H2 (cell_keep HB.out y2); clear x0 x1 x2 x3; replace k0 := cell_keep H2 k0; replace k1 := cell_keep H2 k1; replace k2 := cell_keep H2 k2; replace k3 := cell_keep H2 k3; replace H2 := Lib.hid H2)
                have hSD : w2.drew.cell? ⟨wr.heap.size, 0, none⟩ = some (.int .i64 a0) ∧ w2.drew.cell? ⟨wr.heap.size, 1, none⟩ = some (.int .i64 a1) ∧ w2.drew.cell? ⟨wr.heap.size, 2, none⟩ = some (.string a2) ∧ w2.drew.cell? ⟨wr.heap.size, 3, none⟩ = some (.int .i64 n) ∧ w2.drew.cell? (ad.add (j * 4)) = some (.int .i64 b0) ∧ w2.drew.cell? ⟨(ad.add (j * 4)).block, (ad.add (j * 4)).off + 1, none⟩ = some (.int .i64 b1) ∧ w2.drew.cell? ⟨(ad.add (j * 4)).block, (ad.add (j * 4)).off + 2, none⟩ = some (.string b2) := ⟨k0, k1, k2, k3, y0, y1, y2⟩
                go_region_held3 (fun w' => w'.cell? ⟨wr.heap.size, 0, none⟩ = some (.int .i64 a0) ∧ w'.cell? ⟨wr.heap.size, 1, none⟩ = some (.int .i64 a1) ∧ w'.cell? ⟨wr.heap.size, 2, none⟩ = some (.string a2) ∧ w'.cell? ⟨wr.heap.size, 3, none⟩ = some (.int .i64 n) ∧ w'.cell? (ad.add (j * 4)) = some (.int .i64 b0) ∧ w'.cell? ⟨(ad.add (j * 4)).block, (ad.add (j * 4)).off + 1, none⟩ = some (.int .i64 b1) ∧ w'.cell? ⟨(ad.add (j * 4)).block, (ad.add (j * 4)).off + 2, none⟩ = some (.string b2))
                  (first | assumption)
                  (first | (go_at_call 63; refine (HOR.out _).mono ?_; rintro e w3 ⟨rfl, H3⟩; have kk : w3.cell? ⟨wr.heap.size, 0, none⟩ = some (.int .i64 a0) ∧ w3.cell? ⟨wr.heap.size, 1, none⟩ = some (.int .i64 a1) ∧ w3.cell? ⟨wr.heap.size, 2, none⟩ = some (.string a2) ∧ w3.cell? ⟨wr.heap.size, 3, none⟩ = some (.int .i64 n) ∧ w3.cell? (ad.add (j * 4)) = some (.int .i64 b0) ∧ w3.cell? ⟨(ad.add (j * 4)).block, (ad.add (j * 4)).off + 1, none⟩ = some (.int .i64 b1) ∧ w3.cell? ⟨(ad.add (j * 4)).block, (ad.add (j * 4)).off + 2, none⟩ = some (.string b2) := ⟨cell_keep H3 k0, cell_keep H3 k1, cell_keep H3 k2, cell_keep H3 k3, cell_keep H3 y0, cell_keep H3 y1, cell_keep H3 y2⟩; replace H3 := Lib.hid H3))
                clear k0 k1 k2 k3 y0 y1 y2 hSD
                obtain ⟨k0, k1, k2, k3, _, _, _⟩ := kk
                have hB3 : Below w.heap.size w w3.drew := by
                  have hb2 := HI.out.2.2.2.1.trans ((HB.out.trans (H2.out.mono (by simp))).mono HI.out.2.2.2.1.size)
                  exact (hb2.drew.trans (H3.out.mono hb2.size)).drew
                have hLW : LG w3.drew (w.heap.size + 1) w.heap.size (storeF [] (L.take i)) := by
                  have h1 := (HI.out.2.2.1.below HB.out).below H2.out
                  have h2 : LG w2.drew (w.heap.size + 1) w.heap.size (storeF [] (L.take i)) := ⟨h1.blk, h1.map.move rfl⟩
                  have h3 := h2.below H3.out
                  exact ⟨h3.blk, h3.map.move rfl⟩
                have hgs : Wfa ⟨a0, a1, a2⟩ := by
                  have cg2 := HV.out
                  rw [CG.out] at cg2
                  exact (good_wf cg2).1
                have hnw : (Lit.int .i64 n).wf = true := by
                  have h9 := CB.out
                  unfold badN at h9
                  exact wf_i64 (by omega) (by omega)
                have hlen : (storeF [] (L.take i)).length ≤ 100 := by
                  have h9 := length_storeF (L.take i) []
                  have h8 := HL.out
                  rw [List.length_take] at h9
                  simp at h9
                  omega
                obtain ⟨w6, hst, hs6, hg6, hz6⟩ := hLW.map.store hgs (n := n) hnw (Nat.lt_of_le_of_lt hlen (by unfold maxLen; omega))
                have hc6 := hLW.cell
                simp only [kv] at hst
                have H6 := Lib.hid (And.intro hs6 (And.intro hg6 (And.intro hLW hB3)))
                clear hgs hnw hLW hlen hs6 hg6 hz6 hB3
                go_wp2
                go_still_tail 8, (by kernel_rfl)
                show wpList _ _ _ _ _ w3.drew
                go_wp2
                go_roundg (L.length - i)
                case measure => have := HI.out.1; have := HK.out; omega
                case rel =>
                  obtain ⟨m1, m2, m3, m4⟩ := H6.out
                  refine ⟨i + 1, by rw [Hw.out], ⟨by have := HI.out.1; have := HK.out; omega, HK.out, ⟨(m2.block _ m3.glt (by simp)).trans m3.blk, by rw [HS.out]; exact m1⟩, m4.grown m2 m4.size (by simp), ?_⟩⟩
                  rw [HPV.out, HO.out, HV.out, if_neg (fun h => h CG.out), if_neg CB.out, if_pos (HAH.out.2 CO.out)]
            · have q11 : (o ≥ 0) = True := eq_true (by omega)
              have CO := Lib.hid co
              clear co
              rcases hcase with ⟨f1, f2, f3, f4, f5⟩ | ⟨f1, f2, f4, f5⟩
              all_goals
                go_wp2_with (go_at_call 70; refine (HG.out _).mono ?_; rintro e w2 ⟨rfl, H2⟩; replace y0 := cell_keep H2 (cell_keep HB.out y0); replace y1 := cell_keep H2 (cell_keep HB.out y1); replace y2 := cell_keep H2 (cell_keep HB.out y2); clear x0 x1 x2 x3; replace k0 := cell_keep H2 k0; replace k1 := cell_keep H2 k1; replace k2 := cell_keep H2 k2; replace k3 := cell_keep H2 k3; replace H2 := Lib.hid H2)
                have hSD : w2.drew.cell? ⟨wr.heap.size, 0, none⟩ = some (.int .i64 a0) ∧ w2.drew.cell? ⟨wr.heap.size, 1, none⟩ = some (.int .i64 a1) ∧ w2.drew.cell? ⟨wr.heap.size, 2, none⟩ = some (.string a2) ∧ w2.drew.cell? ⟨wr.heap.size, 3, none⟩ = some (.int .i64 n) ∧ w2.drew.cell? (ad.add (j * 4)) = some (.int .i64 b0) ∧ w2.drew.cell? ⟨(ad.add (j * 4)).block, (ad.add (j * 4)).off + 1, none⟩ = some (.int .i64 b1) ∧ w2.drew.cell? ⟨(ad.add (j * 4)).block, (ad.add (j * 4)).off + 2, none⟩ = some (.string b2) := ⟨k0, k1, k2, k3, y0, y1, y2⟩
                go_region_held3 (fun w' => w'.cell? ⟨wr.heap.size, 0, none⟩ = some (.int .i64 a0) ∧ w'.cell? ⟨wr.heap.size, 1, none⟩ = some (.int .i64 a1) ∧ w'.cell? ⟨wr.heap.size, 2, none⟩ = some (.string a2) ∧ w'.cell? ⟨wr.heap.size, 3, none⟩ = some (.int .i64 n) ∧ w'.cell? (ad.add (j * 4)) = some (.int .i64 b0) ∧ w'.cell? ⟨(ad.add (j * 4)).block, (ad.add (j * 4)).off + 1, none⟩ = some (.int .i64 b1) ∧ w'.cell? ⟨(ad.add (j * 4)).block, (ad.add (j * 4)).off + 2, none⟩ = some (.string b2))
                  (first | assumption)
                  (first | (go_at_call 63; refine (HOR.out _).mono ?_; rintro e w3 ⟨rfl, H3⟩; have kk : w3.cell? ⟨wr.heap.size, 0, none⟩ = some (.int .i64 a0) ∧ w3.cell? ⟨wr.heap.size, 1, none⟩ = some (.int .i64 a1) ∧ w3.cell? ⟨wr.heap.size, 2, none⟩ = some (.string a2) ∧ w3.cell? ⟨wr.heap.size, 3, none⟩ = some (.int .i64 n) ∧ w3.cell? (ad.add (j * 4)) = some (.int .i64 b0) ∧ w3.cell? ⟨(ad.add (j * 4)).block, (ad.add (j * 4)).off + 1, none⟩ = some (.int .i64 b1) ∧ w3.cell? ⟨(ad.add (j * 4)).block, (ad.add (j * 4)).off + 2, none⟩ = some (.string b2) := ⟨cell_keep H3 k0, cell_keep H3 k1, cell_keep H3 k2, cell_keep H3 k3, cell_keep H3 y0, cell_keep H3 y1, cell_keep H3 y2⟩; replace H3 := Lib.hid H3))
                go_wp2
                go_ret2
                have hb2 := HI.out.2.2.2.1.trans ((HB.out.trans (H2.out.mono (by simp))).mono HI.out.2.2.2.1.size)
                have hb3 := hb2.drew.trans (H3.out.mono hb2.size)
                refine OfPost.bad ?_ (by decide) hb3
                rw [HO.out, HV.out, if_neg (fun h => h CG.out), if_neg CB.out, if_neg (fun h => by have h9 := HAH.out.1 h; have h8 := CO.out; omega)]
      · have f0 : (gv != 0) = true := by simp [cg]
        have CG := Lib.hid cg
        clear cg
        go_wp2_with (go_at_call 70; refine (HG.out _).mono ?_; rintro e w2 ⟨rfl, H2⟩; clear x0 x1 x2 x3; replace k0 := cell_keep H2 k0; replace k1 := cell_keep H2 k1; replace k2 := cell_keep H2 k2; replace k3 := cell_keep H2 k3; replace H2 := Lib.hid H2)
        go_ret2
        have hb := HI.out.2.2.2.1.trans ((HB.out.trans (H2.out.mono (by simp))).mono HI.out.2.2.2.1.size)
        refine OfPost.bad ?_ CG.out hb
        rw [HO.out, HV.out, if_pos CG.out]
    · have q1 : ((i : Int) < (L.length : Int)) = False := eq_false (by omega)
      have hie : i = L.length := by have := HI.out.2.1; omega
      have hok : ofP none L = 0 := by
        rw [HI.out.2.2.2.2, hie, List.drop_length]
        rfl
      have hlg : LG wr (w.heap.size + 1) w.heap.size (storeF [] L) := by
        have h9 := HI.out.2.2.1
        rw [List.take_of_length_le (by omega)] at h9
        exact h9
      have HR := Lib.hid (rep_mapOf hok)
      have HOK := Lib.hid hok
      have HG := Lib.hid hlg
      have HTL := Lib.hid (show (compB (thingsOf L)).length ≤ 100 from Nat.le_trans (compB_length _) (by have := HL.out; simpa [thingsOf] using this))
      have HTH := Lib.hid (show Calls Try.prog 32 #[.pointer (some ⟨w.heap.size + 1, 0, none⟩)] wr fun e w' => ∃ (A2 : Option Addr) (c2 : Nat), e = .returned (.slice A2 (compB (thingsOf L)).length c2) ∧ Hid (Kd.C Kd.string w' A2 (compB (thingsOf L)).length (compB (thingsOf L)) ∧ Below wr.heap.size wr w') from by
        refine (things_walk _ wr L (all_gives HG.out HR.out (by have := HL.out; omega)) (by have := HL.out; omega)).mono ?_
        rintro e w' ⟨v, rfl, h1, hb⟩
        obtain ⟨A2, c2, rfl, h3, h4⟩ := Kd.R_reads h1
        exact ⟨A2, c2, rfl, ⟨h4, hb⟩⟩)
      have HOF := Lib.hid (off_iff HR.out)
      clear hie hok hlg
      obtain ⟨T, hT⟩ : ∃ T, compB (thingsOf L) = T := ⟨_, rfl⟩
      rw [hT] at HTL HTH HOF
      clear hT
      go_wp2_with (go_at_call 32; refine HTH.out.mono ?_; rintro e w2 ⟨A2, c2, rfl, H2⟩)
      go_loopg [9, 76] (T.length + 1) (fun kq v9 v76 w' => ∃ m : Nat, v76 = .int .i64 m ∧ Hid (kq + m = T.length + 1 ∧ m ≤ T.length ∧ Below w2.heap.size w2 w' ∧ (∀ t ∈ T.take m, wrap64 (sumM (storeF [] L) t) = 0)))
      case atStart =>
        exact ⟨0, rfl, ⟨rfl, Nat.zero_le _, Below.refl _ _, fun t ht => by simp at ht⟩⟩
      case round =>
        obtain ⟨m, rfl, HJ⟩ := hrel
        have HBB := Lib.hid (HI.out.2.2.2.1.trans ((H2.out.2.trans (HJ.out.2.2.1.mono H2.out.2.size)).mono HI.out.2.2.2.1.size))
        by_cases hm : m < T.length
        · obtain ⟨ad, eA, x0⟩ := Kd.at_string (Kd.C_below H2.out.1 HJ.out.2.2.1) (m : Int) (by omega) (by omega)
          simp only [Int.toNat_natCast] at x0
          have e1 : rdOf ByteArray.empty T (m : Int) = T[m] := by
            unfold rdOf
            simp [List.getD, hm]
          rw [e1] at x0
          obtain ⟨t, ht⟩ : ∃ t, T[m] = t := ⟨_, rfl⟩
          rw [ht] at x0
          have hmem : t ∈ T := by rw [← ht]; exact List.getElem_mem hm
          have htk : T.take (m + 1) = T.take m ++ [t] := by rw [List.take_succ_eq_append_getElem hm, ht]
          have HT := Lib.hid (And.intro hmem htk)
          obtain ⟨s, hs⟩ : ∃ s, wrap64 (sumM (storeF [] L) t) = s := ⟨_, rfl⟩
          have HSW := Lib.hid (show Calls Try.prog 71 #[.pointer (some ⟨w.heap.size + 1, 0, none⟩), .string t] wr fun e w' => e = .returned (.int .i64 s) ∧ Below wr.heap.size wr w' from by
            rw [← hs]
            exact sum_walk ((HG.out.below H2.out.2).below HJ.out.2.2.1) t)
          have hl64 : wrap64 ((m : Int) + 1) = ((m + 1 : Nat) : Int) := by
            have h3 := HTL.out
            rw [wrap_id (by omega) (by omega)]; rfl
          have Hw := Lib.hid hl64
          have HK := Lib.hid hm
          have HS := Lib.hid hs
          have p1 : (0 ≤ (m : Int)) = True := eq_true (by omega)
          have q2 : ((m : Int) < (T.length : Int)) = True := eq_true (by omega)
          subst eA
          clear e1 ht hs hl64 hm hmem htk
          by_cases cs : s = 0
          · have f1 : (s != 0) = false := by simp [cs]
            have CS := Lib.hid cs
            clear cs
            go_wp2_with (go_at_call 71; refine HSW.out.mono ?_; rintro e w4 ⟨rfl, H4⟩; replace H4 := Lib.hid H4)
            go_roundg (T.length - m)
            case measure => have := HJ.out.1; have := HK.out; omega
            case rel =>
              refine ⟨m + 1, by rw [Hw.out], ⟨by have := HJ.out.1; have := HK.out; omega, HK.out, HJ.out.2.2.1.trans (H4.out.mono HJ.out.2.2.1.size), fun t' ht' => ?_⟩⟩
              rw [HT.out.2] at ht'
              rcases List.mem_append.1 ht' with h | h
              · exact HJ.out.2.2.2 t' h
              · simp at h
                rw [h, HS.out, CS.out]
          · have f1 : (s != 0) = true := by simp [cs]
            have CS := Lib.hid cs
            clear cs
            go_wp2_with (go_at_call 71; refine HSW.out.mono ?_; rintro e w4 ⟨rfl, H4⟩; replace H4 := Lib.hid H4)
            go_ret2
            have hoff : offL L := HOF.out.1 ⟨t, HT.out.1, by rw [HS.out]; exact CS.out⟩
            have e9 : ofR L = 20 := by unfold ofR; rw [if_neg (fun h => h HOK.out), if_pos hoff]
            refine ⟨.pointer none, by rw [e9]; rfl, HBB.out.trans (H4.out.mono HBB.out.size), .inl ⟨by rw [e9]; decide, rfl⟩⟩
        · have q2 : ((m : Int) < (T.length : Int)) = False := eq_false (by omega)
          have hoff : ¬ offL L := fun h => by
            obtain ⟨t, ht, hc⟩ := HOF.out.2 h
            exact hc (HJ.out.2.2.2 t (by rw [List.take_of_length_le (by omega)]; exact ht))
          have HNO := Lib.hid hoff
          clear hm hoff
          go_wp2
          go_ret2
          have e9 : ofR L = 0 := by unfold ofR; rw [if_neg (fun h => h HOK.out), if_neg HNO.out]
          refine ⟨.pointer (some ⟨w.heap.size + 1, 0, none⟩), by rw [e9]; rfl, HBB.out, .inr ⟨e9, _, _, _, rfl, (HG.out.below H2.out.2).below HJ.out.2.2.1, HR.out⟩⟩
end Go.Proofs.Ytoknlpecbdlbfaa.PL

-- LedgerOf, walked.
namespace Go.Proofs.Ytoknlpecbdlbfaa.PL
open Go Go.RowKit Go.Maps Go.Sort Go.Shelf Go.Proofs Go.Proofs.YtoknlpecbdlbfaaW.PrintWords Go.Proofs.YtoknlpecbdlbfaaW.PrintLast
theorem ofx_any (a0 a1 : Int) (a2 : ByteArray) (w : World) : Calls Try.prog 26 #[.agg #[.int .i64 a0, .int .i64 a1, .string a2]] w fun e w' => e = .returned (.agg #[.int .i64 a0, .int .i64 a1, .string a2]) ∧ Below w.heap.size w w' :=
  lombardlaw11_of.calls a0 a1 a2 a0 a1 a2 w rfl
theorem rof_any (A : Option Addr) (c : Nat) (L : List S82) (w : World) (hC : Kd.C k82 w A L.length L) (hc : L.length ≤ c) (hL : L.length ≤ 100) :
    Calls Try.prog 41 #[.slice A L.length c] w fun e w' => e = .returned (.int .i64 (ofR L)) ∧ Below w.heap.size w w' := by
  obtain ⟨k, hk⟩ := of_f L (by omega)
  exact lombardref11_Of.calls k A c L _ w hC hc hk
set_option maxRecDepth 100000 in
theorem of_long (A : Option Addr) (c : Nat) (L : List S82) (w : World) (h : 100 < L.length) :
    Calls Try.prog 10 #[.slice A L.length c] w fun e w' => e = .returned (.bool true) ∧ Below w.heap.size w w' := by
  have p1 : ((L.length : Int) > 100) = True := eq_true (by omega)
  clear h
  go_enter Try.func10, Try.ntmps10
  go_wp2_with (go_at_call 16; refine (awake_walk _).mono ?_; rintro e w2 ⟨rfl, H2⟩; replace H2 := Lib.hid H2)
  go_ret
  exact ⟨rfl, H2.out⟩
set_option maxRecDepth 100000 in
set_option maxHeartbeats 4000000 in
theorem lof_walk (A : Option Addr) (c : Nat) (L : List S82) (w : World) (hr : Kd.C k82 w A L.length L) (hc : L.length ≤ c) (hL : L.length ≤ 100) :
    Calls Try.prog 10 #[.slice A L.length c] w fun e w' => e = .returned (.bool true) ∧ Below w.heap.size w w' := by
  have p1 : ((L.length : Int) > 100) = False := eq_false (by omega)
  have HP := Lib.hid (And.intro hr hc)
  have HL := Lib.hid hL
  clear hr hc hL
  go_enter Try.func10, Try.ntmps10
  go_wp2
  go_loopg [3, 4] (L.length + 1) (fun kq v3 v4 w' => ∃ k : Nat, v4 = .int .i64 k ∧ Hid (kq + k = L.length + 1 ∧ k ≤ L.length ∧ Kd.R k82 44 w' w.heap.size (fun _ => True) v3 (L.take k) ∧ Below w.heap.size w w'))
  case atStart =>
    exact ⟨0, rfl, ⟨rfl, Nat.zero_le _, Kd.R_nil _ _ _ _ _, Below.refl _ _⟩⟩
  case round =>
    obtain ⟨k, rfl, HI⟩ := hrel
    by_cases hk : k < L.length
    · have hx : ∀ (w' : World), Below w.heap.size w w' → ∃ ad, A = some ad ∧ w'.cell? (ad.add (k * 4)) = some (.int .i64 (rd_T82 L (k : Int)).f0.f0) ∧ w'.cell? ⟨(ad.add (k * 4)).block, (ad.add (k * 4)).off + 1, none⟩ = some (.int .i64 (rd_T82 L (k : Int)).f0.f1) ∧ w'.cell? ⟨(ad.add (k * 4)).block, (ad.add (k * 4)).off + 2, none⟩ = some (.string (rd_T82 L (k : Int)).f0.f2) ∧ w'.cell? ⟨(ad.add (k * 4)).block, (ad.add (k * 4)).off + 3, none⟩ = some (.int .i64 (rd_T82 L (k : Int)).f1) := fun w' hb => by
        obtain ⟨ad, eA, x0, x1, x2, x3⟩ := at_T82 (Kd.C_below HP.out.1 hb) (k : Int) (by omega) (by omega)
        simp only [Int.toNat_natCast] at x0 x1 x2 x3
        exact ⟨ad, eA, x0, x1, x2, x3⟩
      have e1 : rd_T82 L (k : Int) = L[k] := by
        unfold rd_T82
        simp [List.getD, hk]
      have htk : L.take (k + 1) = L.take k ++ [rd_T82 L (k : Int)] := by rw [List.take_succ_eq_append_getElem hk, e1]
      obtain ⟨⟨⟨a0, a1, a2⟩, n⟩, ha⟩ : ∃ a, rd_T82 L (k : Int) = a := ⟨_, rfl⟩
      rw [ha] at hx htk
      simp only at hx
      have hb1 : Below w.heap.size w wr.drew := HI.out.2.2.2.drew
      obtain ⟨ad, eA, hSD⟩ := hx _ hb1
      have hx2 : ∀ (w' : World), Below w.heap.size w w' → (w'.cell? (ad.add (k * 4)) = some (.int .i64 a0) ∧ w'.cell? ⟨(ad.add (k * 4)).block, (ad.add (k * 4)).off + 1, none⟩ = some (.int .i64 a1) ∧ w'.cell? ⟨(ad.add (k * 4)).block, (ad.add (k * 4)).off + 2, none⟩ = some (.string a2) ∧ w'.cell? ⟨(ad.add (k * 4)).block, (ad.add (k * 4)).off + 3, none⟩ = some (.int .i64 n)) := fun w' hb => by
        obtain ⟨ad', eA', h⟩ := hx w' hb
        obtain rfl : ad = ad' := by rw [eA] at eA'; injection eA'
        exact h
      have hl64 : wrap64 ((k : Int) + 1) = ((k + 1 : Nat) : Int) := by
        have h3 := HL.out
        rw [wrap_id (by omega) (by omega)]; rfl
      have q1 : (0 ≤ (k : Int)) = True := eq_true (by omega)
      have q2 : ((k : Int) < (L.length : Int)) = True := eq_true (by omega)
      have hlen : (L.take k).length ≤ 100 := by
        have := HL.out
        rw [List.length_take]
        omega
      obtain ⟨xs0, hxs0⟩ : ∃ l, L.take k = l := ⟨_, rfl⟩
      have hR0 := HI.out.2.2.1
      rw [hxs0] at htk hlen hR0
      have HX := Lib.hid hx2
      have HT := Lib.hid htk
      have Hw := Lib.hid hl64
      have HK := Lib.hid hk
      have HQ := Lib.hid (And.intro (Kd.R_drew hR0) (And.intro hb1 (show (xs0.length + 1) * 40 ≤ 140737488355328 by omega)))
      have HSA := Lib.hid (show ∀ (w' : World) (o : Obj), (w'.cell? (ad.add (k * 4)) = some (.int .i64 a0) ∧ w'.cell? ⟨(ad.add (k * 4)).block, (ad.add (k * 4)).off + 1, none⟩ = some (.int .i64 a1) ∧ w'.cell? ⟨(ad.add (k * 4)).block, (ad.add (k * 4)).off + 2, none⟩ = some (.string a2) ∧ w'.cell? ⟨(ad.add (k * 4)).block, (ad.add (k * 4)).off + 3, none⟩ = some (.int .i64 n)) → ((w'.alloc o).cell? (ad.add (k * 4)) = some (.int .i64 a0) ∧ (w'.alloc o).cell? ⟨(ad.add (k * 4)).block, (ad.add (k * 4)).off + 1, none⟩ = some (.int .i64 a1) ∧ (w'.alloc o).cell? ⟨(ad.add (k * 4)).block, (ad.add (k * 4)).off + 2, none⟩ = some (.string a2) ∧ (w'.alloc o).cell? ⟨(ad.add (k * 4)).block, (ad.add (k * 4)).off + 3, none⟩ = some (.int .i64 n)) from fun w' o ⟨s0, s1, s2, s3⟩ =>
          ⟨cell_keep ((Below.refl _ _).alloc (Nat.le_refl _) _) s0, cell_keep ((Below.refl _ _).alloc (Nat.le_refl _) _) s1, cell_keep ((Below.refl _ _).alloc (Nat.le_refl _) _) s2, cell_keep ((Below.refl _ _).alloc (Nat.le_refl _) _) s3⟩)
      subst eA
      clear hx e1 htk ha hb1 hx2 hl64 hlen hxs0 hR0 hk
      go_wp2
      go_region_held3 (fun w' => w'.cell? (ad.add (k * 4)) = some (.int .i64 a0) ∧ w'.cell? ⟨(ad.add (k * 4)).block, (ad.add (k * 4)).off + 1, none⟩ = some (.int .i64 a1) ∧ w'.cell? ⟨(ad.add (k * 4)).block, (ad.add (k * 4)).off + 2, none⟩ = some (.string a2) ∧ w'.cell? ⟨(ad.add (k * 4)).block, (ad.add (k * 4)).off + 3, none⟩ = some (.int .i64 n))
        (first | assumption | exact HSA.out _ _ (by assumption))
        (first
          | (go_at_call 26; refine (ofx_any _ _ _ _).mono ?_; rintro e w3 ⟨rfl, H3⟩; have kk : w3.cell? (ad.add (k * 4)) = some (.int .i64 a0) ∧ w3.cell? ⟨(ad.add (k * 4)).block, (ad.add (k * 4)).off + 1, none⟩ = some (.int .i64 a1) ∧ w3.cell? ⟨(ad.add (k * 4)).block, (ad.add (k * 4)).off + 2, none⟩ = some (.string a2) ∧ w3.cell? ⟨(ad.add (k * 4)).block, (ad.add (k * 4)).off + 3, none⟩ = some (.int .i64 n) := HX.out w3 (HQ.out.2.1.trans (H3.mono HQ.out.2.1.size)); have HZ := Lib.hid (And.intro (Kd.R_below HQ.out.1 H3) (And.intro (HQ.out.2.1.trans (H3.mono HQ.out.2.1.size)) (Nat.le_trans HQ.out.2.1.size H3.size))); replace H3 := Lib.hid H3)
          | (refine Kd.R_append_step k82 (w0 := w) (W := w3) w.heap.size (by rfl) (.tmp 17) (.tmp 30) 38 44 (.agg #[(.int .i64 0), (.int .i64 0), (.string ⟨#[]⟩), (.int .i64 0)]) 40 rfl Try.underlying38 info44 rfl (by decide) (by decide) u3 xs0 ⟨⟨a0, a1, a2⟩, n⟩ [.int .i64 a0, .int .i64 a1, .string a2, .int .i64 n] (fun _ => True) (fun _ => False) rfl rfl (k82_mkM _ _ _ _) (fun _ h => h.elim) (fun _ _ => trivial) HZ.out.1 HZ.out.2.1 HZ.out.2.2 HQ.out.2.2 ?_; intro v1 w5 ho hb hg hat; have kk5 := HX.out w5 hb; have H5 := Lib.hid (And.intro ho hb); clear ho hb hg hat))
      go_wp2
      go_roundg (L.length - k)
      case measure => have := HI.out.1; have := HK.out; omega
      case rel =>
        refine ⟨k + 1, by rw [Hw.out], ⟨by have := HI.out.1; have := HK.out; omega, HK.out, ?_, H5.out.2⟩⟩
        rw [HT.out]
        exact H5.out.1
    · have q2 : ((k : Int) < (L.length : Int)) = False := eq_false (by omega)
      have hR0 := HI.out.2.2.1
      rw [List.take_of_length_le (by omega)] at hR0
      obtain ⟨A2, c2, rfl, hc2, hC2⟩ := Kd.R_reads hR0
      have HO := Lib.hid (of_walk A2 c2 L wr hC2 hc2 HL.out)
      clear hR0 hc2 hC2 hk
      obtain ⟨v, hv⟩ : ∃ v, ofR L = v := ⟨_, rfl⟩
      by_cases cv : v = 0
      · have HO0 := Lib.hid (show Calls Try.prog 40 #[.slice A2 L.length c2] wr fun e w' => ∃ (g b : Nat) (M : List (S42 × Int)), e = .returned (.tuple #[.pointer (some ⟨g, 0, none⟩), .int .i64 0]) ∧ Hid (LG w' g b M ∧ Rep M L ∧ Below wr.heap.size wr w') from by
          refine HO.out.mono ?_
          rintro e w' ⟨p, rfl, hb, hcase⟩
          rcases hcase with ⟨h1, _⟩ | ⟨h1, g, b, M, rfl, h2, h3⟩
          · exact absurd (hv.trans cv) h1
          · exact ⟨g, b, M, by rw [h1], ⟨h2, h3, hb⟩⟩)
        have HV := Lib.hid (hv.trans cv)
        clear hv cv HO
        go_wp2_with (first
          | (go_at_call 16; refine (awake_walk _).mono ?_; rintro e w9 ⟨rfl, H9⟩; replace H9 := Lib.hid H9)
          | (go_at_call 21; refine (same_any A7 A c7' c L _ H7.out.1 H7.out.2.2 (Kd.C_below HP.out.1 (B6.out.trans (H7.out.2.1.mono B6.out.size))) HP.out.2 (by have := HL.out; omega)).mono ?_; rintro e w8 ⟨rfl, H8⟩; replace H8 := Lib.hid H8)
          | (go_at_call 22; refine (told_gives (H5.out.1.below H6.out) H5.out.2.1 (by have := HL.out; omega)).mono ?_; rintro e w7 ⟨A7, c7', rfl, H7⟩)
          | (go_at_call 41; refine (rof_any A c L _ (Kd.C_below HP.out.1 B5.out) HP.out.2 HL.out).mono ?_; rintro e w6 ⟨he, H6⟩; rw [HV.out] at he; subst he; have B6 := Lib.hid (B5.out.trans (H6.mono B5.out.size)); replace H6 := Lib.hid H6)
          | (go_at_call 40; refine HO0.out.mono ?_; rintro e w5 ⟨g, b, M, rfl, H5⟩; have B5 := Lib.hid (HI.out.2.2.2.trans (H5.out.2.2.mono HI.out.2.2.2.size))))
        go_ret
        have b7 := B6.out.trans (H7.out.2.1.mono B6.out.size)
        have b8 := b7.trans (H8.out.mono b7.size)
        exact ⟨rfl, b8.trans (H9.out.mono b8.size)⟩
      · have HO0 := Lib.hid (show Calls Try.prog 40 #[.slice A2 L.length c2] wr fun e w' => e = .returned (.tuple #[.pointer none, .int .i64 v]) ∧ Below wr.heap.size wr w' from by
          refine HO.out.mono ?_
          rintro e w' ⟨p, rfl, hb, hcase⟩
          rcases hcase with ⟨_, rfl⟩ | ⟨h1, _⟩
          · exact ⟨by rw [hv], hb⟩
          · exact absurd (hv.symm.trans h1) cv)
        have HV := Lib.hid hv
        have f1 : (v != 0) = true := by simp [cv]
        have f2 : (v == 0) = false := by simp [cv]
        clear hv cv HO
        go_wp2_with (first
          | (go_at_call 16; refine (awake_walk _).mono ?_; rintro e w9 ⟨rfl, H9⟩; replace H9 := Lib.hid H9)
          | (go_at_call 41; refine (rof_any A c L _ (Kd.C_below HP.out.1 B5.out) HP.out.2 HL.out).mono ?_; rintro e w6 ⟨he, H6⟩; rw [HV.out] at he; subst he; have B6 := Lib.hid (B5.out.trans (H6.mono B5.out.size)); replace H6 := Lib.hid H6)
          | (go_at_call 40; refine HO0.out.mono ?_; rintro e w5 ⟨rfl, H5⟩; have B5 := Lib.hid (HI.out.2.2.2.trans (H5.mono HI.out.2.2.2.size)); replace H5 := Lib.hid H5))
        go_ret
        exact ⟨rfl, B6.out.trans (H9.out.mono B6.out.size)⟩
theorem lof_row (A : Option Addr) (c : Nat) (L : List S82) (w : World) (_ : QS 40 Q82 L) (hr : Kd.C k82 w A L.length L) (hc : L.length ≤ c) :
    Calls Try.prog 10 #[.slice A L.length c] w fun e w' => e = .returned (.bool true) ∧ Below w.heap.size w w' := by
  by_cases h : 100 < L.length
  · exact of_long A c L w h
  · exact lof_walk A c L w hr hc (by omega)
end Go.Proofs.Ytoknlpecbdlbfaa.PL

/- LedgerOf's row. -/
namespace Go.Proofs.Ytoknlpecbdlbfaa.ledgerOf
open Go Go.RowKit Go.ChangeShapes Go.WideShapes Go.ChangeAt Go.Proofs
open Go.ChangeMaps (open_string shut_string)
set_option linter.unusedVariables false
theorem own : ownKnob Try.prog.godebug = none := by kernel_rfl
set_option maxRecDepth 100000 in
theorem lifted (os : Os) (started : os.Started) (H : Type) (enc : TypeId × Value → H) :
    ReturnsInHanded {} Try.checked os 10 .any (Rows.ledgerOfSpec.pre6 enc Try.prog Try.f10 Rows.ledgerOfRow.domain false) (Rows.ledgerOfSpec.post enc Try.prog Try.f10 false true false false) := by
  refine returnsInHanded_of_change_sized (C := Try.checked) own started (by kernel_rfl) Try.func10
    (ChangeSpec.witness6 (enc := enc) (C := Try.checked) false ⟨#[], #[.slice none 0 0], []⟩ 8 (by kernel_rfl) (by kernel_rfl) (by kernel_rfl) (by kernel_rfl)) ?_
  intro W base args ds gs before hval0 hW hcnd hsz0 _
  have hsz : (DataW.weightsEach Try.prog (Try.f10.params.toList ++ Rows.ledgerOfSpec.plain.varTypes Try.prog) (ds ++ gs)).all (· ≤ reachBytes) = true := hsz0
  have hval : ∀ (j : Nat) t v, Try.f10.params[j]? = some t → args[j]? = some v → Value.okWide Try.prog W .any base t v := hval0
  have hW' := hW
  obtain ⟨p, q, hA0, hV, rfl, hfz, hnd⟩ := hW
  have hA : DataW.TrodAll enc Try.prog W 0 (fun _ => true) true Try.f10.params.toList args.toList ds p := hA0
  rw [Try.params10] at hA hval hsz
  obtain ⟨v0, vs0, d0, ds0, p0, q0, hargs, rfl, rfl, h0, r0⟩ := trodAll_cons hA
  obtain ⟨rfl, rfl, rfl⟩ := trodAll_nil r0
  obtain rfl : args = #[v0] := by cases args; simp_all
  obtain ⟨rfl, rfl⟩ := trodVars_none hV
  have k0 := h0
  have lt0 : ∀ x ∈ p0, x.block < W.heap.size := by obtain ⟨m, hm⟩ := k0; exact DataW.trod_lt m _ _ _ hm
  have sm0 : PL.Small 27 d0 := PL.small_arg hsz (j := 0) rfl rfl
  obtain ⟨a0, len0, cap0, rfl⟩ := okWide_slice Try.underlying27 (hval 0 27 v0 rfl rfl)
  obtain ⟨x0, rfl, hc0, hC0, hq0⟩ := PL.opened PL.opens27 h0 sm0
  clear hA0 hval0 hsz0 hsz
  refine (PL.lof_row a0 cap0 x0 W hq0 hC0 hc0).mono fun e W' ⟨he, bel⟩ => ?_
  subst he
  exact ⟨_, rfl, _, _, _, [], _, [], hW', trodAll_mk1 (shut_bool Try.underlying4 _), (trodAll_cons_mk (Below.trod PL.laidOut (by kernel_rfl) (of_decide_eq_true (by kernel_rfl)) k0 bel lt0) trodAll_mk0), rfl, bel.frame _, fun h => by cases h⟩
theorem over : Rows.ledgerOfRow.holds Try.pinned (OpenSpec.ofChange Rows.ledgerOfSpec) :=
  OpenClaim.holds_of_wide 10 Try.f10 rfl rfl rfl rfl rfl rfl rfl ⟨rfl, rfl, rfl, rfl, rfl⟩ rfl rfl rfl rfl rfl (by kernel_rfl) Try.func10 (by kernel_rfl)
    (of_decide_eq_true (by kernel_rfl)) (by unfold Func.isWrapper; first | (rw [if_pos (by decide +kernel)]; kernel_rfl) | (rw [if_neg (by decide +kernel)]; exact ⟨rfl, rfl⟩))
    (fun os started H enc _ => lifted os started H enc)
theorem proved : Rows.LedgerOfSaid := over
end Go.Proofs.Ytoknlpecbdlbfaa.ledgerOf
namespace Go.Proofs.Ytoknlpecbdlbfaa
/-- The row, under a short name, for the claim. -/
theorem ledgerOf_holds : Rows.LedgerOfSaid := ledgerOf.proved
end Go.Proofs.Ytoknlpecbdlbfaa
