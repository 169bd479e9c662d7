/- LedgerWhole holds: whatever posts come in (more than forty of them, or more than three hundred entries, are let go, as the statement says), behind every post all accounts together have nothing of each thing, no balance is nothing, and none but the world has less than nothing; and the chapter's example holds. No condition on the inputs. -/
import Derived.Test.YtoknlpecbdlbfaaG5
import Derived.StringKeys
import Derived.Test.YtoknlpecbdlbfaaRows
import Derived.WalkKit
import Derived.ProofKit
import Derived.OpenShut
import Derived.ShutString
import Derived.ChangeOld
import Derived.Below
import Derived.SizedLaws

-- Entries turned about take back what they did: the plain law.
namespace Go.Proofs.Ytoknlpecbdlbfaa.PL
open Go Go.RowKit Go.Maps Go.Sort Go.Shelf Go.Proofs Go.Proofs.YtoknlpecbdlbfaaW.PrintWords Go.Proofs.YtoknlpecbdlbfaaW.PrintLast
/-- None but the world has less than nothing. -/
def NN (M : List (S42 × Int)) : Prop := ∀ a, a.f0 ≠ 0 → 0 ≤ getM M a
/-- Two maps that have the same. -/
def Eqv (M M' : List (S42 × Int)) : Prop := ∀ a, getM M a = getM M' a
theorem Eqv.put {M M' : List (S42 × Int)} (h : Eqv M M') (a : S42) (n : Int) : Eqv (putM M a n) (putM M' a n) := by
  intro c
  rw [getM_putM, getM_putM, h c]
theorem NN.nil : NN [] := fun a _ => by simp [getM]
theorem NN.of {M M' : List (S42 × Int)} (h : NN M) (he : Eqv M' M) : NN M' := fun a ha => by rw [he a]; exact h a ha
theorem NN.put {M : List (S42 × Int)} (h : NN M) (a : S42) {n : Int} (hn : a.f0 ≠ 0 → 0 ≤ n) : NN (putM M a n) := by
  intro c hc
  rw [getM_putM]
  split
  · rename_i e
    subst e
    exact hn hc
  · exact h c hc
theorem Eqv.back (M : List (S42 × Int)) (a : S42) (m : Int) : Eqv (putM (putM M a (getM M a - m)) a (getM M a - m + m)) M := by
  intro c
  rw [getM_putM, getM_putM]
  split
  · rename_i e
    subst e
    omega
  · rfl
theorem NN.move {M : List (S42 × Int)} (h : NN M) (e : S107) : NN (moveM M e).1 := by
  unfold moveM
  split
  · exact h
  · rename_i hck
    have hck' := check_good (Classical.not_not.1 hck)
    split
    · exact h
    · rename_i hf
      split
      · exact h
      · split
        · exact h.of (Eqv.back M e.f0 e.f2)
        · have h1 : NN (putM M e.f0 (getM M e.f0 - e.f2)) := h.put _ (fun hz => by
            refine Classical.byContradiction fun hc => hf ⟨hz, ?_⟩
            omega)
          exact h1.put _ (fun hz => by have := h1 e.f1 hz; have := hck'.1; omega)
theorem moveM_congr {M M' : List (S42 × Int)} (h : Eqv M M') (e : S107) : (moveM M e).2 = (moveM M' e).2 ∧ Eqv (moveM M e).1 (moveM M' e).1 := by
  have h1 := h e.f0
  have h2 := (h.put e.f0 (getM M e.f0 - e.f2)) e.f1
  unfold moveM
  rw [← h1, ← h2]
  split
  · exact ⟨rfl, h⟩
  · split
    · exact ⟨rfl, h⟩
    · split
      · exact ⟨rfl, h⟩
      · split
        · exact ⟨rfl, (h.put _ _).put _ _⟩
        · exact ⟨rfl, (h.put _ _).put _ _⟩
/-- An entry turned about. -/
def sw (e : S107) : S107 := ⟨e.f1, e.f0, e.f2⟩
theorem check_sw {e : S107} (h : checkI e = 0) : checkI (sw e) = 0 := by
  obtain ⟨h1, h2, h3, h4, h5⟩ := check_good h
  unfold checkI sw
  simp only
  rw [if_neg (by omega), if_neg (by rw [h4]; simp), if_neg (by rw [h3]; simp), if_pos h5.symm]
theorem getM_move {M : List (S42 × Int)} {e : S107} (h : (moveM M e).2 = 0) (a : S42) : getM (moveM M e).1 a = if a = e.f1 then (if e.f1 = e.f0 then getM M e.f0 else getM M e.f1 + e.f2) else if a = e.f0 then getM M e.f0 - e.f2 else getM M a := by
  rw [move_ok h, getM_putM, getM_putM, getM_putM]
  split
  · split
    · omega
    · rfl
  · rfl
theorem move_conds {M : List (S42 × Int)} {e : S107} (h : (moveM M e).2 = 0) : checkI e = 0 ∧ ¬ (e.f0.f0 ≠ 0 ∧ getM M e.f0 - e.f2 < 0) ∧ ¬ (getM M e.f0 - e.f2 < -72057594037927936) := by
  have hck := moveM_ok h
  unfold moveM at h
  rw [if_neg (by simpa using hck)] at h
  by_cases c1 : e.f0.f0 ≠ 0 ∧ getM M e.f0 - e.f2 < 0
  · rw [if_pos c1] at h
    exact absurd (show (20 : Int) = 0 from h) (by decide)
  · rw [if_neg c1] at h
    by_cases c2 : getM M e.f0 - e.f2 < -72057594037927936
    · rw [if_pos c2] at h
      exact absurd (show (9 : Int) = 0 from h) (by decide)
    · exact ⟨hck, c1, c2⟩
theorem move_sw {M M' : List (S42 × Int)} {e : S107} (hn : NN M) (hB : BM M) (hok : (moveM M e).2 = 0) (he : Eqv M' (moveM M e).1) : (moveM M' (sw e)).2 = 0 ∧ Eqv (moveM M' (sw e)).1 M := by
  obtain ⟨hck, c1, c2⟩ := move_conds hok
  have hm := check_good hck
  have g1 : getM M' e.f1 = if e.f1 = e.f0 then getM M e.f0 else getM M e.f1 + e.f2 := by
    rw [he, getM_move hok, if_pos rfl]
  have g0 : getM M' e.f0 = if e.f0 = e.f1 then getM M e.f0 else getM M e.f0 - e.f2 := by
    rw [he, getM_move hok]
    by_cases q : e.f0 = e.f1
    · rw [if_pos q, if_pos q, if_pos q.symm]
    · rw [if_neg q, if_neg q, if_pos rfl]
  have hb0 := hB e.f0
  have hb1 := hB e.f1
  have hok2 : (moveM M' (sw e)).2 = 0 := by
    unfold moveM
    rw [if_neg (by simpa using check_sw hck)]
    show (if e.f1.f0 ≠ 0 ∧ getM M' e.f1 - e.f2 < 0 then (M', (20 : Int)) else _).2 = 0
    rw [if_neg, if_neg, if_neg]
    · show ¬ 72057594037927936 < getM (putM M' e.f1 (getM M' e.f1 - e.f2)) e.f0 + e.f2
      rw [getM_putM]
      by_cases q : e.f0 = e.f1
      · rw [if_pos q, g1, if_pos q.symm]
        omega
      · rw [if_neg q, g0, if_neg q]
        omega
    · show ¬ getM M' e.f1 - e.f2 < -72057594037927936
      rw [g1]
      split
      · exact c2
      · omega
    · rintro ⟨q1, q2⟩
      rw [g1] at q2
      by_cases q : e.f1 = e.f0
      · rw [if_pos q] at q2
        rw [q] at q1
        exact c1 ⟨q1, q2⟩
      · rw [if_neg q] at q2
        have := hn e.f1 q1
        omega
  refine ⟨hok2, fun a => ?_⟩
  rw [getM_move hok2]
  show (if a = e.f0 then (if e.f0 = e.f1 then getM M' e.f1 else getM M' e.f0 + e.f2) else if a = e.f1 then getM M' e.f1 - e.f2 else getM M' a) = getM M a
  by_cases q : e.f0 = e.f1
  · by_cases qa : a = e.f0
    · rw [if_pos qa, if_pos q, g1, if_pos q.symm, qa]
    · have qa1 : ¬ a = e.f1 := fun h => qa (h.trans q.symm)
      rw [if_neg qa, if_neg qa1, he, getM_move hok, if_neg qa1, if_neg qa]
  · by_cases qa : a = e.f0
    · rw [if_pos qa, if_neg q, g0, if_neg q, qa]
      omega
    · rw [if_neg qa]
      by_cases qb : a = e.f1
      · rw [if_pos qb, g1, if_neg (fun h => q h.symm), qb]
        omega
      · rw [if_neg qb, he, getM_move hok, if_neg qb, if_neg qa]
/-- All entries are done. -/
def allOk (M : List (S42 × Int)) : List S107 → Prop
  | [] => True
  | e :: r => (moveM M e).2 = 0 ∧ allOk (moveM M e).1 r
/-- What they come to. -/
def fin (M : List (S42 × Int)) : List S107 → List (S42 × Int)
  | [] => M
  | e :: r => fin (moveM M e).1 r
theorem post_allOk : ∀ (l done : List S107) (M : List (S42 × Int)), (postL done M l).2.2 = 0 → allOk M l ∧ (postL done M l).1 = fin M l
  | [], _, _, _ => ⟨trivial, rfl⟩
  | e :: r, done, M, h => by
    unfold postL at h ⊢
    by_cases c : (moveM M e).2 = 0
    · rw [if_pos c] at h ⊢
      obtain ⟨h1, h2⟩ := post_allOk r (e :: done) _ h
      exact ⟨⟨c, h1⟩, h2⟩
    · rw [if_neg c] at h
      exact absurd h c
theorem allOk_post : ∀ (l done : List S107) (M : List (S42 × Int)), allOk M l → (postL done M l).2.2 = 0 ∧ (postL done M l).1 = fin M l
  | [], _, _, _ => ⟨rfl, rfl⟩
  | e :: r, done, M, h => by
    unfold postL
    rw [if_pos h.1]
    exact allOk_post r (e :: done) _ h.2
theorem allOk_append : ∀ (l l' : List S107) (M : List (S42 × Int)), allOk M l → allOk (fin M l) l' → allOk M (l ++ l') ∧ fin M (l ++ l') = fin (fin M l) l'
  | [], _, _, _, h => ⟨h, rfl⟩
  | e :: r, l', M, h, h' => by
    obtain ⟨h1, h2⟩ := allOk_append r l' (moveM M e).1 h.2 h'
    exact ⟨⟨h.1, h1⟩, h2⟩
theorem back_ok : ∀ (l : List S107) (M M' : List (S42 × Int)), NN M → BM M → allOk M l → Eqv M' (fin M l) → allOk M' (l.map sw).reverse ∧ Eqv (fin M' (l.map sw).reverse) M
  | [], _, _, _, _, _, he => ⟨trivial, he⟩
  | e :: r, M, M', hn, hB, h, he => by
    obtain ⟨h1, h2⟩ := back_ok r (moveM M e).1 M' (hn.move e) (hB.move e) h.2 he
    obtain ⟨h3, h4⟩ := move_sw hn hB h.1 h2
    rw [List.map_cons, List.reverse_cons]
    obtain ⟨h5, h6⟩ := allOk_append (r.map sw).reverse [sw e] M' h1 ⟨h3, trivial⟩
    refine ⟨h5, ?_⟩
    rw [h6]
    exact h4
theorem fin_NN : ∀ (l : List S107) (M : List (S42 × Int)), NN M → NN (fin M l)
  | [], _, h => h
  | e :: r, M, h => fin_NN r _ (h.move e)
/-- A post that can't be done leaves the document's list. -/
theorem pst_fail : ∀ (x : List S107) (L0 : List S82) (n : Nat) (L : List S82), (pstL L0 n L x).2.2 ≠ 0 → (pstL L0 n L x).1 = L0
  | [], L0, n, L, h => by
    unfold pstL at h
    exact absurd rfl h
  | e :: r, L0, n, L, h => by
    unfold pstL at h ⊢
    by_cases c : (mvL L e).2 = 0
    · rw [if_pos c] at h ⊢
      exact pst_fail r L0 (n + 1) _ h
    · rw [if_neg c]
/-- NN holds behind every post. -/
theorem NN.post {M : List (S42 × Int)} {L : List S82} (hr : Rep M L) (hB : BM M) (hn : NN M) (l : List S107) : NN (postL [] M l).1 := by
  obtain ⟨e1, e2, e3, e4⟩ := rep_post0 hr hB l
  by_cases c : (postL [] M l).2.2 = 0
  · rw [(post_allOk l [] M c).2]
    exact fin_NN l M hn
  · rw [e2] at c
    have h1 := pst_fail l L 0 L c
    rw [h1] at e3
    refine hn.of (fun a => ?_)
    rw [e3.same, hr.same]
/-- What LedgerBack says, of maps. -/
theorem post_back {M : List (S42 × Int)} {L : List S82} (hr : Rep M L) (hB : BM M) (hn : NN M) (l : List S107) (hok : (postL [] M l).2.2 = 0) :
    (postL [] (postL [] M l).1 (l.map sw).reverse).2.2 = 0 ∧ Rep (postL [] (postL [] M l).1 (l.map sw).reverse).1 L := by
  obtain ⟨e1, e2, e3, e4⟩ := rep_post0 hr hB l
  obtain ⟨h1, h2⟩ := post_allOk l [] M hok
  obtain ⟨h3, h4⟩ := back_ok l M (postL [] M l).1 hn hB h1 (fun a => by rw [h2])
  obtain ⟨h5, h6⟩ := allOk_post _ [] _ h3
  refine ⟨h5, hr.of ?_ (fun a => by rw [h6]; exact h4 a)⟩
  exact (rep_post0 e3 e4 _).2.2.1.ok
end Go.Proofs.Ytoknlpecbdlbfaa.PL

-- LedgerBack, walked.
namespace Go.Proofs.Ytoknlpecbdlbfaa.PL
open Go Go.RowKit Go.Maps Go.Sort Go.Shelf Go.Proofs Go.Proofs.YtoknlpecbdlbfaaW.PrintWords Go.Proofs.YtoknlpecbdlbfaaW.PrintLast
theorem info47 : (Try.prog.info? 47).map (fun i => (i.zero, i.size, i.bytes)) = some (some (.agg #[(.int .i64 0), (.int .i64 0), (.string ⟨#[]⟩), (.int .i64 0), (.int .i64 0), (.string ⟨#[]⟩), (.int .i64 0)]), 7, 72) := by kernel_rfl
/-- A map, the document's list, and what is known of both. -/
structure St (M : List (S42 × Int)) (L : List S82) : Prop where
  rep : Rep M L
  bm : BM M
  nn : NN M
theorem St.nil : St [] [] := ⟨Rep.nil, BM.nil, NN.nil⟩
theorem St.post {M : List (S42 × Int)} {L : List S82} (h : St M L) (l : List S107) : St (postL [] M l).1 (pstL L 0 L l).1 := by
  obtain ⟨e1, e2, e3, e4⟩ := rep_post0 h.rep h.bm l
  exact ⟨e3, e4, h.nn.post h.rep h.bm l⟩
theorem St.fail {M : List (S42 × Int)} {L : List S82} (h : St M L) (l : List S107) (hf : (postL [] M l).2.2 ≠ 0) : Rep (postL [] M l).1 L := by
  obtain ⟨e1, e2, e3, e4⟩ := rep_post0 h.rep h.bm l
  rw [e2] at hf
  rw [pst_fail l L 0 L hf] at e3
  exact e3
theorem post_M {g b : Nat} {M : List (S42 × Int)} {L : List S82} {w : World} (h : LG w g b M) (hs : St M L) (A : Option Addr) (c : Nat) (xs : List S47) (hC : Kd.C k107 w A xs.length (xs.map toE)) (hx : xs.length ≤ 4096) (hL : L.length ≤ 1000000) (R : List (S42 × Int) × Int × Int) (hR : postL [] M (xs.map toE) = R) :
    Calls Try.prog 19 #[.pointer (some ⟨g, 0, none⟩), .slice A xs.length c] w fun e w' => e = .returned (.tuple #[.int .i64 R.2.1, .int .i64 R.2.2]) ∧ Hid (LG w' g b R.1 ∧ w.grownBy w' (some b)) := by
  have hlen := rep_length hs.rep
  have h1 := post_any h hs.bm A c (xs.map toE) (by rw [List.length_map]; exact hC) (by rw [List.length_map]; exact hx) (by rw [List.length_map]; unfold maxLen; omega)
  rw [List.length_map, hR] at h1
  exact h1
theorem clone_hid {g b : Nat} {M : List (S42 × Int)} {w : World} (h : LG w g b M) :
    Calls Try.prog 24 #[.pointer (some ⟨g, 0, none⟩)] w fun e w' => e = .returned (.pointer (some ⟨w.heap.size + 1, 0, none⟩)) ∧ Hid (LG w' (w.heap.size + 1) w.heap.size M ∧ Below w.heap.size w w') :=
  clone_any h
/-- What is told at the end: the ledger, its two clones, and what was told before. -/
structure XS (w : World) (g b gy by' gz bz : Nat) (Mx My Mz : List (S42 × Int)) (L1 L2 : List S82) (A1 A2 : Option Addr) (c1 c2 : Nat) (W : World) : Prop where
  x : LG W g b Mx
  y : LG W gy by' My
  z : LG W gz bz Mz
  rx : Rep Mx L1
  ry : Rep My L1
  rz : Rep Mz L2
  l1 : L1.length ≤ 1000000
  l2 : L2.length ≤ 1000000
  was : Kd.C k82 W A1 L1.length L1
  cw : L1.length ≤ c1
  now : Kd.C k82 W A2 L2.length L2
  cn : L2.length ≤ c2
  bl : Below w.heap.size w W
theorem XS.step {w : World} {g b gy by' gz bz : Nat} {Mx My Mz : List (S42 × Int)} {L1 L2 : List S82} {A1 A2 : Option Addr} {c1 c2 : Nat} {W W' : World} (h : XS w g b gy by' gz bz Mx My Mz L1 L2 A1 A2 c1 c2 W) (hb : Below W.heap.size W W') : XS w g b gy by' gz bz Mx My Mz L1 L2 A1 A2 c1 c2 W' :=
  ⟨h.x.below hb, h.y.below hb, h.z.below hb, h.rx, h.ry, h.rz, h.l1, h.l2, Kd.C_below h.was hb, h.cw, Kd.C_below h.now hb, h.cn, h.bl.trans (hb.mono h.bl.size)⟩
/-- An entry turned about, as it comes in. -/
def swE (e : S47) : S47 := ⟨e.f1, e.f0, e.f2⟩
theorem toE_sw (T : List S47) : ((T.map swE).reverse).map toE = ((T.map toE).map sw).reverse := by
  rw [List.map_reverse, List.map_map, List.map_map]
  rfl
set_option maxRecDepth 100000 in
theorem back_long (A B : Option Addr) (c d : Nat) (F T : List S47) (w : World) (h : 60 < F.length ∨ 60 < T.length) :
    Calls Try.prog 5 #[.slice A F.length c, .slice B T.length d] w fun e w' => e = .returned (.bool true) ∧ Below w.heap.size w w' := by
  by_cases c1 : 60 < F.length
  · have p1 : ((F.length : Int) > 60) = True := eq_true (by omega)
    clear c1 h
    go_enter Try.func5, Try.ntmps5
    go_wp2_with (go_at_call 16; refine (awake_walk _).mono ?_; rintro e w2 ⟨rfl, H2⟩; replace H2 := Lib.hid H2)
    go_ret
    exact ⟨rfl, H2.out⟩
  · have p1 : ((F.length : Int) > 60) = False := eq_false (by omega)
    have p2 : ((T.length : Int) > 60) = True := eq_true (by omega)
    clear c1 h
    go_enter Try.func5, Try.ntmps5
    go_wp2_with (go_at_call 16; refine (awake_walk _).mono ?_; rintro e w2 ⟨rfl, H2⟩; replace H2 := Lib.hid H2)
    go_ret
    exact ⟨rfl, H2.out⟩
end Go.Proofs.Ytoknlpecbdlbfaa.PL

-- A map of things in memory.
namespace Go.Proofs.Ytoknlpecbdlbfaa.PL
open Go.RowKit Go.Maps Go.MapKept
open Go.ChangeMaps (setBlock)
open Go.WideElems (Fit rd rd_mk rd_key rd_val other_key)
theorem law9 : Keyed Try.prog 9 := Keyed.of_law (Go.WideMaps.string_law Try.underlying9)
/-- A thing's value. -/
def ks (s : ByteArray) : Value := .string s
theorem ks_inj {a b : ByteArray} (h : ks a = ks b) : a = b := by
  injection h
theorem keyOf_ks {a : ByteArray} (h : a.size ≤ maxLen) : ∃ l, keyOf Try.prog 9 (ks a) = some l := by
  unfold ks
  exact ⟨_, Go.WideMaps.keyOf_string_mk Try.underlying9 h⟩
instance memDec (a : ByteArray) (l : List ByteArray) : Decidable (a ∈ l) := decidable_of_iff (∃ x ∈ l, x = a) ⟨fun ⟨_, h, e⟩ => e ▸ h, fun h => ⟨a, h, rfl⟩⟩
/-- What a thing has; a store: over the list of the map's entries. -/
def getT : List (ByteArray × Int) → ByteArray → Int
  | [], _ => 0
  | p :: r, a => if p.1 = a then p.2 else getT r a
def setT (M : List (ByteArray × Int)) (a : ByteArray) (n : Int) : List (ByteArray × Int) := if a ∈ M.map Prod.fst then M.map (fun p => if p.1 = a then (a, n) else p) else M ++ [(a, n)]
theorem getT_none {M : List (ByteArray × Int)} {a : ByteArray} (h : a ∉ M.map Prod.fst) : getT M a = 0 := by
  induction M with
  | nil => rfl
  | cons p r ih =>
    simp only [List.map_cons, List.mem_cons, not_or] at h
    unfold getT
    rw [if_neg (fun e => h.1 e.symm), ih h.2]
theorem getT_at {M : List (ByteArray × Int)} (hn : (M.map Prod.fst).Nodup) : ∀ {j : Nat} {a : ByteArray} {n : Int}, M[j]? = some (a, n) → getT M a = n := by
  induction M with
  | nil => intro j a n h; simp at h
  | cons p r ih =>
    intro j a n h
    simp only [List.map_cons, List.nodup_cons] at hn
    unfold getT
    cases j with
    | zero =>
      simp at h
      subst h
      rw [if_pos rfl]
    | succ j =>
      simp at h
      have hm : a ∈ r.map Prod.fst := List.mem_map.2 ⟨(a, n), List.mem_of_getElem? h, rfl⟩
      rw [if_neg (fun e => hn.1 (by rw [e]; exact hm)), ih hn.2 h]
theorem setT_at {M : List (ByteArray × Int)} (hn : (M.map Prod.fst).Nodup) {j : Nat} {a : ByteArray} {n m : Int} (h : M[j]? = some (a, n)) : setT M a m = M.set j (a, m) := by
  have hm : a ∈ M.map Prod.fst := List.mem_map.2 ⟨(a, n), List.mem_of_getElem? h, rfl⟩
  unfold setT
  rw [if_pos hm]
  clear hm
  induction M generalizing j with
  | nil => simp at h
  | cons p r ih =>
    simp only [List.map_cons, List.nodup_cons] at hn
    cases j with
    | zero =>
      simp at h
      subst h
      simp only [List.map_cons, if_true, List.set_cons_zero, List.cons.injEq, true_and]
      have : ∀ q ∈ r, (if q.1 = a then (a, m) else q) = q := by
        intro q hq
        rw [if_neg]
        intro e
        exact hn.1 (List.mem_map.2 ⟨q, hq, e⟩)
      rw [List.map_congr_left this]; simp
    | succ j =>
      simp at h
      have hm : a ∈ r.map Prod.fst := List.mem_map.2 ⟨(a, n), List.mem_of_getElem? h, rfl⟩
      rw [List.map_cons, if_neg (fun e => hn.1 (by rw [e]; exact hm)), List.set_cons_succ, ih hn.2 h]
/-- Block b holds the map M (in the order in which the entries lie). -/
def SM (w : World) (b : Nat) (M : List (ByteArray × Int)) : Prop :=
  ∃ es clock, w.heap[b]? = some (.map es clock) ∧ Fit (H := Unit) Try.prog 9 (plainElem Try.prog 3) es clock ∧ es.toList.map (fun e => (e.key, e.val)) = M.map (fun p => (ks p.1, Value.int .i64 p.2))
theorem SM.lt {w : World} {b : Nat} {M : List (ByteArray × Int)} (h : SM w b M) : b < w.heap.size := by
  obtain ⟨es, clock, hb, _⟩ := h
  exact (Array.getElem?_eq_some_iff.1 hb).1
theorem SM.move {w w' : World} {b : Nat} {M : List (ByteArray × Int)} (h : SM w b M) (hm : w'.heap[b]? = w.heap[b]?) : SM w' b M := by
  obtain ⟨es, clock, hb, rest⟩ := h
  exact ⟨es, clock, hm.trans hb, rest⟩
theorem SM.grown {w w' : World} {b : Nat} {M : List (ByteArray × Int)} {row : Option Nat} (h : SM w b M) (hg : w.grownBy w' row) (hr : some b ≠ row) : SM w' b M := h.move (hg.block b h.lt hr)
theorem SM.below {w w' : World} {b : Nat} {M : List (ByteArray × Int)} (h : SM w b M) (hb : Below w.heap.size w w') : SM w' b M := h.move (hb.block b h.lt)
theorem SM.get {es : Array MapEntry} {M : List (ByteArray × Int)} (hM : es.toList.map (fun e => (e.key, e.val)) = M.map (fun p => (ks p.1, Value.int .i64 p.2))) {j : Nat} {e : MapEntry} (h : es.toList[j]? = some e) : ∃ p, M[j]? = some p ∧ e.key = ks p.1 ∧ e.val = .int .i64 p.2 := by
  have h1 : (es.toList.map (fun e => (e.key, e.val)))[j]? = some (e.key, e.val) := by rw [List.getElem?_map, h]; rfl
  rw [hM, List.getElem?_map] at h1
  cases hp : M[j]? with
  | none => rw [hp] at h1; cases h1
  | some p =>
    rw [hp] at h1
    simp at h1
    exact ⟨p, rfl, h1.1.symm, h1.2.symm⟩
theorem SM.nodup_of {es : Array MapEntry} {clock : Nat} {M : List (ByteArray × Int)} (F : Fit (H := Unit) Try.prog 9 (plainElem Try.prog 3) es clock) (hM : es.toList.map (fun e => (e.key, e.val)) = M.map (fun p => (ks p.1, Value.int .i64 p.2))) : (M.map Prod.fst).Nodup := by
  have hn : es.toList.Pairwise (fun x y => x.key ≠ y.key) := ((stamped_iff es clock).1 F.stamped).2.2
  have h1 : (es.toList.map (fun e => (e.key, e.val))).Pairwise (fun x y => x.1 ≠ y.1) := List.pairwise_map.2 hn
  rw [hM] at h1
  exact List.pairwise_map.2 ((List.pairwise_map.1 h1).imp (fun hne e => hne (by show ks _ = ks _; rw [e])))
theorem SM.nodup {w : World} {b : Nat} {M : List (ByteArray × Int)} (h : SM w b M) : (M.map Prod.fst).Nodup := by
  obtain ⟨es, clock, hb, F, hM⟩ := h
  exact SM.nodup_of F hM
theorem SM.none_of {es : Array MapEntry} {M : List (ByteArray × Int)} {a : ByteArray} (hM : es.toList.map (fun e => (e.key, e.val)) = M.map (fun p => (ks p.1, Value.int .i64 p.2))) (h : ∀ e ∈ es.toList, e.key ≠ ks a) : a ∉ M.map Prod.fst := by
  intro hm
  obtain ⟨p, hp, rfl⟩ := List.mem_map.1 hm
  have : (ks p.1, Value.int .i64 p.2) ∈ es.toList.map (fun e => (e.key, e.val)) := by rw [hM]; exact List.mem_map.2 ⟨p, hp, rfl⟩
  obtain ⟨e, he, hee⟩ := List.mem_map.1 this
  exact h e he (by simp at hee; exact hee.1)
/-- x.m[a]. -/
theorem SM.lookup {w : World} {b : Nat} {M : List (ByteArray × Int)} (h : SM w b M) {a : ByteArray} (ha : a.size ≤ maxLen) : (Instr.lookup 40 (.map (some b)) (ks a) false).run Try.prog w = .ok (.int .i64 (getT M a)) w := by
  obtain ⟨es, clock, hb, F, hM⟩ := h
  obtain ⟨l, hkey⟩ := keyOf_ks ha
  have hn := SM.nodup_of F hM
  rcases law9.find w hkey es.toList F.keys with ⟨h1, h2⟩ | ⟨j, e0, h1, h2, h3⟩
  · rw [getT_none (SM.none_of hM h2)]
    simp [Instr.lookup, run_underlying Try.underlying40, MapKept.run_getObj_map hb, law9.check w _ hkey, h1, zero3 w, Result.andThen]
  · obtain ⟨p, hp, e1, e2⟩ := SM.get hM h2
    obtain rfl : p.1 = a := ks_inj (e1.symm.trans h3)
    rw [getT_at hn (n := p.2) hp]
    simp [Instr.lookup, run_underlying Try.underlying40, MapKept.run_getObj_map hb, law9.check w _ hkey, h1, e2, Result.andThen]
/-- x.m[a] = n. -/
theorem SM.store {w : World} {b : Nat} {M : List (ByteArray × Int)} (h : SM w b M) {a : ByteArray} (ha : a.size ≤ maxLen) {n : Int} (hn : (Lit.int .i64 n).wf = true) (hroom : M.length < maxLen) :
    ∃ w', (Instr.mapUpdate 40 (.map (some b)) (ks a) (.int .i64 n)).run Try.prog w = .ok () w' ∧ SM w' b (setT M a n) ∧ w.grownBy w' (some b) ∧ w'.heap.size = w.heap.size := by
  obtain ⟨es, clock, hb, F, hM⟩ := h
  obtain ⟨l, hkey⟩ := keyOf_ks ha
  have hnd := SM.nodup_of F hM
  have hlen : es.size = M.length := by have := congrArg List.length hM; simpa using this
  have hv : plainElem (H := Unit) Try.prog 3 (.int .i64 n) = some (.lit (.int .i64 n), []) := plainElem_int Try.underlying3 hn
  rcases law9.find w hkey es.toList F.keys with ⟨h1, h2⟩ | ⟨j, e0, h1, h2, h3⟩
  · refine ⟨setBlock w b (.map (es.push ⟨ks a, .int .i64 n, clock⟩) (clock + 1)), ?_, ⟨_, _, Go.ChangeMaps.heap_setBlock_same hb _, ⟨by simp; omega, stamped_push F.stamped h2, ?_⟩, ?_⟩, grown_setBlock hb, by simp [setBlock]⟩
    · simp [Instr.mapUpdate, run_underlying Try.underlying40, MapKept.run_getObj_map hb, law9.check w false hkey, h1, MapKept.run_setObj_map _ hb, Result.andThen, setBlock]
    · intro x hx
      simp only [Array.toList_push, List.mem_append, List.mem_singleton] at hx
      rcases hx with hx | rfl
      · exact F.reads x hx
      · exact ⟨_, rd_mk hkey hv⟩
    · unfold setT
      rw [if_neg (SM.none_of hM h2), Array.toList_push, List.map_append, List.map_append, hM]
      rfl
  · have hj : es[j]? = some e0 := by simpa using h2
    obtain ⟨p, hp, e1, e2⟩ := SM.get hM h2
    obtain rfl : p.1 = a := ks_inj (e1.symm.trans h3)
    have hkeyf : ∀ e', es[j]? = some e' → ({ e' with key := ks p.1, val := .int .i64 n } : MapEntry).key = e'.key := fun e' he' => by rw [hj] at he'; cases he'; exact h3.symm
    have hlist : (es.modify j (fun e' => { e' with key := ks p.1, val := .int .i64 n })).toList = es.toList.set j { e0 with key := ks p.1, val := .int .i64 n } := by rw [Array.toList_modify, Go.ChangeMaps.modify_eq_set _ _ _ _ h2]
    refine ⟨setBlock w b (.map (es.modify j (fun e' => { e' with key := ks p.1, val := .int .i64 n })) clock), ?_, ⟨_, _, Go.ChangeMaps.heap_setBlock_same hb _, ⟨by simpa using F.size, stamped_modify F.stamped _ _ (fun _ _ => rfl) (fun e' _ he' => hkeyf e' he'), ?_⟩, ?_⟩, grown_setBlock hb, by simp [setBlock]⟩
    · simp [Instr.mapUpdate, run_underlying Try.underlying40, MapKept.run_getObj_map hb, law9.check w false hkey, h1, hj, h3, law9.stays w hkey, MapKept.run_setObj_map _ hb, Result.andThen, setBlock]
    · intro x hx
      rw [hlist] at hx
      rcases List.mem_or_eq_of_mem_set hx with hx | rfl
      · exact F.reads x hx
      · exact ⟨_, rd_mk hkey hv⟩
    · rw [hlist, List.map_set, hM, setT_at hnd (n := p.2) hp, List.map_set]
end Go.Proofs.Ytoknlpecbdlbfaa.PL

-- Of each thing all accounts together have nothing: the plain law.
namespace Go.Proofs.Ytoknlpecbdlbfaa.PL
open Go Go.RowKit Go.Maps Go.Sort Go.Shelf Go.Proofs Go.Proofs.YtoknlpecbdlbfaaW.PrintWords Go.Proofs.YtoknlpecbdlbfaaW.PrintLast
theorem getT_append {M R : List (ByteArray × Int)} {a : ByteArray} : getT (M ++ R) a = if a ∈ M.map Prod.fst then getT M a else getT R a := by
  induction M with
  | nil => simp
  | cons p r ih =>
    simp only [List.cons_append, getT, List.map_cons, List.mem_cons]
    by_cases e : p.1 = a
    · rw [if_pos e, if_pos (.inl e.symm), if_pos e]
    · rw [if_neg e, ih, if_neg e]
      by_cases h : a ∈ r.map Prod.fst
      · rw [if_pos h, if_pos (.inr h)]
      · rw [if_neg h, if_neg (fun x => x.elim (fun x => e x.symm) h)]
theorem getT_map_set (M : List (ByteArray × Int)) (a c : ByteArray) (n : Int) : getT (M.map (fun p => if p.1 = a then (a, n) else p)) c = if c = a ∧ a ∈ M.map Prod.fst then n else getT M c := by
  induction M with
  | nil => simp [getT]
  | cons p r ih =>
    simp only [List.map_cons, getT, List.mem_cons]
    by_cases e : p.1 = a
    · rw [if_pos e]
      by_cases hc : a = c
      · subst hc
        rw [if_pos rfl, if_pos ⟨rfl, .inl e.symm⟩]
      · rw [if_neg hc, ih, if_neg (fun x => hc x.1.symm), if_neg (fun x => hc x.1.symm), if_neg (fun x => hc (e.symm.trans x))]
    · rw [if_neg e]
      by_cases hc : p.1 = c
      · rw [if_pos hc, if_pos hc, if_neg (fun x => e (hc.trans x.1))]
      · rw [if_neg hc, if_neg hc, ih]
        by_cases hm : c = a ∧ a ∈ r.map Prod.fst
        · rw [if_pos hm, if_pos ⟨hm.1, .inr hm.2⟩]
        · rw [if_neg hm, if_neg]
          rintro ⟨h1, h2⟩
          rcases h2 with h2 | h2
          · exact e h2.symm
          · exact hm ⟨h1, h2⟩
theorem getT_setT (M : List (ByteArray × Int)) (a c : ByteArray) (n : Int) : getT (setT M a n) c = if c = a then n else getT M c := by
  unfold setT
  by_cases h : a ∈ M.map Prod.fst
  · rw [if_pos h, getT_map_set]
    by_cases e : c = a
    · rw [if_pos ⟨e, h⟩, if_pos e]
    · rw [if_neg (fun x => e x.1), if_neg e]
  · rw [if_neg h, getT_append]
    by_cases e : c = a
    · subst e
      rw [if_neg h, if_pos rfl]
      simp [getT]
    · rw [if_neg e]
      by_cases hc : c ∈ M.map Prod.fst
      · rw [if_pos hc]
      · rw [if_neg hc, getT_none hc]
        simp only [getT]
        rw [if_neg (fun x => e x.symm)]
theorem length_setT (M : List (ByteArray × Int)) (a : ByteArray) (n : Int) : (setT M a n).length ≤ M.length + 1 := by
  unfold setT
  split <;> simp
/-- What all accounts together have of a thing. -/
def sumM (M : List (S42 × Int)) (t : ByteArray) : Int := (M.map (fun p => if p.1.f2 = t then p.2 else 0)).sum
def sumL (L : List S82) (t : ByteArray) : Int := (L.map (fun b => if b.f0.f2 = t then b.f1 else 0)).sum
theorem sumM_set {M : List (S42 × Int)} (hn : (M.map Prod.fst).Nodup) (a : S42) (n : Int) (t : ByteArray) : sumM (setM M a n) t = sumM M t + (if a.f2 = t then n - getM M a else 0) := by
  unfold setM
  by_cases h : a ∈ M.map Prod.fst
  · rw [if_pos h]
    induction M with
    | nil => simp at h
    | cons p r ih =>
      simp only [List.map_cons, List.nodup_cons] at hn
      by_cases e : p.1 = a
      · have hr : r.map (fun p => if p.1 = a then (a, n) else p) = r := by
          have : ∀ q ∈ r, (if q.1 = a then (a, n) else q) = q := by
            intro q hq
            rw [if_neg]
            intro e2
            exact hn.1 (by rw [e]; exact List.mem_map.2 ⟨q, hq, e2⟩)
          rw [List.map_congr_left this]; simp
        rw [List.map_cons, if_pos e, hr]
        unfold sumM getM
        rw [if_pos e]
        simp only [List.map_cons, List.sum_cons]
        rw [e]
        split <;> omega
      · have h' : a ∈ r.map Prod.fst := by
          rcases List.mem_cons.1 h with h | h
          · exact absurd h.symm e
          · exact h
        have := ih hn.2 h'
        rw [List.map_cons, if_neg e]
        unfold sumM at this ⊢
        have hg : getM (p :: r) a = getM r a := by
          show (if p.1 = a then p.2 else getM r a) = _
          rw [if_neg e]
        rw [List.map_cons, List.sum_cons, this, hg, List.map_cons, List.sum_cons]
        omega
  · rw [if_neg h, getM_none h]
    unfold sumM
    rw [List.map_append, List.sum_append]
    simp
theorem sumM_del {M : List (S42 × Int)} (hn : (M.map Prod.fst).Nodup) (a : S42) (t : ByteArray) : sumM (delM M a) t = sumM M t + (if a.f2 = t then 0 - getM M a else 0) := by
  by_cases h : a ∈ M.map Prod.fst
  · induction M with
    | nil => simp at h
    | cons p r ih =>
      simp only [List.map_cons, List.nodup_cons] at hn
      unfold delM
      by_cases e : p.1 = a
      · have hr : r.filter (fun p => !decide (p.1 = a)) = r := by
          refine List.filter_eq_self.2 (fun q hq => ?_)
          simp only [Bool.not_eq_true', decide_eq_false_iff_not]
          intro e2
          exact hn.1 (by rw [e]; exact List.mem_map.2 ⟨q, hq, e2⟩)
        rw [List.filter_cons, if_neg (by simp [e]), hr]
        unfold sumM getM
        rw [if_pos e]
        simp only [List.map_cons, List.sum_cons]
        rw [e]
        split <;> omega
      · have h' : a ∈ r.map Prod.fst := by
          rcases List.mem_cons.1 h with h | h
          · exact absurd h.symm e
          · exact h
        have := ih hn.2 h'
        unfold delM at this
        rw [List.filter_cons, if_pos (by simp [e])]
        unfold sumM at this ⊢
        have hg : getM (p :: r) a = getM r a := by
          show (if p.1 = a then p.2 else getM r a) = _
          rw [if_neg e]
        rw [List.map_cons, List.sum_cons, this, hg, List.map_cons, List.sum_cons]
        omega
  · rw [delM_none h, getM_none h]
    simp
theorem sumM_put {M : List (S42 × Int)} (hn : (M.map Prod.fst).Nodup) (a : S42) (n : Int) (t : ByteArray) : sumM (putM M a n) t = sumM M t + (if a.f2 = t then n - getM M a else 0) := by
  unfold putM
  split
  · rename_i e
    subst e
    exact sumM_del hn a t
  · exact sumM_set hn a n t
/-- What is known of every reached map: sums are nothing, and every account that has something is one. -/
structure Wh (M : List (S42 × Int)) : Prop where
  sum : ∀ t, sumM M t = 0
  good : ∀ a, getM M a ≠ 0 → goodI a = 0
theorem Wh.nil : Wh [] := ⟨fun _ => rfl, fun _ h => absurd rfl h⟩
theorem Wh.move {M : List (S42 × Int)} (h : Wh M) (hk : OkM M) (e : S107) : Wh (moveM M e).1 := by
  unfold moveM
  split
  · exact h
  · rename_i hck
    have hck' := check_good (Classical.not_not.1 hck)
    have hth : e.f0.f2 = e.f1.f2 := (toList_iff _ _).1 hck'.2.2.2.2
    split
    · exact h
    · split
      · exact h
      · split
        · refine ⟨fun t => ?_, fun a ha => ?_⟩
          · rw [sumM_put (hk.put _ _).nd, sumM_put hk.nd, getM_putM, if_pos rfl, h.sum]
            split <;> omega
          · rw [Eqv.back M e.f0 e.f2 a] at ha
            exact h.good a ha
        · refine ⟨fun t => ?_, fun a ha => ?_⟩
          · rw [sumM_put (hk.put _ _).nd, sumM_put hk.nd, h.sum, hth]
            split <;> omega
          · rw [getM_putM] at ha
            by_cases c1 : a = e.f1
            · rw [c1]; exact hck'.2.2.2.1
            · rw [if_neg c1, getM_putM] at ha
              by_cases c0 : a = e.f0
              · rw [c0]; exact hck'.2.2.1
              · rw [if_neg c0] at ha
                exact h.good a ha
theorem sum_perm {l l' : List Int} (h : l.Perm l') : l.sum = l'.sum := by
  induction h with
  | nil => rfl
  | cons x _ ih => rw [List.sum_cons, List.sum_cons, ih]
  | swap x y l => rw [List.sum_cons, List.sum_cons, List.sum_cons, List.sum_cons]; omega
  | trans _ _ h1 h2 => exact h1.trans h2
theorem rep_sum {M : List (S42 × Int)} {L : List S82} (h : Rep M L) (t : ByteArray) : sumL L t = sumM M t := by
  have h1 : (M.map (fun p => b82 p.1 p.2)).Perm L := by
    have h2 := rep_all h (ts := keysL L) (rep_keys h).symm (asc_keys h.up)
    have h3 : (M.map (fun p => b82 p.1 p.2)) = (M.map Prod.fst).map (fun a => b82 a (getM M a)) := by
      rw [List.map_map]
      refine List.map_congr_left (fun p hp => ?_)
      obtain ⟨j, hj, e⟩ := List.getElem_of_mem hp
      show b82 p.1 p.2 = b82 p.1 (getM M p.1)
      rw [getM_at h.ok.nd (j := j) (a := p.1) (n := p.2) (by rw [List.getElem?_eq_getElem hj, e])]
    rw [h3]
    conv => rhs; rw [← h2]
    exact (rep_keys h).map _
  unfold sumL sumM
  rw [← sum_perm (h1.map (fun b : S82 => if b.f0.f2 = t then b.f1 else 0)), List.map_map]
  rfl
/-- The same for the undone: it has what it had. -/
theorem Wh.of {M M' : List (S42 × Int)} {L : List S82} (h : Wh M) (hr : Rep M L) (hr' : Rep M' L) : Wh M' :=
  ⟨fun t => by rw [← rep_sum hr', rep_sum hr, h.sum], fun a ha => h.good a (by rw [hr.same, ← hr'.same]; exact ha)⟩
theorem fin_Wh : ∀ (l : List S107) (M : List (S42 × Int)), Wh M → OkM M → Wh (fin M l)
  | [], _, h, _ => h
  | e :: r, M, h, hk => fin_Wh r _ (h.move hk e) (hk.move e)
theorem Wh.post {M : List (S42 × Int)} {L : List S82} (h : Wh M) (hr : Rep M L) (hB : BM M) (l : List S107) : Wh (postL [] M l).1 := by
  obtain ⟨e1, e2, e3, e4⟩ := rep_post0 hr hB l
  by_cases c : (postL [] M l).2.2 = 0
  · rw [(post_allOk l [] M c).2]
    exact fin_Wh l M h hr.ok
  · rw [e2] at c
    rw [pst_fail l L 0 L c] at e3
    exact h.of hr e3
/-- What the law's own map has behind a list of balances. -/
def tall (T : List (ByteArray × Int)) : List S82 → List (ByteArray × Int)
  | [] => T
  | b :: r => tall (setT T b.f0.f2 (wrap64 (getT T b.f0.f2 + b.f1))) r
theorem wrap64_add (a b : Int) : wrap64 (wrap64 a + b) = wrap64 (a + b) := by
  unfold wrap64
  omega
theorem getT_tall : ∀ (L : List S82) (T : List (ByteArray × Int)) (t : ByteArray) (z : Int), getT T t = wrap64 z → getT (tall T L) t = wrap64 (z + sumL L t)
  | [], T, t, z, h => by
    unfold tall sumL
    rw [h]
    simp
  | b :: r, T, t, z, h => by
    unfold tall
    have e : sumL (b :: r) t = (if b.f0.f2 = t then b.f1 else 0) + sumL r t := by simp [sumL]
    by_cases c : b.f0.f2 = t
    · rw [getT_tall r _ t (z + b.f1) (by rw [getT_setT, if_pos c.symm, c, h, wrap64_add]), e, if_pos c]
      congr 1
      omega
    · rw [getT_tall r _ t z (by rw [getT_setT, if_neg (fun x => c x.symm), h]), e, if_neg c]
      congr 1
      omega
theorem tall_zero {M : List (S42 × Int)} {L : List S82} (hr : Rep M L) (h : Wh M) (t : ByteArray) : getT (tall [] L) t = 0 := by
  rw [getT_tall L [] t 0 (by show (0 : Int) = wrap64 0; unfold wrap64; omega), rep_sum hr, h.sum]
  unfold wrap64
  omega
theorem tall_length : ∀ (L : List S82) (T : List (ByteArray × Int)), (tall T L).length ≤ T.length + L.length
  | [], T => by simp [tall]
  | b :: r, T => by
    unfold tall
    have h1 := tall_length r (setT T b.f0.f2 (wrap64 (getT T b.f0.f2 + b.f1)))
    have h2 := length_setT T b.f0.f2 (wrap64 (getT T b.f0.f2 + b.f1))
    simp only [List.length_cons]
    omega
theorem tall_take {L : List S82} {k : Nat} (hk : k < L.length) (T : List (ByteArray × Int)) : tall T (L.take (k + 1)) = setT (tall T (L.take k)) L[k].f0.f2 (wrap64 (getT (tall T (L.take k)) L[k].f0.f2 + L[k].f1)) := by
  rw [List.take_succ_eq_append_getElem hk]
  have : ∀ (l : List S82) (T : List (ByteArray × Int)) (b : S82), tall T (l ++ [b]) = setT (tall T l) b.f0.f2 (wrap64 (getT (tall T l) b.f0.f2 + b.f1)) := by
    intro l
    induction l with
    | nil => intro T b; rfl
    | cons x r ih => intro T b; exact ih _ b
  exact this _ T _
/-- What each balance is. -/
theorem bal_good {M : List (S42 × Int)} {L : List S82} (hr : Rep M L) (h : Wh M) (hn : NN M) {x : S82} (hx : x ∈ L) : x.f1 ≠ 0 ∧ (x.f1 < 0 → x.f0.f0 = 0) ∧ x.f0.f2.size ≤ 40 := by
  have h1 := hr.nz x hx
  have h2 : getM M (to42 x.f0) = x.f1 := by rw [hr.same, gL_mem hr.up hx]
  refine ⟨h1, fun hlt => ?_, ?_⟩
  · refine Classical.byContradiction fun hc => ?_
    have := hn (to42 x.f0) hc
    omega
  · exact (good_wf (h.good (to42 x.f0) (by rw [h2]; exact h1))).2.2.2.2.2.2
end Go.Proofs.Ytoknlpecbdlbfaa.PL

-- LedgerWhole, walked.
namespace Go.Proofs.Ytoknlpecbdlbfaa.PL
open Go Go.RowKit Go.Maps Go.Sort Go.Shelf Go.Proofs Go.Proofs.YtoknlpecbdlbfaaW.PrintWords Go.Proofs.YtoknlpecbdlbfaaW.PrintLast
/-- What stands at the head of LedgerWhole's round. -/
structure SV (w w' : World) (g b : Nat) (P : List (List S47)) (k : Nat) (L : List S82) (M : List (S42 × Int)) : Prop where
  lg : LG w' g b M
  st : St M L
  wh : Wh M
  below : Below w.heap.size w w'
  hb : w.heap.size ≤ b
  len : L.length ≤ 2 * totL (P.take k)
theorem SM.new (w : World) : SM (w.alloc (.map #[] 0)) w.heap.size [] :=
  ⟨#[], 0, (Go.MapKept.heap_alloc w _).1, ⟨by simp, Go.MapKept.stamped_empty 0, by simp⟩, rfl⟩
set_option maxRecDepth 100000 in
set_option maxHeartbeats 4000000 in
theorem whole_walk (A : Option Addr) (c : Nat) (P : List (List S47)) (w : World) (hq : QS 24 (QS 72 Q47) P) (hr : Kd.C (Kd.slice 47 k47) w A P.length P) (hc : P.length ≤ c) :
    Calls Try.prog 4 #[.slice A P.length c] w fun e w' => e = .returned (.bool true) ∧ Below w.heap.size w w' := by
  obtain ⟨r, hs, hr2⟩ := short_any A c P w hq hr hc
  have HS := Lib.hid hs
  cases r with
  | false =>
    clear hs hr2 hq hr hc
    go_enter Try.func4, Try.ntmps4
    go_wp2_with (first
      | (go_at_call 15; refine HS.out.mono ?_; rintro e w1 ⟨rfl, H1⟩; replace H1 := Lib.hid H1)
      | (go_at_call 16; refine (awake_walk _).mono ?_; rintro e w2 ⟨rfl, H2⟩; replace H2 := Lib.hid H2))
    go_ret
    exact ⟨rfl, H1.out.trans (H2.out.mono H1.out.size)⟩
  | true =>
    have HP := Lib.hid (And.intro (hr2 rfl) (And.intro hr hc))
    have hmm := @run_makeMap Try.prog
    clear hs hr2 hq hr hc
    go_enter Try.func4, Try.ntmps4
    go_wp2_with (first
      | (go_at_call 15; refine HS.out.mono ?_; rintro e w1 ⟨rfl, H1⟩; replace H1 := Lib.hid H1)
      | (go_at_call 17; refine (new_any _).mono ?_; rintro e w2 ⟨rfl, H2⟩; replace H2 := Lib.hid H2))
    go_loopg [4, 5, 6, 7, 8] (P.length + 1) (fun kq v4 v5 v6 v7 v8 w' => ∃ (k : Nat) (L : List S82) (M : List (S42 × Int)), v4 = .int .i64 k ∧ Hid (kq + k = P.length + 1 ∧ k ≤ P.length ∧ SV w w' (w1.heap.size + 1) w1.heap.size P k L M))
    case atStart =>
      refine ⟨0, [], [], rfl, ⟨rfl, Nat.zero_le _, ?_⟩⟩
      exact ⟨H2.out.1, St.nil, Wh.nil, H1.out.trans (H2.out.2.mono H1.out.size), H1.out.size, Nat.zero_le _⟩
    case round =>
      obtain ⟨k, L, M, rfl, HI⟩ := hrel
      by_cases hk : k < P.length
      · have hP : Kd.C (Kd.slice 47 k47) wr A P.length P := Kd.C_below HP.out.2.1 HI.out.2.2.below
        obtain ⟨ad, A0, c0, eA, x0, x1, x2⟩ := at_L4 hP (k : Int) (by omega) (by omega)
        have e1 : rd_L4 P (k : Int) = P[k] := by
          unfold rd_L4
          simp [List.getD, hk]
        rw [e1] at x0 x1 x2
        simp only [Int.toNat_natCast] at x0
        have hx : P[k].length ≤ 300 := Nat.le_trans (totL_mem (List.getElem_mem hk)) HP.out.1.2
        have hLl : L.length ≤ 600 := Nat.le_trans HI.out.2.2.len (by have := totL_le P k; have := HP.out.1.2; omega)
        have hL' := pst_len hk HI.out.2.2.len
        have hst := HI.out.2.2.st.post (P[k].map toE)
        have hwh := HI.out.2.2.wh.post HI.out.2.2.st.rep HI.out.2.2.st.bm (P[k].map toE)
        obtain ⟨⟨M', n', f'⟩, hR⟩ : ∃ R, postL [] M (P[k].map toE) = R := ⟨_, rfl⟩
        rw [hR] at hst hwh
        replace hst : St M' (pstL L 0 L (P[k].map toE)).1 := hst
        replace hwh : Wh M' := hwh
        generalize (pstL L 0 L (P[k].map toE)).1 = L' at hL' hst
        have hl64 : wrap64 ((k : Int) + 1) = ((k + 1 : Nat) : Int) := by
          have h3 := HP.out.1.1
          rw [wrap_id (by omega) (by omega)]; rfl
        obtain ⟨xs, hxs⟩ : ∃ xs, P[k] = xs := ⟨_, rfl⟩
        rw [hxs] at x0 x1 x2 hx hR
        have HX := Lib.hid x2
        have HXc := Lib.hid x1
        have HX3 := Lib.hid hx
        have HL6 := Lib.hid hLl
        have HL' := Lib.hid hL'
        have HR := Lib.hid hR
        have Hw := Lib.hid hl64
        have HK := Lib.hid hk
        have HST := Lib.hid hst
        have HWH := Lib.hid hwh
        have HM7 := Lib.hid (show L'.length ≤ 1000000 by have := totL_le P (k + 1); have := HP.out.1.2; have := HL'.out; omega)
        subst eA
        have p1 : (0 ≤ (k : Int)) = True := eq_true (by omega)
        have q1 : ((k : Int) < (P.length : Int)) = True := eq_true (by omega)
        clear e1 hP x1 x2 hx hLl hL' hR hl64 hxs hk hst hwh
        go_wp2_with (first
          | (go_at_call 23; refine ((all_gives H4.out.1 HST.out.rep (by have := HM7.out; omega)).slice).mono ?_; rintro e w5 ⟨A5, c5, rfl, H5⟩)
          | (go_at_call 19; refine (post_M (HI.out.2.2.lg.below H3.out.2) HI.out.2.2.st A3 c3 xs H3.out.1 (by have := HX3.out; omega) (by have := HL6.out; omega) _ HR.out).mono ?_; rintro e w4 ⟨rfl, H4⟩)
          | (go_at_call 20; refine (entries_any A0 c0 xs _ HX.out HXc.out (by have := HX3.out; omega)).mono ?_; rintro e w3 ⟨A3, c3, rfl, H3⟩))
        have HBx := Lib.hid (show Below w.heap.size w w5 from by
          have hbel := HI.out.2.2.below
          have h3 := hbel.trans (H3.out.2.mono hbel.size)
          have h4 := h3.grown H4.out.2 h3.size (by have := HI.out.2.2.hb; simp; exact this)
          exact h4.trans (H5.out.2.1.mono h4.size))
        have HLG := Lib.hid (H4.out.1.below H5.out.2.1)
        have HC5 := Lib.hid H5.out.1
        have Hb := Lib.hid HI.out.2.2.hb
        have HKQ := Lib.hid HI.out.1
        clear x0 p1 q1
        go_loopg [7] (L'.length + 1) (fun kq v7 w' => ∃ m : Nat, v7 = .int .i64 m ∧ Hid (kq + m = L'.length + 1 ∧ m ≤ L'.length ∧ SM w' w5.heap.size (tall [] (L'.take m)) ∧ Below w5.heap.size w5 w'))
        case atStart =>
          exact ⟨0, rfl, ⟨rfl, Nat.zero_le _, SM.new w5, (Below.refl _ _).alloc (Nat.le_refl _) _⟩⟩
        case round =>
          obtain ⟨m, rfl, HI1⟩ := hrel
          by_cases hm : m < L'.length
          · have hC : Kd.C k82 wr A5 L'.length L' := Kd.C_below HC5.out HI1.out.2.2.2
            obtain ⟨ad5, eA5, x0, x1, x2, x3⟩ := at_T82 hC (m : Int) (by omega) (by omega)
            simp only [Int.toNat_natCast] at x0 x1 x2 x3
            have e2 : rd_T82 L' (m : Int) = L'[m] := by
              unfold rd_T82
              simp [List.getD, hm]
            have hg := bal_good HST.out.rep HWH.out HST.out.nn (List.getElem_mem hm)
            have ht := tall_take hm []
            rw [e2] at x0 x1 x2 x3
            obtain ⟨⟨⟨a0, a1, a2⟩, n⟩, ha⟩ : ∃ a, L'[m] = a := ⟨_, rfl⟩
            rw [ha] at x0 x1 x2 x3 hg ht
            simp only at x0 x1 x2 x3
            have hl64 : wrap64 ((m : Int) + 1) = ((m + 1 : Nat) : Int) := by
              have h3 := HM7.out
              rw [wrap_id (by omega) (by omega)]; rfl
            have Hw1 := Lib.hid hl64
            have HK1 := Lib.hid hm
            have p1 : (0 ≤ (m : Int)) = True := eq_true (by omega)
            have q1 : ((m : Int) < (L'.length : Int)) = True := eq_true (by omega)
            have hgs : a2.size ≤ maxLen := by have h9 : a2.size ≤ 40 := hg.2.2; unfold maxLen; omega
            have hSM : SM wr.drew w5.heap.size (tall [] (L'.take m)) := HI1.out.2.2.1.move rfl
            have hlen : (tall [] (L'.take m)).length < maxLen := by
              have h9 := tall_length (L'.take m) []
              have h8 := HM7.out
              rw [List.length_take] at h9
              simp at h9
              unfold maxLen
              omega
            obtain ⟨v, hv⟩ : ∃ v, getT (tall [] (L'.take m)) a2 = v := ⟨_, rfl⟩
            have hl1 : (Instr.lookup 40 (.map (some w5.heap.size)) (.string a2) false).run Try.prog wr.drew = .ok (.int .i64 v) wr.drew := by
              rw [← hv]
              exact hSM.lookup hgs
            obtain ⟨w6, hst, hs6, hg6, hz6⟩ := hSM.store hgs (n := wrap64 (v + n)) (wf_wrap64 _) hlen
            replace ht : tall [] (L'.take (m + 1)) = setT (tall [] (L'.take m)) a2 (wrap64 (v + n)) := by rw [← hv]; exact ht
            have HS6 := Lib.hid (And.intro hs6 (And.intro hg6 ht))
            have f1 : (n == 0) = false := by simpa using hg.1
            have HG := Lib.hid hg
            simp only [ks] at hst
            subst eA5
            clear hC e2 hg ht ha hSM hlen hv hs6 hg6 hz6 hl64 hm hgs
            by_cases hn : n < 0
            · have f2 : (n < 0) = True := eq_true hn
              have f3 : (a0 != 0) = false := by
                have h9 : a0 = 0 := HG.out.2.1 hn
                simp [h9]
              clear hn
              go_wp2
              go_still_tail 21, (by kernel_rfl)
              show wpList _ _ _ _ _ wr.drew
              go_wp2
              rw [hst]
              go_wp2
              go_roundg (L'.length - m)
              case measure => have := HI1.out.1; have := HK1.out; omega
              case rel =>
                refine ⟨m + 1, by rw [Hw1.out], ⟨by have := HI1.out.1; have := HK1.out; omega, HK1.out, ?_, ?_⟩⟩
                · rw [HS6.out.2.2]
                  exact HS6.out.1
                · exact HI1.out.2.2.2.drew.grown HS6.out.2.1 HI1.out.2.2.2.size (by simp)
            · have f2 : (n < 0) = False := eq_false hn
              clear hn
              go_wp2
              go_still_tail 21, (by kernel_rfl)
              show wpList _ _ _ _ _ wr.drew
              go_wp2
              rw [hst]
              go_wp2
              go_roundg (L'.length - m)
              case measure => have := HI1.out.1; have := HK1.out; omega
              case rel =>
                refine ⟨m + 1, by rw [Hw1.out], ⟨by have := HI1.out.1; have := HK1.out; omega, HK1.out, ?_, ?_⟩⟩
                · rw [HS6.out.2.2]
                  exact HS6.out.1
                · exact HI1.out.2.2.2.drew.grown HS6.out.2.1 HI1.out.2.2.2.size (by simp)
          · have q1 : ((m : Int) < (L'.length : Int)) = False := eq_false (by omega)
            have hSM : SM wr w5.heap.size (tall [] L') := by
              have h9 := HI1.out.2.2.1
              rw [List.take_of_length_le (by omega)] at h9
              exact h9
            have HSM := Lib.hid hSM
            have HB1 := Lib.hid HI1.out.2.2.2
            clear hSM hm
            go_wp2
            go_loopg [8] (L'.length + 1) (fun kq v8 w' => ∃ m : Nat, v8 = .int .i64 m ∧ Hid (kq + m = L'.length + 1 ∧ m ≤ L'.length ∧ SM w' w5.heap.size (tall [] L') ∧ Below w5.heap.size w5 w'))
            case atStart =>
              exact ⟨0, rfl, ⟨rfl, Nat.zero_le _, HSM.out, HB1.out⟩⟩
            case round =>
              obtain ⟨m2, rfl, HI2⟩ := hrel
              by_cases hm : m2 < L'.length
              · have hC : Kd.C k82 wr A5 L'.length L' := Kd.C_below HC5.out HI2.out.2.2.2
                obtain ⟨ad5, eA5, x0, x1, x2, x3⟩ := at_T82 hC (m2 : Int) (by omega) (by omega)
                simp only [Int.toNat_natCast] at x0 x1 x2 x3
                have e2 : rd_T82 L' (m2 : Int) = L'[m2] := by
                  unfold rd_T82
                  simp [List.getD, hm]
                have hg := bal_good HST.out.rep HWH.out HST.out.nn (List.getElem_mem hm)
                rw [e2] at x0 x1 x2 x3
                obtain ⟨⟨⟨a0, a1, a2⟩, n⟩, ha⟩ : ∃ a, L'[m2] = a := ⟨_, rfl⟩
                rw [ha] at x0 x1 x2 x3 hg
                simp only at x0 x1 x2 x3
                have hgs : a2.size ≤ maxLen := by have h9 : a2.size ≤ 40 := hg.2.2; unfold maxLen; omega
                have hl1 : (Instr.lookup 40 (.map (some w5.heap.size)) (.string a2) false).run Try.prog wr = .ok (.int .i64 0) wr := by
                  rw [← tall_zero HST.out.rep HWH.out a2]
                  exact HI2.out.2.2.1.lookup hgs
                have hl64 : wrap64 ((m2 : Int) + 1) = ((m2 + 1 : Nat) : Int) := by
                  have h3 := HM7.out
                  rw [wrap_id (by omega) (by omega)]; rfl
                have Hw1 := Lib.hid hl64
                have HK1 := Lib.hid hm
                have p1 : (0 ≤ (m2 : Int)) = True := eq_true (by omega)
                have q2 : ((m2 : Int) < (L'.length : Int)) = True := eq_true (by omega)
                subst eA5
                clear hC e2 hg ha hl64 hm hgs
                go_wp2
                go_roundg (L'.length - m2)
                case measure => have := HI2.out.1; have := HK1.out; omega
                case rel =>
                  exact ⟨m2 + 1, by rw [Hw1.out], ⟨by have := HI2.out.1; have := HK1.out; omega, HK1.out, HI2.out.2.2.1, HI2.out.2.2.2⟩⟩
              · have q2 : ((m2 : Int) < (L'.length : Int)) = False := eq_false (by omega)
                clear hm
                go_wp2
                go_roundg (P.length - k)
                case measure => have := HKQ.out; have := HK.out; omega
                case rel =>
                  refine ⟨k + 1, L', M', by rw [Hw.out], ⟨by have := HKQ.out; have := HK.out; omega, HK.out, ?_⟩⟩
                  have h9 := HI2.out.2.2.2
                  exact ⟨HLG.out.below h9, HST.out, HWH.out, HBx.out.trans (h9.mono HBx.out.size), Hb.out, HL'.out⟩
      · have hk' : ((k : Int) < (P.length : Int)) = False := eq_false (by omega)
        clear hk
        go_wp2_with (go_at_call 16; refine (awake_walk _).mono ?_; rintro e w2 ⟨rfl, H2⟩; replace H2 := Lib.hid H2)
        go_ret
        exact ⟨rfl, HI.out.2.2.below.trans (H2.out.mono HI.out.2.2.below.size)⟩
theorem whole_row (A : Option Addr) (c : Nat) (P : List (List S47)) (w : World) (hq : QS 24 (QS 72 Q47) P) (hr : Kd.C (Kd.slice 47 k47) w A P.length P) (hc : P.length ≤ c) :
    Calls Try.prog 4 #[.slice A P.length c] w fun e w' => e = .returned (.bool true) ∧ Below w.heap.size w w' := whole_walk A c P w hq hr hc
end Go.Proofs.Ytoknlpecbdlbfaa.PL

/- LedgerWhole's row. -/
namespace Go.Proofs.Ytoknlpecbdlbfaa.ledgerWhole
open Go Go.RowKit Go.ChangeShapes Go.WideShapes Go.ChangeAt Go.Proofs
open Go.ChangeMaps (open_string shut_string)
set_option linter.unusedVariables false
theorem own : ownKnob Try.prog.godebug = none := by kernel_rfl
set_option maxRecDepth 100000 in
theorem lifted (os : Os) (started : os.Started) (H : Type) (enc : TypeId × Value → H) :
    ReturnsInHanded {} Try.checked os 4 .any (Rows.ledgerWholeSpec.pre6 enc Try.prog Try.f4 Rows.ledgerWholeRow.domain false) (Rows.ledgerWholeSpec.post enc Try.prog Try.f4 false true false false) := by
  refine returnsInHanded_of_change_sized (C := Try.checked) own started (by kernel_rfl) Try.func4
    (ChangeSpec.witness6 (enc := enc) (C := Try.checked) false ⟨#[], #[.slice none 0 0], []⟩ 8 (by kernel_rfl) (by kernel_rfl) (by kernel_rfl) (by kernel_rfl)) ?_
  intro W base args ds gs before hval0 hW hcnd hsz0 _
  have hsz : (DataW.weightsEach Try.prog (Try.f4.params.toList ++ Rows.ledgerWholeSpec.plain.varTypes Try.prog) (ds ++ gs)).all (· ≤ reachBytes) = true := hsz0
  have hval : ∀ (j : Nat) t v, Try.f4.params[j]? = some t → args[j]? = some v → Value.okWide Try.prog W .any base t v := hval0
  have hW' := hW
  obtain ⟨p, q, hA0, hV, rfl, hfz, hnd⟩ := hW
  have hA : DataW.TrodAll enc Try.prog W 0 (fun _ => true) true Try.f4.params.toList args.toList ds p := hA0
  rw [Try.params4] at hA hval hsz
  obtain ⟨v0, vs0, d0, ds0, p0, q0, hargs, rfl, rfl, h0, r0⟩ := trodAll_cons hA
  obtain ⟨rfl, rfl, rfl⟩ := trodAll_nil r0
  obtain rfl : args = #[v0] := by cases args; simp_all
  obtain ⟨rfl, rfl⟩ := trodVars_none hV
  have k0 := h0
  have lt0 : ∀ x ∈ p0, x.block < W.heap.size := by obtain ⟨m, hm⟩ := k0; exact DataW.trod_lt m _ _ _ hm
  have sm0 : PL.Small 22 d0 := PL.small_arg hsz (j := 0) rfl rfl
  obtain ⟨a0, len0, cap0, rfl⟩ := okWide_slice Try.underlying22 (hval 0 22 v0 rfl rfl)
  obtain ⟨x0, rfl, hc0, hC0, hq0⟩ := PL.opened PL.opens22 h0 sm0
  clear hA0 hval0 hsz0 hsz
  refine (PL.whole_row a0 cap0 x0 W hq0 hC0 hc0).mono fun e W' ⟨he, bel⟩ => ?_
  subst he
  exact ⟨_, rfl, _, _, _, [], _, [], hW', trodAll_mk1 (shut_bool Try.underlying4 _), (trodAll_cons_mk (Below.trod PL.laidOut (by kernel_rfl) (of_decide_eq_true (by kernel_rfl)) k0 bel lt0) trodAll_mk0), rfl, bel.frame _, fun h => by cases h⟩
theorem over : Rows.ledgerWholeRow.holds Try.pinned (OpenSpec.ofChange Rows.ledgerWholeSpec) :=
  OpenClaim.holds_of_wide 4 Try.f4 rfl rfl rfl rfl rfl rfl rfl ⟨rfl, rfl, rfl, rfl, rfl⟩ rfl rfl rfl rfl rfl (by kernel_rfl) Try.func4 (by kernel_rfl)
    (of_decide_eq_true (by kernel_rfl)) (by unfold Func.isWrapper; first | (rw [if_pos (by decide +kernel)]; kernel_rfl) | (rw [if_neg (by decide +kernel)]; exact ⟨rfl, rfl⟩))
    (fun os started H enc _ => lifted os started H enc)
theorem proved : Rows.LedgerWholeSaid := over
end Go.Proofs.Ytoknlpecbdlbfaa.ledgerWhole
namespace Go.Proofs.Ytoknlpecbdlbfaa
/-- The row, under a short name, for the claim. -/
theorem ledgerWhole_holds : Rows.LedgerWholeSaid := ledgerWhole.proved
end Go.Proofs.Ytoknlpecbdlbfaa
