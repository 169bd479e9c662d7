/- Part 28 of the proof's texts: what the theorem needs of them. -/
import Derived.Test.YtoknlpecbdlbfaaSCOf27
import Derived.Shelf.SlIter.Collect
import Derived.RangeFuncBound
import Derived.Shelf.SlSortCmp.WholeK
import Derived.Shelf.Small.Bits
import Derived.Ground.SlsfProg
import Derived.Ground.NamesProg
import Derived.Test.YtoknlpecbdlbfaaProg

/- The ledger's Post, walked. -/
namespace Go.Proofs.Ytoknlpecbdlbfaa.PL
open Go.RowKit Go.Proofs.YtoknlpecbdlbfaaW.PrintWords Go.Proofs.YtoknlpecbdlbfaaW.PrintLast
/-- What the way back makes of the map: the entries done, the last one ahead. -/
def undoM (M : List (S42 × Int)) : List S107 → List (S42 × Int)
  | [] => M
  | e :: r => undoM (putM (putM M e.f1 (wrap64 (getM M e.f1 - e.f2))) e.f0 (wrap64 (getM (putM M e.f1 (wrap64 (getM M e.f1 - e.f2))) e.f0 + e.f2))) r
/-- Post from an entry on; done: those ahead, the last one first. -/
def postL (done : List S107) (M : List (S42 × Int)) : List S107 → List (S42 × Int) × Int × Int
  | [] => (M, done.length, 0)
  | e :: r => if (moveM M e).2 = 0 then postL (e :: done) (moveM M e).1 r else (undoM (moveM M e).1 done, done.length, (moveM M e).2)
theorem moveM_ok {M : List (S42 × Int)} {e : S107} (h : (moveM M e).2 = 0) : checkI e = 0 := by
  refine Classical.byContradiction fun h0 => ?_
  unfold moveM at h
  rw [if_pos h0] at h
  exact h0 h
/-- A row of entries, and what moves leave of it. -/
theorem C107_grown {w w' : World} {b : Nat} {A : Option Addr} {n : Nat} {l : List S107} (h : Kd.C k107 w A n l) (hg : w.grownBy w' (some b)) {M : List (S42 × Int)} (hb : LM w b M) : Kd.C k107 w' A n l := by
  obtain ⟨h1, h2, h3⟩ := h
  refine ⟨h1, h2, fun hn => ?_⟩
  obtain ⟨ad, e, hc⟩ := h3 hn
  refine ⟨ad, e, fun j p hp => ?_⟩
  obtain ⟨c, hs, hK, hcell⟩ := hc j p hp
  refine ⟨c, hs, ?_, fun i u hu => ?_⟩
  · obtain rfl := k107_open hK
    exact k107_mk w' p
  · have h4 := hcell i u hu
    rw [← h4]
    have hx : w'.heap[(ad.add (j * k107.sz + i)).block]? = w.heap[(ad.add (j * k107.sz + i)).block]? := by
      refine hg.block _ ?_ ?_
      · refine Classical.byContradiction fun hn => ?_
        have : w.heap[(ad.add (j * k107.sz + i)).block]? = none := Array.getElem?_eq_none (by omega)
        simp [World.cell?, this] at h4
      · intro hq
        obtain ⟨es, clock, hbb, _⟩ := hb
        injection hq with hq
        simp [World.cell?, hq, hbb] at h4
    simp only [World.cell?, hx]
theorem grown_box0 {w w1 : World} {b : Nat} (o : Obj) (h : (w.alloc o).grownBy w1 (some b)) : w.grownBy w1 (some b) := grown_box (k := 0) o h
set_option maxRecDepth 100000 in
set_option maxHeartbeats 1000000 in
theorem post_walk {g b : Nat} {M : List (S42 × Int)} {w : World} (h : LG w g b M) (hB : BM M) (A : Option Addr) (c : Nat) (l : List S107) (hr : Kd.C k107 w A l.length l) (hlen : l.length ≤ 4096) (hroom : M.length + 4 * l.length + 8 < maxLen) (R : List (S42 × Int) × Int × Int) (hR : postL [] M l = R) :
    Calls Try.prog 19 #[.pointer (some ⟨g, 0, none⟩), .slice A l.length c] w fun e w' => e = .returned (.tuple #[.int .i64 R.2.1, .int .i64 R.2.2]) ∧ LG w' g b R.1 ∧ w.grownBy w' (some b) := by
  have hn' : ((l.length : Int) > 4096) = False := eq_false (by omega)
  have hc := h.cell
  have H0 := Lib.hid (And.intro h (And.intro hB (And.intro hr (And.intro hlen (And.intro hroom hR)))))
  clear h hB hr hlen hroom hR
  go_enter Try.func19, Try.ntmps19
  go_wp2_with (go_at_call 58; refine (made_any g b _ hc).mono ?_; rintro e w1 ⟨rfl, rfl⟩)
  clear hc hn'
  go_loopg [6, 7, 8, 18] (l.length + 1) (fun kq v6 v7 v8 v18 w' => ∃ (done rest : List S107) (M1 : List (S42 × Int)), v18 = .int .i64 done.length ∧ Hid (kq = rest.length + 1 ∧ l = done.reverse ++ rest ∧ postL done M1 rest = R ∧ LG w' g b M1 ∧ BM M1 ∧ w.grownBy w' (some b) ∧ M1.length + 4 * rest.length + 2 * done.length + 8 < maxLen ∧ ∀ e ∈ done, checkI e = 0))
  case atStart =>
    obtain ⟨h1, h2, h3, h4, h5, h6⟩ := H0.out
    exact ⟨[], l, M, rfl, ⟨rfl, rfl, h6, h1, h2, grown_drewN w 0 _, by simp; omega, fun e he => by cases he⟩⟩
  case round =>
    obtain ⟨done, rest, M1, rfl, HH⟩ := hrel
    have hc : wr.cell? ⟨g, 0, none⟩ = some (.map (some b)) := HH.out.2.2.2.1.cell
    cases rest with
    | nil =>
      have c0 : l.length = done.length := by
        have := congrArg List.length HH.out.2.1
        simpa using this
      have c1 : (done.length < l.length) = False := eq_false (by omega)
      have C0 := Lib.hid c0
      clear c0
      go_wp2
      go_ret2
      obtain ⟨h1, h2, h3, h4, h5, h6, h7, h8⟩ := HH.out
      unfold postL at h3
      subst h3
      exact ⟨by rw [C0.out]; rfl, h4, h6⟩
    | cons e r =>
      have hi : done.length < l.length := by
        have := congrArg List.length HH.out.2.1
        simp at this
        omega
      have c1 : decide ((done.length : Int) < (l.length : Int)) = true := decide_eq_true (by omega)
      have he : rd_T107 l (done.length : Int) = e := by
        unfold rd_T107
        rw [HH.out.2.1]
        simp
      have hC : Kd.C k107 wr A l.length l := C107_grown H0.out.2.2.1 HH.out.2.2.2.2.2.1 H0.out.1.map
      obtain ⟨ad, eA, x0, x1, x2, x3, x4, x5, x6⟩ := at_T107 hC (done.length : Int) (by omega) (by omega)
      rw [he] at x0 x1 x2 x3 x4 x5 x6
      simp only [Int.toNat_natCast] at x0 x1 x2 x3 x4 x5 x6
      clear hC
      subst eA
      have p1 : (0 ≤ (done.length : Int)) = True := eq_true (by omega)
      have q1 : ((done.length : Int) < (l.length : Int)) = True := eq_true (by omega)
      have H59 : ∀ w1, LG w1 g b M1 → Calls Try.prog 59 #[.pointer (some ⟨g, 0, none⟩), ev e] w1 fun o w' => o = .returned (.int .i64 (moveM M1 e).2) ∧ LG w' g b (moveM M1 e).1 ∧ w1.grownBy w' (some b) := fun w1 h1 => move_any h1 HH.out.2.2.2.2.1 (by have := HH.out.2.2.2.2.2.2.1; omega) e
      obtain ⟨f, hf⟩ : ∃ f, (moveM M1 e).2 = f := ⟨_, rfl⟩
      have HG : LG wr g b M1 := HH.out.2.2.2.1
      have HA := HG.below ((Below.refl wr.heap.size wr).alloc (Nat.le_refl _) (.cells #[.int .i64 e.f0.f0, .int .i64 e.f0.f1, .string e.f0.f2, .int .i64 e.f1.f0, .int .i64 e.f1.f1, .string e.f1.f2, .int .i64 e.f2] 107))
      have HV := Lib.hid (H59 _ HA)
      rw [hf] at HV
      have HE := Lib.hid (And.intro he (And.intro hi hf))
      clear H59 he hi hf HG HA
      obtain ⟨⟨a0, a1, a2⟩, ⟨b0, b1, b2⟩, n⟩ := e
      simp only [ev] at HV
      by_cases f0 : f = 0
      · have f1 : (f != 0) = false := by simp [f0]
        have F0 := Lib.hid f0
        clear f0
        go_wp2_with (go_at_call 59; refine (HV.out).mono ?_; rintro o w2 ⟨rfl, h2, h3⟩
                     have H2 := Lib.hid (And.intro h2 h3)
                     clear h2 h3)
        go_roundg (r.length + 1)
        case measure => rw [HH.out.1]; simp
        case rel =>
          obtain ⟨h1, h2, h3, h4, h5, h6, h7, h8⟩ := HH.out
          refine ⟨⟨⟨a0, a1, a2⟩, ⟨b0, b1, b2⟩, n⟩ :: done, r, (moveM M1 ⟨⟨a0, a1, a2⟩, ⟨b0, b1, b2⟩, n⟩).1, ?_, ⟨rfl, ?_, ?_, H2.out.1, h5.move _, ?_, ?_, ?_⟩⟩
          · have := H0.out.2.2.2.1
            have := HE.out.2.1
            rw [wrap_id (by omega) (by omega)]
            simp
          · rw [h2]; simp
          · unfold postL at h3
            rw [HE.out.2.2, F0.out, if_pos rfl] at h3
            exact h3
          · exact h6.andThen (grown_box0 _ H2.out.2) (fun _ hj => .inr hj)
          · have := length_moveM M1 ⟨⟨a0, a1, a2⟩, ⟨b0, b1, b2⟩, n⟩
            simp at h7 ⊢
            omega
          · intro e3 h9
            rcases List.mem_cons.1 h9 with rfl | h9
            · exact moveM_ok (HE.out.2.2.trans F0.out)
            · exact h8 e3 h9
      · have f1 : (f != 0) = true := by simp [f0]
        have F0 := Lib.hid f0
        clear f0
        go_wp2_with (go_at_call 59; refine (HV.out).mono ?_; rintro o w2 ⟨rfl, h2, h3⟩
                     have H2 := Lib.hid (And.intro h2 h3)
                     clear h2 h3)
        have HZ : R = (undoM (moveM M1 ⟨⟨a0, a1, a2⟩, ⟨b0, b1, b2⟩, n⟩).1 done, (done.length : Int), f) := by
          have h3 := HH.out.2.2.1
          unfold postL at h3
          rw [HE.out.2.2, if_neg F0.out] at h3
          exact h3.symm
        have HY := Lib.hid HZ
        clear HZ x0 x1 x2 x3 x4 x5 x6 p1 q1 c1 hc f1 HV
        go_loopg [9] (done.length + 1) (fun kq v9 w' => ∃ (rem tl : List S107) (M2 : List (S42 × Int)), v9 = .int .i64 ((rem.length : Int) - 1) ∧ Hid (kq = rem.length + 1 ∧ l = rem.reverse ++ tl ∧ undoM M2 rem = R.1 ∧ LG w' g b M2 ∧ w.grownBy w' (some b) ∧ M2.length + 2 * rem.length + 4 < maxLen ∧ ∀ e ∈ rem, checkI e = 0))
        case atStart =>
          obtain ⟨h1, h2, h3, h4, h5, h6, h7, h8⟩ := HH.out
          refine ⟨done, _, (moveM M1 ⟨⟨a0, a1, a2⟩, ⟨b0, b1, b2⟩, n⟩).1, ?_, ⟨rfl, h2, ?_, H2.out.1, ?_, ?_, ?_⟩⟩
          · have := H0.out.2.2.2.1
            have := HE.out.2.1
            rw [wrap_id (by omega) (by omega)]
          · rw [HY.out]
          · exact h6.andThen (grown_box0 _ H2.out.2) (fun _ hj => .inr hj)
          · have := length_moveM M1 ⟨⟨a0, a1, a2⟩, ⟨b0, b1, b2⟩, n⟩
            simp at h7 ⊢
            omega
          · exact h8
        case round =>
          obtain ⟨rem, tl, M2, rfl, HI⟩ := hrel
          cases rem with
          | nil =>
            go_wp2
            go_ret2
            obtain ⟨h1, h2, h3, h4, h5, h6, h7⟩ := HI.out
            unfold undoM at h3
            rw [HY.out] at h3 ⊢
            simp only at h3
            subst h3
            exact ⟨rfl, h4, h5⟩
          | cons e2 rem2 =>
            have hk : (((e2 :: rem2).length : Int) - 1) = (rem2.length : Int) := by simp
            rw [hk]
            clear hk
            have hc : wr.cell? ⟨g, 0, none⟩ = some (.map (some b)) := HI.out.2.2.2.1.cell
            have hi : rem2.length < l.length := by
              have := congrArg List.length HI.out.2.1
              simp at this
              omega
            have he : rd_T107 l (rem2.length : Int) = e2 := by
              unfold rd_T107
              rw [HI.out.2.1]
              simp
            have hC : Kd.C k107 wr (some ad) l.length l := C107_grown H0.out.2.2.1 HI.out.2.2.2.2.1 H0.out.1.map
            obtain ⟨ad2, eA, x0, x1, x2, x3, x4, x5, x6⟩ := at_T107 hC (rem2.length : Int) (by omega) (by omega)
            rw [he] at x0 x1 x2 x3 x4 x5 x6
            simp only [Int.toNat_natCast] at x0 x1 x2 x3 x4 x5 x6
            obtain rfl : ad = ad2 := by injection eA
            clear hC
            have HK := Lib.hid he
            obtain ⟨_, _, hg1, hg2, _⟩ := check_good (HI.out.2.2.2.2.2.2 e2 List.mem_cons_self)
            have HW2 := Lib.hid (good_wf hg2).1
            have HW1 := Lib.hid (good_wf hg1).1
            clear hg1 hg2
            clear he eA
            obtain ⟨⟨c0, c1, c2⟩, ⟨d0, d1, d2⟩, m⟩ := e2
            obtain ⟨v1, hv1⟩ : ∃ v, getM M2 ⟨d0, d1, d2⟩ = v := ⟨_, rfl⟩
            have HQ : LG wr.drew g b M2 := ⟨HI.out.2.2.2.1.blk, HI.out.2.2.2.1.map.move rfl⟩
            have hl1 : (Instr.lookup 60 (.map (some b)) (.agg #[.int .i64 d0, .int .i64 d1, .string d2]) false).run Try.prog wr.drew = .ok (.int .i64 v1) wr.drew := by
              rw [← hv1]
              exact HQ.map.lookup HW2.out
            have HP := Lib.hid (put_any HQ HW2.out (n := wrap64 (v1 - m)) (wf_wrap64 _) (by have := HI.out.2.2.2.2.2.1; simp at this; omega))
            simp only [kv] at HP
            have V1 := Lib.hid hv1
            clear hv1 HQ
            go_wp2
            go_still_tail 22, (by kernel_rfl)
            show wpList _ _ _ _ _ wr.drew
            go_wp2_with (go_at_call 60; refine HP.out.mono ?_; rintro o w3 ⟨rfl, h2, h3⟩
                         have H3 := Lib.hid (And.intro h2 h3)
                         clear h2 h3)
            clear hl1 HP hc x0 x1 x2 x3 x4 x5 x6
            have hg5 : w.grownBy w3 (some b) := HI.out.2.2.2.2.1.andThen ((grown_drewN wr 1 _).andThen H3.out.2 (fun _ hj => .inr hj)) (fun _ hj => .inr hj)
            have hC : Kd.C k107 w3 (some ad) l.length l := C107_grown H0.out.2.2.1 hg5 H0.out.1.map
            have G5 := Lib.hid hg5
            clear hg5
            obtain ⟨ad2, eA, x0, x1, x2, x3, x4, x5, x6⟩ := at_T107 hC (rem2.length : Int) (by omega) (by omega)
            rw [HK.out] at x0 x1 x2 x3 x4 x5 x6
            simp only [Int.toNat_natCast] at x0 x1 x2 x3 x4 x5 x6
            obtain rfl : ad = ad2 := by injection eA
            clear hC eA
            have hc : w3.cell? ⟨g, 0, none⟩ = some (.map (some b)) := H3.out.1.cell
            obtain ⟨M3, hM3⟩ : ∃ M3, putM M2 ⟨d0, d1, d2⟩ (wrap64 (v1 - m)) = M3 := ⟨_, rfl⟩
            rw [hM3] at H3
            obtain ⟨v2, hv2⟩ : ∃ v, getM M3 ⟨c0, c1, c2⟩ = v := ⟨_, rfl⟩
            have HQ : LG w3.drew g b M3 := ⟨H3.out.1.blk, H3.out.1.map.move rfl⟩
            have hl1 : (Instr.lookup 60 (.map (some b)) (.agg #[.int .i64 c0, .int .i64 c1, .string c2]) false).run Try.prog w3.drew = .ok (.int .i64 v2) w3.drew := by
              rw [← hv2]
              exact HQ.map.lookup HW1.out
            have hlen3 := length_putM M2 ⟨d0, d1, d2⟩ (wrap64 (v1 - m))
            rw [hM3] at hlen3
            have HP := Lib.hid (put_any HQ HW1.out (n := wrap64 (v2 + m)) (wf_wrap64 _) (by have := HI.out.2.2.2.2.2.1; simp at this; omega))
            simp only [kv] at HP
            have V2 := Lib.hid (And.intro hM3 (And.intro hv2 hlen3))
            clear hM3 hv2 hlen3 HQ
            go_still_tail 22, (by kernel_rfl)
            show wpList _ _ _ _ _ w3.drew
            go_wp2_with (go_at_call 60; refine HP.out.mono ?_; rintro o w4 ⟨rfl, h2, h3⟩
                         have H4 := Lib.hid (And.intro h2 h3)
                         clear h2 h3)
            go_roundg (rem2.length + 1)
            case measure => rw [HI.out.1]; simp
            case rel =>
              obtain ⟨h1, h2, h3, h4, h5, h6, h7⟩ := HI.out
              obtain ⟨e1, e2', e3⟩ := V2.out
              refine ⟨rem2, ⟨⟨c0, c1, c2⟩, ⟨d0, d1, d2⟩, m⟩ :: tl, putM M3 ⟨c0, c1, c2⟩ (wrap64 (v2 + m)), ?_, ⟨rfl, ?_, ?_, H4.out.1, ?_, ?_, ?_⟩⟩
              · have := H0.out.2.2.2.1
                rw [wrap_id (by omega) (by omega)]
              · rw [h2]; simp
              · rw [← h3]
                simp only [undoM]
                rw [V1.out, e1, e2']
              · exact G5.out.andThen ((grown_drewN w3 1 _).andThen H4.out.2 (fun _ hj => .inr hj)) (fun _ hj => .inr hj)
              · have := length_putM M3 ⟨c0, c1, c2⟩ (wrap64 (v2 + m))
                simp at h6
                omega
              · exact fun e3 h9 => h7 e3 (List.mem_cons_of_mem _ h9)
theorem post_any {g b : Nat} {M : List (S42 × Int)} {w : World} (h : LG w g b M) (hB : BM M) (A : Option Addr) (c : Nat) (l : List S107) (hr : Kd.C k107 w A l.length l) (hlen : l.length ≤ 4096) (hroom : M.length + 4 * l.length + 8 < maxLen) :
    Calls Try.prog 19 #[.pointer (some ⟨g, 0, none⟩), .slice A l.length c] w fun e w' => e = .returned (.tuple #[.int .i64 (postL [] M l).2.1, .int .i64 (postL [] M l).2.2]) ∧ LG w' g b (postL [] M l).1 ∧ w.grownBy w' (some b) :=
  post_walk h hB A c l hr hlen hroom _ rfl
end Go.Proofs.Ytoknlpecbdlbfaa.PL

/- The keys of the ledger's map: maps.Keys's iterator, for every loop body that keeps its word. -/
namespace Go.Proofs.Ytoknlpecbdlbfaa.PL
open Go Go.RowKit Go.Maps Go.Sort Go.Shelf Go.Proofs Go.Proofs.YtoknlpecbdlbfaaW.PrintWords Go.Proofs.YtoknlpecbdlbfaaW.PrintLast
open Go.WideElems (Fit rd rg rd_mk rd_key rd_val other_key)
noncomputable def klOf (a : S42) : Lit := (keyOf Try.prog 42 (kv a)).getD (.bool false)
theorem LM.reads {es : Array MapEntry} {clock : Nat} {M : List (S42 × Int)} (F : Fit (H := Unit) Try.prog 42 (plainElem Try.prog 3) es clock) (hM : es.toList.map (fun e => (e.key, e.val)) = M.map (fun p => (kv p.1, Value.int .i64 p.2))) {p : S42 × Int} (hp : p ∈ M) : keyOf Try.prog 42 (kv p.1) = some (klOf p.1) := by
  have : (kv p.1, Value.int .i64 p.2) ∈ es.toList.map (fun e => (e.key, e.val)) := by rw [hM]; exact List.mem_map.2 ⟨p, hp, rfl⟩
  obtain ⟨e, he, hee⟩ := List.mem_map.1 this
  obtain ⟨y, hy⟩ := F.reads e he
  have h1 := rd_key hy
  simp at hee
  rw [hee.1] at h1
  unfold klOf
  rw [h1]; rfl
theorem LM.key {w : World} {b : Nat} {M : List (S42 × Int)} (h : LM w b M) {p : S42 × Int} (hp : p ∈ M) : keyOf Try.prog 42 (kv p.1) = some (klOf p.1) := by
  obtain ⟨es, clock, hb, F, hM⟩ := h
  exact LM.reads F hM hp
theorem LM.owns {w : World} {b : Nat} {M : List (S42 × Int)} (h : LM w b M) : ∃ D0 : DataW Unit, w.ownsMap Try.prog 42 (plainElem (H := Unit) Try.prog 3) b M.length D0 ∧ Maps.size D0 = M.length := by
  obtain ⟨es, clock, hb, F, hM⟩ := h
  have hlen : es.size = M.length := by have := congrArg List.length hM; simpa using this
  refine ⟨_, ⟨es, clock, hb, F, by omega, rfl⟩, ?_⟩
  simp [Maps.size, length_sorted, hlen]
/-- A key that is still to come is one of the map's. -/
theorem ranges_key {w : World} {b r n : Nat} {D0 : DataW Unit} {left : Lit → Bool} {cnt : Nat} {M : List (S42 × Int)} (hrg : w.ranges Try.prog 42 (plainElem (H := Unit) Try.prog 3) b r n D0 left cnt) (h : LM w b M) {kl : Lit} (hl : left kl = true) {x : Value} (hx : keyOf Try.prog 42 x = some kl) :
    ∃ p ∈ M, x = kv p.1 ∧ klOf p.1 = kl := by
  obtain ⟨es, clock, since, seen, c0, hb, F, hs, hD, hr, hborn, hsz, hleft, hkeys, _, _⟩ := hrg
  obtain ⟨es', clock', hb', F', hM⟩ := h
  rw [hb] at hb'
  cases hb'
  obtain ⟨e, he, hekl⟩ := hkeys kl hl
  obtain ⟨y, hy⟩ := F.reads e he
  have h1 := rd_key hy
  have h2 : (rg Try.prog 42 (plainElem (H := Unit) Try.prog 3) e).1 = y.1 := by unfold rg; rw [hy]; rfl
  have h3 : (e.key, e.val) ∈ M.map (fun p => (kv p.1, Value.int .i64 p.2)) := by rw [← hM]; exact List.mem_map.2 ⟨e, he, rfl⟩
  obtain ⟨p, hp, hpe⟩ := List.mem_map.1 h3
  simp at hpe
  have h4 : keyOf Try.prog 42 e.key = some kl := by rw [h1, ← h2, hekl]
  have h5 : x = e.key := law42.inj hx h4
  refine ⟨p, hp, by rw [h5, hpe.1], ?_⟩
  unfold klOf
  rw [hpe.1, h4]; rfl
/-- Which keys have come: each once, one of the map's, and no more to come. -/
structure Coll (M : List (S42 × Int)) (left : Lit → Bool) (ss : List S42) : Prop where
  nd : ss.Nodup
  sub : ∀ a ∈ ss, a ∈ M.map Prod.fst
  left : ∀ p ∈ M, left (klOf p.1) = !decide (p.1 ∈ ss)
theorem Coll.start {w : World} {b n : Nat} {D0 : DataW Unit} {M : List (S42 × Int)} (hown : w.ownsMap Try.prog 42 (plainElem (H := Unit) Try.prog 3) b n D0) (h : LM w b M) : Coll M (Maps.has D0) [] := by
  refine ⟨List.nodup_nil, fun a ha => absurd ha (by simp), fun p hp => ?_⟩
  obtain ⟨es, clock, hb, F, hs, rfl⟩ := hown
  obtain ⟨es', clock', hb', F', hM⟩ := h
  rw [hb] at hb'
  cases hb'
  have : (kv p.1, Value.int .i64 p.2) ∈ es.toList.map (fun e => (e.key, e.val)) := by rw [hM]; exact List.mem_map.2 ⟨p, hp, rfl⟩
  obtain ⟨e, he, hee⟩ := List.mem_map.1 this
  obtain ⟨y, hy⟩ := F.reads e he
  have h1 := rd_key hy
  simp at hee
  have h2 : (rg Try.prog 42 (plainElem (H := Unit) Try.prog 3) e).1 = klOf p.1 := by
    unfold rg klOf; rw [hy, ← hee.1, h1]; rfl
  have h3 : Maps.has (DataW.map ((es.toList.map (rg Try.prog 42 (plainElem (H := Unit) Try.prog 3))).foldr DataW.insert [])) (klOf p.1) = true :=
    List.any_eq_true.2 ⟨rg Try.prog 42 (plainElem (H := Unit) Try.prog 3) e, mem_sorted.2 (List.mem_map.2 ⟨e, he, rfl⟩), by rw [h2]; exact WideAt.sameKey_self (by rw [← h2]; unfold rg; rw [hy]; exact law42.key h1)⟩
  simpa using h3
set_option maxRecDepth 100000 in
theorem Coll.step {w : World} {b : Nat} {M : List (S42 × Int)} {left : Lit → Bool} {ss : List S42} (h : Coll M left ss) (hw : LM w b M) {p : S42 × Int} (hp : p ∈ M) (hl : left (klOf p.1) = true) : Coll M (fun z => left z && !z.sameKey (klOf p.1)) (ss ++ [p.1]) := by
  have hnew : p.1 ∉ ss := by
    have := h.left p hp
    rw [hl] at this
    simpa using this.symm
  refine ⟨?_, ?_, ?_⟩
  · refine List.nodup_append.2 ⟨h.nd, by simp, ?_⟩
    intro a ha b' hb' e
    simp at hb'
    subst e
    subst hb'
    exact hnew ha
  · intro a ha
    rcases List.mem_append.1 ha with ha | ha
    · exact h.sub a ha
    · simp at ha
      rw [ha]
      exact List.mem_map.2 ⟨p, hp, rfl⟩
  · intro q hq
    show (left (klOf q.1) && !(klOf q.1).sameKey (klOf p.1)) = _
    rw [h.left q hq]
    by_cases e : q.1 = p.1
    · have hk := WideAt.sameKey_self (law42.key (hw.key hp))
      rw [e, hk]
      simp
    · rw [Maps.sameKey_ne (fun hh => e (kv_inj (law42.inj (hw.key hq) (by rw [hh]; exact hw.key hp))))]
      simp [e]
theorem Coll.perm {w : World} {b : Nat} {M : List (S42 × Int)} {left : Lit → Bool} {ss : List S42} (h : Coll M left ss) (hw : LM w b M) (hl : ∀ kl, left kl = false) : ss.Perm (M.map Prod.fst) := by
  refine (List.perm_ext_iff_of_nodup h.nd hw.nodup).2 fun a => ⟨h.sub a, fun ha => ?_⟩
  obtain ⟨p, hp, rfl⟩ := List.mem_map.1 ha
  have := h.left p hp
  rw [hl] at this
  simpa using this.symm
end Go.Proofs.Ytoknlpecbdlbfaa.PL

/- The ledger's map's keys, collected: maps.Keys, slices.Collect, slices.AppendSeq at accounts. -/
namespace Go.Proofs.Ytoknlpecbdlbfaa.PL
open Go Go.RowKit Go.Maps Go.Sort Go.Shelf Go.Proofs Go.Proofs.YtoknlpecbdlbfaaW.PrintWords Go.Proofs.YtoknlpecbdlbfaaW.PrintLast
set_option maxRecDepth 100000 in
set_option maxHeartbeats 1000000 in
theorem keys1_in (F : Fence) (n : Nat) (h10 : F.fn 83) (hro : F.round = none) (hn : 1 ≤ n) (l Bm b : Nat) (M : List (S42 × Int)) (J : List S42 → World → Prop)
    (hY : ∀ pre x W, J pre W → pre.length < M.length → YieldAt F (n - 1) Try.prog l #[kv x] W fun e W' => e = .returned (.bool true) ∧ J (pre ++ [x]) W' ∧ KeepsWalks W W')
    (W : World) (hJ : AbidesFrom W.heap.size J) (hm : W.cell? ⟨Bm, 0, none⟩ = some (.map (some b))) (hM : LM W b M) (h0 : J [] W) :
    CallsIn F n Try.prog 83 #[.func (.yield l) #[] #[], .pointer (some ⟨Bm, 0, none⟩)] W fun e W' => (∃ v, e = .returned v) ∧ ∃ ss : List S42, ss.Perm (M.map Prod.fst) ∧ J ss W' := by
  obtain ⟨D0, hown, hsz⟩ := hM.owns
  refine callsIn_of_wp Try.func83 rfl h10 ?_ hro
  simp only [Try.ntmps83, List.size_toArray, List.length_cons, List.length_nil, Nat.reduceAdd, Nat.reduceSub, Array.replicate_succ, Array.replicate_zero, List.push_toArray, List.append_toArray, List.nil_append, List.cons_append]
  gi_wp2_with (first
    | (gi_at_range; refine wpListIn_range_own _ rfl _ 60 rfl 42 3 law42 Try.underlying60 _ b M.length _ rfl hown ?_; intro w0 hrg0 hg0 hs0)
    | gi_in)
  go_frame
  gi_loopw [3] (fun _ wr => ∃ (left : Lit → Bool) (cnt : Nat) (ss : List S42), wr.ranges Try.prog 42 (plainElem (H := Unit) Try.prog 3) b W.heap.size M.length D0 left cnt ∧ ss.length + cnt ≤ M.length ∧ Coll M left ss ∧ LM wr b M ∧ J ss wr)
    (fun _ wr => wr.rangeLeft b W.heap.size)
  case atStart =>
    exact ⟨_, _, [], hrg0, by simp [hsz], Coll.start hown hM, hM.grown hg0 (by simp), hJ [] W w0 none h0 hg0 (fun r e => by cases e)⟩
  case round =>
    obtain ⟨left, cnt, ss, hrg, hcs, hC, hMr, hJs⟩ := hrel
    gi_wp2_with (first
      | (gi_at_next; refine wpListIn_next_ranges _ rfl _ rfl 42 law42 (plainElem (H := Unit) Try.prog 3) id id (fun key kl hk => ⟨key, rfl⟩) (fun v _ _ => ⟨v, rfl⟩) b W.heap.size M.length _ _ _ rfl hrg ?_ ?_)
      | gi_in)
    · intro hc0 hl0
      gi_wp2
      go_end0
      exact ⟨⟨_, rfl⟩, ss, hC.perm hMr hl0, hJs⟩
    · intro x c kl yd yp w2 cnt2 hkey hlk hv hat hrg2 hlt hg2 hs2 hen
      obtain ⟨p, hp, ex, ekl⟩ := ranges_key hrg hMr hlk hkey
      have hbr : b ≠ W.heap.size := fun e => by
        have := hM.lt
        omega
      have hM2 : LM w2 b M := hMr.grown hg2 (fun e => hbr (by cases e; rfl))
      have hJ2 : J ss w2 := hJ ss wr w2 (some W.heap.size) hJs hg2 (fun r e => by cases e; exact ⟨Nat.le_refl _, hrg.iter_walk⟩)
      subst ex
      rw [← ekl] at hlk hrg2
      have hC2 := hC.step hMr hp hlk
      obtain ⟨⟨a0, a1, a2⟩, pn⟩ := p
      obtain ⟨W2, hW2⟩ : ∃ W2, w2.alloc (.cells #[.int .i64 a0, .int .i64 a1, .string a2] 42) = W2 := ⟨_, rfl⟩
      have hg3 : w2.grownBy W2 none := by rw [← hW2]; exact World.grownBy_alloc w2 _ none
      have hJ3 : J ss W2 := hJ ss w2 W2 none hJ2 hg3 (fun r e => by cases e)
      obtain ⟨fn, tmps, assign, body, hy, hR⟩ := hY ss ⟨a0, a1, a2⟩ W2 hJ3 (by omega)
      have hrg3 : W2.ranges Try.prog 42 (plainElem (H := Unit) Try.prog 3) b W.heap.size M.length D0 _ cnt2 := hrg2.kept hg3 (by simp) (by simp)
      have hM3 : LM W2 b M := hM2.grown hg3 (by simp)
      have R3 := Lib.hid (And.intro hrg3 (And.intro hM3 (And.intro hJ3 (And.intro hC2 (And.intro hlt hcs)))))
      clear hrg3 hM3 hJ3 hC2 hlt hcs hs2 hg2 hat hrg2 hlk hkey hJ2 hM2 hg3 hp ekl hv
      simp only [kv] at hen hy ⊢
      subst hW2
      gi_wp2
      refine hR.mono ?_
      rintro e W3 ⟨rfl, hJ3, hk3⟩
      gi_wp2
      obtain ⟨r1, r2, r3, r4, r5, r6⟩ := R3.out
      have hrg4 := r1.of_walks hk3
      have hM4 : LM W3 b M := by
        obtain ⟨es, clock, hb, rest⟩ := r2
        exact ⟨es, clock, hk3.same b _ hb rfl, rest⟩
      go_roundw
      case rel => exact ⟨_, cnt2, ss ++ [⟨a0, a1, a2⟩], hrg4, by simp; omega, r4, hM4, hJ3⟩
      case measure => rw [hrg4.left_eq, hrg.left_eq]; exact r5
/-- maps.Keys(m) hands back an iterator over m's keys. -/
theorem keys_gives (F : Fence) (n : Nat) (h10 : F.fn 83) (hro : F.round = none) (hn : 1 ≤ n) (Bm b : Nat) (M : List (S42 × Int)) (w : World) (hBm : Bm < w.heap.size) (hm : w.cell? ⟨Bm, 0, none⟩ = some (.map (some b))) (hM : LM w b M) :
    SeqGives F n Try.prog 83 #[.pointer (some ⟨Bm, 0, none⟩)] kv (fun ss => ss.Perm (M.map Prod.fst)) M.length w := fun l J W hW hJ hY h0 =>
  keys1_in F n h10 hro hn l Bm b M J hY W hJ ((hW.cell (p := ⟨Bm, 0, none⟩) hBm).trans hm) (hM.below hW) h0
set_option maxHeartbeats 1000000 in
/-- maps.Keys(m). -/
theorem keys_in (F : Fence) (n : Nat) (h7 : F.fn 62) (hro : F.round = none) (mb : Option Nat) (w : World) :
    CallsIn F n Try.prog 62 #[.map mb] w fun e w' => e = .returned (.func (.func 83) #[] #[.pointer (some ⟨w.heap.size, 0, none⟩)]) ∧ w' = w.alloc (.cells #[.map mb] 60) := by
  refine callsIn_of_wp Try.func62 rfl h7 ?_ hro
  simp only [Try.ntmps62, List.size_toArray, List.length_cons, List.length_nil, Nat.reduceAdd, Nat.reduceSub, Array.replicate_succ, Array.replicate_zero, List.push_toArray, List.append_toArray, List.nil_append, List.cons_append]
  gi_wp2
  go_ret
  exact ⟨rfl, rfl⟩
end Go.Proofs.Ytoknlpecbdlbfaa.PL

/- slices.AppendSeq at accounts, against whatever iterator value. -/
namespace Go.Proofs.Ytoknlpecbdlbfaa.PL
open Go Go.RowKit Go.Maps Go.Sort Go.Shelf Go.Proofs Go.Proofs.YtoknlpecbdlbfaaW.PrintWords Go.Proofs.YtoknlpecbdlbfaaW.PrintLast
/-- An account's cells. -/
def c3 (a : S42) : List Value := [.int .i64 a.f0, .int .i64 a.f1, .string a.f2]
theorem info42 : (Try.prog.info? 42).map (fun i => (i.zero, i.size, i.bytes)) = some (some (.agg #[.int .i64 0, .int .i64 0, .string ⟨#[]⟩]), 3, 32) := by kernel_rfl
theorem len_c3 (ss : List S42) : (ss.flatMap c3).length = ss.length * 3 := by
  induction ss with
  | nil => rfl
  | cons a r ih => simp [List.flatMap_cons, c3] at ih ⊢; omega
theorem one_c3 (a : S42) : ∀ u ∈ c3 a, u.oneCell' = true := by
  intro u hu
  simp only [c3, List.mem_cons, List.not_mem_nil, or_false] at hu
  rcases hu with rfl | rfl | rfl <;> rfl
theorem cell_c3_new (w : World) (a : S42) : ∀ j u, (c3 a)[j]? = some u → (w.alloc (.cells #[.int .i64 a.f0, .int .i64 a.f1, .string a.f2] 42)).cell? ((⟨w.heap.size, 0, none⟩ : Addr).add j) = some u := by
  intro j u h
  have e : ((⟨w.heap.size, 0, none⟩ : Addr).add j) = ⟨w.heap.size, j, none⟩ := by simp [Addr.add]; omega
  rw [e]
  simp only [World.cell?, (Go.MapKept.heap_alloc w (.cells #[.int .i64 a.f0, .int .i64 a.f1, .string a.f2] 42)).1]
  simpa [c3] using h
def apAssign : Code := (Code.region 2 #[{ dst := some 5, op := Op.alloc 42, type := 0, pos := "iter.go:51", after := #[], guard := none }, { dst := none, op := Op.store 42 (Operand.tmp 5) (Operand.tmp 7), type := 0, pos := "iter.go:51", after := #[{ on := 0, ground := Ground.data }, { on := 0, ground := Ground.phase }], guard := none }] false)
def apBody : Code := (Code.block 1 (Code.region 3 #[{ dst := some 8, op := Op.load 112 (Operand.tmp 2), type := 112, pos := "iter.go:52", after := #[], guard := none }, { dst := some 9, op := Op.load 42 (Operand.tmp 5), type := 42, pos := "iter.go:52", after := #[], guard := none }, { dst := some 10, op := Op.buildSlice 112 1 #[(0, Operand.tmp 9)], type := 112, pos := "iter.go:52", after := #[{ on := 1, ground := Ground.data }], guard := none }, { dst := some 11, op := Op.call { callee := Callee.builtin Builtin.append, args := #[Operand.tmp 8, Operand.tmp 10], argTypes := #[112, 112] }, type := 112, pos := "iter.go:52", after := #[{ on := 0, ground := Ground.data }, { on := 2, ground := Ground.data }], guard := none }, { dst := none, op := Op.store 112 (Operand.tmp 2) (Operand.tmp 11), type := 0, pos := "iter.go:52", after := #[{ on := 3, ground := Ground.data }, { on := 3, ground := Ground.chain }, { on := 0, ground := Ground.phase }, { on := 1, ground := Ground.phase }, { on := 2, ground := Ground.phase }, { on := 3, ground := Ground.phase }], guard := none }] false))
/-- The loop's record: AppendSeq's temporaries as they stood at the entering: 's' boxed in block Bs; sv: the iterator's value. -/
def apRec (fn : FuncId) (sv : Value) (Bs D : Nat) (st : LoopState) (pend : Option Code) : Loop :=
  { state := st, pending := pend, fn, tmps := #[.slice none 0 0, sv, .pointer (some ⟨Bs, 0, none⟩), undef, .slice none 0 0, undef, sv, undef, undef, undef, undef, undef, undef], params := #[7], assign := apAssign, body := apBody, defers := D }
/-- Between two rounds. -/
structure ApAt (w0 : World) (fn : FuncId) (sv : Value) (Bs l D : Nat) (ss : List S42) (W : World) : Prop where
  box : ∃ v, W.heap[Bs]? = some (.cells #[v] 112 (0, 0)) ∧ W.ownsRow w0.heap.size 42 3 v ss.length (ss.flatMap c3) ∧ (v = .slice none 0 0 ↔ ss = [])
  L : W.heap[l]? = some (.loop (apRec fn sv Bs D .ready none))
  K : W.heap[D]? = some (.deferred (some []))
  below : Below w0.heap.size w0 W
theorem ap_abides (w0 : World) (fn : FuncId) (sv : Value) (Bs l D B : Nat) (hB : w0.heap.size ≤ B) : AbidesFrom B (ApAt w0 fn sv Bs l D) := fun s W W' row h hg hrow => by
  have hrow' : ∀ r, row = some r → ∃ o : Obj, W.heap[r]? = some o ∧ o.isWalk = true := fun r e => (hrow r e).2
  obtain ⟨v, hv, hr, hn⟩ := h.box
  exact ⟨⟨v, (grownBy_keeps hg hrow' hv rfl).trans hv, ownsRow_abides_a hr hg hrow', hn⟩, (grownBy_keeps hg hrow' h.L rfl).trans h.L, (grownBy_keeps hg hrow' h.K rfl).trans h.K,
    h.below.grown hg h.below.size (fun k e => Nat.le_trans hB (hrow k e).1)⟩
set_option maxRecDepth 100000 in
set_option maxHeartbeats 2000000 in
theorem apYield (F : Fence) (m : Nat) (w0 : World) (fn : FuncId) (hfn : F.fn fn) (sv : Value) (Bs l D : Nat) (hBl : Bs ≠ l) (hDl : D ≠ l) (hDB : D ≠ Bs) (h0B : w0.heap.size ≤ Bs) (h0l : w0.heap.size ≤ l)
    (N : Nat) (hN : N ≤ maxLen) (hNb : N * 32 ≤ 140737488355328) (ss : List S42) (x : S42) (W : World) (h : ApAt w0 fn sv Bs l D ss W) (hlen : ss.length < N) :
    YieldAt F m Try.prog l #[kv x] W fun e W' => e = .returned (.bool true) ∧ ApAt w0 fn sv Bs l D (ss ++ [x]) W' ∧ KeepsWalks W W' := by
  obtain ⟨i0, hi, hz0, hz1, hz2⟩ := info_parts info42
  obtain ⟨v, hv, hrow, _⟩ := h.box
  refine ⟨fn, #[.slice none 0 0, sv, .pointer (some ⟨Bs, 0, none⟩), undef, .slice none 0 0, undef, sv, kv x, undef, undef, undef, undef, undef], apAssign, apBody, by simpa [apRec] using run_yield (P := Try.prog) (args := #[kv x]) h.L rfl, roundIn_of_wpIn hfn ?_⟩
  have hl : l < W.heap.size := (Array.getElem?_eq_some_iff.1 h.L).1
  have hBl0 : Bs < W.heap.size := (Array.getElem?_eq_some_iff.1 hv).1
  have hDl0 : D < W.heap.size := (Array.getElem?_eq_some_iff.1 h.K).1
  obtain ⟨x0, x1, x2⟩ := x
  obtain ⟨Wa, hWa⟩ : ∃ Wa, W.alloc (.cells #[.int .i64 x0, .int .i64 x1, .string x2] 42) = Wa := ⟨_, rfl⟩
  have hga : W.grownBy Wa none := by rw [← hWa]; exact World.grownBy_alloc W _ none
  have hka : KeepsWalks W Wa := by rw [← hWa]; exact KeepsWalks.alloc _ _
  have hLa : Wa.heap[l]? = some (.loop (apRec fn sv Bs D .ready none)) := (hga.block l hl (by simp)).trans h.L
  have hva : Wa.heap[Bs]? = some (.cells #[v] 112 (0, 0)) := (hga.block Bs hBl0 (by simp)).trans hv
  have hKa : Wa.heap[D]? = some (.deferred (some [])) := (hga.block D hDl0 (by simp)).trans h.K
  have hrowa : Wa.ownsRow w0.heap.size 42 3 v ss.length (ss.flatMap c3) := by rw [← hWa]; exact hrow.alloc _
  have hba : Below w0.heap.size w0 Wa := by rw [← hWa]; exact h.below.alloc h.below.size _
  have hbox : Wa.heap[W.heap.size]? = some (.cells #[.int .i64 x0, .int .i64 x1, .string x2] 42 (0, 0)) := by rw [← hWa]; exact (Go.MapKept.heap_alloc W _).1
  have hla : l < Wa.heap.size := (Array.getElem?_eq_some_iff.1 hLa).1
  have hbr := run_beginRound (P := Try.prog) hLa rfl
  obtain ⟨W2, hW2⟩ : ∃ W2, Wa.putObj l (.loop { apRec fn sv Bs D .ready none with state := .busy }) = W2 := ⟨_, rfl⟩
  rw [hW2] at hbr
  have hg2 : Wa.grownBy W2 (some l) := by rw [← hW2]; exact grownBy_putObj_a _ _ _
  have hk2 : KeepsWalks W W2 := hka.trans (by rw [← hW2]; exact KeepsWalks.putObj _ hLa rfl)
  have hv2 : W2.heap[Bs]? = some (.cells #[v] 112 (0, 0)) := by rw [← hW2]; exact (World.putObj_heap_other hBl).trans hva
  have hK2 : W2.heap[D]? = some (.deferred (some [])) := by rw [← hW2]; exact (World.putObj_heap_other hDl).trans hKa
  have hL2 : W2.heap[l]? = some (.loop { apRec fn sv Bs D .ready none with state := .busy }) := by rw [← hW2]; exact World.putObj_heap_same hla
  have hbox2 : W2.heap[W.heap.size]? = some (.cells #[.int .i64 x0, .int .i64 x1, .string x2] 42 (0, 0)) := by rw [← hW2]; exact (World.putObj_heap_other (by omega)).trans hbox
  have hrow2 : W2.ownsRow w0.heap.size 42 3 v ss.length (ss.flatMap c3) := hrowa.kept hg2 (ownsRow_ne_a hrowa hLa (fun cur e => by cases e))
  have hb2 : Below w0.heap.size w0 W2 := hba.grown hg2 hba.size (fun k e => by cases e; exact h0l)
  have q0 : W2.cell? ⟨W.heap.size, 0, none⟩ = some (.int .i64 x0) := by simp [World.cell?, hbox2]
  have q1 : W2.cell? ⟨W.heap.size, 1, none⟩ = some (.int .i64 x1) := by simp [World.cell?, hbox2]
  have q2 : W2.cell? ⟨W.heap.size, 2, none⟩ = some (.string x2) := by simp [World.cell?, hbox2]
  obtain ⟨hc2, hf2⟩ := cell_of_box_a hv2
  have hBlt : Bs < W2.heap.size := (Array.getElem?_eq_some_iff.1 hv2).1
  have hl2 : l < W2.heap.size := (Array.getElem?_eq_some_iff.1 hL2).1
  have hDlt : D < W2.heap.size := (Array.getElem?_eq_some_iff.1 hK2).1
  have ne_of : ∀ {j : Nat} {o : Obj}, W2.heap[j]? = some o → (∀ cur, o ≠ .cells cur 42 (0, 0)) → some j ≠ v.ownBlock := fun hj hno => by
    rcases ownsRow_ne_a hrow2 hj hno with e | e
    · rw [e]; simp
    · exact fun e' => e e'.symm
  clear hW2
  unfold apAssign
  simp only [kv]
  gi_wp2_with gi_round_op_a
  clear hWa
  unfold apBody
  gi_wp2_with (first
    | (gi_at_builtin; refine wpListIn_append_own _ rfl _ _ 112 rfl w0.heap.size 42 i0 (.agg #[.int .i64 0, .int .i64 0, .string ⟨#[]⟩]) 3 32 Try.underlying112 hi hz0 hz1 hz2 rfl (by decide) _ _ _ rfl (hrow2.alloc _) ⟨W2.heap.size, 0, none⟩ 1 1 (c3 ⟨x0, x1, x2⟩) rfl rfl (cell_c3_new _ _) (one_c3 _) (by omega) (by omega) (by have := hb2.size; simp; omega) ?_; intro v' w3 hown' hg3 hnil3
       have hv3 : w3.heap[Bs]? = some (.cells #[v] 112 (0, 0)) := (hg3.block Bs (by simp; omega) (ne_of hv2 (fun cur e => by cases e))).trans ((Below.heap_alloc _ _ Bs hBlt).trans hv2)
       obtain ⟨hc3, hf3⟩ := cell_of_box_a hv3
       obtain ⟨g', cap', cur', rfl, hbase', hgb', hr1, hr2, hr3, hr4⟩ : ∃ g' cap' cur', v' = .slice (some ⟨g', 0, none⟩) (ss.length + 1) cap' ∧ w0.heap.size ≤ g' ∧ w3.heap[g']? = some (.cells cur' 42 (0, 0)) ∧ ss.length + 1 ≤ cap' ∧ cap' ≤ maxLen ∧ cur'.size = cap' * 3 ∧ cur'.toList.take ((ss.length + 1) * 3) = ss.flatMap c3 ++ c3 ⟨x0, x1, x2⟩ := by
         rcases hown'.2 with ⟨_, h0⟩ | h'
         · exact absurd h0 (by omega)
         · exact h'
       go_frame)
    | gi_round_op_a)
  have hg3' : (W2.alloc (.cells #[.int .i64 x0, .int .i64 x1, .string x2] 42)).grownBy w3 v.ownBlock := hg3
  have hL3 : w3.heap[l]? = some (.loop { apRec fn sv Bs D .ready none with state := .busy }) := (hg3'.block l (by simp; omega) (ne_of hL2 (fun cur e => by cases e))).trans ((Below.heap_alloc _ _ l hl2).trans hL2)
  have hK3 : w3.heap[D]? = some (.deferred (some [])) := (hg3'.block D (by simp; omega) (ne_of hK2 (fun cur e => by cases e))).trans ((Below.heap_alloc _ _ D hDlt).trans hK2)
  obtain ⟨w4, hw4⟩ : ∃ w4, w3.setCell ⟨Bs, 0, none⟩ (.slice (some ⟨g', 0, none⟩) (ss.length + 1) cap') = w4 := ⟨_, rfl⟩
  rw [hw4]
  have hg4 : w3.grownBy w4 (some Bs) := by rw [← hw4]; exact grownBy_setCell0_a _ _ _
  have hv4 : w4.heap[Bs]? = some (.cells #[.slice (some ⟨g', 0, none⟩) (ss.length + 1) cap'] 112 (0, 0)) := by rw [← hw4]; exact heap_setCell_box_a _ hv3
  have hL4 : w4.heap[l]? = some (.loop { apRec fn sv Bs D .ready none with state := .busy }) := (hg4.block l (Array.getElem?_eq_some_iff.1 hL3).1 (fun e => hBl (by cases e; rfl))).trans hL3
  have hK4 : w4.heap[D]? = some (.deferred (some [])) := (hg4.block D (Array.getElem?_eq_some_iff.1 hK3).1 (fun e => hDB (by cases e; rfl))).trans hK3
  have hrow4 := hown'.kept hg4 (ownsRow_ne_a hown' hv3 (fun cur e => by cases e))
  have hl4 : l < w4.heap.size := (Array.getElem?_eq_some_iff.1 hL4).1
  have hb3 : Below w0.heap.size w0 w3 := (hb2.alloc hb2.size _).grown hg3' (by have := hb2.size; simp; omega) (fun k e => (hrow2.lt k e).1)
  have hb4 : Below w0.heap.size w0 w4 := hb3.grown hg4 hb3.size (fun k e => by cases e; exact h0B)
  have hk4 : KeepsWalks W w4 := ((hk2.trans (KeepsWalks.alloc _ _)).trans (KeepsWalks.of_grownBy hg3' (ownsRow_not_walk_a (hrow2.alloc _)))).trans (by rw [← hw4]; exact KeepsWalks.setCell _ _ _)
  clear hw4
  refine ⟨_, _, run_endRound none hL4, rfl, ⟨⟨_, (World.putObj_heap_other hBl).trans hv4, ?_, by simp⟩, World.putObj_heap_same hl4, (World.putObj_heap_other hDl).trans hK4, hb4.grown (grownBy_putObj_a _ _ _) hb4.size (fun k e => by cases e; exact h0l)⟩, hk4.trans (KeepsWalks.putObj _ hL4 rfl)⟩
  have := hrow4.kept (grownBy_putObj_a w4 l (.loop { { apRec fn sv Bs D .ready none with state := .busy } with state := if (none : Option Code).isNone then .ready else .done, pending := none })) (ownsRow_ne_a hrow4 hL4 (fun cur e => by cases e))
  simpa using this
set_option maxRecDepth 100000 in
set_option maxHeartbeats 2000000 in
/-- slices.AppendSeq(nil, seq), against whatever iterator value. -/
theorem appendSeq_in (F : Fence) (n : Nat) (h11 : F.fn 88) (hro : F.round = none) (hn : 2 ≤ n) (g : Nat) (lb : Array Value) (hFg : F.fn g) (eg : ∀ args w, (callFunc g args).run Try.prog w = .ok (.enter g args) w)
    (S : List S42 → Prop) (N : Nat) (hN : N ≤ maxLen) (hNb : N * 32 ≤ 140737488355328) (w : World) (hseq : SeqGives F (n - 1) Try.prog g lb kv S N w) :
    CallsIn F n Try.prog 88 #[.slice none 0 0, .func (.func g) #[] lb] w fun e w' => ∃ (v : Value) (ss : List S42), e = .returned v ∧ S ss ∧ w'.ownsRow w.heap.size 42 3 v ss.length (ss.flatMap c3) ∧ (v = .slice none 0 0 ↔ ss = []) ∧ Below w.heap.size w w' := by
  have h1 : 1 ≤ n := by omega
  refine callsIn_of_wp_marks Try.func88 rfl h11 ?_ hro
  simp only [Try.ntmps88, List.size_toArray, List.length_cons, List.length_nil, Nat.reduceAdd, Nat.reduceSub, Array.replicate_succ, Array.replicate_zero, List.push_toArray, List.append_toArray, List.nil_append, List.cons_append]
  gi_wp2
  refine wpIn_rangeFunc ?_
  intro fn hfn
  rw [hro]
  obtain ⟨W0, hW0⟩ : ∃ W0, w.alloc (.cells #[.slice none 0 0] 112) = W0 := ⟨_, rfl⟩
  have hs0 : W0.heap.size = w.heap.size + 1 := by rw [← hW0]; simp
  have hv0 : W0.heap[w.heap.size]? = some (.cells #[.slice none 0 0] 112 (0, 0)) := by rw [← hW0]; exact World.alloc_heap_new w _
  have hb0 : Below w.heap.size w W0 := by rw [← hW0]; exact (Below.refl _ w).alloc (Nat.le_refl _) _
  rw [hW0]
  obtain ⟨W1, hW1⟩ : ∃ W1, (W0.alloc (.deferred (some []))).alloc (.loop (apRec fn (.func (.func g) #[] lb) w.heap.size W0.heap.size .ready none)) = W1 := ⟨_, rfl⟩
  have hold : ∀ k, k < W0.heap.size → W1.heap[k]? = W0.heap[k]? := fun k hk => by
    rw [← hW1]; exact (Below.heap_alloc _ _ k (by simp; omega)).trans (Below.heap_alloc _ _ k hk)
  have hb1 : Below w.heap.size w W1 := by rw [← hW1]; exact (hb0.alloc hb0.size _).alloc (by have := hb0.size; simp; omega) _
  have hs1 : W1.heap.size = W0.heap.size + 2 := by rw [← hW1]; simp
  have hM : ApAt w fn (.func (.func g) #[] lb) w.heap.size (W0.heap.size + 1) W0.heap.size [] W1 :=
    ⟨⟨_, (hold w.heap.size (by omega)).trans hv0, ⟨rfl, .inl ⟨rfl, rfl⟩⟩, by simp⟩,
     by rw [← hW1]; have := World.alloc_heap_new (W0.alloc (.deferred (some []))) (.loop (apRec fn (.func (.func g) #[] lb) w.heap.size W0.heap.size .ready none)); rwa [World.size_alloc] at this,
     by rw [← hW1]; exact (Below.heap_alloc _ _ _ (by simp)).trans (World.alloc_heap_new W0 _), hb1⟩
  refine ⟨W0.heap.size + 1, [{ target := .collected W0.heap.size, args := #[] }], W1, { target := .fn (.func g) lb, args := #[.func (.yield (W0.heap.size + 1)) #[] #[]] }, W1, g,
    #[.func (.yield (W0.heap.size + 1)) #[] #[]] ++ lb, W1, ?_, ?_, ?_, ?_, fun _ => h1, ?_⟩
  · rw [← hW1]; exact run_enterLoop_outer _ _ _ _ _
  · simp [resolve, go_sem]
  · intro f' hf'; simp [Target.leads] at hf'; subst hf'; exact hFg
  · simp [invoke, go_sem, eg]
  · refine (hseq (W0.heap.size + 1) (ApAt w fn (.func (.func g) #[] lb) w.heap.size (W0.heap.size + 1) W0.heap.size) W1 hb1 (ap_abides _ _ _ _ _ _ _ hb1.size)
      (fun pre x W hJ hl => apYield F (n - 1 - 1) w fn hfn _ w.heap.size (W0.heap.size + 1) W0.heap.size (by omega) (by omega) (by omega) (Nat.le_refl _) (by omega) N hN hNb pre x W hJ hl) hM).mono ?_
    rintro e W2 ⟨⟨v0, rfl⟩, ss, hS, h2⟩
    obtain ⟨v, hv, hrow, hnil⟩ := h2.box
    have hend := run_endLoop (P := Try.prog) h2.L (by simp [apRec])
    obtain ⟨W3, hW3⟩ : ∃ W3, W2.putObj (W0.heap.size + 1) (.loop { apRec fn (.func (.func g) #[] lb) w.heap.size W0.heap.size .ready none with state := .exhausted }) = W3 := ⟨_, rfl⟩
    rw [hW3] at hend
    have hg3 : W2.grownBy W3 (some (W0.heap.size + 1)) := by rw [← hW3]; exact grownBy_putObj_a _ _ _
    have hv3 : W3.heap[w.heap.size]? = some (.cells #[v] 112 (0, 0)) := by rw [← hW3]; exact (World.putObj_heap_other (by omega)).trans hv
    have hK3 : W3.heap[W0.heap.size]? = some (.deferred (some [])) := by rw [← hW3]; exact (World.putObj_heap_other (by omega)).trans h2.K
    have hrow3 := hrow.kept hg3 (ownsRow_ne_a hrow h2.L (fun cur e => by cases e))
    have hb3 : Below w.heap.size w W3 := h2.below.grown hg3 h2.below.size (fun k e => by cases e; omega)
    obtain ⟨hc3, hf3⟩ := cell_of_box_a hv3
    clear hW3
    refine ⟨none, W3, hend, ?_⟩
    gi_wp2
    rw [← hs0]
    refine ⟨by simp, .inl ⟨_, _, rfl, run_takeDeferred hK3, ?_⟩⟩
    exact ⟨_, results_tmp rfl _ _ _, v, ss, rfl, hS, hrow3.kept (grownBy_putObj_a _ _ _) (ownsRow_ne_a hrow3 hK3 (fun cur e => by cases e)), hnil, hb3.grown (grownBy_putObj_a _ _ _) hb3.size (fun k e => by cases e; omega)⟩
set_option maxHeartbeats 1000000 in
/-- slices.Collect(seq), against whatever iterator value. -/
theorem collect_in (F : Fence) (n : Nat) (h8 : F.fn 81) (h11 : F.fn 88) (hro : F.round = none) (hn : 3 ≤ n) (g : Nat) (lb : Array Value) (hFg : F.fn g) (eg : ∀ args w, (callFunc g args).run Try.prog w = .ok (.enter g args) w)
    (S : List S42 → Prop) (N : Nat) (hN : N ≤ maxLen) (hNb : N * 32 ≤ 140737488355328) (w : World) (hseq : SeqGives F (n - 1 - 1) Try.prog g lb kv S N w) :
    CallsIn F n Try.prog 81 #[.func (.func g) #[] lb] w fun e w' => ∃ (v : Value) (ss : List S42), e = .returned v ∧ S ss ∧ w'.ownsRow w.heap.size 42 3 v ss.length (ss.flatMap c3) ∧ (v = .slice none 0 0 ↔ ss = []) ∧ Below w.heap.size w w' := by
  have h1 : 1 ≤ n := by omega
  refine callsIn_of_wp Try.func81 rfl h8 ?_ hro
  simp only [Try.ntmps81, List.size_toArray, List.length_cons, List.length_nil, Nat.reduceAdd, Nat.reduceSub, Array.replicate_succ, Array.replicate_zero, List.push_toArray, List.append_toArray, List.nil_append, List.cons_append]
  gi_wp2_with (gi_at_call 88; refine (appendSeq_in F (n - 1) h11 hro (by omega) g lb hFg eg S N hN hNb _ hseq).mono ?_; rintro e w' ⟨v, ss, rfl, hS, hrow, hnil, hb⟩)
  go_ret
  exact ⟨v, ss, rfl, hS, hrow, hnil, hb⟩
end Go.Proofs.Ytoknlpecbdlbfaa.PL

/-
  DERIVED: THE SHELF's CONTRACTS AT THIS DUMP, IN PLAIN WORDS (tools/lay-plain.mjs out of 'TryrShelf.lean', which tools/lay-shelf.mjs wrote): THE SAME DECLARATIONS UNDER THE SAME NAMES: 'import', 'namespace', 'open', 'def', 'theorem' AND NOTHING ELSE: no command of the shelf's: FOR A HAND-IN. Each laying: the table of numbers ('.._ren') and one theorem, a field a fact of the dump's own or the kernel's comparison; each contract: ONE APPLICATION.
-/
namespace Go.Proofs
open Go.Shelf
def Try.sortAcc_ren : Go.Shelf.Ren := ⟨fun | 6 => 82 | 15 => 90 | 14 => 89 | 28 => 101 | 29 => 102 | 20 => 93 | 21 => 94 | 22 => 95 | 23 => 96 | 24 => 97 | 25 => 98 | 26 => 99 | 27 => 100 | 46 => 103 | 47 => 104 | 48 => 105 | 49 => 106 | 50 => 107 | 57 => 108 | n => n, fun | 22 => 112 | 24 => 42 | 25 => 117 | 3 => 3 | 39 => 144 | 0 => 0 | 53 => 157 | 55 => 159 | 4 => 4 | 46 => 150 | 45 => 149 | 50 => 154 | 5 => 5 | 9 => 9 | 66 => 160 | 70 => 164 | 76 => 166 | 77 => 167 | n => n, fun | n => n⟩
theorem Try.sortAcc : Go.Proofs.SlLaysF0.n6 Try.prog Try.sortAcc_ren := {
  mixed := by kernel_rfl
  f6 := ⟨Try.f82.name, by decide, Try.func82.trans (congrArg some (by kernel_rfl))⟩
  f14 := ⟨Try.f89.name, by decide, Try.func89.trans (congrArg some (by kernel_rfl))⟩
  f15 := Try.func90.trans (congrArg some (by kernel_rfl))
  f20 := ⟨Try.f93.name, by decide, Try.func93.trans (congrArg some (by kernel_rfl))⟩
  f21 := ⟨Try.f94.name, by decide, Try.func94.trans (congrArg some (by kernel_rfl))⟩
  f22 := ⟨Try.f95.name, by decide, Try.func95.trans (congrArg some (by kernel_rfl))⟩
  f23 := ⟨Try.f96.name, by decide, Try.func96.trans (congrArg some (by kernel_rfl))⟩
  f24 := ⟨Try.f97.name, by decide, Try.func97.trans (congrArg some (by kernel_rfl))⟩
  f25 := ⟨Try.f98.name, by decide, Try.func98.trans (congrArg some (by kernel_rfl))⟩
  f26 := ⟨Try.f99.name, by decide, Try.func99.trans (congrArg some (by kernel_rfl))⟩
  f27 := ⟨Try.f100.name, by decide, Try.func100.trans (congrArg some (by kernel_rfl))⟩
  f28 := Try.func101.trans (congrArg some (by kernel_rfl))
  f29 := Try.func102.trans (congrArg some (by kernel_rfl))
  f46 := ⟨Try.f103.name, by decide, Try.func103.trans (congrArg some (by kernel_rfl))⟩
  f47 := Try.func104.trans (congrArg some (by kernel_rfl))
  f48 := Try.func105.trans (congrArg some (by kernel_rfl))
  f49 := ⟨Try.f106.name, by decide, Try.func106.trans (congrArg some (by kernel_rfl))⟩
  f50 := ⟨Try.f107.name, by decide, Try.func107.trans (congrArg some (by kernel_rfl))⟩
  f57 := ⟨Try.f108.name, by decide, Try.func108.trans (congrArg some (by kernel_rfl))⟩
  t0 := Try.underlying0
  a0 := Try.isAgg0
  z0 := Try.sizeOf0
  v0 := Try.zeroValue0
  t3 := Try.underlying3
  a3 := Try.isAgg3
  z3 := Try.sizeOf3
  v3 := Try.zeroValue3
  t4 := Try.underlying4
  a4 := Try.isAgg4
  z4 := Try.sizeOf4
  v4 := Try.zeroValue4
  t5 := Try.underlying5
  a5 := Try.isAgg5
  z5 := Try.sizeOf5
  v5 := Try.zeroValue5
  t9 := Try.underlying9
  a9 := Try.isAgg9
  z9 := Try.sizeOf9
  v9 := Try.zeroValue9
  t22 := Try.underlying112
  a22 := Try.isAgg112
  z22 := Try.sizeOf112
  v22 := Try.zeroValue112
  t25 := Try.underlying117
  a25 := Try.isAgg117
  z25 := Try.sizeOf117
  v25 := Try.zeroValue117
  t39 := Try.underlying144
  a39 := Try.isAgg144
  z39 := Try.sizeOf144
  v39 := Try.zeroValue144
  t45 := Try.underlying149
  a45 := Try.isAgg149
  z45 := Try.sizeOf149
  v45 := Try.zeroValue149
  t46 := Try.underlying150
  a46 := Try.isAgg150
  z46 := Try.sizeOf150
  v46 := Try.zeroValue150
  t50 := Try.underlying154
  a50 := Try.isAgg154
  z50 := Try.sizeOf154
  v50 := Try.zeroValue154
  t53 := Try.underlying157
  a53 := Try.isAgg157
  z53 := Try.sizeOf157
  v53 := Try.zeroValue157
  t55 := Try.underlying159
  a55 := Try.isAgg159
  z55 := Try.sizeOf159
  v55 := Try.zeroValue159
  t66 := Try.underlying160
  a66 := Try.isAgg160
  z66 := Try.sizeOf160
  v66 := Try.zeroValue160
  t70 := Try.underlying164
  a70 := Try.isAgg164
  z70 := Try.sizeOf164
  v70 := Try.zeroValue164
  t76 := Try.underlying166
  a76 := Try.isAgg166
  z76 := Try.sizeOf166
  v76 := Try.zeroValue166
  t77 := Try.underlying167
  a77 := Try.isAgg167
  z77 := Try.sizeOf167
  v77 := Try.zeroValue167 }
end Go.Proofs
