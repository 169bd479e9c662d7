/- All, Held, Out, Things, Clone, walked. -/
import Derived.Test.YtoknlpecbdlbfaaG2
import Derived.Shelf.Slices.CompactS
import Derived.Ground.NamesProg
import Derived.Test.YtoknlpecbdlbfaaProg
import Derived.Shelf.SlMaps.Clone
import Derived.Test.YtoknlpecbdlbfaaPLx6
import Derived.Test.YtoknlpecbdlbfaaPLx7
import Derived.Test.YtoknlpecbdlbfaaPLx9
import Derived.Test.YtoknlpecbdlbfaaPLx10

/- All, walked. -/
namespace Go.Proofs.Ytoknlpecbdlbfaa.PL
open Go Go.RowKit Go.Maps Go.Sort Go.Shelf Go.Proofs Go.Proofs.YtoknlpecbdlbfaaW.PrintWords Go.Proofs.YtoknlpecbdlbfaaW.PrintLast
theorem reps_c3 (w : World) (base : Nat) (ok : Nat → Prop) : ∀ ss : List S42, Reps (k42.M w base ok) 3 ss (ss.flatMap c3) := by
  intro ss
  refine ⟨len_c3 ss, ?_⟩
  induction ss with
  | nil => intro j p h; simp at h
  | cons a r ih =>
    intro j p h
    cases j with
    | zero =>
      simp at h
      subst h
      simp only [List.flatMap_cons, Nat.zero_mul, List.drop_zero]
      rw [List.take_append_of_le_length (by simp [c3])]
      exact k42_mkM w base ok a
    | succ j =>
      simp at h
      have e1 : (j + 1) * 3 = 3 + j * 3 := by omega
      have e2 : (List.flatMap c3 (a :: r)).drop ((j + 1) * 3) = (r.flatMap c3).drop (j * 3) := by
        rw [List.flatMap_cons, e1, ← List.drop_drop]
        rfl
      rw [e2]
      exact ih j p h
theorem R42_of {w : World} {base : Nat} {v : Value} {ts : List S42} (h : w.ownsRow base 42 3 v ts.length (ts.flatMap c3)) : Kd.R k42 42 w base (fun _ => True) v ts :=
  ⟨fun _ _ => trivial, _, h, reps_c3 _ _ _ ts⟩
/-- slices.SortedFunc(maps.Keys(m), order), the iterator's value laid. -/
theorem sorted_any (w : World) (Bm b : Nat) (M : List (S42 × Int)) (hm : w.cell? ⟨Bm, 0, none⟩ = some (.map (some b))) (hB : Bm < w.heap.size) (hM : LM w b M) (hs : M.length * 32 ≤ 140737488355328) :
    Calls Try.prog 61 #[.func (.func 83) #[] #[.pointer (some ⟨Bm, 0, none⟩)], .func (.func 63) #[] #[]] w fun e w' => ∃ (A : Option Addr) (c : Nat) (ts : List S42), e = .returned (.slice A ts.length c) ∧ ts.Perm (M.map Prod.fst) ∧ Asc ts ∧ Kd.C k42 w' A ts.length ts ∧ Below w.heap.size w w' := by
  have hseq := keys_gives Fence.wide (5 - 1 - 1 - 1) trivial rfl (by omega) Bm b M w hB hm hM
  have h := sortedFunc_in 5 (by omega) #[.pointer (some ⟨Bm, 0, none⟩)] _ (fun ss hp => hp.nodup_iff.2 hM.nodup) M.length (by unfold maxLen; omega) hs w hseq
  refine (callsIn_wide.1 h).mono ?_
  rintro e w' ⟨v, ss, ts, rfl, hS, hp, ha, ho, hb⟩
  obtain ⟨A, c, rfl, hc, hC⟩ := Kd.R_reads (R42_of ho)
  exact ⟨A, c, ts, rfl, hp.trans hS, ha, hC, hb⟩
theorem keys_any (mb : Option Nat) (w : World) : Calls Try.prog 62 #[.map mb] w fun e w' => e = .returned (.func (.func 83) #[] #[.pointer (some ⟨w.heap.size, 0, none⟩)]) ∧ w' = w.alloc (.cells #[.map mb] 60) :=
  callsIn_wide.1 (keys_in Fence.wide 5 trivial rfl mb w)
theorem info44 : (Try.prog.info? 44).map (fun i => (i.zero, i.size, i.bytes)) = some (some (.agg #[(.int .i64 0), (.int .i64 0), (.string ⟨#[]⟩), (.int .i64 0)]), 4, 40) := by kernel_rfl
theorem LM.lookup_mem {w : World} {b : Nat} {M : List (S42 × Int)} (h : LM w b M) {a : S42} (ha : a ∈ M.map Prod.fst) : (Instr.lookup 60 (.map (some b)) (kv a) false).run Try.prog w = .ok (.int .i64 (getM M a)) w := by
  obtain ⟨p, hp, rfl⟩ := List.mem_map.1 ha
  have hkey := h.key hp
  obtain ⟨es, clock, hb, F, hM⟩ := h
  have hn := LM.nodup_of F hM
  rcases law42.find w hkey es.toList F.keys with ⟨h1, h2⟩ | ⟨j, e0, h1, h2, h3⟩
  · exact absurd ha (LM.none_of hM h2)
  · obtain ⟨q, hq, e1, e2⟩ := LM.get hM h2
    obtain e3 : q.1 = p.1 := kv_inj (e1.symm.trans h3)
    rw [← e3, getM_at hn (n := q.2) hq, e3]
    simp [Instr.lookup, run_underlying Try.underlying60, MapKept.run_getObj_map hb, law42.check w _ hkey, h1, e2, Result.andThen]
theorem grown_to {w w' : World} (h : w.grownBy w' none) : Below w.heap.size w w' := ⟨h.os, h.tape, h.output, h.size, fun k hk => h.block k hk (by simp)⟩
/-- A map's entry as a balance. -/
def b82 (a : S42) (n : Int) : S82 := ⟨⟨a.f0, a.f1, a.f2⟩, n⟩
set_option maxRecDepth 100000 in
set_option maxHeartbeats 2000000 in
theorem all_any {g b : Nat} {M : List (S42 × Int)} {w : World} (h : LG w g b M) (hs : M.length * 40 ≤ 140737488355328) :
    Calls Try.prog 23 #[.pointer (some ⟨g, 0, none⟩)] w fun e w' => ∃ (v : Value) (ts : List S42), e = .returned v ∧ ts.Perm (M.map Prod.fst) ∧ Asc ts ∧ Kd.R k82 44 w' w.heap.size (fun _ => True) v (ts.map fun a => b82 a (getM M a)) ∧ Below w.heap.size w w' := by
  have hc := h.cell
  have hM1 := h.map.below ((Below.refl w.heap.size w).alloc (Nat.le_refl _) (.cells #[.map (some b)] 60))
  obtain ⟨i0, hi, hz0, hz1, hz2⟩ := info_parts info44
  have HS := Lib.hid ((sorted_any (w.alloc (.cells #[.map (some b)] 60)) w.heap.size b M (by simp) (by simp) hM1 (by omega)).mono (R' := fun e w' => ∃ (A : Option Addr) (c : Nat) (ts : List S42), e = .returned (.slice A ts.length c) ∧ (i0.bytes * ts.length ≤ 281474976710656) ∧ ts.length ≤ maxLen ∧ w.heap.size ≤ w'.heap.size ∧ Hid (ts.length = M.length ∧ ts.Perm (M.map Prod.fst) ∧ Asc ts ∧ Kd.C k42 w' A ts.length ts ∧ Below w.heap.size w w')) (by
    rintro e w' ⟨A, c, ts, rfl, h1, h2, h3, h4⟩
    have hl : ts.length = M.length := by simpa using h1.length_eq
    have hb : Below w.heap.size w w' := ((Below.refl _ w).alloc (Nat.le_refl _) _).trans (h4.mono (by simp))
    exact ⟨A, c, ts, rfl, by rw [hz2]; omega, by unfold maxLen; omega, hb.size, ⟨hl, h1, h2, h3, hb⟩⟩))
  have HH := Lib.hid (And.intro h hs)
  clear hM1 hs h
  go_enter Try.func23, Try.ntmps23
  go_wp2_with (first
    | (go_at_call 58; refine (made_any g b _ hc).mono ?_; rintro e w1 ⟨rfl, rfl⟩)
    | (go_at_call 62; refine (keys_any _ _).mono ?_; rintro e w1 ⟨rfl, rfl⟩)
    | (go_at_call 61; refine HS.out.mono ?_; rintro e w1 ⟨A, c, ts, rfl, hb2, hb3, hb4, H1⟩)
    | (at_make; refine wpList_make_own _ rfl _ _ 38 rfl w1.heap.size 44 i0 (.agg #[(.int .i64 0), (.int .i64 0), (.string ⟨#[]⟩), (.int .i64 0)]) 4 Try.underlying38 hi hz0 hz1 .i64 .i64 (ts.length : Int) ts.length rfl rfl rfl hb2 hb3 (Nat.le_refl _) ?_; intro w2 ho2 hg2; have H2 := Lib.hid (And.intro ho2 hg2); clear ho2 hg2)
    | go_in)
  clear hc hb2 hb3 hb4 HS hi hz0 hz1 hz2
  go_loopg [4, 6, 21] (ts.length + 1) (fun kq v4 v6 v21 w' => ∃ k : Nat, v21 = .int .i64 k ∧ Hid (kq + k = ts.length + 1 ∧ k ≤ ts.length ∧ Kd.R k82 44 w' w1.heap.size (fun _ => True) v4 ((ts.take k).map fun a => b82 a (getM M a)) ∧ Below w1.heap.size w1 w'))
  case atStart =>
    refine ⟨0, rfl, ⟨rfl, Nat.zero_le _, ?_, (grown_to H2.out.2)⟩⟩
    exact ⟨fun _ _ => trivial, [], H2.out.1, Reps.none _ _⟩
  case round =>
    obtain ⟨k, rfl, HI⟩ := hrel
    have hwr : Below w.heap.size w wr := H1.out.2.2.2.2.trans (HI.out.2.2.2.mono H1.out.2.2.2.2.size)
    have HW := Lib.hid hwr
    clear hwr
    have hc : wr.cell? ⟨g, 0, none⟩ = some (.map (some b)) := (HW.out.cell (p := ⟨g, 0, none⟩) HH.out.1.glt).trans HH.out.1.cell
    by_cases hk : k < ts.length
    · have hC : Kd.C k42 wr A ts.length ts := Kd.C_below H1.out.2.2.2.1 HI.out.2.2.2
      obtain ⟨ad, eA, x0, x1, x2⟩ := at_T42 hC (k : Int) (by omega) (by omega)
      simp only [Int.toNat_natCast] at x0 x1 x2
      obtain ⟨⟨a0, a1, a2⟩, ha⟩ : ∃ a, rd_T42 ts (k : Int) = a := ⟨_, rfl⟩
      rw [ha] at x0 x1 x2
      clear hC
      subst eA
      have HK := Lib.hid (And.intro hk ha)
      clear ha
      go_wp2
      obtain ⟨W, hW⟩ : ∃ W, W = wr.alloc (.cells #[.int .i64 a0, .int .i64 a1, .string a2] 42) := ⟨_, rfl⟩
      have HB : Below wr.heap.size wr W := by rw [hW]; exact (Below.refl _ _).alloc (Nat.le_refl _) _
      have k0 : W.cell? ⟨wr.heap.size, 0, none⟩ = some (.int .i64 a0) := by rw [hW]; simp
      have k1 : W.cell? ⟨wr.heap.size, 1, none⟩ = some (.int .i64 a1) := by rw [hW]; simp
      have k2 : W.cell? ⟨wr.heap.size, 2, none⟩ = some (.string a2) := by rw [hW]; simp
      have hGb : W.drew.heap[wr.heap.size]? = some (.cells #[.int .i64 a0, .int .i64 a1, .string a2] 42 (0, 0)) := by rw [hW]; exact (Go.MapKept.heap_alloc wr _).1
      have hcW : W.cell? ⟨g, 0, none⟩ = some (.map (some b)) := (HB.cell (p := ⟨g, 0, none⟩) (Nat.lt_of_lt_of_le HH.out.1.glt HW.out.size)).trans hc
      rw [← hW]
      have HB1 := Lib.hid (And.intro HB hW)
      clear hc x0 x1 x2 HB hW
      obtain ⟨v, hv⟩ : ∃ v, getM M ⟨a0, a1, a2⟩ = v := ⟨_, rfl⟩
      have hmem : (⟨a0, a1, a2⟩ : S42) ∈ M.map Prod.fst := by
        rw [← HK.out.2]
        refine H1.out.2.1.mem_iff.1 ?_
        unfold rd_T42
        simp [HK.out.1]
      have hMW : LM W.drew b M := (HH.out.1.map.below (HW.out.trans (HB1.out.1.mono HW.out.size))).move rfl
      have hl : (Instr.lookup 60 (.map (some b)) (.agg #[.int .i64 a0, .int .i64 a1, .string a2]) false).run Try.prog W.drew = .ok (.int .i64 v) W.drew := by
        rw [← hv]
        exact hMW.lookup_mem hmem
      have hR : Kd.R k82 44 W.drew w1.heap.size (fun _ => True) u4 ((ts.take k).map fun a => b82 a (getM M a)) := Kd.R_drew (Kd.R_below HI.out.2.2.1 HB1.out.1)
      have HR := Lib.hid hR
      have hB2 : Below w1.heap.size w1 W.drew := (HI.out.2.2.2.trans (HB1.out.1.mono HI.out.2.2.2.size)).drew
      have hbase : w1.heap.size ≤ W.drew.heap.size := hB2.size
      have hlen : (((ts.take k).map fun a => b82 a (getM M a)).length + 1) * 40 ≤ 140737488355328 := by
        have h1 := HK.out.1
        have h2 := H1.out.1
        have h3 := HH.out.2
        simp
        omega
      have HP := Lib.hid (And.intro hB2 (And.intro hbase hlen))
      have hM0 : LM W b M := (HH.out.1.map.below (HW.out.trans (HB1.out.1.mono HW.out.size)))
      have hl0 : (Instr.lookup 60 (.map (some b)) (.agg #[.int .i64 a0, .int .i64 a1, .string a2]) false).run Try.prog W = .ok (.int .i64 v) W := by
        rw [← hv]
        exact hM0.lookup_mem hmem
      have hstep : ∀ w' : World, LM w' b M → (Instr.lookup 60 (.map (some b)) (.agg #[.int .i64 a0, .int .i64 a1, .string a2]) false).run Try.prog w' = .ok (.int .i64 v) w' := fun w' hw => by
        rw [← hv]
        exact hw.lookup_mem hmem
      have HST := Lib.hid hstep
      have HV := Lib.hid hv
      clear hv hmem hMW hR hB2 hbase hlen hstep
      have hgb : W.drew.heap[g]? = some (.cells #[.map (some b)] 62 (0, 0)) := ((HW.out.trans (HB1.out.1.mono HW.out.size)).block g HH.out.1.glt).trans HH.out.1.blk
      generalize wr.heap.size = G at k0 k1 k2 hGb ⊢
      have hSD : W.drew.cell? ⟨G, 0, none⟩ = some (.int .i64 a0) ∧ W.drew.cell? ⟨G, 1, none⟩ = some (.int .i64 a1) ∧ W.drew.cell? ⟨G, 2, none⟩ = some (.string a2) ∧ W.drew.cell? ⟨g, 0, none⟩ = some (.map (some b)) ∧ LM W.drew b M ∧ (Instr.lookup 60 (.map (some b)) (.agg #[.int .i64 a0, .int .i64 a1, .string a2]) false).run Try.prog W.drew = .ok (.int .i64 v) W.drew := ⟨k0, k1, k2, hcW, hM0.move rfl, HST.out _ (hM0.move rfl)⟩
      have HSA := Lib.hid (show ∀ (w' : World) (o : Obj), (w'.cell? ⟨G, 0, none⟩ = some (.int .i64 a0) ∧ w'.cell? ⟨G, 1, none⟩ = some (.int .i64 a1) ∧ w'.cell? ⟨G, 2, none⟩ = some (.string a2) ∧ w'.cell? ⟨g, 0, none⟩ = some (.map (some b)) ∧ LM w' b M ∧ (Instr.lookup 60 (.map (some b)) (.agg #[.int .i64 a0, .int .i64 a1, .string a2]) false).run Try.prog w' = .ok (.int .i64 v) w') → ((w'.alloc o).cell? ⟨G, 0, none⟩ = some (.int .i64 a0) ∧ (w'.alloc o).cell? ⟨G, 1, none⟩ = some (.int .i64 a1) ∧ (w'.alloc o).cell? ⟨G, 2, none⟩ = some (.string a2) ∧ (w'.alloc o).cell? ⟨g, 0, none⟩ = some (.map (some b)) ∧ LM (w'.alloc o) b M ∧ (Instr.lookup 60 (.map (some b)) (.agg #[.int .i64 a0, .int .i64 a1, .string a2]) false).run Try.prog (w'.alloc o) = .ok (.int .i64 v) (w'.alloc o)) from fun w' o ⟨s0, s1, s2, s3, s4, _⟩ =>
        ⟨((Below.refl w'.heap.size w').alloc (Nat.le_refl _) o |>.cell (World.block_lt_of_cell? w' _ s0)).trans s0, ((Below.refl w'.heap.size w').alloc (Nat.le_refl _) o |>.cell (World.block_lt_of_cell? w' _ s1)).trans s1, ((Below.refl w'.heap.size w').alloc (Nat.le_refl _) o |>.cell (World.block_lt_of_cell? w' _ s2)).trans s2, ((Below.refl w'.heap.size w').alloc (Nat.le_refl _) o |>.cell (World.block_lt_of_cell? w' _ s3)).trans s3, s4.below ((Below.refl w'.heap.size w').alloc (Nat.le_refl _) o), HST.out _ (s4.below ((Below.refl w'.heap.size w').alloc (Nat.le_refl _) o))⟩)
      have HSG := Lib.hid (show ∀ w5 : World, W.drew.grownBy w5 u4.ownBlock → (w5.cell? ⟨G, 0, none⟩ = some (.int .i64 a0) ∧ w5.cell? ⟨G, 1, none⟩ = some (.int .i64 a1) ∧ w5.cell? ⟨G, 2, none⟩ = some (.string a2) ∧ w5.cell? ⟨g, 0, none⟩ = some (.map (some b)) ∧ LM w5 b M ∧ (Instr.lookup 60 (.map (some b)) (.agg #[.int .i64 a0, .int .i64 a1, .string a2]) false).run Try.prog w5 = .ok (.int .i64 v) w5) from fun w5 hg => by
        have n1 := Kd.R_ne HR.out hGb (by decide)
        have n2 := Kd.R_ne HR.out hgb (by decide)
        have n3 : some b ≠ u4.ownBlock := by
          intro e
          obtain ⟨inner, ho⟩ := Kd.R_own HR.out
          obtain ⟨cells, hcb⟩ := own_typed ho b e.symm
          obtain ⟨es, clock, hbb, _⟩ := hM0
          rw [show W.drew.heap[b]? = W.heap[b]? from rfl, hbb] at hcb
          cases hcb
        have hm : LM w5 b M := (show LM W.drew b M from hM0.move rfl).grown hg n3
        have e1 := hg.block G (Array.getElem?_eq_some_iff.1 hGb).1 n1
        have e2 := hg.block g (Array.getElem?_eq_some_iff.1 hgb).1 n2
        exact ⟨(World.cell?_of_block (a := ⟨G, 0, none⟩) e1).trans k0, (World.cell?_of_block (a := ⟨G, 1, none⟩) e1).trans k1, (World.cell?_of_block (a := ⟨G, 2, none⟩) e1).trans k2, (World.cell?_of_block (a := ⟨g, 0, none⟩) e2).trans hcW, hm, HST.out _ hm⟩)
      clear k0 k1 k2 hcW hl hl0 hM0 hGb hgb
      go_region_held3 (fun w' => w'.cell? ⟨G, 0, none⟩ = some (.int .i64 a0) ∧ w'.cell? ⟨G, 1, none⟩ = some (.int .i64 a1) ∧ w'.cell? ⟨G, 2, none⟩ = some (.string a2) ∧ w'.cell? ⟨g, 0, none⟩ = some (.map (some b)) ∧ LM w' b M ∧ (Instr.lookup 60 (.map (some b)) (.agg #[.int .i64 a0, .int .i64 a1, .string a2]) false).run Try.prog w' = .ok (.int .i64 v) w')
        (first | assumption | exact HSA.out _ _ (by assumption))
        (first | (refine Kd.R_append_step k82 (w0 := w1) (W := W.drew) w1.heap.size (by rfl) (.tmp 25) (.tmp 34) 38 44 (.agg #[(.int .i64 0), (.int .i64 0), (.string ⟨#[]⟩), (.int .i64 0)]) 40 rfl Try.underlying38 info44 rfl (by decide) (by decide) u4 ((ts.take k).map fun a => b82 a (getM M a)) (b82 ⟨a0, a1, a2⟩ v) [.int .i64 a0, .int .i64 a1, .string a2, .int .i64 v] (fun _ => True) (fun _ => False) rfl rfl (k82_mkM _ _ _ _) (fun _ h => h.elim) (fun _ _ => trivial) HR.out HP.out.1 HP.out.2.1 HP.out.2.2 ?_; intro v1 w5 ho hb hg hat; have kk := HSG.out w5 hg; have H5 := Lib.hid (And.intro ho hb); clear ho hb hg hat))
      go_wp2
      go_roundg (ts.length - k)
      case measure => have := HI.out.1; have := HK.out.1; omega
      case rel =>
        have h1 := HK.out.1
        have h2 := HI.out.1
        have h3 := HH.out.2
        have h4 := H1.out.1
        refine ⟨k + 1, ?_, ⟨by omega, by omega, ?_, H5.out.2⟩⟩
        · rw [wrap_id (by omega) (by omega)]; rfl
        · have e1 : (ts.take (k + 1)).map (fun a => b82 a (getM M a)) = (ts.take k).map (fun a => b82 a (getM M a)) ++ [b82 ⟨a0, a1, a2⟩ v] := by
            have e2 : ts[k] = ⟨a0, a1, a2⟩ := by
              have := HK.out.2
              unfold rd_T42 at this
              simpa [List.getD, h1] using this
            rw [List.take_succ_eq_append_getElem h1, List.map_append, e2]
            simp only [List.map_cons, List.map_nil, HV.out]
          rw [e1]
          exact H5.out.1
    · have hk' : (k < ts.length) = False := eq_false hk
      have HK := Lib.hid hk
      clear hk
      go_wp2
      go_ret
      obtain ⟨h1, h2, h3, h4⟩ := HI.out
      have e1 : ts.take k = ts := List.take_of_length_le (by have := HK.out; omega)
      rw [e1] at h3
      exact ⟨_, ts, rfl, H1.out.2.1, H1.out.2.2.1, Kd.R_lower h3 H1.out.2.2.2.2.size, H1.out.2.2.2.2.trans (h4.mono H1.out.2.2.2.2.size)⟩
end Go.Proofs.Ytoknlpecbdlbfaa.PL

/- told, walked: what a ledger has, as the document's balances. -/
namespace Go.Proofs.Ytoknlpecbdlbfaa.PL
open Go Go.RowKit Go.Maps Go.Sort Go.Shelf Go.Proofs Go.Proofs.YtoknlpecbdlbfaaW.PrintWords Go.Proofs.YtoknlpecbdlbfaaW.PrintLast
/-- Function f at p hands back balances (a slice of type e's rows) of its own. -/
def Gives (f : Nat) (p : Value) (e : Nat) (w : World) (l : List S82) : Prop :=
  Calls Try.prog f #[p] w fun o w' => ∃ (v : Value), o = .returned v ∧ Kd.R k82 e w' w.heap.size (fun _ => True) v l ∧ Below w.heap.size w w'
theorem Gives.slice {f : Nat} {p : Value} {e : Nat} {w : World} {l : List S82} (h : Gives f p e w l) : Calls Try.prog f #[p] w fun o w' => ∃ (A : Option Addr) (c : Nat), o = .returned (.slice A l.length c) ∧ Hid (Kd.C k82 w' A l.length l ∧ Below w.heap.size w w' ∧ l.length ≤ c) := by
  refine Calls.mono h ?_
  rintro o w' ⟨v, rfl, hr, hb⟩
  obtain ⟨A, c, rfl, hc, hC⟩ := Kd.R_reads hr
  exact ⟨A, c, rfl, ⟨hC, hb, hc⟩⟩
set_option maxRecDepth 100000 in
set_option maxHeartbeats 2000000 in
theorem told_walk (p : Value) (w : World) (l : List S82) (h : Gives 23 p 44 w l) (hs : l.length * 40 ≤ 140737488355328) : Gives 22 p 82 w l := by
  unfold Gives
  have HS := Lib.hid h.slice
  have HH := Lib.hid hs
  clear h hs
  go_enter Try.func22, Try.ntmps22
  go_wp2_with (first
    | (go_at_call 23; refine HS.out.mono ?_; rintro e w1 ⟨A, c, rfl, H1⟩))
  go_loopg [4, 5, 6] (l.length + 1) (fun kq v4 v5 v6 w' => ∃ k : Nat, v5 = .int .i64 k ∧ Hid (kq + k = l.length + 1 ∧ k ≤ l.length ∧ Kd.R k82 82 w' w1.heap.size (fun _ => True) v4 (l.take k) ∧ Below w1.heap.size w1 w'))
  case atStart =>
    exact ⟨0, rfl, ⟨rfl, Nat.zero_le _, Kd.R_nil _ _ _ _ _, Below.refl _ _⟩⟩
  case round =>
    obtain ⟨k, rfl, HI⟩ := hrel
    by_cases hk : k < l.length
    · have hC : Kd.C k82 wr A l.length l := Kd.C_below H1.out.1 HI.out.2.2.2
      have h4 : ∀ (w' : World), Below w1.heap.size w1 w' → Kd.C k82 w' A l.length l := fun w' hb => Kd.C_below H1.out.1 hb
      obtain ⟨ad, eA, x0, x1, x2, x3⟩ := at_T82 hC (k : Int) (by omega) (by omega)
      simp only [Int.toNat_natCast] at x0 x1 x2 x3
      have hx : ∀ (w' : World), Below w1.heap.size w1 w' → w'.cell? ⟨(ad.add (k * 4)).block, (ad.add (k * 4)).off + 3, none⟩ = some (.int .i64 (rd_T82 l (k : Int)).f1) := fun w' hb => by
        obtain ⟨ad', eA', _, _, _, y3⟩ := at_T82 (h4 w' hb) (k : Int) (by omega) (by omega)
        obtain rfl : ad = ad' := by rw [eA] at eA'; injection eA'
        simpa only [Int.toNat_natCast] using y3
      obtain ⟨⟨⟨a0, a1, a2⟩, n⟩, ha⟩ : ∃ a, rd_T82 l (k : Int) = a := ⟨_, rfl⟩
      rw [ha] at x0 x1 x2 x3 hx
      have HX := Lib.hid hx
      clear hC h4 hx
      subst eA
      have HK := Lib.hid (And.intro hk ha)
      clear ha
      go_wp2
      obtain ⟨W, hW⟩ : ∃ W, W = wr.alloc (.cells #[.int .i64 a0, .int .i64 a1, .string a2] 42) := ⟨_, rfl⟩
      have HB : Below wr.heap.size wr W := by rw [hW]; exact (Below.refl _ _).alloc (Nat.le_refl _) _
      have k0 : W.cell? ⟨wr.heap.size, 0, none⟩ = some (.int .i64 a0) := by rw [hW]; simp
      have k1 : W.cell? ⟨wr.heap.size, 1, none⟩ = some (.int .i64 a1) := by rw [hW]; simp
      have k2 : W.cell? ⟨wr.heap.size, 2, none⟩ = some (.string a2) := by rw [hW]; simp
      have hGb : W.drew.heap[wr.heap.size]? = some (.cells #[.int .i64 a0, .int .i64 a1, .string a2] 42 (0, 0)) := by rw [hW]; exact (Go.MapKept.heap_alloc wr _).1
      rw [← hW]
      have hB2 : Below w1.heap.size w1 W.drew := (HI.out.2.2.2.trans (HB.mono HI.out.2.2.2.size)).drew
      have hR : Kd.R k82 82 W.drew w1.heap.size (fun _ => True) u4 (l.take k) := Kd.R_drew (Kd.R_below HI.out.2.2.1 HB)
      have hlen : ((l.take k).length + 1) * 40 ≤ 140737488355328 := by
        have h1 := HK.out.1
        have h3 := HH.out
        simp
        omega
      have HP := Lib.hid (And.intro hR (And.intro hB2 (And.intro hB2.size hlen)))
      clear x0 x1 x2 x3 HB hW hR hlen
      generalize wr.heap.size = G at k0 k1 k2 hGb ⊢
      have hSD : W.drew.cell? ⟨G, 0, none⟩ = some (.int .i64 a0) ∧ W.drew.cell? ⟨G, 1, none⟩ = some (.int .i64 a1) ∧ W.drew.cell? ⟨G, 2, none⟩ = some (.string a2) ∧ W.drew.cell? ⟨(ad.add (k * 4)).block, (ad.add (k * 4)).off + 3, none⟩ = some (.int .i64 n) := ⟨k0, k1, k2, HX.out _ hB2⟩
      have HSA := Lib.hid (show ∀ (w' : World) (o : Obj), (w'.cell? ⟨G, 0, none⟩ = some (.int .i64 a0) ∧ w'.cell? ⟨G, 1, none⟩ = some (.int .i64 a1) ∧ w'.cell? ⟨G, 2, none⟩ = some (.string a2) ∧ w'.cell? ⟨(ad.add (k * 4)).block, (ad.add (k * 4)).off + 3, none⟩ = some (.int .i64 n)) → ((w'.alloc o).cell? ⟨G, 0, none⟩ = some (.int .i64 a0) ∧ (w'.alloc o).cell? ⟨G, 1, none⟩ = some (.int .i64 a1) ∧ (w'.alloc o).cell? ⟨G, 2, none⟩ = some (.string a2) ∧ (w'.alloc o).cell? ⟨(ad.add (k * 4)).block, (ad.add (k * 4)).off + 3, none⟩ = some (.int .i64 n)) from fun w' o ⟨s0, s1, s2, s3⟩ =>
        ⟨((Below.refl w'.heap.size w').alloc (Nat.le_refl _) o |>.cell (World.block_lt_of_cell? w' _ s0)).trans s0, ((Below.refl w'.heap.size w').alloc (Nat.le_refl _) o |>.cell (World.block_lt_of_cell? w' _ s1)).trans s1, ((Below.refl w'.heap.size w').alloc (Nat.le_refl _) o |>.cell (World.block_lt_of_cell? w' _ s2)).trans s2, ((Below.refl w'.heap.size w').alloc (Nat.le_refl _) o |>.cell (World.block_lt_of_cell? w' _ s3)).trans s3⟩)
      have HSG := Lib.hid (show ∀ w5 : World, W.drew.grownBy w5 u4.ownBlock → Below w1.heap.size w1 w5 → (w5.cell? ⟨G, 0, none⟩ = some (.int .i64 a0) ∧ w5.cell? ⟨G, 1, none⟩ = some (.int .i64 a1) ∧ w5.cell? ⟨G, 2, none⟩ = some (.string a2) ∧ w5.cell? ⟨(ad.add (k * 4)).block, (ad.add (k * 4)).off + 3, none⟩ = some (.int .i64 n)) from fun w5 hg hb => by
        have n1 := Kd.R_ne HP.out.1 hGb (by decide)
        have e1 := hg.block G (Array.getElem?_eq_some_iff.1 hGb).1 n1
        exact ⟨(World.cell?_of_block (a := ⟨G, 0, none⟩) e1).trans k0, (World.cell?_of_block (a := ⟨G, 1, none⟩) e1).trans k1, (World.cell?_of_block (a := ⟨G, 2, none⟩) e1).trans k2, HX.out _ hb⟩)
      clear k0 k1 k2 hGb hB2
      go_region_held3 (fun w' => w'.cell? ⟨G, 0, none⟩ = some (.int .i64 a0) ∧ w'.cell? ⟨G, 1, none⟩ = some (.int .i64 a1) ∧ w'.cell? ⟨G, 2, none⟩ = some (.string a2) ∧ w'.cell? ⟨(ad.add (k * 4)).block, (ad.add (k * 4)).off + 3, none⟩ = some (.int .i64 n))
        (first | assumption | exact HSA.out _ _ (by assumption))
        (first | (refine Kd.R_append_step k82 (w0 := w1) (W := W.drew) w1.heap.size (by rfl) (.tmp 20) (.tmp 34) 27 82 (.agg #[(.int .i64 0), (.int .i64 0), (.string ⟨#[]⟩), (.int .i64 0)]) 40 rfl Try.underlying27 info82 rfl (by decide) (by decide) u4 (l.take k) ⟨⟨a0, a1, a2⟩, n⟩ [.int .i64 a0, .int .i64 a1, .string a2, .int .i64 n] (fun _ => True) (fun _ => False) rfl rfl (k82_mkM _ _ _ _) (fun _ h => h.elim) (fun _ _ => trivial) HP.out.1 HP.out.2.1 HP.out.2.2.1 HP.out.2.2.2 ?_; intro v1 w5 ho hb hg hat; have kk := HSG.out w5 hg hb; have H5 := Lib.hid (And.intro ho hb); clear ho hb hg hat))
      go_wp2
      go_roundg (l.length - k)
      case measure => have := HI.out.1; have := HK.out.1; omega
      case rel =>
        have h1 := HK.out.1
        have h2 := HI.out.1
        have h3 := HH.out
        refine ⟨k + 1, ?_, ⟨by omega, by omega, ?_, H5.out.2⟩⟩
        · rw [wrap_id (by omega) (by omega)]; rfl
        · have e1 : l.take (k + 1) = l.take k ++ [⟨⟨a0, a1, a2⟩, n⟩] := by
            have e2 : l[k] = ⟨⟨a0, a1, a2⟩, n⟩ := by
              have := HK.out.2
              unfold rd_T82 at this
              simpa [List.getD, h1] using this
            rw [List.take_succ_eq_append_getElem h1, e2]
          rw [e1]
          exact H5.out.1
    · have hk' : (k < l.length) = False := eq_false hk
      have HK := Lib.hid hk
      clear hk
      go_wp2
      go_ret
      obtain ⟨h1, h2, h3, h4⟩ := HI.out
      have e1 : l.take k = l := List.take_of_length_le (by have := HK.out; omega)
      rw [e1] at h3
      exact ⟨_, rfl, Kd.R_lower h3 H1.out.2.1.size, H1.out.2.1.trans (h4.mono H1.out.2.1.size)⟩
end Go.Proofs.Ytoknlpecbdlbfaa.PL

/- Held, Out, Things, walked. -/
namespace Go.Proofs.Ytoknlpecbdlbfaa.PL
open Go Go.RowKit Go.Maps Go.Sort Go.Shelf Go.Proofs Go.Proofs.YtoknlpecbdlbfaaW.PrintWords Go.Proofs.YtoknlpecbdlbfaaW.PrintLast
/-- What an owner has of a thing, in balances. -/
def heldL (l : List S82) (o : Int) (t : ByteArray) : Int := l.foldl (fun n b => if b.f0.f0 = o ∧ b.f0.f2.toList = t.toList then wrap64 (n + b.f1) else n) 0
set_option maxRecDepth 100000 in
set_option maxHeartbeats 2000000 in
theorem held_walk (p : Value) (w : World) (l : List S82) (o : Int) (t : ByteArray) (h : Gives 23 p 44 w l) (hs : l.length * 40 ≤ 140737488355328) :
    Calls Try.prog 28 #[p, .int .i64 o, .string t] w fun e w' => e = .returned (.int .i64 (heldL l o t)) ∧ Below w.heap.size w w' := by
  have HS := Lib.hid h.slice
  have HH := Lib.hid hs
  clear h hs
  go_enter Try.func28, Try.ntmps28
  go_wp2_with (first
    | (go_at_call 23; refine HS.out.mono ?_; rintro e w1 ⟨A, c, rfl, H1⟩))
  go_loopg [7, 9, 13] (l.length + 1) (fun kq v7 v9 v13 w' => ∃ (k : Nat) (n : Int), v7 = .int .i64 n ∧ v13 = .int .i64 k ∧ Hid (kq + k = l.length + 1 ∧ k ≤ l.length ∧ n = heldL (l.take k) o t ∧ Below w1.heap.size w1 w'))
  case atStart =>
    exact ⟨0, 0, rfl, rfl, ⟨rfl, Nat.zero_le _, rfl, Below.refl _ _⟩⟩
  case round =>
    obtain ⟨k, n, rfl, rfl, HI⟩ := hrel
    by_cases hk : k < l.length
    · have hC : Kd.C k82 wr A l.length l := Kd.C_below H1.out.1 HI.out.2.2.2
      obtain ⟨ad, eA, x0, x1, x2, x3⟩ := at_T82 hC (k : Int) (by omega) (by omega)
      simp only [Int.toNat_natCast] at x0 x1 x2 x3
      obtain ⟨⟨⟨a0, a1, a2⟩, m⟩, ha⟩ : ∃ a, rd_T82 l (k : Int) = a := ⟨_, rfl⟩
      rw [ha] at x0 x1 x2 x3
      subst eA
      have e2 : l[k] = ⟨⟨a0, a1, a2⟩, m⟩ := by
        unfold rd_T82 at ha
        simpa [List.getD, hk] using ha
      have hstep : heldL (l.take (k + 1)) o t = if a0 = o ∧ a2.toList = t.toList then wrap64 (n + m) else n := by
        rw [List.take_succ_eq_append_getElem hk, e2, HI.out.2.2.1]
        unfold heldL
        rw [List.foldl_append]
        rfl
      have hl64 : wrap64 ((k : Int) + 1) = ((k + 1 : Nat) : Int) := by
        have h3 := HH.out
        rw [wrap_id (by omega) (by omega)]; rfl
      have HK := Lib.hid (And.intro hk (And.intro hstep hl64))
      clear ha e2 hstep hC hl64
      by_cases c1 : a0 = o
      · have c1b : (a0 == o) = true := by simp [c1]
        by_cases c2 : a2.toList = t.toList
        · have c2b : (a2.toList == t.toList) = true := by simp [c2]
          have HC := Lib.hid (And.intro c1 c2)
          clear c1 c2
          go_wp2
          go_roundg (l.length - k)
          case measure => have := HI.out.1; have := HK.out.1; omega
          case rel =>
            have h1 := HK.out.1
            have h2 := HI.out.1
            refine ⟨k + 1, wrap64 (n + m), rfl, by rw [HK.out.2.2], ⟨by omega, by omega, ?_, HI.out.2.2.2.alloc HI.out.2.2.2.size _⟩⟩
            rw [HK.out.2.1, if_pos HC.out]
        · have c2b : (a2.toList == t.toList) = false := by simp [c2]
          have HC := Lib.hid c2
          clear c1 c2
          go_wp2
          go_roundg (l.length - k)
          case measure => have := HI.out.1; have := HK.out.1; omega
          case rel =>
            have h1 := HK.out.1
            have h2 := HI.out.1
            refine ⟨k + 1, n, rfl, by rw [HK.out.2.2], ⟨by omega, by omega, ?_, HI.out.2.2.2.alloc HI.out.2.2.2.size _⟩⟩
            rw [HK.out.2.1, if_neg (fun h => HC.out h.2)]
      · have c1b : (a0 == o) = false := by simp [c1]
        have HC := Lib.hid c1
        clear c1
        go_wp2
        go_roundg (l.length - k)
        case measure => have := HI.out.1; have := HK.out.1; omega
        case rel =>
          have h1 := HK.out.1
          have h2 := HI.out.1
          refine ⟨k + 1, n, rfl, by rw [HK.out.2.2], ⟨by omega, by omega, ?_, HI.out.2.2.2.alloc HI.out.2.2.2.size _⟩⟩
          rw [HK.out.2.1, if_neg (fun h => HC.out h.1)]
    · have hk' : (k < l.length) = False := eq_false hk
      have HK := Lib.hid hk
      clear hk
      go_wp2
      go_ret
      obtain ⟨h1, h2, h3, h4⟩ := HI.out
      have e1 : l.take k = l := List.take_of_length_le (by have := HK.out; omega)
      rw [e1] at h3
      subst h3
      exact ⟨rfl, H1.out.2.1.trans (h4.mono H1.out.2.1.size)⟩
set_option maxRecDepth 100000 in
theorem out_walk (p : Value) (w : World) (l : List S82) (t : ByteArray) (h : Gives 23 p 44 w l) (hs : l.length * 40 ≤ 140737488355328) :
    Calls Try.prog 30 #[p, .string t] w fun e w' => e = .returned (.int .i64 (wrap64 (-(heldL l 0 t)))) ∧ Below w.heap.size w w' := by
  have HS := Lib.hid (held_walk p w l 0 t h hs)
  clear h hs
  go_enter Try.func30, Try.ntmps30
  go_wp2_with (first
    | (go_at_call 28; refine HS.out.mono ?_; rintro e w1 ⟨rfl, H1⟩))
  go_ret
  exact ⟨rfl, H1⟩
end Go.Proofs.Ytoknlpecbdlbfaa.PL

/-
  DERIVED: THE SHELF's CONTRACTS AT THIS DUMP, IN PLAIN WORDS (tools/lay-plain.mjs out of 'TryrShelf.lean', which tools/lay-shelf.mjs wrote): THE SAME DECLARATIONS UNDER THE SAME NAMES: 'import', 'namespace', 'open', 'def', 'theorem' AND NOTHING ELSE: no command of the shelf's: FOR A HAND-IN. Each laying: the table of numbers ('.._ren') and one theorem, a field a fact of the dump's own or the kernel's comparison; each contract: ONE APPLICATION.
-/
namespace Go.Proofs
open Go.Shelf
def Try.laysCompact_ren : Go.Shelf.Ren := ⟨fun | 194 => 65 | n => n, fun | 31 => 56 | 9 => 9 | 3 => 3 | 4 => 4 | 0 => 0 | n => n, fun | n => n⟩
theorem Try.laysCompact : Go.Proofs.Lays.n194 Try.prog Try.laysCompact_ren := {
  mixed := by kernel_rfl
  f194 := Try.func65.trans (congrArg some (by kernel_rfl))
  t0 := Try.underlying0
  a0 := Try.isAgg0
  z0 := Try.sizeOf0
  v0 := Try.zeroValue0
  t3 := Try.underlying3
  a3 := Try.isAgg3
  z3 := Try.sizeOf3
  v3 := Try.zeroValue3
  t4 := Try.underlying4
  a4 := Try.isAgg4
  z4 := Try.sizeOf4
  v4 := Try.zeroValue4
  t9 := Try.underlying9
  a9 := Try.isAgg9
  z9 := Try.sizeOf9
  v9 := Try.zeroValue9
  t31 := Try.underlying56
  a31 := Try.isAgg56
  z31 := Try.sizeOf56
  v31 := Try.zeroValue56 }
end Go.Proofs

/- Things, walked. -/
namespace Go.Proofs.Ytoknlpecbdlbfaa.PL
open Go Go.RowKit Go.Maps Go.Sort Go.Shelf Go.Proofs Go.Proofs.YtoknlpecbdlbfaaW.PrintWords Go.Proofs.YtoknlpecbdlbfaaW.PrintLast
/-- A text's list of bytes. -/
def bl (s : ByteArray) : List UInt8 := s.data.toList
theorem enc_bl (s : ByteArray) : encStr (bl s) = .string s := by
  cases s
  simp [encStr, bl]
/-- Texts without those that are as the one ahead of them. -/
def compB (xs : List ByteArray) : List ByteArray := (Lib.compact (xs.map bl)).map (fun b => (⟨b.toArray⟩ : ByteArray))
theorem enc_comp (xs : List ByteArray) : (Lib.compact (xs.map bl)).map encStr = (compB xs).map Value.string := by
  unfold compB
  rw [List.map_map]
  rfl
theorem len_comp (xs : List ByteArray) : (compB xs).length = (Lib.compact (xs.map bl)).length := by simp [compB]
theorem compact_le (zs : List (List UInt8)) : (Lib.compact zs).length ≤ zs.length := by
  unfold Lib.compact Lib.compactUpTo
  rw [List.length_map]
  have := List.length_filter_le (Lib.keeps zs.toArray) (List.range zs.length)
  simpa using this
theorem compact_own {W : World} {base : Nat} {v : Value} {xs : List ByteArray} (h : Kd.R Kd.string 9 W base (fun _ => True) v xs) (hs : xs.length < 9223372036854775807) :
    Calls Try.prog 65 #[v] W fun e w' => ∃ v', e = .returned v' ∧ Kd.R Kd.string 9 w' base (fun _ => True) v' (compB xs) ∧ W.grownBy w' v.ownBlock ∧ (∀ k, v.ownBlock = some k → base ≤ k) := by
  have ho := Kd.own_of_R h
  rcases ho.2 with ⟨rfl, hz⟩ | ⟨gb, cap, cur, rfl, hbase, hgb, r1, r2, r3, r4⟩
  · have hx : xs = [] := List.eq_nil_of_length_eq_zero hz
    subst hx
    refine (Any.slices_Compact_string_empty Try.laysCompact none 0 W).mono ?_
    rintro e w' ⟨rfl, rfl⟩
    exact ⟨_, rfl, Kd.R_nil _ _ _ _ _, ⟨rfl, rfl, rfl, Nat.le_refl _, fun _ _ _ => rfl⟩, fun k hk => by simp [Value.ownBlock] at hk⟩
  · have hm : (xs.map bl).length = xs.length := by simp
    have hH : Holds encStr W gb 0 (xs.map bl).toArray := holds_of_block hgb (by
      rw [hm]
      rw [Nat.mul_one] at r4
      rw [r4]
      simp [encs, List.map_map, Function.comp_def, enc_bl])
    have hc := Any.slices_Compact_string Try.laysCompact gb 0 cap (xs.map bl) W hH (by rw [hm]; omega) (by rw [hm]; exact r1)
    rw [hm] at hc
    refine Calls.mono hc ?_
    rintro e w' ⟨rfl, q, rfl⟩
    have hle := compact_le (xs.map bl)
    rw [hm] at hle
    have hl := len_comp xs
    have he := enc_comp xs
    generalize Lib.compact (xs.map bl) = K at hle hl he ⊢
    have hT : (K ++ List.replicate (xs.length - K.length) ([] : List UInt8)).length = xs.length := by simp; omega
    have hT0 : (K ++ List.replicate (xs.length - K.length) ([] : List UInt8)).take K.length = K := List.take_left' rfl
    generalize K ++ List.replicate (xs.length - K.length) ([] : List UInt8) = T at hT hT0 ⊢
    have hg : W.grownBy (putRow encStr (Sort.ahead W q) gb 0 T.toArray) (some gb) := by
      refine ⟨rfl, rfl, rfl, by simp [putRow, mapBlock, Sort.ahead], fun k hk hne => ?_⟩
      have : gb ≠ k := fun e => hne (by rw [e])
      simp [putRow, mapBlock, Sort.ahead, Array.getElem?_modify, this]
    have hh : (putRow encStr (Sort.ahead W q) gb 0 T.toArray).heap[gb]? = some (.cells (putCells encStr 0 T.toArray cur) 9 (0, 0)) := by
      simp [putRow, mapBlock, Sort.ahead, Array.getElem?_modify, hgb, onCells]
    have ht := take_putCells cur T (by omega)
    refine ⟨_, rfl, ?_, by simpa [Value.ownBlock] using hg, fun k hk => ?_⟩
    · refine Kd.R_of_own ?_ (fun _ _ => trivial)
      refine ⟨by simp [encs], .inr ⟨gb, cap, _, by rw [hl], hbase, hh, by omega, r2, by simp [putCells]; omega, ?_⟩⟩
      have e1 : (putCells encStr 0 T.toArray cur).toList.take ((compB xs).length * 1) = ((putCells encStr 0 T.toArray cur).toList.take T.length).take (compB xs).length := by
        rw [List.take_take]
        congr 1
        omega
      rw [e1, ht, ← List.map_take, hl, hT0]
      exact he
    · have : gb = k := by simpa [Value.ownBlock] using hk
      omega
set_option maxRecDepth 100000 in
set_option maxHeartbeats 400000 in
theorem things_walk (p : Value) (w : World) (l : List S82) (h : Gives 23 p 44 w l) (hs : l.length * 40 ≤ 140737488355328) :
    Calls Try.prog 32 #[p] w fun e w' => ∃ v, e = .returned v ∧ Kd.R Kd.string 9 w' w.heap.size (fun _ => True) v (compB (l.map (fun b => b.f0.f2))) ∧ Below w.heap.size w w' := by
  have HS := Lib.hid h.slice
  have HH := Lib.hid hs
  clear h hs
  go_enter Try.func32, Try.ntmps32
  go_wp2_with (first
    | (go_at_call 23; refine HS.out.mono ?_; rintro e w1 ⟨A, c, rfl, H1⟩))
  go_loopg [3, 5, 9] (l.length + 1) (fun kq v3 v5 v9 w' => ∃ k : Nat, v9 = .int .i64 k ∧ Hid (kq + k = l.length + 1 ∧ k ≤ l.length ∧ Kd.R Kd.string 9 w' w1.heap.size (fun _ => True) v3 ((l.take k).map (fun b => b.f0.f2)) ∧ Below w1.heap.size w1 w'))
  case atStart =>
    exact ⟨0, rfl, ⟨rfl, Nat.zero_le _, Kd.R_nil _ _ _ _ _, Below.refl _ _⟩⟩
  case round =>
    obtain ⟨k, rfl, HI⟩ := hrel
    by_cases hk : k < l.length
    · have hC : Kd.C k82 wr A l.length l := Kd.C_below H1.out.1 HI.out.2.2.2
      obtain ⟨ad, eA, x0, x1, x2, x3⟩ := at_T82 hC (k : Int) (by omega) (by omega)
      simp only [Int.toNat_natCast] at x0 x1 x2 x3
      obtain ⟨⟨⟨a0, a1, a2⟩, n⟩, ha⟩ : ∃ a, rd_T82 l (k : Int) = a := ⟨_, rfl⟩
      rw [ha] at x0 x1 x2 x3
      subst eA
      have e2 : l[k] = ⟨⟨a0, a1, a2⟩, n⟩ := by
        unfold rd_T82 at ha
        simpa [List.getD, hk] using ha
      have e1 : (l.take (k + 1)).map (fun b => b.f0.f2) = (l.take k).map (fun b => b.f0.f2) ++ [a2] := by
        rw [List.take_succ_eq_append_getElem hk, e2, List.map_append]; rfl
      have hl64 : wrap64 ((k : Int) + 1) = ((k + 1 : Nat) : Int) := by
        have h3 := HH.out
        rw [wrap_id (by omega) (by omega)]; rfl
      have HK := Lib.hid (And.intro hk (And.intro e1 hl64))
      clear ha e2 e1 hC hl64
      obtain ⟨W, hW⟩ : ∃ W, wr.alloc (.cells #[.int .i64 a0, .int .i64 a1, .string a2, .int .i64 n] 44) = W := ⟨_, rfl⟩
      have HB : Below wr.heap.size wr W := by rw [← hW]; exact (Below.refl _ _).alloc (Nat.le_refl _) _
      have k2 : W.cell? ⟨wr.heap.size, 2, none⟩ = some (.string a2) := by rw [← hW]; simp
      have hR : Kd.R Kd.string 9 W w1.heap.size (fun _ => True) u3 ((l.take k).map (fun b => b.f0.f2)) := Kd.R_below HI.out.2.2.1 HB
      have hB2 : Below w1.heap.size w1 W := HI.out.2.2.2.trans (HB.mono HI.out.2.2.2.size)
      have hlen : (((l.take k).map (fun b => b.f0.f2)).length + 1) * 16 ≤ 140737488355328 := by
        have h1 := HK.out.1
        have h3 := HH.out
        simp
        omega
      obtain ⟨xs, hxs⟩ : ∃ xs, (l.take k).map (fun b => b.f0.f2) = xs := ⟨_, rfl⟩
      rw [hxs] at hR hlen
      have HX := Lib.hid hxs
      clear hxs
      have HP := Lib.hid hR
      have HPb := Lib.hid hB2
      have HPs := Lib.hid hB2.size
      have HPl := Lib.hid hlen
      have hstr : Kd.string.M W w1.heap.size (fun _ => False) a2 [.string a2] := rfl
      clear hR hB2 hlen HB
      go_wp2_with (first
        | (at_builtin; refine Kd.R_append Kd.string (w0 := w1) (W := W) w1.heap.size rfl (.tmp 13) (.tmp 17) 56 9 (.string ⟨#[]⟩) 16 rfl Try.underlying56 info9 rfl (by decide) (by decide) u3 xs a2 [.string a2] (fun _ => True) (fun _ => False) rfl rfl hstr (fun _ h => h.elim) (fun _ _ => trivial) HP.out HPb.out HPs.out HPl.out ?_; intro v1 w5 ho hb hg hat; have H5 := Lib.hid (And.intro ho hb); clear ho hb hg hat)
        | go_in)
      go_roundg (l.length - k)
      case measure => have := HI.out.1; have := HK.out.1; omega
      case rel =>
        have h1 := HK.out.1
        have h2 := HI.out.1
        refine ⟨k + 1, by rw [HK.out.2.2], ⟨by omega, by omega, ?_, H5.out.2⟩⟩
        rw [HK.out.2.1, HX.out]
        exact H5.out.1
    · have hk' : (k < l.length) = False := eq_false hk
      obtain ⟨h1, h2, h3, h4⟩ := HI.out
      have e1 : l.take k = l := List.take_of_length_le (by omega)
      rw [e1] at h3
      have HC := Lib.hid (compact_own h3 (by have := HH.out; simp; omega))
      have H4 := Lib.hid h4
      clear hk h1 h2 h3 h4 e1
      go_wp2_with (first
        | (go_at_call 65; refine HC.out.mono ?_; rintro e w5 ⟨v5, rfl, h5⟩; have H5 := Lib.hid h5; clear h5))
      go_ret
      obtain ⟨h5, h6, h7⟩ := H5.out
      have hb5 : Below w1.heap.size w1 w5 := H4.out.grown h6 H4.out.size h7
      exact ⟨_, rfl, Kd.R_lower h5 H1.out.2.1.size, H1.out.2.1.trans (hb5.mono H1.out.2.1.size)⟩
end Go.Proofs.Ytoknlpecbdlbfaa.PL

/- Clone, walked; and what no ledger has. -/
namespace Go.Proofs.Ytoknlpecbdlbfaa.PL
open Go Go.RowKit Go.Maps Go.Sort Go.Shelf Go.Proofs Go.Proofs.YtoknlpecbdlbfaaW.PrintWords Go.Proofs.YtoknlpecbdlbfaaW.PrintLast
set_option maxRecDepth 100000 in
set_option maxHeartbeats 2000000 in
theorem clone_map (b : Nat) (es : Array MapEntry) (clock : Nat) (w : World) (hb : w.heap[b]? = some (.map es clock)) :
    Calls Try.prog 64 #[.map (some b)] w fun e w' => e = .returned (.map (some w.heap.size)) ∧ w' = w.alloc (.map es clock) := by
  have hq := fun w => run_eql_map_nil_sl (P := Try.prog) w 60 _ _ (some b) Try.underlying60
  go_enter Try.func64, Try.ntmps64
  go_wp2
  rw [run_callFunc_extern Try.func87 (by kernel_rfl) (by kernel_rfl) (by kernel_rfl) (e := Extern.MapsClone.clone) (by kernel_rfl), run_maps_clone_sl w 60 hb]
  simp only [Result.andThen]
  rw [Oper.upon_value]
  go_wp2
  rw [run_typeAssert_map_sl _ 60 _ _ _ _ Try.underlying60]
  simp only [Result.andThen]
  rw [Oper.upon_value]
  go_wp2
  go_ret
  exact ⟨rfl, rfl⟩
set_option maxRecDepth 100000 in
/-- Clone. -/
theorem clone_any {g b : Nat} {M : List (S42 × Int)} {w : World} (h : LG w g b M) :
    Calls Try.prog 24 #[.pointer (some ⟨g, 0, none⟩)] w fun e w' => e = .returned (.pointer (some ⟨w.heap.size + 1, 0, none⟩)) ∧ LG w' (w.heap.size + 1) w.heap.size M ∧ Below w.heap.size w w' := by
  have hc := h.cell
  obtain ⟨es, clock, hb, F, hM⟩ := h.map
  have HC := Lib.hid (clone_map b es clock w hb)
  have HF := Lib.hid (And.intro F hM)
  clear hb F hM h
  go_enter Try.func24, Try.ntmps24
  go_wp2_with (first
    | (go_at_call 58; refine (made_any g b _ hc).mono ?_; rintro e w1 ⟨rfl, rfl⟩)
    | (go_at_call 64; refine HC.out.mono ?_; rintro e w1 ⟨rfl, rfl⟩))
  go_ret
  refine ⟨rfl, ⟨?_, es, clock, ?_, HF.out.1, HF.out.2⟩, ((Below.refl _ _).alloc (Nat.le_refl _) _).alloc (by simp) _⟩
  · have h := (Go.MapKept.heap_alloc (w.alloc (.map es clock)) (.cells #[.map (some w.heap.size)] 62)).1
    simpa using h
  · rw [(Go.MapKept.heap_alloc (w.alloc (.map es clock)) (.cells #[.map (some w.heap.size)] 62)).2 _ (by simp)]
    exact (Go.MapKept.heap_alloc w _).1
/-! No ledger: nil, or a Ledger that New did not make. -/
/-- p is no ledger in w. -/
def NoLG (w : World) (p : Value) : Prop := p = .pointer none ∨ ∃ g : Nat, p = .pointer (some ⟨g, 0, none⟩) ∧ w.cell? ⟨g, 0, none⟩ = some (.map none)
theorem made_no {w : World} {p : Value} (h : NoLG w p) : Calls Try.prog 58 #[p] w fun e w' => e = .returned (.bool false) ∧ w = w' := by
  rcases h with rfl | ⟨g, rfl, hc⟩
  · exact made_nil w
  · exact made_zero g w hc
set_option maxRecDepth 100000 in
theorem clone_no {w : World} {p : Value} (h : NoLG w p) : Calls Try.prog 24 #[p] w fun e w' => e = .returned (.pointer none) ∧ w = w' := by
  have H := Lib.hid (made_no h)
  clear h
  go_enter Try.func24, Try.ntmps24
  go_wp2_with (go_at_call 58; refine H.out.mono ?_; rintro e w1 ⟨rfl, rfl⟩)
  go_ret
  exact ⟨rfl, rfl⟩
set_option maxRecDepth 100000 in
theorem all_no {w : World} {p : Value} (h : NoLG w p) : Gives 23 p 44 w [] := by
  unfold Gives
  have H := Lib.hid (made_no h)
  clear h
  go_enter Try.func23, Try.ntmps23
  go_wp2_with (go_at_call 58; refine H.out.mono ?_; rintro e w1 ⟨rfl, rfl⟩)
  go_ret
  exact ⟨_, rfl, Kd.R_nil _ _ _ _ _, Below.refl _ _⟩
set_option maxRecDepth 100000 in
theorem balance_no {w : World} {p : Value} (h : NoLG w p) (a0 a1 : Int) (a2 : ByteArray) : Calls Try.prog 25 #[p, .agg #[.int .i64 a0, .int .i64 a1, .string a2]] w fun e w' => e = .returned (.int .i64 0) ∧ Below w.heap.size w w' := by
  have h' : NoLG (w.alloc (.cells #[.int .i64 a0, .int .i64 a1, .string a2] 42)) p := by
    rcases h with rfl | ⟨g, rfl, hc⟩
    · exact .inl rfl
    · exact .inr ⟨g, rfl, ((Below.refl w.heap.size w).alloc (Nat.le_refl _) _ |>.cell (World.block_lt_of_cell? w _ hc)).trans hc⟩
  have H := Lib.hid (made_no h')
  clear h h'
  go_enter Try.func25, Try.ntmps25
  go_wp2_with (go_at_call 58; refine H.out.mono ?_; rintro e w1 ⟨rfl, rfl⟩)
  go_ret
  exact ⟨rfl, (Below.refl _ _).alloc (Nat.le_refl _) _⟩
theorem post_no {w : World} {p : Value} (h : NoLG w p) (l : Value) : Calls Try.prog 19 #[p, l] w fun e w' => e = .returned (.tuple #[.int .i64 0, .int .i64 3]) ∧ w = w' := by
  rcases h with rfl | ⟨g, rfl, hc⟩
  · exact post_nil l w
  · exact post_zero g l w hc
end Go.Proofs.Ytoknlpecbdlbfaa.PL

/- The document's Get, Set, Wrong, as plain functions. -/
namespace Go.Proofs.Ytoknlpecbdlbfaa.PL
open Go Go.RowKit Go.Maps Go.Sort Go.Shelf Go.Proofs Go.Proofs.YtoknlpecbdlbfaaW.PrintWords Go.Proofs.YtoknlpecbdlbfaaW.PrintLast
def eqA (b : S45) (a0 a1 : Int) (a2 : ByteArray) : Bool := (b.f0 == a0 && (b.f1 == a1 && (b.f2.toList == a2.toList)))
def getL : List S82 → Int → Int → ByteArray → Int
  | [], _, _, _ => 0
  | b :: r, a0, a1, a2 => if eqA b.f0 a0 a1 a2 = true then b.f1 else getL r a0 a1 a2
def aheadB (a0 a1 : Int) (a2 : ByteArray) (b : S45) : Bool := if a2.toList = b.f2.toList then (if a0 = b.f0 then decide (a1 < b.f1) else decide (a0 < b.f0)) else Op.bytesLess a2.toList b.f2.toList
def setG (a0 a1 : Int) (a2 : ByteArray) (n : Int) : List S82 → Bool → List S82
  | [], true => []
  | [], false => [⟨⟨a0, a1, a2⟩, n⟩]
  | b :: r, done => if eqA b.f0 a0 a1 a2 = true then setG a0 a1 a2 n r done else if done = true then b :: setG a0 a1 a2 n r true else if aheadB a0 a1 a2 b.f0 = true then ⟨⟨a0, a1, a2⟩, n⟩ :: b :: setG a0 a1 a2 n r true else b :: setG a0 a1 a2 n r false
def setL (L : List S82) (a0 a1 : Int) (a2 : ByteArray) (n : Int) : List S82 := setG a0 a1 a2 n L (n == 0)
theorem rd_drop {L : List S82} {i : Nat} {b : S82} {r : List S82} (h : L.drop i = b :: r) : rd_T82 L (i : Int) = b ∧ i < L.length ∧ L.drop (i + 1) = r := by
  have hi : i < L.length := by
    refine Classical.byContradiction fun hn => ?_
    rw [List.drop_eq_nil_of_le (by omega)] at h
    cases h
  rw [List.drop_eq_getElem_cons hi] at h
  injection h with h1 h2
  refine ⟨?_, hi, h2⟩
  unfold rd_T82
  simp [List.getD, hi, h1]
theorem get_l0 (L : List S82) (hL : L.length < 9223372036854775807) (a0 a1 : Int) (a2 : ByteArray) : ∀ (k i : Nat) (R : List S82), L.drop i = R → R.length + 1 ≤ k → i ≤ L.length → lombardref11_Get.l0 k L (i : Int) a0 a1 a2 = some (getL R a0 a1 a2)
  | 0, _, _, _, hk, _ => by omega
  | k + 1, i, R, hR, hk, hi => by
    unfold lombardref11_Get.l0
    cases R with
    | nil =>
      have : L.length ≤ i := by
        have := congrArg List.length hR
        simp at this
        omega
      rw [if_neg (by omega)]
      rfl
    | cons b r =>
      obtain ⟨h1, h2, h3⟩ := rd_drop hR
      rw [if_pos (by omega), if_pos (by omega), h1]
      unfold getL eqA
      split
      · rfl
      · have hw : wrap64 ((i : Int) + 1) = ((i + 1 : Nat) : Int) := by rw [wrap_id (by omega) (by omega)]; rfl
        rw [hw]
        exact get_l0 L hL a0 a1 a2 k (i + 1) r h3 (by simp at hk; omega) (by omega)
theorem get_f (L : List S82) (hL : L.length < 9223372036854775807) (a0 a1 : Int) (a2 : ByteArray) (k : Nat) (hk : L.length + 1 ≤ k) : lombardref11_Get.f k L a0 a1 a2 = some (getL L a0 a1 a2) :=
  get_l0 L hL a0 a1 a2 k 0 L rfl hk (Nat.zero_le _)
theorem set_l0 (L : List S82) (hL : L.length < 9223372036854775807) (a0 a1 : Int) (a2 : ByteArray) (n : Int) : ∀ (k i : Nat) (R out : List S82) (done : Bool), L.drop i = R → R.length + 1 ≤ k → i ≤ L.length → out.length + 2 * R.length + 2 < 3518437208883 → lombardref11_Set.l0 k L n out done (i : Int) a0 a1 a2 = some (out ++ setG a0 a1 a2 n R done)
  | 0, _, _, _, _, _, hk, _, _ => by omega
  | k + 1, i, R, out, done, hR, hk, hi, ho => by
    unfold lombardref11_Set.l0
    cases R with
    | nil =>
      have : L.length ≤ i := by
        have := congrArg List.length hR
        simp at this
        omega
      rw [if_neg (by omega)]
      cases done
      · simp only [Bool.false_eq_true, if_false]
        rw [if_pos (by simp at ho; omega)]
        rfl
      · simp [setG]
    | cons b r =>
      obtain ⟨h1, h2, h3⟩ := rd_drop hR
      have hw : wrap64 ((i : Int) + 1) = ((i + 1 : Nat) : Int) := by rw [wrap_id (by omega) (by omega)]; rfl
      have ho' : out.length + 2 * r.length + 4 < 3518437208883 := by simp at ho; omega
      have hk' : r.length + 1 ≤ k := by simp at hk; omega
      rw [if_pos (by omega), if_pos (by omega), h1, hw]
      unfold setG
      have hb : (⟨⟨b.f0.f0, b.f0.f1, b.f0.f2⟩, b.f1⟩ : S82) = b := rfl
      rw [hb]
      have hq : (b.f0.f0 == a0 && (b.f0.f1 == a1 && b.f0.f2.toList == a2.toList)) = eqA b.f0 a0 a1 a2 := rfl
      rw [hq]
      by_cases e : eqA b.f0 a0 a1 a2 = true
      · rw [if_pos e, if_pos e]
        exact set_l0 L hL a0 a1 a2 n k (i + 1) r out done h3 hk' (by omega) (by omega)
      · rw [if_neg e, if_neg e]
        by_cases hd : done = true
        · rw [if_pos hd, if_pos hd, if_pos (by omega), set_l0 L hL a0 a1 a2 n k (i + 1) r (out ++ [b]) done h3 hk' (by omega) (by simp; omega), hd]
          simp
        · rw [if_neg hd, if_neg hd]
          have hA : lombardref11_Ahead.f a0 a1 a2 b.f0.f0 b.f0.f1 b.f0.f2 = some (aheadB a0 a1 a2 b.f0) := by
            unfold lombardref11_Ahead.f aheadB
            split
            · split <;> rfl
            · rfl
          rw [hA]
          simp only [Option.bind_some]
          have hd' : done = false := by simpa using hd
          by_cases ha : aheadB a0 a1 a2 b.f0 = true
          · rw [if_pos ha, if_pos ha, if_pos (by omega)]
            rw [if_pos (by simp; omega), set_l0 L hL a0 a1 a2 n k (i + 1) r _ true h3 hk' (by omega) (by simp; omega)]
            simp
          · rw [if_neg ha, if_neg ha, if_pos (by omega), set_l0 L hL a0 a1 a2 n k (i + 1) r (out ++ [b]) done h3 hk' (by omega) (by simp; omega), hd']
            simp
theorem set_f (L : List S82) (hL : 2 * L.length + 2 < 3518437208883) (a0 a1 : Int) (a2 : ByteArray) (n : Int) (k : Nat) (hk : L.length + 1 ≤ k) : lombardref11_Set.f k L a0 a1 a2 n = some (setL L a0 a1 a2 n) := by
  unfold lombardref11_Set.f
  have := set_l0 L (by omega) a0 a1 a2 n k 0 L [] (n == 0) rfl hk (Nat.zero_le _) (by simpa using hL)
  simpa [setL] using this
theorem wrong_f (a : S42) (k : Nat) : lombardref11_Wrong.f (k + 1) a.f0 a.f1 a.f2 = some (goodI a) := by
  have h := good_f a k
  unfold ledger_good.f at h
  unfold lombardref11_Wrong.f
  have hj : ∀ x y z w, lombardref11_Wrong.j0 (k + 1) x y z w = ledger_good.j0 (k + 1) x y z w := fun x y z w => by
    unfold lombardref11_Wrong.j0 ledger_good.j0
    rfl
  simp only [hj]
  exact h
end Go.Proofs.Ytoknlpecbdlbfaa.PL
