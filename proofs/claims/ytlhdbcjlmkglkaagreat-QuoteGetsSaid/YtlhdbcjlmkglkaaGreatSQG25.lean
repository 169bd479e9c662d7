/- Part 25 of the proof's texts: what the theorem needs of them. -/
import Derived.Test.YtlhdbcjlmkglkaaGreatSQG24

set_option linter.unusedVariables false
set_option linter.unusedSimpArgs false
/- The document's Add. -/
set_option linter.unusedSimpArgs false
set_option linter.unusedVariables false
namespace Go.Proofs.YtlhdbcjlmkglkaaGreat.Q
open Go Go.RowKit Go.Proofs Go.Proofs.YtlhdbcjlmkglkaaGreat.PL Go.Proofs.YtlhdbcjlmkglkaaGreatW.PrintWords
theorem empty_R (W : World) : Kd.R k24 24 (W.alloc (.cells #[] 24)) W.heap.size (fun _ => True) (.slice (some ⟨W.heap.size, 0, none⟩) 0 0) [] := by
  have e : (W.alloc (.cells #[] 24)).heap[W.heap.size]? = some (.cells #[] 24 (0, 0)) := by unfold World.alloc; simp
  exact ⟨fun _ _ => trivial, [], ⟨rfl, .inr ⟨W.heap.size, 0, #[], rfl, Nat.le_refl _, e, Nat.le_refl _, by simp [maxLen], rfl, rfl⟩⟩, Reps.none _ _⟩
theorem C_grown {W wb : World} {g : Option Nat} {A : Option Addr} {n : Nat} {xs : List S24} (h : Kd.C k24 W A n xs) (hg : W.grownBy wb g) (hne : ∀ ad, A = some ad → some ad.block ≠ g) : Kd.C k24 wb A n xs := by
  obtain ⟨h1, h2, h3⟩ := h
  refine ⟨h1, h2, fun hn => ?_⟩
  obtain ⟨ad, e, hc⟩ := h3 hn
  refine ⟨ad, e, fun j p hj => ?_⟩
  obtain ⟨c, hl, hR, hcell⟩ := hc j p hj
  obtain rfl := k24_open hR
  refine ⟨_, hl, k24_mk _ _, fun i u hu => ?_⟩
  exact (World.cell?_of_block (hg.block _ (World.block_lt_of_cell? W _ (hcell i u hu)) (by unfold Addr.add; split <;> exact hne ad e))).trans (hcell i u hu)
def qL (x : S24) : List Value := [.int .i64 x.f0, .int .i64 x.f1, .int .i64 x.f2, .int .i64 x.f3, .int .i64 x.f4, .int .i64 x.f5, .int .i64 x.f6, .int .i64 x.f7]
theorem one_C (W : World) (x : S24) : Kd.C k24 (W.alloc (.cells (qL x).toArray 24)) (some ⟨W.heap.size, 0, none⟩) 1 [x] := by
  refine ⟨rfl, by omega, fun _ => ⟨⟨W.heap.size, 0, none⟩, rfl, fun j p hj => ?_⟩⟩
  match j, hj with
  | 0, hj =>
    obtain rfl := Option.some.inj hj
    refine ⟨qL x, rfl, k24_mk _ _, fun i u hu => ?_⟩
    have e : (⟨W.heap.size, 0, none⟩ : Addr).add (0 * k24.sz + i) = ⟨W.heap.size, i, none⟩ := by simp [Addr.add]; omega
    rw [e]
    exact cell_new W (qL x).toArray 24 i u (by simpa using hu)
theorem empty_R2 (W : World) (o : Obj) : Kd.R k24 24 (((W.alloc o).alloc (.cells #[] 24)).drew) W.heap.size (fun _ => True) (.slice (some ⟨W.heap.size + 1, 0, none⟩) 0 0) [] := by
  have hz : (W.alloc o).heap.size = W.heap.size + 1 := by simp
  have h := Kd.R_lower (Kd.R_drew (empty_R (W.alloc o))) (show W.heap.size ≤ (W.alloc o).heap.size by omega)
  rw [hz] at h
  exact h
theorem one_C2 (W : World) (o : Obj) (x : S24) : Kd.C k24 (((W.alloc o).alloc (.cells (qL x).toArray 24)).drew) (some ⟨W.heap.size + 1, 0, none⟩) 1 [x] := by
  have hz : (W.alloc o).heap.size = W.heap.size + 1 := by simp
  rw [← hz]
  exact Kd.C_below (one_C _ x) (drew_below _)
set_option maxHeartbeats 400000 in
set_option maxRecDepth 1000000 in
theorem radd_yes (x : S24) (A : Option Addr) (c : Nat) (xs : List S24) (w : World) (hC : Kd.C k24 w A xs.length xs) (hc : xs.length ≤ c) (hlen : xs.length ≤ 1000000) (hx : chkB x xs = 0) :
    Calls Tryz.prog 35 #[.slice A xs.length c, qA x] w fun e w' => ∃ v, e = .returned (.tuple #[v, .int .i64 0]) ∧ Kd.R k24 24 w' w.heap.size (fun _ => True) v (xs ++ [x]) ∧ Below w.heap.size w w' := by
  have hu24 := Tryz.underlying24
  have HC := Lib.hid hC
  have HL := Lib.hid hlen
  have hcc := fun w (hh : Kd.C k24 w A xs.length xs) => rcheck_any x A c xs w hh hc HL.out
  rw [hx] at hcc
  clear hx hC hc hlen
  have hq : qA x = .agg #[.int .i64 x.f0, .int .i64 x.f1, .int .i64 x.f2, .int .i64 x.f3, .int .i64 x.f4, .int .i64 x.f5, .int .i64 x.f6, .int .i64 x.f7] := rfl
  rw [hq] at hcc ⊢
  clear hq
  obtain ⟨x0, x1, x2, x3, x4, x5, x6, x7⟩ := x
  simp only at *
  have HCC := Lib.hid hcc
  clear hcc
  go_enter Tryz.func35, Tryz.ntmps35
  go_wp2_with (first
    | (go_at_call 33; refine (HCC.out _ (Kd.C_below HC.out (below_alloc (Below.refl _ _) _))).mono ?_; rintro e W1 ⟨rfl, b1⟩))
  have B1 := bl2 (below_alloc (Below.refl _ w) _) b1
  have HB1 := Lib.hid B1
  have hbx := Lib.hid (show ∀ (w' : World), Below W1.heap.size W1 w' → w'.cell? ⟨w.heap.size, 0, none⟩ = some (.int .i64 x0) ∧ w'.cell? ⟨w.heap.size, 1, none⟩ = some (.int .i64 x1) ∧ w'.cell? ⟨w.heap.size, 2, none⟩ = some (.int .i64 x2) ∧ w'.cell? ⟨w.heap.size, 3, none⟩ = some (.int .i64 x3) ∧ w'.cell? ⟨w.heap.size, 4, none⟩ = some (.int .i64 x4) ∧ w'.cell? ⟨w.heap.size, 5, none⟩ = some (.int .i64 x5) ∧ w'.cell? ⟨w.heap.size, 6, none⟩ = some (.int .i64 x6) ∧ w'.cell? ⟨w.heap.size, 7, none⟩ = some (.int .i64 x7) from fun w' hb => ⟨cell_below (cell_below (cell_new w _ 24 0 (.int .i64 x0) rfl) b1) hb, cell_below (cell_below (cell_new w _ 24 1 (.int .i64 x1) rfl) b1) hb, cell_below (cell_below (cell_new w _ 24 2 (.int .i64 x2) rfl) b1) hb, cell_below (cell_below (cell_new w _ 24 3 (.int .i64 x3) rfl) b1) hb, cell_below (cell_below (cell_new w _ 24 4 (.int .i64 x4) rfl) b1) hb, cell_below (cell_below (cell_new w _ 24 5 (.int .i64 x5) rfl) b1) hb, cell_below (cell_below (cell_new w _ 24 6 (.int .i64 x6) rfl) b1) hb, cell_below (cell_below (cell_new w _ 24 7 (.int .i64 x7) rfl) b1) hb⟩)
  have HSA := Lib.hid (show ∀ (w' : World) (o : Obj), (w'.cell? ⟨w.heap.size, 0, none⟩ = some (.int .i64 x0) ∧ w'.cell? ⟨w.heap.size, 1, none⟩ = some (.int .i64 x1) ∧ w'.cell? ⟨w.heap.size, 2, none⟩ = some (.int .i64 x2) ∧ w'.cell? ⟨w.heap.size, 3, none⟩ = some (.int .i64 x3) ∧ w'.cell? ⟨w.heap.size, 4, none⟩ = some (.int .i64 x4) ∧ w'.cell? ⟨w.heap.size, 5, none⟩ = some (.int .i64 x5) ∧ w'.cell? ⟨w.heap.size, 6, none⟩ = some (.int .i64 x6) ∧ w'.cell? ⟨w.heap.size, 7, none⟩ = some (.int .i64 x7)) → ((w'.alloc o).cell? ⟨w.heap.size, 0, none⟩ = some (.int .i64 x0) ∧ (w'.alloc o).cell? ⟨w.heap.size, 1, none⟩ = some (.int .i64 x1) ∧ (w'.alloc o).cell? ⟨w.heap.size, 2, none⟩ = some (.int .i64 x2) ∧ (w'.alloc o).cell? ⟨w.heap.size, 3, none⟩ = some (.int .i64 x3) ∧ (w'.alloc o).cell? ⟨w.heap.size, 4, none⟩ = some (.int .i64 x4) ∧ (w'.alloc o).cell? ⟨w.heap.size, 5, none⟩ = some (.int .i64 x5) ∧ (w'.alloc o).cell? ⟨w.heap.size, 6, none⟩ = some (.int .i64 x6) ∧ (w'.alloc o).cell? ⟨w.heap.size, 7, none⟩ = some (.int .i64 x7)) from fun w' o h => ⟨cell_alloc h.1 o, cell_alloc h.2.1 o, cell_alloc h.2.2.1 o, cell_alloc h.2.2.2.1 o, cell_alloc h.2.2.2.2.1 o, cell_alloc h.2.2.2.2.2.1 o, cell_alloc h.2.2.2.2.2.2.1 o, cell_alloc h.2.2.2.2.2.2.2 o⟩)
  have hSD := hbx.out _ (drew_below W1)
  have HSD := Lib.hid (fun o : Obj => hbx.out (W1.alloc o).drew ((below_alloc (Below.refl _ W1) o).drew))
  have k0 := hbx.out _ (Below.refl _ W1)
  have HU := Lib.hid (show (xs.length + 1) * 64 ≤ 140737488355328 ∧ (0 + xs.length) * 64 ≤ 140737488355328 by have := HL.out; omega)
  have HD1 := Lib.hid (show Below W1.heap.size W1 (W1.alloc (.cells #[] 24)) from below_alloc (Below.refl _ W1) _)
  have HDE := Lib.hid (show Below W1.heap.size W1 (W1.alloc (.cells #[] 24)).drew from HD1.out.drew)
  have HE0 := Lib.hid (show Kd.R k24 24 (W1.alloc (.cells #[] 24)).drew W1.heap.size (fun _ => True) (.slice (some ⟨W1.heap.size, 0, none⟩) 0 0) [] from Kd.R_drew (empty_R W1))
  have HDE2 := Lib.hid (show Below W1.heap.size W1 (((W1.alloc (.cells #[] 24)).alloc (.cells #[.int .i64 x0, .int .i64 x1, .int .i64 x2, .int .i64 x3, .int .i64 x4, .int .i64 x5, .int .i64 x6, .int .i64 x7] 24)).drew) from (below_alloc HD1.out _).drew)
  have HE2 := Lib.hid (show Kd.R k24 24 (((W1.alloc (.cells #[] 24)).alloc (.cells #[.int .i64 x0, .int .i64 x1, .int .i64 x2, .int .i64 x3, .int .i64 x4, .int .i64 x5, .int .i64 x6, .int .i64 x7] 24)).drew) W1.heap.size (fun _ => True) (.slice (some ⟨W1.heap.size, 0, none⟩) 0 0) [] from Kd.R_drew (Kd.R_alloc (empty_R W1) _))
  have HX0 := Lib.hid (show Kd.C k24 (((W1.alloc (.cells #[] 24)).alloc (.cells #[.int .i64 x0, .int .i64 x1, .int .i64 x2, .int .i64 x3, .int .i64 x4, .int .i64 x5, .int .i64 x6, .int .i64 x7] 24)).drew) (some ⟨W1.heap.size + 1, 0, none⟩) 1 [⟨x0, x1, x2, x3, x4, x5, x6, x7⟩] from one_C2 W1 _ ⟨x0, x1, x2, x3, x4, x5, x6, x7⟩)
  have HCE2 := Lib.hid (Kd.C_below HC.out (bl2 HB1.out HDE2.out))
  have HDE3 := Lib.hid (show Below W1.heap.size W1 (((W1.alloc (.cells #[.int .i64 x0, .int .i64 x1, .int .i64 x2, .int .i64 x3, .int .i64 x4, .int .i64 x5, .int .i64 x6, .int .i64 x7] 24)).alloc (.cells #[] 24)).drew) from (below_alloc (below_alloc (Below.refl _ W1) _) _).drew)
  have HE3 := Lib.hid (show Kd.R k24 24 (((W1.alloc (.cells #[.int .i64 x0, .int .i64 x1, .int .i64 x2, .int .i64 x3, .int .i64 x4, .int .i64 x5, .int .i64 x6, .int .i64 x7] 24)).alloc (.cells #[] 24)).drew) W1.heap.size (fun _ => True) (.slice (some ⟨W1.heap.size + 1, 0, none⟩) 0 0) [] from empty_R2 W1 _)
  have HX3 := Lib.hid (show Kd.C k24 (((W1.alloc (.cells #[.int .i64 x0, .int .i64 x1, .int .i64 x2, .int .i64 x3, .int .i64 x4, .int .i64 x5, .int .i64 x6, .int .i64 x7] 24)).alloc (.cells #[] 24)).drew) (some ⟨W1.heap.size, 0, none⟩) 1 [⟨x0, x1, x2, x3, x4, x5, x6, x7⟩] from Kd.C_below (Kd.C_alloc (one_C W1 ⟨x0, x1, x2, x3, x4, x5, x6, x7⟩) _) (drew_below _))
  have HCE3 := Lib.hid (Kd.C_below HC.out (bl2 HB1.out HDE3.out))
  have HNE := Lib.hid (show W1.heap.size + 1 ≠ W1.heap.size from by omega)
  have HSD2 := Lib.hid (fun o o2 : Obj => hbx.out ((W1.alloc o).alloc o2).drew ((below_alloc (below_alloc (Below.refl _ W1) o) o2).drew))
  have HCE := Lib.hid (Kd.C_below HC.out (bl2 HB1.out HDE.out))
  go_region_held3 (fun w' : World => w'.cell? ⟨w.heap.size, 0, none⟩ = some (.int .i64 x0) ∧ w'.cell? ⟨w.heap.size, 1, none⟩ = some (.int .i64 x1) ∧ w'.cell? ⟨w.heap.size, 2, none⟩ = some (.int .i64 x2) ∧ w'.cell? ⟨w.heap.size, 3, none⟩ = some (.int .i64 x3) ∧ w'.cell? ⟨w.heap.size, 4, none⟩ = some (.int .i64 x4) ∧ w'.cell? ⟨w.heap.size, 5, none⟩ = some (.int .i64 x5) ∧ w'.cell? ⟨w.heap.size, 6, none⟩ = some (.int .i64 x6) ∧ w'.cell? ⟨w.heap.size, 7, none⟩ = some (.int .i64 x7))
    (first | with_reducible assumption | with_reducible exact HSD.out _ | with_reducible exact HSD2.out _ _ | with_reducible exact HSA.out _ _ (by with_reducible assumption))
    (first
      | (refine Kd.R_append_rows_step k24 (w0 := W1) (W := (W1.alloc (.cells #[] 24)).drew) W1.heap.size (by rfl) (.tmp 14) (.tmp 15) 27 24 (.agg #[(.int .i64 0), (.int .i64 0), (.int .i64 0), (.int .i64 0), (.int .i64 0), (.int .i64 0), (.int .i64 0), (.int .i64 0)]) 64 rfl Tryz.underlying27 info24 rfl (by decide) (by decide) (.slice (some ⟨W1.heap.size, 0, none⟩) 0 0) [] xs A xs.length c (fun _ => True) (fun _ => False) rfl rfl HE0.out HCE.out (fun _ _ h => h) (fun _ h => h.elim) (fun _ _ => trivial) HDE.out HDE.out.size HU.out.2 ?_; intro v16 wb ho hb hg hat; have HO16 := Lib.hid ho; have HB16 := Lib.hid hb; have ka := hbx.out wb hb; clear ho hb hg hat)
      | (refine Kd.R_append_step k24 (w0 := W1) (W := wb) W1.heap.size (by rfl) (.tmp 16) (.tmp 18) 27 24 (.agg #[(.int .i64 0), (.int .i64 0), (.int .i64 0), (.int .i64 0), (.int .i64 0), (.int .i64 0), (.int .i64 0), (.int .i64 0)]) 64 rfl Tryz.underlying27 info24 rfl (by decide) (by decide) v16 xs ⟨x0, x1, x2, x3, x4, x5, x6, x7⟩ [.int .i64 x0, .int .i64 x1, .int .i64 x2, .int .i64 x3, .int .i64 x4, .int .i64 x5, .int .i64 x6, .int .i64 x7] (fun _ => True) (fun _ => False) rfl rfl (k24_mkM _ _ _ _) (fun _ h => h.elim) (fun _ _ => trivial) HO16.out HB16.out HB16.out.size HU.out.1 ?_; intro v19 wc ho hb hg hat; have HO19 := Lib.hid ho; have HB19 := Lib.hid hb; have kc := hbx.out wc hb; clear ho hb hg hat)
      | (refine Kd.R_append_rows_step k24 (w0 := W1) (W := (((W1.alloc (.cells #[] 24)).alloc (.cells #[.int .i64 x0, .int .i64 x1, .int .i64 x2, .int .i64 x3, .int .i64 x4, .int .i64 x5, .int .i64 x6, .int .i64 x7] 24)).drew)) W1.heap.size (by rfl) (.tmp 14) (.tmp 15) 27 24 (.agg #[(.int .i64 0), (.int .i64 0), (.int .i64 0), (.int .i64 0), (.int .i64 0), (.int .i64 0), (.int .i64 0), (.int .i64 0)]) 64 rfl Tryz.underlying27 info24 rfl (by decide) (by decide) (.slice (some ⟨W1.heap.size, 0, none⟩) 0 0) [] xs A xs.length c (fun _ => True) (fun _ => False) rfl rfl HE2.out HCE2.out (fun _ _ h => h) (fun _ h => h.elim) (fun _ _ => trivial) HDE2.out HDE2.out.size HU.out.2 ?_; intro v16 wb ho hb hg hat; have HO26 := Lib.hid ho; have HB26 := Lib.hid hb; have HX16 := Lib.hid (C_grown HX0.out hg (fun ad e h => HNE.out (by obtain rfl := Option.some.inj e; exact Option.some.inj h))); have ka := hbx.out wb hb; clear ho hb hg hat)
      | (refine Kd.R_append_rows_step k24 (w0 := W1) (W := wb) W1.heap.size (by rfl) (.tmp 16) (.tmp 18) 27 24 (.agg #[(.int .i64 0), (.int .i64 0), (.int .i64 0), (.int .i64 0), (.int .i64 0), (.int .i64 0), (.int .i64 0), (.int .i64 0)]) 64 rfl Tryz.underlying27 info24 rfl (by decide) (by decide) v16 xs [⟨x0, x1, x2, x3, x4, x5, x6, x7⟩] (some ⟨W1.heap.size + 1, 0, none⟩) 1 1 (fun _ => True) (fun _ => False) rfl rfl HO26.out HX16.out (fun _ _ h => h) (fun _ h => h.elim) (fun _ _ => trivial) HB26.out HB26.out.size HU.out.1 ?_; intro v19 wc ho hb hg hat; have HO19 := Lib.hid ho; have HB19 := Lib.hid hb; have kc := hbx.out wc hb; clear ho hb hg hat)
      | (refine Kd.R_append_rows_step k24 (w0 := W1) (W := (((W1.alloc (.cells #[.int .i64 x0, .int .i64 x1, .int .i64 x2, .int .i64 x3, .int .i64 x4, .int .i64 x5, .int .i64 x6, .int .i64 x7] 24)).alloc (.cells #[] 24)).drew)) W1.heap.size (by rfl) (.tmp 14) (.tmp 15) 27 24 (.agg #[(.int .i64 0), (.int .i64 0), (.int .i64 0), (.int .i64 0), (.int .i64 0), (.int .i64 0), (.int .i64 0), (.int .i64 0)]) 64 rfl Tryz.underlying27 info24 rfl (by decide) (by decide) (.slice (some ⟨W1.heap.size + 1, 0, none⟩) 0 0) [] xs A xs.length c (fun _ => True) (fun _ => False) rfl rfl HE3.out HCE3.out (fun _ _ h => h) (fun _ h => h.elim) (fun _ _ => trivial) HDE3.out HDE3.out.size HU.out.2 ?_; intro v16 wb ho hb hg hat; have HO36 := Lib.hid ho; have HB36 := Lib.hid hb; have HX36 := Lib.hid (C_grown HX3.out hg (fun ad e h => HNE.out (by obtain rfl := Option.some.inj e; exact (Option.some.inj h).symm))); have ka := hbx.out wb hb; clear ho hb hg hat)
      | (refine Kd.R_append_rows_step k24 (w0 := W1) (W := wb) W1.heap.size (by rfl) (.tmp 16) (.tmp 18) 27 24 (.agg #[(.int .i64 0), (.int .i64 0), (.int .i64 0), (.int .i64 0), (.int .i64 0), (.int .i64 0), (.int .i64 0), (.int .i64 0)]) 64 rfl Tryz.underlying27 info24 rfl (by decide) (by decide) v16 xs [⟨x0, x1, x2, x3, x4, x5, x6, x7⟩] (some ⟨W1.heap.size, 0, none⟩) 1 1 (fun _ => True) (fun _ => False) rfl rfl HO36.out HX36.out (fun _ _ h => h) (fun _ h => h.elim) (fun _ _ => trivial) HB36.out HB36.out.size HU.out.1 ?_; intro v19 wc ho hb hg hat; have HO19 := Lib.hid ho; have HB19 := Lib.hid hb; have kc := hbx.out wc hb; clear ho hb hg hat))
  all_goals (go_wp2_with (fail); go_ret2; exact ⟨v19, rfl, Kd.R_lower HO19.out HB1.out.size, bl2 HB1.out HB19.out⟩)
set_option maxHeartbeats 400000 in
set_option maxRecDepth 1000000 in
theorem radd_no (x : S24) (A : Option Addr) (c : Nat) (xs : List S24) (w : World) (hC : Kd.C k24 w A xs.length xs) (hc : xs.length ≤ c) (hlen : xs.length ≤ 1000000) (hx : chkB x xs ≠ 0) :
    Calls Tryz.prog 35 #[.slice A xs.length c, qA x] w fun e w' => e = .returned (.tuple #[.slice A xs.length c, .int .i64 (chkB x xs)]) ∧ Below w.heap.size w w' := by
  have hu24 := Tryz.underlying24
  have HC := Lib.hid hC
  have HL := Lib.hid hlen
  have hcc := fun w (hh : Kd.C k24 w A xs.length xs) => rcheck_any x A c xs w hh hc HL.out
  have he : (chkB x xs != 0) = true := bne_iff_ne.2 hx
  generalize chkB x xs = E at *
  clear hx hC hc hlen
  have hq : qA x = .agg #[.int .i64 x.f0, .int .i64 x.f1, .int .i64 x.f2, .int .i64 x.f3, .int .i64 x.f4, .int .i64 x.f5, .int .i64 x.f6, .int .i64 x.f7] := rfl
  rw [hq] at hcc ⊢
  clear hq
  obtain ⟨x0, x1, x2, x3, x4, x5, x6, x7⟩ := x
  simp only at *
  have HCC := Lib.hid hcc
  clear hcc
  go_enter Tryz.func35, Tryz.ntmps35
  go_wp2_with (first
    | (have Y := b1; go_at_call 33; refine (HCC.out _ (Kd.C_below HC.out B1)).mono ?_; rintro e W2 ⟨rfl, b2⟩)
    | (go_at_call 33; refine (HCC.out _ (Kd.C_below HC.out (below_alloc (Below.refl _ _) _))).mono ?_; rintro e W1 ⟨rfl, b1⟩; have B1 := bl2 (below_alloc (Below.refl _ w) _) b1; have k0 := cell_below (cell_new w _ 24 0 (.int .i64 x0) rfl) b1; have k1 := cell_below (cell_new w _ 24 1 (.int .i64 x1) rfl) b1; have k2 := cell_below (cell_new w _ 24 2 (.int .i64 x2) rfl) b1; have k3 := cell_below (cell_new w _ 24 3 (.int .i64 x3) rfl) b1; have k4 := cell_below (cell_new w _ 24 4 (.int .i64 x4) rfl) b1; have k5 := cell_below (cell_new w _ 24 5 (.int .i64 x5) rfl) b1; have k6 := cell_below (cell_new w _ 24 6 (.int .i64 x6) rfl) b1; have k7 := cell_below (cell_new w _ 24 7 (.int .i64 x7) rfl) b1))
  go_ret2
  exact ⟨rfl, bl2 B1 b2⟩
/-- The document's Add, at a list of one's own. -/
theorem radd_any (B : Nat) (P0 : Nat → Prop) (x : S24) (A : Option Addr) (c : Nat) (xs : List S24) (w : World) (hr : Kd.R k24 24 w B P0 (.slice A xs.length c) xs) (hB : B ≤ w.heap.size) (hlen : xs.length ≤ 1000000) :
    Calls Tryz.prog 35 #[.slice A xs.length c, qA x] w fun e w' => ∃ v, e = .returned (.tuple #[v, .int .i64 (chkB x xs)]) ∧ Kd.R k24 24 w' B (fun k => P0 k ∨ w.heap.size ≤ k) v (addL xs x) ∧ Below w.heap.size w w' := by
  obtain ⟨_, hc, hC⟩ := Kd.R_reads' hr
  unfold addL
  by_cases hx : chkB x xs = 0
  · rw [if_pos hx, hx]
    exact (radd_yes x A c xs w hC hc hlen hx).mono fun e w' ⟨v, he, hR, hb⟩ => ⟨v, he, Kd.R_lower (Kd.R_mono (Kd.R_bound hR) fun k hk => .inr hk.2.1) hB, hb⟩
  · rw [if_neg hx]
    exact (radd_no x A c xs w hC hc hlen hx).mono fun e w' ⟨he, hb⟩ => ⟨_, he, Kd.R_mono (Kd.R_below hr hb) fun k hk => .inl hk, hb⟩
end Go.Proofs.YtlhdbcjlmkglkaaGreat.Q

/- slices.Delete at quotes. -/
set_option linter.unusedSimpArgs false
set_option linter.unusedVariables false
namespace Go.Proofs.YtlhdbcjlmkglkaaGreat.Q
open Go Go.RowKit Go.Proofs Go.Proofs.YtlhdbcjlmkglkaaGreat.PL Go.Proofs.YtlhdbcjlmkglkaaGreatW.PrintWords
theorem R_past {w : World} {B : Nat} {ok : Nat → Prop} {g c m : Nat} {xs : List S24} (h : Kd.R k24 24 w B ok (.slice (some ⟨g, 0, none⟩) m c) xs) (o : Nat) (v : Value) (ho : xs.length * 8 ≤ o) :
    Kd.R k24 24 (w.setCell ⟨g, o, none⟩ v) B ok (.slice (some ⟨g, 0, none⟩) m c) xs := by
  obtain ⟨h0, inner, ⟨hl, hcase⟩, hr⟩ := h
  refine ⟨h0, inner, ⟨hl, ?_⟩, hr.imp_ (fun p c hp => by obtain rfl := k24_openM hp; exact k24_mkM _ _ _ _)⟩
  rcases hcase with ⟨e, _⟩ | ⟨g', cap, cur, e, hg, hh, r1, r2, r3, r4⟩
  · cases e
  · injection e with e1 e2 e3
    injection e1 with e1
    injection e1 with e1
    subst e1 e3
    refine .inr ⟨g, c, cur.setIfInBounds o v, by rw [e2], hg, heap_setCell_same w g o _ _ v hh, r1, r2, by simpa using r3, ?_⟩
    rw [← r4]
    rw [Array.toList_setIfInBounds, List.take_set_of_le]
    exact ho
theorem R_pasts {B : Nat} {ok : Nat → Prop} {g c m : Nat} {xs : List S24} : ∀ (vs : List Value) (o : Nat) (w : World), Kd.R k24 24 w B ok (.slice (some ⟨g, 0, none⟩) m c) xs → xs.length * 8 ≤ o →
    Kd.R k24 24 (w.setCells g o vs) B ok (.slice (some ⟨g, 0, none⟩) m c) xs
  | [], _, _, h, _ => h
  | v :: r, o, w, h, ho => R_pasts r (o + 1) _ (R_past h o v ho) (by omega)
theorem grown_sets (g : Nat) : ∀ (vs : List Value) (o : Nat) (w : World), w.grownBy (w.setCells g o vs) (some g)
  | [], _, w => ⟨rfl, rfl, rfl, Nat.le_refl _, fun _ _ _ => rfl⟩
  | v :: r, o, w => by
    have h := grown_sets g r (o + 1) (w.setCell ⟨g, o, none⟩ v)
    exact ⟨h.os, h.tape, h.output, by have := h.size; rwa [World.size_setCell] at this, fun k hk hne => (h.block k (by rwa [World.size_setCell]) hne).trans (Below.heap_setCell w ⟨g, o, none⟩ v k (fun e => hne (by rw [e])))⟩
theorem infoSz : (Tryz.prog.info? 24).map (·.size) = some 8 := by kernel_rfl
theorem zero24 (w : World) : (zeroValue 24).run Tryz.prog w = .ok (.agg #[.int .i64 0, .int .i64 0, .int .i64 0, .int .i64 0, .int .i64 0, .int .i64 0, .int .i64 0, .int .i64 0]) w := by
  obtain ⟨i, hi, hz, _, _⟩ := info_parts info24
  simp [zeroValue, typeInfo, hi, hz]
theorem clear_q (w : World) (ty : TypeId) (g off n c : Nat) (hn : 0 < n) (hc : ∀ j, j < n * 8 → (w.cell? ⟨g, off + j, none⟩).isSome = true) (hf : ∀ j, j < n * 8 → w.frozen? ⟨g, off + j, none⟩ = false) :
    (Builtin.clear_ #[27] ty #[.slice (some ⟨g, off, none⟩) n c]).run Tryz.prog w = .ok (.tuple #[]) (w.setCells g off (List.replicate (n * 8) (.int .i64 0))) := by
  have hzc : (Builtin.zeroCells (Value.agg #[.int .i64 0, .int .i64 0, .int .i64 0, .int .i64 0, .int .i64 0, .int .i64 0, .int .i64 0, .int .i64 0]).cells n).toList = List.replicate (n * 8) (.int .i64 0) := by
    unfold Builtin.zeroCells
    apply List.ext_getElem
    · simp [Value.cells]
    · intro i h1 h2
      have h8 : i % 8 < 8 := Nat.mod_lt _ (by decide)
      simp only [Value.cells, Array.toList_map, List.getElem_map, List.getElem_replicate]
      simp only [Array.toList_range, List.getElem_range]
      show (#[Value.int .i64 0, .int .i64 0, .int .i64 0, .int .i64 0, .int .i64 0, .int .i64 0, .int .i64 0, .int .i64 0] : Array Value)[i % 8]! = Value.int .i64 0
      generalize i % 8 = r at h8
      match r, h8 with
      | 0, _ => rfl
      | 1, _ => rfl
      | 2, _ => rfl
      | 3, _ => rfl
      | 4, _ => rfl
      | 5, _ => rfl
      | 6, _ => rfl
      | 7, _ => rfl
  have hst := run_storeCells_cells (P := Tryz.prog) g off (List.replicate (n * 8) (Value.int .i64 0)) 0 w (by simpa using hc) (by simpa using hf) (by intro v hv'; rw [List.eq_of_mem_replicate hv']; rfl)
  simp only [Nat.add_zero] at hst
  obtain ⟨m, rfl⟩ : ∃ m, n = m + 1 := ⟨n - 1, by omega⟩
  simp [Builtin.clear_, run_underlying Tryz.underlying27, zero24, hzc, hst]
theorem row_cells {w : World} {B g m c : Nat} {ok : Nat → Prop} {xs : List S24} (h : Kd.R k24 24 w B ok (.slice (some ⟨g, 0, none⟩) m c) xs) :
    ∃ cur : Array Value, w.heap[g]? = some (.cells cur 24 (0, 0)) ∧ cur.size = c * 8 := by
  obtain ⟨_, inner, ⟨hl, hcase⟩, hr⟩ := h
  rcases hcase with ⟨e, _⟩ | ⟨g', cap, cur, e, hg, hh, r1, r2, r3, r4⟩
  · cases e
  · injection e with e1 e2 e3
    injection e1 with e1
    injection e1 with e1
    subst e1 e3
    exact ⟨cur, hh, r3⟩
theorem row_some {w : World} {g n : Nat} {cur : Array Value} (h : w.heap[g]? = some (.cells cur 24 (0, 0))) (hn : cur.size = n) (j : Nat) (hj : j < n) : (w.cell? ⟨g, j, none⟩).isSome = true ∧ w.frozen? ⟨g, j, none⟩ = false := by
  constructor
  · have : w.cell? ⟨g, j, none⟩ = cur[j]? := by simp [World.cell?, h]
    rw [this, Array.getElem?_eq_getElem (by omega)]
    rfl
  · simp [World.frozen?, h]
theorem cut_past {i : TypeInfo} (hi : Tryz.prog.info? 24 = some i) (hsz : i.size = 8) (g n c lo : Nat) (hlo : lo ≤ n) (hc : n ≤ c) (h2 : lo < c) (m : Nat) :
    ∀ W : World, (Instr.slice 27 (.slice (some ⟨g, 0, none⟩) m c) (some (.int .i64 (lo : Int))) (some (.int .i64 (n : Int))) none).run Tryz.prog W = .ok (.slice (some ⟨g, lo * 8, none⟩) (n - lo) (c - lo)) W := by
  intro W
  have hel : Tryz.prog.elem 27 = 24 := by simp [Program.elem, Tryz.underlying27]
  have hu : Tryz.prog.underlying 27 = some (.slice (Tryz.prog.elem 27)) := by rw [hel]; exact Tryz.underlying27
  rw [run_slice_lh W 27 (some ⟨g, 0, none⟩) m c hu .i64 .i64 (lo : Int) (n : Int) (by omega) (by omega) (by omega), hel]
  simp [sizeOf, typeInfo, hi, hsz, sliced, Result.andThen]
  rw [if_neg (by omega)]
  unfold Addr.add
  split
  · next h0 => simp [h0]
  · simp
theorem grown_trans {w W W' : World} {g : Option Nat} (h : w.grownBy W g) (k : W.grownBy W' g) : w.grownBy W' g :=
  ⟨k.os.trans h.os, k.tape.trans h.tape, k.output.trans h.output, Nat.le_trans h.size k.size, fun j hj hne => (k.block j (Nat.lt_of_lt_of_le hj h.size) hne).trans (h.block j hj hne)⟩
set_option maxHeartbeats 400000 in
set_option maxRecDepth 1000000 in
theorem delete_any (B : Nat) (ok : Nat → Prop) (g c k : Nat) (xs : List S24) (w : World) (h : Kd.R k24 24 w B ok (.slice (some ⟨g, 0, none⟩) xs.length c) xs) (hk : k < xs.length) (hlen : xs.length ≤ 1000000) :
    Calls Tryz.prog 52 #[.slice (some ⟨g, 0, none⟩) xs.length c, .int .i64 (k : Int), .int .i64 ((k + 1 : Nat) : Int)] w fun e w' => e = .returned (.slice (some ⟨g, 0, none⟩) (xs.length - 1) c) ∧ Kd.R k24 24 w' B ok (.slice (some ⟨g, 0, none⟩) (xs.length - 1) c) (xs.eraseIdx k) ∧ w.grownBy w' (some g) := by
  obtain ⟨i024, hi24, _, hsz24, _⟩ := info_parts info24
  obtain ⟨_, hcap, _⟩ := Kd.R_reads' h
  have q0 : (0 : Int) ≤ ((k + 1 : Nat) : Int) := by omega
  have q1 : ((k + 1 : Nat) : Int) ≤ (xs.length : Int) := by omega
  have hcut := cut_from (P := Tryz.prog) 27 24 .i64 Tryz.underlying27 hi24 8 hsz24 (some ⟨g, 0, none⟩) xs.length c ((k + 1 : Nat) : Int) q0 q1
  rw [show (((k + 1 : Nat) : Int)).toNat = k + 1 from rfl] at hcut
  obtain ⟨A2, hA2⟩ : ∃ A1, A1 = (if c = k + 1 then (some ⟨g, 0, none⟩ : Option Addr) else (some (⟨g, 0, none⟩ : Addr)).map (·.add ((k + 1) * 8))) := ⟨_, rfl⟩
  rw [← hA2] at hcut
  have HR := Lib.hid h
  have HA := Lib.hid hA2
  have HK := Lib.hid (And.intro hk hlen)
  clear h hA2
  obtain ⟨j, hj⟩ : ∃ j : Int, ((k + 1 : Nat) : Int) = j := ⟨_, rfl⟩
  rw [hj] at hcut q0 q1 ⊢
  have hkl : (k : Int) ≤ (xs.length : Int) := by omega
  have hkj : (k : Int) ≤ j := by omega
  have hne : ((k : Int) == j) = false := beq_eq_false_iff_ne.2 (by omega)
  have hcc : (xs.length : Int) ≤ (c : Int) := by omega
  have hkc : (k : Int) ≤ (c : Int) := by omega
  have hjc : j ≤ (c : Int) := by omega
  go_enter Tryz.func52, Tryz.ntmps52
  go_wp2_with (fail)
  have HRD := Lib.hid (Kd.R_drew HR.out)
  have HLE := Lib.hid (show B ≤ w.drew.heap.size from Nat.le_trans (Kd.R_base HR.out g rfl) (Nat.le_of_lt (Kd.R_lt HR.out g rfl)))
  go_region_held3 (fun _ => True) (trivial)
    (first | (refine Kd.R_delete_step k24 (w0 := w.drew) (W := w.drew) B (by rfl) (.tmp 22) (.tmp 25) 27 24 rfl Tryz.underlying27 infoSz (g := g) (n := xs.length) (c := c) (k := k) (m := xs.length - (k + 1)) (c2 := c - (k + 1)) (A := A2) (xs := xs) (ok := ok) rfl rfl HA.out rfl HRD.out HK.out.1 (Below.refl _ _) HLE.out ?_; intro w5 ho hb hg; have HO5 := Lib.hid ho; have HG5 := Lib.hid hg; clear ho hb hg))
  obtain ⟨cur, hh, hcs⟩ := row_cells HO5.out
  have hlt := HK.out.1
  have hcut2 := cut_past hi24 hsz24 g xs.length c (xs.length - 1) (by omega) hcap (by omega) (xs.length - 1)
  rw [show xs.length - (xs.length - 1) = 1 by omega] at hcut2
  have hclr := fun ty c => clear_q w5 ty g ((xs.length - 1) * 8) 1 c (by decide) (fun j hj => (row_some hh hcs _ (by omega)).1) (fun j hj => (row_some hh hcs _ (by omega)).2)
  clear hh hcs hlt
  go_wp2_with (fail)
  go_ret
  refine ⟨rfl, R_pasts _ _ _ HO5.out ?_, grown_trans (g := some g) ⟨HG5.out.os, HG5.out.tape, HG5.out.output, HG5.out.size, HG5.out.block⟩ (grown_sets g _ _ _)⟩
  rw [List.length_eraseIdx, if_pos HK.out.1]
  exact Nat.le_refl _
end Go.Proofs.YtlhdbcjlmkglkaaGreat.Q

/- Board.Cancel. -/
set_option linter.unusedSimpArgs false
set_option linter.unusedVariables false
namespace Go.Proofs.YtlhdbcjlmkglkaaGreat.Q
open Go Go.RowKit Go.Proofs Go.Proofs.YtlhdbcjlmkglkaaGreat.PL Go.Proofs.YtlhdbcjlmkglkaaGreatW.PrintWords
theorem idx_cases (p : S24 → Bool) : ∀ (xs : List S24) (k : Nat), idxF p xs (k : Int) = -1 ∨ ∃ j, j < xs.length ∧ idxF p xs (k : Int) = ((k + j : Nat) : Int)
  | [], k => .inl rfl
  | x :: l, k => by
    rw [idxF]
    split
    · exact .inr ⟨0, by simp, rfl⟩
    · have e : (k : Int) + 1 = ((k + 1 : Nat) : Int) := rfl
      rw [e]
      rcases idx_cases p l (k + 1) with h | ⟨j, hj, h⟩
      · exact .inl h
      · exact .inr ⟨j + 1, by simpa using hj, by rw [h]; congr 1; omega⟩
theorem find_cases (id : Int) (xs : List S24) : findI id xs = -1 ∨ ∃ k : Nat, k < xs.length ∧ findI id xs = (k : Int) := by
  rcases idx_cases (fun x => x.f0 == id) xs 0 with h | ⟨j, hj, h⟩
  · exact .inl h
  · exact .inr ⟨j, hj, by unfold findI; rw [show ((0 : Nat) : Int) = 0 from rfl] at h; rw [h, Nat.zero_add]⟩
def canE (m id : Int) (xs : List S24) : Int := if findI id xs < 0 then 6 else if (rd_T24 xs (findI id xs)).f1 = m then 0 else 22
def canL (m id : Int) (xs : List S24) : List S24 := if canE m id xs = 0 then xs.eraseIdx (findI id xs).toNat else xs
theorem R_some {w : World} {B : Nat} {ok : Nat → Prop} {A : Option Addr} {n c : Nat} {xs : List S24} (h : Kd.R k24 24 w B ok (.slice A n c) xs) (hp : 0 < xs.length) : ∃ g, A = some ⟨g, 0, none⟩ := by
  obtain ⟨g, cap, e, _⟩ := Kd.R_form h hp
  injection e with e1 e2 e3
  exact ⟨g, e1⟩
theorem row_at {W : World} {g k : Nat} {xs : List S24} (hC : Kd.C k24 W (some ⟨g, 0, none⟩) xs.length xs) (hk : k < xs.length) : W.cell? ⟨g, k * 8, none⟩ = some (.int .i64 (rd_T24 xs (k : Int)).f0) ∧ W.cell? ⟨g, k * 8 + 1, none⟩ = some (.int .i64 (rd_T24 xs (k : Int)).f1) ∧ W.cell? ⟨g, k * 8 + 2, none⟩ = some (.int .i64 (rd_T24 xs (k : Int)).f2) ∧ W.cell? ⟨g, k * 8 + 3, none⟩ = some (.int .i64 (rd_T24 xs (k : Int)).f3) ∧ W.cell? ⟨g, k * 8 + 4, none⟩ = some (.int .i64 (rd_T24 xs (k : Int)).f4) ∧ W.cell? ⟨g, k * 8 + 5, none⟩ = some (.int .i64 (rd_T24 xs (k : Int)).f5) ∧ W.cell? ⟨g, k * 8 + 6, none⟩ = some (.int .i64 (rd_T24 xs (k : Int)).f6) ∧ W.cell? ⟨g, k * 8 + 7, none⟩ = some (.int .i64 (rd_T24 xs (k : Int)).f7) := by
  obtain ⟨ad, ea, h⟩ := at_T24 hC (k : Int) (by omega) (by omega)
  obtain rfl := Option.some.inj ea
  have e : (⟨g, 0, none⟩ : Addr).add (((k : Nat) : Int).toNat * 8) = ⟨g, k * 8, none⟩ := by
    rw [Int.toNat_natCast]
    unfold Addr.add
    split
    · next h0 => rw [h0]
    · simp
  rw [e] at h
  exact h
/-- A row of quotes that was cut, stored into the board. -/
theorem BO.cutted {B p g c k : Nat} {xs : List S24} {w W wz : World} (h : BO B p (some ⟨g, 0, none⟩) c xs w) (hb : Below w.heap.size w W) (hk : k < xs.length) (hg : W.grownBy wz (some g))
    (ho : Kd.R k24 24 wz B (fun k => k ≠ p) (.slice (some ⟨g, 0, none⟩) (xs.length - 1) c) (xs.eraseIdx k)) :
    BO B p (some ⟨g, 0, none⟩) c (xs.eraseIdx k) (wz.setCell ⟨p, 0, none⟩ (.slice (some ⟨g, 0, none⟩) (xs.length - 1) c)) ∧ Fr p (some g) (some g) w (wz.setCell ⟨p, 0, none⟩ (.slice (some ⟨g, 0, none⟩) (xs.length - 1) c)) := by
  have hl : (xs.eraseIdx k).length = xs.length - 1 := by rw [List.length_eraseIdx, if_pos hk]
  have := h.stored (A' := some ⟨g, 0, none⟩) (c' := c) (ys := xs.eraseIdx k) hb hg (by rw [hl]; exact ho) (.inl rfl)
  rw [hl] at this
  exact this
set_option maxHeartbeats 400000 in
set_option maxRecDepth 1000000 in
theorem cancel_any (B p : Nat) (m id : Int) (A : Option Addr) (c : Nat) (xs : List S24) (w : World) (h : BO B p A c xs w) (hlen : xs.length ≤ 1000000) :
    Calls Tryz.prog 27 #[.pointer (some ⟨p, 0, none⟩), .int .i64 m, .int .i64 id] w fun e w' => e = .returned (.int .i64 (canE m id xs)) ∧ ∃ A' c', BO B p A' c' (canL m id xs) w' ∧ Fr p (Value.slice A xs.length c).ownBlock (Value.slice A' (canL m id xs).length c').ownBlock w w' := by
  have hat := fun w (hh : BO B p A c xs w) => at_any p id A c xs w hh.bd hh.C hlen
  have q0 := h.bd.c0
  have q1 := h.bd.c1
  have HH := Lib.hid h
  unfold canL canE
  rcases find_cases id xs with hf | ⟨k, hk, hf⟩
  · rw [hf] at hat ⊢
    rw [if_pos (by decide)]
    have HAT := Lib.hid hat
    clear hat h hf hlen
    rw [if_neg (by decide)]
    go_enter Tryz.func27, Tryz.ntmps27
    go_wp2_with (first | (go_at_call 40; refine (HAT.out _ HH.out).mono ?_; rintro e W1 ⟨rfl, b1⟩))
    go_ret
    exact ⟨rfl, A, c, HH.out.below b1, Fr.of_below b1⟩
  · rw [hf] at hat ⊢
    rw [if_neg (by omega), show ((k : Int)).toNat = k from rfl]
    obtain ⟨g, rfl⟩ := R_some h.r (by omega)
    have HAT := Lib.hid hat
    have HX := Lib.hid (fun (W : World) (b : Below w.heap.size w W) => row_at (h.below b).C hk)
    have hkb : ¬ (k : Int) < 0 := by omega
    have dk : decide ((k : Int) < 0) = false := decide_eq_false hkb
    have pk : (0 ≤ (k : Int)) = True := eq_true (by omega)
    have pl : ((k : Int) < (xs.length : Int)) = True := eq_true (by omega)
    have HK := Lib.hid (And.intro hk hlen)
    by_cases hm : (rd_T24 xs (k : Int)).f1 = m
    · rw [if_pos hm]
      have hmb : ((rd_T24 xs (k : Int)).f1 != m) = false := bne_eq_false_iff_eq.2 hm
      rw [if_pos rfl]
      generalize hy : rd_T24 xs (k : Int) = y at *
      have hwr : wrap64 ((k : Int) + 1) = (k : Int) + 1 := w64 _ (by omega)
      clear hat h hf hlen hm hk hkb
      go_enter Tryz.func27, Tryz.ntmps27
      go_wp2_with (first
        | (go_at_call 52; refine (delete_any B (fun k => k ≠ p) g c k xs _ ((HH.out.below b1).r) HK.out.1 HK.out.2).mono ?_; rintro e W2 ⟨rfl, ho, hg⟩; have HZ := Lib.hid (HH.out.cutted b1 HK.out.1 hg ho); have hbz := (HH.out.below b1).cut hg; have fz := hbz.frz 0; have cz := hbz.c0; clear ho hg hbz)
        | (go_at_call 40; refine (HAT.out _ HH.out).mono ?_; rintro e W1 ⟨rfl, b1⟩; have k0 := (HH.out.below b1).bd.c0; have hx := HX.out W1 b1; obtain ⟨hx0, hx1, _⟩ := hx))
      go_ret
      exact ⟨rfl, _, _, by rw [List.length_eraseIdx, if_pos HK.out.1]; exact HZ.out⟩
    · rw [if_neg hm]
      have hmb : ((rd_T24 xs (k : Int)).f1 != m) = true := bne_iff_ne.2 hm
      rw [if_neg (by decide)]
      generalize hy : rd_T24 xs (k : Int) = y at *
      clear hat h hf hlen hm hk hkb
      go_enter Tryz.func27, Tryz.ntmps27
      go_wp2_with (first
        | (go_at_call 40; refine (HAT.out _ HH.out).mono ?_; rintro e W1 ⟨rfl, b1⟩; have k0 := (HH.out.below b1).bd.c0; have hx := HX.out W1 b1; obtain ⟨hx0, hx1, _⟩ := hx))
      go_ret
      exact ⟨rfl, _, _, HH.out.below b1, Fr.of_below b1⟩
end Go.Proofs.YtlhdbcjlmkglkaaGreat.Q

/- Board.Less. -/
set_option linter.unusedSimpArgs false
set_option linter.unusedVariables false
namespace Go.Proofs.YtlhdbcjlmkglkaaGreat.Q
open Go Go.RowKit Go.Proofs Go.Proofs.YtlhdbcjlmkglkaaGreat.PL Go.Proofs.YtlhdbcjlmkglkaaGreatW.PrintWords
/-- What all quotes of a board are. -/
def Inv (xs : List S24) : Prop := ∀ x ∈ xs, 1 ≤ x.f4 ∧ x.f4 ≤ 1125899906842624
def withAmt (x : S24) (v : Int) : S24 := ⟨x.f0, x.f1, x.f2, x.f3, v, x.f5, x.f6, x.f7⟩
def lesE (id n : Int) (xs : List S24) : Int := if findI id xs < 0 then 6 else if n < 1 ∨ (rd_T24 xs (findI id xs)).f4 < n then 1 else 0
def lesL (id n : Int) (xs : List S24) : List S24 := if lesE id n xs = 0 then (if n = (rd_T24 xs (findI id xs)).f4 then xs.eraseIdx (findI id xs).toNat else xs.set (findI id xs).toNat (withAmt (rd_T24 xs (findI id xs)) ((rd_T24 xs (findI id xs)).f4 - n))) else xs
theorem R_amt {W : World} {B g c n : Nat} {ok : Nat → Prop} {xs : List S24} {k : Nat} (h : Kd.R k24 24 W B ok (.slice (some ⟨g, 0, none⟩) n c) xs) (hk : k < xs.length) (v : Int) :
    Kd.R k24 24 (W.setCell ⟨g, k * 8 + 4, none⟩ (.int .i64 v)) B ok (.slice (some ⟨g, 0, none⟩) n c) (xs.set k (withAmt (rd_T24 xs (k : Int)) v)) ∧ W.grownBy (W.setCell ⟨g, k * 8 + 4, none⟩ (.int .i64 v)) (some g) := by
  obtain ⟨hn, hnc, hC⟩ := Kd.R_reads' h
  obtain ⟨c0, c1, c2, c3, c4, c5, c6, c7⟩ := row_at hC hk
  have hcc : ∀ j u, (qL (rd_T24 xs (k : Int)))[j]? = some u → W.cell? ⟨g, ((k : Int)).toNat * k24.sz + j, none⟩ = some u := by
    intro j u hu
    match j, hu with
    | 0, hu => exact Option.some.inj hu ▸ c0
    | 1, hu => exact Option.some.inj hu ▸ c1
    | 2, hu => exact Option.some.inj hu ▸ c2
    | 3, hu => exact Option.some.inj hu ▸ c3
    | 4, hu => exact Option.some.inj hu ▸ c4
    | 5, hu => exact Option.some.inj hu ▸ c5
    | 6, hu => exact Option.some.inj hu ▸ c6
    | 7, hu => exact Option.some.inj hu ▸ c7
    | j + 8, hu => cases hu
  exact Kd.R_seg (okp := fun _ => False) (j := 4) (seg := [.int .i64 v]) (x' := withAmt (rd_T24 xs (k : Int)) v) h (k : Int) (by omega) (by omega) (c := qL (rd_T24 xs (k : Int))) rfl hcc (show 4 + 1 ≤ 8 by decide) (k24_mkM _ _ _ _) (fun _ h => h.elim)
theorem R_frz {W : World} {B g c n : Nat} {ok : Nat → Prop} {xs : List S24} (h : Kd.R k24 24 W B ok (.slice (some ⟨g, 0, none⟩) n c) xs) (j : Nat) : W.frozen? ⟨g, j, none⟩ = false := by
  obtain ⟨cur, hh, _⟩ := row_cells h
  simp [World.frozen?, hh]
theorem set_same {W : World} {B g c n j : Nat} {ok : Nat → Prop} {xs : List S24} {v : Value} (h : Kd.R k24 24 W B ok (.slice (some ⟨g, 0, none⟩) n c) xs) (hc : W.cell? ⟨g, j, none⟩ = some v) (u : Value) : (W.setCell ⟨g, j, none⟩ u).cell? ⟨g, j, none⟩ = some u := by
  obtain ⟨cur, hh, _⟩ := row_cells h
  have e := heap_setCell_same W g j _ _ u hh
  have hj : j < cur.size := by
    have : W.cell? ⟨g, j, none⟩ = cur[j]? := by simp [World.cell?, hh]
    rw [this] at hc
    exact (Array.getElem?_eq_some_iff.1 hc).1
  simp [World.cell?, e, hj]
/-- A row of quotes that was written, the board as it was. -/
theorem BO.wrote {B p g c : Nat} {xs ys : List S24} {w W wz : World} (h : BO B p (some ⟨g, 0, none⟩) c xs w) (hb : Below w.heap.size w W) (hl : ys.length = xs.length) (hg : W.grownBy wz (some g))
    (ho : Kd.R k24 24 wz B (fun k => k ≠ p) (.slice (some ⟨g, 0, none⟩) xs.length c) ys) :
    BO B p (some ⟨g, 0, none⟩) c ys wz ∧ Fr p (some g) (some g) w wz := by
  have hne : some p ≠ some g := fun e => h.r.1 p e.symm rfl
  have hbz : Bd p (.slice (some ⟨g, 0, none⟩) xs.length c) wz := (hg.block p (h.bd.below hb).lt hne).trans (h.bd.below hb)
  refine ⟨⟨h.le, by rw [hl]; exact hbz, by rw [hl]; exact ho⟩, ⟨hg.os.trans hb.os, hg.tape.trans hb.tape, hg.output.trans hb.output, Nat.le_trans hb.size hg.size, fun k hk _ hkg => (hg.block k (Nat.lt_of_lt_of_le hk hb.size) hkg).trans (hb.block k hk), .inl rfl⟩⟩
theorem Fr.then_ {p : Nat} {g g' g'' : Option Nat} {w W W' : World} (h : Fr p g g' w W) (k : Fr p g' g'' W W') (hg : ∀ j, g = some j → j < w.heap.size) : Fr p g g'' w W' := by
  refine ⟨k.os.trans h.os, k.tape.trans h.tape, k.output.trans h.output, Nat.le_trans h.size k.size, fun j hj h1 h2 => ?_, ?_⟩
  · refine (k.block j (Nat.lt_of_lt_of_le hj h.size) h1 ?_).trans (h.block j hj h1 h2)
    rcases h.own with e | e | ⟨b, e, hb⟩
    · rw [e]; exact h2
    · rw [e]; simp
    · rw [e]; intro he; have := Option.some.inj he; omega
  · rcases k.own with e | e | ⟨b, e, hb⟩
    · rw [e]; exact h.own
    · exact .inr (.inl e)
    · exact .inr (.inr ⟨b, e, Nat.le_trans h.size hb⟩)
set_option maxHeartbeats 400000 in
set_option maxRecDepth 1000000 in
theorem less_any (B p : Nat) (id n : Int) (A : Option Addr) (c : Nat) (xs : List S24) (w : World) (h : BO B p A c xs w) (hlen : xs.length ≤ 1000000) (hi : Inv xs) :
    Calls Tryz.prog 28 #[.pointer (some ⟨p, 0, none⟩), .int .i64 id, .int .i64 n] w fun e w' => e = .returned (.int .i64 (lesE id n xs)) ∧ ∃ A' c', BO B p A' c' (lesL id n xs) w' ∧ Fr p (Value.slice A xs.length c).ownBlock (Value.slice A' (lesL id n xs).length c').ownBlock w w' := by
  have hat := fun w (hh : BO B p A c xs w) => at_any p id A c xs w hh.bd hh.C hlen
  have q0 := h.bd.c0
  have q1 := h.bd.c1
  have HH := Lib.hid h
  unfold lesL lesE
  rcases find_cases id xs with hf | ⟨k, hk, hf⟩
  · rw [hf] at hat ⊢
    rw [if_pos (by decide)]
    have HAT := Lib.hid hat
    clear hat h hf hlen hi
    rw [if_neg (by decide)]
    go_enter Tryz.func28, Tryz.ntmps28
    go_wp2_with (first | (go_at_call 40; refine (HAT.out _ HH.out).mono ?_; rintro e W1 ⟨rfl, b1⟩))
    go_ret
    exact ⟨rfl, A, c, HH.out.below b1, Fr.of_below b1⟩
  rw [hf] at hat ⊢
  rw [if_neg (by omega), show ((k : Int)).toNat = k from rfl]
  obtain ⟨g, rfl⟩ := R_some h.r (by omega)
  have HAT := Lib.hid hat
  have HX := Lib.hid (fun (W : World) (b : Below w.heap.size w W) => row_at (h.below b).C hk)
  have HA := Lib.hid (fun (W : World) (b : Below w.heap.size w W) (v : Int) => R_amt (h.below b).r hk v)
  have hkb : ¬ (k : Int) < 0 := by omega
  have dk : decide ((k : Int) < 0) = false := decide_eq_false hkb
  have pk : (0 ≤ (k : Int)) = True := eq_true (by omega)
  have pl : ((k : Int) < (xs.length : Int)) = True := eq_true (by omega)
  have HK := Lib.hid (And.intro hk hlen)
  have hy0 : rd_T24 xs (k : Int) ∈ xs := by
    unfold rd_T24
    rw [List.getD_eq_getElem?_getD, Int.toNat_natCast, List.getElem?_eq_getElem hk]
    exact List.getElem_mem hk
  have hyi := hi _ hy0
  generalize hy : rd_T24 xs (k : Int) = y at *
  clear hy0 hi
  by_cases hn1 : n < 1
  · rw [if_pos (.inl hn1), if_neg (by decide)]
    have dn : decide (n < 1) = true := decide_eq_true hn1
    clear hat h hf hlen hk hkb hyi
    go_enter Tryz.func28, Tryz.ntmps28
    go_wp2_with (first | (go_at_call 40; refine (HAT.out _ HH.out).mono ?_; rintro e W1 ⟨rfl, b1⟩; have k0 := (HH.out.below b1).bd.c0))
    go_ret
    exact ⟨rfl, _, _, HH.out.below b1, Fr.of_below b1⟩
  have dn : decide (n < 1) = false := decide_eq_false hn1
  by_cases hn2 : y.f4 < n
  · rw [if_pos (.inr hn2), if_neg (by decide)]
    have dm : decide (y.f4 < n) = true := decide_eq_true hn2
    clear hat h hf hlen hk hkb hyi
    go_enter Tryz.func28, Tryz.ntmps28
    go_wp2_with (first | (go_at_call 40; refine (HAT.out _ HH.out).mono ?_; rintro e W1 ⟨rfl, b1⟩; have k0 := (HH.out.below b1).bd.c0; have hx := HX.out W1 b1; obtain ⟨hx0, hx1, hx2, hx3, hx4, _⟩ := hx))
    go_ret
    exact ⟨rfl, _, _, HH.out.below b1, Fr.of_below b1⟩
  have dm : decide (y.f4 < n) = false := decide_eq_false hn2
  rw [if_neg (by omega), if_pos rfl]
  have hwr : wrap64 (y.f4 - n) = y.f4 - n := w64 _ (by omega)
  have hwk : wrap64 ((k : Int) + 1) = (k : Int) + 1 := w64 _ (by omega)
  obtain ⟨v, hv⟩ : ∃ v, y.f4 - n = v := ⟨_, rfl⟩
  rw [hv] at hwr ⊢
  have hwr2 : wrap64 (y.f4 - n) = v := by rw [hv]; exact hwr
  by_cases hz : n = y.f4
  · rw [if_pos hz]
    have hv0 : v = 0 := by omega
    subst hv0
    have hpg : p ≠ g := fun e => h.r.1 g rfl e.symm
    have hls : (xs.set k (withAmt y 0)).length = xs.length := List.length_set ..
    have hes : (xs.set k (withAmt y 0)).eraseIdx k = xs.eraseIdx k := by rw [List.eraseIdx_set_eq]
    have HD := Lib.hid (fun (W : World) (b : Below w.heap.size w W) => delete_any B (fun k => k ≠ p) g c k (xs.set k (withAmt y 0)) (W.setCell ⟨g, k * 8 + 4, none⟩ (.int .i64 0)) (by rw [hls]; exact hy ▸ (R_amt (h.below b).r hk 0).1) (by omega) (by omega))
    rw [hls, hes] at HD
    clear hat h hf hlen hk hkb hyi hz hn1 hn2 hv hwr
    go_enter Tryz.func28, Tryz.ntmps28
    go_wp2_with (first
      | (go_at_call 52; refine (HD.out _ b1).mono ?_; rintro e W2 ⟨rfl, ho, hg⟩; have hgg := grown_trans (HA.out W1 b1 0).2 hg; have HZ := Lib.hid (HH.out.cutted b1 HK.out.1 hgg ho); have hbz := (HH.out.below b1).cut hgg; have fz2 := hbz.frz 0; have cz := hbz.c0; clear ho hg hgg hbz)
      | (go_at_call 40; refine (HAT.out _ HH.out).mono ?_; rintro e W1 ⟨rfl, b1⟩; have k0 := (HH.out.below b1).bd.c0; have hx := HX.out W1 b1; obtain ⟨hx0, hx1, hx2, hx3, hx4, _⟩ := hx; have fz : W1.frozen? ⟨g, k * 8 + 4, none⟩ = false := R_frz (HH.out.below b1).r _; have s0 := fun u => set_cell (i := k * 8 + 4) k0 hpg u; have s4 := fun u => set_same (HH.out.below b1).r hx4 u))
    go_ret
    exact ⟨rfl, _, _, by rw [List.length_eraseIdx, if_pos HK.out.1]; exact HZ.out⟩
  · rw [if_neg hz]
    have hvn : (v == 0) = false := beq_eq_false_iff_ne.2 (by omega)
    have hpg : p ≠ g := fun e => h.r.1 g rfl e.symm
    clear hat h hf hlen hk hkb hyi hz hn1 hn2 hv hwr
    go_enter Tryz.func28, Tryz.ntmps28
    go_wp2_with (first | (go_at_call 40; refine (HAT.out _ HH.out).mono ?_; rintro e W1 ⟨rfl, b1⟩; have k0 := (HH.out.below b1).bd.c0; have hx := HX.out W1 b1; obtain ⟨hx0, hx1, hx2, hx3, hx4, _⟩ := hx; have fz : W1.frozen? ⟨g, k * 8 + 4, none⟩ = false := R_frz (HH.out.below b1).r _; have s0 := fun u => set_cell (i := k * 8 + 4) k0 hpg u; have s4 := fun u => set_same (HH.out.below b1).r hx4 u))
    go_ret
    have ha := HA.out W1 b1 v
    have hw := HH.out.wrote b1 (List.length_set ..) ha.2 ha.1
    exact ⟨rfl, _, _, hw.1, by rw [List.length_set]; exact hw.2⟩
end Go.Proofs.YtlhdbcjlmkglkaaGreat.Q
