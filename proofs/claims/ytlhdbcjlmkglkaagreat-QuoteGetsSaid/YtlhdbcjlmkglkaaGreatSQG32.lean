/- Part 32 of the proof's texts: what the theorem needs of them. -/
import Derived.Test.YtlhdbcjlmkglkaaGreatSQG31
import Derived.Test.YtlhdbcjlmkglkaaGreatSQG26
import Derived.Test.YtlhdbcjlmkglkaaGreatSQG21
import Derived.Test.YtlhdbcjlmkglkaaGreatSQG20

set_option linter.unusedVariables false
set_option linter.unusedSimpArgs false
/- Board.Levels. -/
set_option linter.unusedSimpArgs false
set_option linter.unusedVariables false
namespace Go.Proofs.YtlhdbcjlmkglkaaGreat.Q
open Go Go.RowKit Go.Proofs Go.Proofs.YtlhdbcjlmkglkaaGreat.PL Go.Proofs.YtlhdbcjlmkglkaaGreatW.PrintWords Go.Proofs.YtlhdbcjlmkglkaaGreatW.PrintLast Go.Proofs.YtlhdbcjlmkglkaaGreatW.PrintMore
def levS (out : List S123) (x : S24) : List S123 :=
  if 0 < out.length ∧ (rd_T123 out ((out.length - 1 : Nat) : Int)).f0 = x.f5 then
    out.set (out.length - 1) ⟨(rd_T123 out ((out.length - 1 : Nat) : Int)).f0, wrap64 ((rd_T123 out ((out.length - 1 : Nat) : Int)).f1 + x.f4), wrap64 ((rd_T123 out ((out.length - 1 : Nat) : Int)).f2 + 1)⟩
  else out ++ [⟨x.f5, x.f4, 1⟩]
def levL (zs : List S24) : List S123 := zs.foldl levS []
theorem info123 : (Tryz.prog.info? 123).map (fun i => (i.zero, i.size, i.bytes)) = some (some (.agg #[(.int .i64 0), (.int .i64 0), (.int .i64 0)]), 3, 24) := by kernel_rfl
theorem levS_len (out : List S123) (x : S24) : (levS out x).length ≤ out.length + 1 := by
  unfold levS
  split
  · rw [List.length_set]; omega
  · rw [List.length_append, List.length_singleton]; exact Nat.le_refl _
theorem lev_len : ∀ (zs : List S24) (out : List S123), (zs.foldl levS out).length ≤ out.length + zs.length
  | [], out => by simp
  | z :: l, out => by
    rw [List.foldl_cons, List.length_cons]
    have h1 := lev_len l (levS out z)
    have h2 := levS_len out z
    omega
theorem lev_at {W : World} {g k : Nat} {xs : List S123} (hC : Kd.C k123 W (some ⟨g, 0, none⟩) xs.length xs) (hk : k < xs.length) : W.cell? ⟨g, k * 3, none⟩ = some (.int .i64 (rd_T123 xs (k : Int)).f0) ∧ W.cell? ⟨g, k * 3 + 1, none⟩ = some (.int .i64 (rd_T123 xs (k : Int)).f1) ∧ W.cell? ⟨g, k * 3 + 2, none⟩ = some (.int .i64 (rd_T123 xs (k : Int)).f2) := by
  obtain ⟨ad, ea, h⟩ := at_T123 hC (k : Int) (by omega) (by omega)
  obtain rfl := Option.some.inj ea
  have e : (⟨g, 0, none⟩ : Addr).add (((k : Nat) : Int).toNat * 3) = ⟨g, k * 3, none⟩ := by
    rw [Int.toNat_natCast]
    unfold Addr.add
    split
    · next h0 => rw [h0]
    · simp
  rw [e] at h
  exact h
theorem lev_frz {W : World} {B g c n : Nat} {ok : Nat → Prop} {xs : List S123} (h : Kd.R k123 123 W B ok (.slice (some ⟨g, 0, none⟩) n c) xs) (j : Nat) : W.frozen? ⟨g, j, none⟩ = false := by
  obtain ⟨cur, hc⟩ := Kd.R_typed h g rfl
  simp [World.frozen?, hc]
theorem lev_cells {W : World} {g k : Nat} {xs : List S123} (hC : Kd.C k123 W (some ⟨g, 0, none⟩) xs.length xs) (hk : k < xs.length) {c : List Value} (hc : c = [.int .i64 (rd_T123 xs (k : Int)).f0, .int .i64 (rd_T123 xs (k : Int)).f1, .int .i64 (rd_T123 xs (k : Int)).f2]) :
    ∀ j u, c[j]? = some u → W.cell? ⟨g, ((k : Int)).toNat * k123.sz + j, none⟩ = some u := by
  subst hc
  obtain ⟨c0, c1, c2⟩ := lev_at hC hk
  intro j u hu
  match j, hu with
  | 0, hu => exact Option.some.inj hu ▸ c0
  | 1, hu => exact Option.some.inj hu ▸ c1
  | 2, hu => exact Option.some.inj hu ▸ c2
  | j + 3, hu => cases hu
theorem lev_put1 {W : World} {B g c n : Nat} {ok : Nat → Prop} {xs : List S123} {k : Nat} (h : Kd.R k123 123 W B ok (.slice (some ⟨g, 0, none⟩) n c) xs) (hk : k < xs.length) (a : Int) :
    Kd.R k123 123 (W.setCell ⟨g, k * 3 + 1, none⟩ (.int .i64 a)) B ok (.slice (some ⟨g, 0, none⟩) n c) (xs.set k ⟨(rd_T123 xs (k : Int)).f0, a, (rd_T123 xs (k : Int)).f2⟩) ∧ W.grownBy (W.setCell ⟨g, k * 3 + 1, none⟩ (.int .i64 a)) (some g) := by
  obtain ⟨hn, hnc, hC⟩ := Kd.R_reads' h
  exact Kd.R_seg (okp := fun _ => False) (j := 1) (seg := [.int .i64 a]) (x' := ⟨(rd_T123 xs (k : Int)).f0, a, (rd_T123 xs (k : Int)).f2⟩) h (k : Int) (by omega) (by omega) (c := [.int .i64 (rd_T123 xs (k : Int)).f0, .int .i64 (rd_T123 xs (k : Int)).f1, .int .i64 (rd_T123 xs (k : Int)).f2]) rfl (lev_cells hC hk rfl) (show 1 + 1 ≤ 3 by decide) (k123_mkM _ _ _ _) (fun _ h => h.elim)
theorem lev_put2 {W : World} {B g c n : Nat} {ok : Nat → Prop} {xs : List S123} {k : Nat} (h : Kd.R k123 123 W B ok (.slice (some ⟨g, 0, none⟩) n c) xs) (hk : k < xs.length) (a : Int) :
    Kd.R k123 123 (W.setCell ⟨g, k * 3 + 2, none⟩ (.int .i64 a)) B ok (.slice (some ⟨g, 0, none⟩) n c) (xs.set k ⟨(rd_T123 xs (k : Int)).f0, (rd_T123 xs (k : Int)).f1, a⟩) ∧ W.grownBy (W.setCell ⟨g, k * 3 + 2, none⟩ (.int .i64 a)) (some g) := by
  obtain ⟨hn, hnc, hC⟩ := Kd.R_reads' h
  exact Kd.R_seg (okp := fun _ => False) (j := 2) (seg := [.int .i64 a]) (x' := ⟨(rd_T123 xs (k : Int)).f0, (rd_T123 xs (k : Int)).f1, a⟩) h (k : Int) (by omega) (by omega) (c := [.int .i64 (rd_T123 xs (k : Int)).f0, .int .i64 (rd_T123 xs (k : Int)).f1, .int .i64 (rd_T123 xs (k : Int)).f2]) rfl (lev_cells hC hk rfl) (show 2 + 1 ≤ 3 by decide) (k123_mkM _ _ _ _) (fun _ h => h.elim)
theorem lev_put {W : World} {B g c n : Nat} {ok : Nat → Prop} {xs : List S123} {k : Nat} (h : Kd.R k123 123 W B ok (.slice (some ⟨g, 0, none⟩) n c) xs) (hk : k < xs.length) (a b : Int) :
    Kd.R k123 123 ((W.setCell ⟨g, k * 3 + 1, none⟩ (.int .i64 a)).setCell ⟨g, k * 3 + 2, none⟩ (.int .i64 b)) B ok (.slice (some ⟨g, 0, none⟩) n c) (xs.set k ⟨(rd_T123 xs (k : Int)).f0, a, b⟩) ∧ W.grownBy ((W.setCell ⟨g, k * 3 + 1, none⟩ (.int .i64 a)).setCell ⟨g, k * 3 + 2, none⟩ (.int .i64 b)) (some g) := by
  have h1 := lev_put1 h hk a
  have h2 := lev_put2 h1.1 (k := k) (by rw [List.length_set]; exact hk) b
  have e : rd_T123 (xs.set k ⟨(rd_T123 xs (k : Int)).f0, a, (rd_T123 xs (k : Int)).f2⟩) (k : Int) = ⟨(rd_T123 xs (k : Int)).f0, a, (rd_T123 xs (k : Int)).f2⟩ := by
    show (xs.set k _).getD _ _ = _
    rw [List.getD_eq_getElem?_getD, Int.toNat_natCast, List.getElem?_set_self hk]
    rfl
  rw [e, List.set_set] at h2
  exact ⟨h2.1, grown_trans h1.2 h2.2⟩
theorem take_fold (zs : List S24) (j : Nat) (h : j < zs.length) : (zs.take (j + 1)).foldl levS [] = levS ((zs.take j).foldl levS []) (rd_T24 zs (j : Int)) := by
  rw [take_next zs j h, List.foldl_append]
  rfl
set_option maxHeartbeats 400000 in
set_option maxRecDepth 1000000 in
theorem levels_any (B p : Nat) (t0 t1 t2 s : Int) (A : Option Addr) (c : Nat) (xs : List S24) (w : World) (h : BO B p A c xs w) (hlen : xs.length ≤ 1000000) :
    Calls Tryz.prog 42 #[.pointer (some ⟨p, 0, none⟩), .agg #[.int .i64 t0, .int .i64 t1, .int .i64 t2], .int .i64 s] w fun e w' =>
      ∃ A' c', e = .returned (.slice A' (levL (sideL t0 t1 t2 s xs)).length c') ∧ Kd.R k123 123 w' w.heap.size (fun _ => True) (.slice A' (levL (sideL t0 t1 t2 s xs)).length c') (levL (sideL t0 t1 t2 s xs)) ∧ Below w.heap.size w w' := by
  have hu24 := Tryz.underlying24
  have hu38 := Tryz.underlying38
  have hu104 := Tryz.underlying123
  have hzl : (sideL t0 t1 t2 s xs).length ≤ 1000000 := by unfold sideL; rw [StN.ssort_len]; exact Nat.le_trans (List.length_filter_le ..) hlen
  have CS := Lib.hid (fun (W : World) (hb : Below w.heap.size w W) => side_any B p t0 t1 t2 s A c xs W (h.below hb) hlen)
  generalize sideL t0 t1 t2 s xs = zs at *
  have HL := Lib.hid hzl
  clear h hlen hzl
  go_enter Tryz.func42, Tryz.ntmps42
  go_wp2_with (first | (go_at_call 32; refine (CS.out _ (below_alloc (Below.refl _ _) _)).mono ?_; rintro e W2 ⟨A2, c2, rfl, hR2, hB2⟩; have HR2 := Lib.hid hR2; have HB2 := Lib.hid (bl2 (below_alloc (Below.refl _ w) _) hB2); clear hR2 hB2))
  go_loopg [7, 16] (zs.length + 1) (fun kq v7 v16 w' => ∃ (i : Nat) (u : Value), v7 = u ∧ v16 = .int .i64 (i : Int) ∧ Aside0 (i ≤ zs.length ∧ zs.length + 1 ≤ i + kq) ∧ Aside0 (Kd.R k123 123 w' W2.heap.size (fun _ => True) u ((zs.take i).foldl levS [])) ∧ Aside0 (Below W2.heap.size W2 w'))
  case atStart =>
    exact ⟨0, _, rfl, rfl, ⟨Nat.zero_le _, by omega⟩, ⟨Kd.R_nil _ _ _ _ _⟩, ⟨Below.refl _ _⟩⟩
  case round =>
    obtain ⟨i, u, rfl, rfl, HI, HR, HB⟩ := hrel
    obtain ⟨hi1, hi2⟩ := HI.out
    by_cases c4 : i < zs.length
    · have c4a : decide ((i : Int) < (zs.length : Int)) = true := decide_eq_true (by omega)
      have c4b : decide (i < zs.length) = true := decide_eq_true c4
      have pj : (0 ≤ (i : Int)) = True := eq_true (by omega)
      have pjl : ((i : Int) < (zs.length : Int)) = True := eq_true (by omega)
      obtain ⟨kq, rfl⟩ : ∃ kq, gk = kq + 1 := ⟨gk - 1, by omega⟩
      obtain ⟨g, rfl⟩ := R_some HR2.out (by omega)
      have hrow := row_at (row_C (Kd.R_below HR2.out HB.out) rfl) c4
      have htn := take_fold zs i c4
      have hll := lev_len (zs.take i) []
      generalize hy : rd_T24 zs (i : Int) = y at *
      obtain ⟨hx0, hx1, hx2, hx3, hx4, hx5, hx6, hx7⟩ := hrow
      have KJ : i + 1 ≤ zs.length ∧ zs.length + 1 ≤ i + 1 + kq := by omega
      have hwj := w1n i (by have := HL.out; omega)
      have HT := Lib.hid htn
      generalize hout : (zs.take i).foldl levS [] = out at *
      have hol : out.length ≤ 1000000 := by rw [List.length_take] at hll; simp at hll; have := HL.out; omega
      obtain ⟨A3, c3, hu3⟩ := Kd.R_slice HR.out
      obtain ⟨L, hL⟩ : ∃ L, out.length = L := ⟨_, rfl⟩
      rw [hL] at hu3
      subst hu3
      have HO := Lib.hid (And.intro hL hol)
      obtain ⟨y0, y1, y2, y3, y4, y5, y6, y7⟩ := y
      simp only at *
      have hbq := Lib.hid (show ∀ o, o = Obj.cells #[.int .i64 y0, .int .i64 y1, .int .i64 y2, .int .i64 y3, .int .i64 y4, .int .i64 y5, .int .i64 y6, .int .i64 y7] 24 → ∀ W', Below (wr.alloc o).heap.size (wr.alloc o) W' → (W'.cell? ⟨wr.heap.size, 0, none⟩ = some (.int .i64 y0) ∧ W'.cell? ⟨wr.heap.size, 1, none⟩ = some (.int .i64 y1) ∧ W'.cell? ⟨wr.heap.size, 2, none⟩ = some (.int .i64 y2) ∧ W'.cell? ⟨wr.heap.size, 3, none⟩ = some (.int .i64 y3) ∧ W'.cell? ⟨wr.heap.size, 4, none⟩ = some (.int .i64 y4) ∧ W'.cell? ⟨wr.heap.size, 5, none⟩ = some (.int .i64 y5) ∧ W'.cell? ⟨wr.heap.size, 6, none⟩ = some (.int .i64 y6) ∧ W'.cell? ⟨wr.heap.size, 7, none⟩ = some (.int .i64 y7)) from by
        rintro o rfl W' b
        exact ⟨cell_below (cell_new wr _ 24 0 _ rfl) b, cell_below (cell_new wr _ 24 1 _ rfl) b, cell_below (cell_new wr _ 24 2 _ rfl) b, cell_below (cell_new wr _ 24 3 _ rfl) b, cell_below (cell_new wr _ 24 4 _ rfl) b, cell_below (cell_new wr _ 24 5 _ rfl) b, cell_below (cell_new wr _ 24 6 _ rfl) b, cell_below (cell_new wr _ 24 7 _ rfl) b⟩)
      have HD2 := Lib.hid (hbq.out _ rfl _ (drew_below _))
      have HU := Lib.hid (show (out.length + 1) * 24 ≤ 140737488355328 by omega)
      clear c4 hi1 hi2 htn hy hll hol hout hL
      by_cases hL0 : L = 0
      · subst hL0
        go_wp2_with (fail)
        refine start_ (n := 13) (S := fun w' : World => w'.cell? ⟨wr.heap.size, 0, none⟩ = some (.int .i64 y0) ∧ w'.cell? ⟨wr.heap.size, 1, none⟩ = some (.int .i64 y1) ∧ w'.cell? ⟨wr.heap.size, 2, none⟩ = some (.int .i64 y2) ∧ w'.cell? ⟨wr.heap.size, 3, none⟩ = some (.int .i64 y3) ∧ w'.cell? ⟨wr.heap.size, 4, none⟩ = some (.int .i64 y4) ∧ w'.cell? ⟨wr.heap.size, 5, none⟩ = some (.int .i64 y5) ∧ w'.cell? ⟨wr.heap.size, 6, none⟩ = some (.int .i64 y6) ∧ w'.cell? ⟨wr.heap.size, 7, none⟩ = some (.int .i64 y7)) (ds := []) #[false, false, false, false, false, false, false, false, false, false, false, false, false] (by kernel_rfl) rfl rfl HD2.out (fun hHeld => ?_)
        refine pure_ (i := 0) (N := (some 22)) (v := ?_) (a' := ?_) #[true, false, false, false, false, false, false, false, false, false, false, false, false] rfl rfl (by kernel_rfl) (fun _ _ _ h => h) (Or.inl ⟨by rfl, ?_⟩) ?_ ?_
        rotate_left
        · intro w'
          go_simp
          with_reducible rfl
        rotate_left
        · simp only [Act.put, List.setIfInBounds_toArray, List.set_cons_zero, List.set_cons_succ, i64_w, i32_w]
          rfl
        refine pure_ (i := 1) (N := (some 23)) (v := ?_) (a' := ?_) #[true, true, false, false, false, false, false, false, false, false, false, false, false] rfl rfl (by kernel_rfl) (fun _ _ _ h => h) (Or.inl ⟨by rfl, ?_⟩) ?_ ?_
        rotate_left
        · intro w'
          go_simp
          with_reducible rfl
        rotate_left
        · simp only [Act.put, List.setIfInBounds_toArray, List.set_cons_zero, List.set_cons_succ, i64_w, i32_w]
          rfl
        refine pure_ (i := 2) (N := (some 24)) (v := ?_) (a' := ?_) #[true, true, true, false, false, false, false, false, false, false, false, false, false] rfl rfl (by kernel_rfl) (fun _ _ _ h => h) (Or.inl ⟨by rfl, ?_⟩) ?_ ?_
        rotate_left
        · intro w'
          go_simp
          with_reducible rfl
        rotate_left
        · simp only [Act.put, List.setIfInBounds_toArray, List.set_cons_zero, List.set_cons_succ, i64_w, i32_w]
          rfl
        refine pure_ (i := 3) (N := (some 25)) (v := undef) (a' := ?_) #[true, true, true, true, false, false, false, false, false, false, false, false, false] rfl rfl (by kernel_rfl) (fun _ _ _ h => h) (Or.inr ⟨by rfl, rfl⟩) ?_ ?_
        rotate_left
        · simp only [Act.put, List.setIfInBounds_toArray, List.set_cons_zero, List.set_cons_succ, i64_w, i32_w]
          rfl
        refine pure_ (i := 4) (N := (some 26)) (v := undef) (a' := ?_) #[true, true, true, true, true, false, false, false, false, false, false, false, false] rfl rfl (by kernel_rfl) (fun _ _ _ h => h) (Or.inr ⟨by rfl, rfl⟩) ?_ ?_
        rotate_left
        · simp only [Act.put, List.setIfInBounds_toArray, List.set_cons_zero, List.set_cons_succ, i64_w, i32_w]
          rfl
        refine pure_ (i := 5) (N := (some 27)) (v := undef) (a' := ?_) #[true, true, true, true, true, true, false, false, false, false, false, false, false] rfl rfl (by kernel_rfl) (fun _ _ _ h => h) (Or.inr ⟨by rfl, rfl⟩) ?_ ?_
        rotate_left
        · simp only [Act.put, List.setIfInBounds_toArray, List.set_cons_zero, List.set_cons_succ, i64_w, i32_w]
          rfl
        refine pure_ (i := 6) (N := (some 28)) (v := undef) (a' := ?_) #[true, true, true, true, true, true, true, false, false, false, false, false, false] rfl rfl (by kernel_rfl) (fun _ _ _ h => h) (Or.inr ⟨by rfl, rfl⟩) ?_ ?_
        rotate_left
        · simp only [Act.put, List.setIfInBounds_toArray, List.set_cons_zero, List.set_cons_succ, i64_w, i32_w]
          rfl
        refine pure_ (i := 7) (N := (some 29)) (v := undef) (a' := ?_) #[true, true, true, true, true, true, true, true, false, false, false, false, false] rfl rfl (by kernel_rfl) (fun _ _ _ h => h) (Or.inr ⟨by rfl, rfl⟩) ?_ ?_
        rotate_left
        · simp only [Act.put, List.setIfInBounds_toArray, List.set_cons_zero, List.set_cons_succ, i64_w, i32_w]
          rfl
        refine pure_ (i := 8) (N := (some 30)) (v := undef) (a' := ?_) #[true, true, true, true, true, true, true, true, true, false, false, false, false] rfl rfl (by kernel_rfl) (fun _ _ _ h => h) (Or.inr ⟨by rfl, rfl⟩) ?_ ?_
        rotate_left
        · simp only [Act.put, List.setIfInBounds_toArray, List.set_cons_zero, List.set_cons_succ, i64_w, i32_w]
          rfl
        refine pure_ (i := 9) (N := (some 31)) (v := undef) (a' := ?_) #[true, true, true, true, true, true, true, true, true, true, false, false, false] rfl rfl (by kernel_rfl) (fun _ _ _ h => h) (Or.inr ⟨by rfl, rfl⟩) ?_ ?_
        rotate_left
        · simp only [Act.put, List.setIfInBounds_toArray, List.set_cons_zero, List.set_cons_succ, i64_w, i32_w]
          rfl
        refine pure_ (i := 10) (N := (some 32)) (v := undef) (a' := ?_) #[true, true, true, true, true, true, true, true, true, true, true, false, false] rfl rfl (by kernel_rfl) (fun _ _ _ h => h) (Or.inr ⟨by rfl, rfl⟩) ?_ ?_
        rotate_left
        · simp only [Act.put, List.setIfInBounds_toArray, List.set_cons_zero, List.set_cons_succ, i64_w, i32_w]
          rfl
        refine pure_ (i := 11) (N := (some 33)) (v := undef) (a' := ?_) #[true, true, true, true, true, true, true, true, true, true, true, true, false] rfl rfl (by kernel_rfl) (fun _ _ _ h => h) (Or.inr ⟨by rfl, rfl⟩) ?_ ?_
        rotate_left
        · simp only [Act.put, List.setIfInBounds_toArray, List.set_cons_zero, List.set_cons_succ, i64_w, i32_w]
          rfl
        refine pure_ (i := 12) (N := (some 34)) (v := ?_) (a' := ?_) #[true, true, true, true, true, true, true, true, true, true, true, true, true] rfl rfl (by kernel_rfl) (fun _ _ _ h => h) (Or.inl ⟨by rfl, ?_⟩) ?_ ?_
        rotate_left
        · intro w'
          go_simp
          with_reducible rfl
        rotate_left
        · simp only [Act.put, List.setIfInBounds_toArray, List.set_cons_zero, List.set_cons_succ, i64_w, i32_w]
          rfl
        refine done_ (by kernel_rfl) ?_
        obtain ⟨e0, e1, e2, e3, e4, e5, e6, e7⟩ := HD2.out
        have B4 : Below wr.heap.size wr (wr.alloc (.cells #[.int .i64 y0, .int .i64 y1, .int .i64 y2, .int .i64 y3, .int .i64 y4, .int .i64 y5, .int .i64 y6, .int .i64 y7] 24)).drew := bl2 (below_alloc (Below.refl _ wr) _) (drew_below _)
        clear HD2 hbq
        generalize (wr.alloc (.cells #[.int .i64 y0, .int .i64 y1, .int .i64 y2, .int .i64 y3, .int .i64 y4, .int .i64 y5, .int .i64 y6, .int .i64 y7] 24)).drew = WD at *
        have HO2 := Lib.hid (Kd.R_below HR.out B4)
        have HB4 := Lib.hid (HB.out.trans (B4.mono HB.out.size))
        go_wp2_with (first
          | ((with_reducible refine gate_builtin (b := .append) (xs := #[.tmp 55, .tmp 61]) rfl ?_); at_builtin; refine Kd.R_append k123 (w0 := W2) W2.heap.size rfl (.tmp 55) (.tmp 61) 80 123 (.agg #[(.int .i64 0), (.int .i64 0), (.int .i64 0)]) 24 rfl Tryz.underlying80 info123 rfl (by decide) (by decide) (.slice A3 0 c3) out ⟨y5, y4, 1⟩ [.int .i64 y5, .int .i64 y4, .int .i64 1] (fun _ => True) (fun _ => False) rfl rfl ?aP (fun _ hk => hk.elim) ?aF ?aO ?aB ?aS ?aL ?_; (case aP => exact k123_mkM _ _ _ _); (case aF => exact (fun _ _ => trivial)); (case aO => exact HO2.out); (case aB => exact HB4.out); (case aS => exact HB4.out.size); (case aL => exact HU.out); intro v1 W5 ho hb hg hat; have HO5 := Lib.hid ho; have HB5 := Lib.hid hb; clear ho hb hg hat))
        go_roundg kq
        case measure => omega
        case rel =>
          refine ⟨i + 1, _, rfl, congrArg (Value.int .i64) hwj, ⟨KJ⟩, ⟨?_⟩, ⟨HB5.out⟩⟩
          rw [HT.out]
          unfold levS
          rw [if_neg (fun h => by have := HO.out.1; omega)]
          exact HO5.out
      · obtain ⟨m, hm⟩ : ∃ m, L = m + 1 := ⟨L - 1, by omega⟩
        have dL : decide ((0 : Int) < (L : Int)) = true := decide_eq_true (by omega)
        have dL2 : decide (0 < L) = true := decide_eq_true (by omega)
        have hLb : L ≤ 1000000 := by rw [← HO.out.1]; exact HO.out.2
        have hms : wrap64 ((L : Int) - 1) = (m : Int) := by rw [hm]; exact w1m m (by omega)
        have hmw : IntKind.i64.wrap ((L : Int) - 1) = (m : Int) := by rw [hm]; exact (IntWalk.i64_in _ (by omega)).trans (by omega)
        have qm : (0 : Int) ≤ (m : Int) := by omega
        have qml : (m : Int) < (L : Int) := by omega
        have pm : (0 ≤ (m : Int)) = True := eq_true (by omega)
        have pml : ((m : Int) < (L : Int)) = True := eq_true (by omega)
        have hml : m < out.length := by rw [HO.out.1]; omega
        obtain ⟨g2, hg2⟩ : ∃ g2, A3 = some ⟨g2, 0, none⟩ := by
          obtain ⟨g2, cap, e, _⟩ := Kd.R_form HR.out (by omega)
          injection e with e1 e2 e3
          exact ⟨g2, e1⟩
        subst hg2
        have hz := lev_at (Kd.R_reads' HR.out).2.2 hml
        have hstep : levS out ⟨y0, y1, y2, y3, y4, y5, y6, y7⟩ = if (rd_T123 out (m : Int)).f0 = y5 then out.set m ⟨(rd_T123 out (m : Int)).f0, wrap64 ((rd_T123 out (m : Int)).f1 + y4), wrap64 ((rd_T123 out (m : Int)).f2 + 1)⟩ else out ++ [⟨y5, y4, 1⟩] := by
          unfold levS
          rw [show out.length - 1 = m by rw [HO.out.1]; omega]
          by_cases hq : (rd_T123 out (m : Int)).f0 = y5
          · rw [if_pos hq, if_pos ⟨by rw [HO.out.1]; omega, hq⟩]
          · rw [if_neg hq, if_neg (fun h => hq h.2)]
        have HP := Lib.hid (fun (W : World) (b : Below wr.heap.size wr W) => lev_put (Kd.R_below HR.out b) hml (wrap64 ((rd_T123 out (m : Int)).f1 + y4)) (wrap64 ((rd_T123 out (m : Int)).f2 + 1)))
        generalize hzz : rd_T123 out (m : Int) = z at *
        obtain ⟨z0, z1, z2⟩ := z
        simp only at *
        have B4 : Below wr.heap.size wr (wr.alloc (.cells #[.int .i64 y0, .int .i64 y1, .int .i64 y2, .int .i64 y3, .int .i64 y4, .int .i64 y5, .int .i64 y6, .int .i64 y7] 24)).drew := bl2 (below_alloc (Below.refl _ wr) _) (drew_below _)
        have HZ4 := Lib.hid (And.intro (cell_below hz.1 B4) (And.intro (cell_below hz.2.1 B4) (cell_below hz.2.2 B4)))
        have HD3 := Lib.hid (And.intro HD2.out.1 (And.intro HD2.out.2.1 (And.intro HD2.out.2.2.1 (And.intro HD2.out.2.2.2.1 (And.intro HD2.out.2.2.2.2.1 (And.intro HD2.out.2.2.2.2.2.1 (And.intro HD2.out.2.2.2.2.2.2.1 (And.intro HD2.out.2.2.2.2.2.2.2 HZ4.out))))))))
        obtain ⟨b, hb⟩ : ∃ b, (z0 == y5) = b := ⟨_, rfl⟩
        have HBB := Lib.hid hb
        have HS := Lib.hid hstep
        have hfr := fun j => lev_frz (Kd.R_below HR.out B4) j
        have HFR := Lib.hid hfr
        clear hL0 hm hLb hml hz hstep hzz hfr
        cases b
        · go_wp2_with (fail)
          refine start_ (n := 13) (S := fun w' : World => w'.cell? ⟨wr.heap.size, 0, none⟩ = some (.int .i64 y0) ∧ w'.cell? ⟨wr.heap.size, 1, none⟩ = some (.int .i64 y1) ∧ w'.cell? ⟨wr.heap.size, 2, none⟩ = some (.int .i64 y2) ∧ w'.cell? ⟨wr.heap.size, 3, none⟩ = some (.int .i64 y3) ∧ w'.cell? ⟨wr.heap.size, 4, none⟩ = some (.int .i64 y4) ∧ w'.cell? ⟨wr.heap.size, 5, none⟩ = some (.int .i64 y5) ∧ w'.cell? ⟨wr.heap.size, 6, none⟩ = some (.int .i64 y6) ∧ w'.cell? ⟨wr.heap.size, 7, none⟩ = some (.int .i64 y7) ∧ w'.cell? ⟨g2, m * 3, none⟩ = some (.int .i64 z0) ∧ w'.cell? ⟨g2, m * 3 + 1, none⟩ = some (.int .i64 z1) ∧ w'.cell? ⟨g2, m * 3 + 2, none⟩ = some (.int .i64 z2)) (ds := []) #[false, false, false, false, false, false, false, false, false, false, false, false, false] (by kernel_rfl) rfl rfl HD3.out (fun hHeld => ?_)
          refine pure_ (i := 0) (N := (some 22)) (v := ?_) (a' := ?_) #[true, false, false, false, false, false, false, false, false, false, false, false, false] rfl rfl (by kernel_rfl) (fun _ _ _ h => h) (Or.inl ⟨by rfl, ?_⟩) ?_ ?_
          rotate_left
          · intro w'
            go_simp
            with_reducible rfl
          rotate_left
          · simp only [Act.put, List.setIfInBounds_toArray, List.set_cons_zero, List.set_cons_succ, i64_w, i32_w]
            rfl
          refine pure_ (i := 1) (N := (some 23)) (v := ?_) (a' := ?_) #[true, true, false, false, false, false, false, false, false, false, false, false, false] rfl rfl (by kernel_rfl) (fun _ _ _ h => h) (Or.inl ⟨by rfl, ?_⟩) ?_ ?_
          rotate_left
          · intro w'
            go_simp
            with_reducible rfl
          rotate_left
          · simp only [Act.put, List.setIfInBounds_toArray, List.set_cons_zero, List.set_cons_succ, i64_w, i32_w]
            rfl
          refine pure_ (i := 2) (N := (some 24)) (v := ?_) (a' := ?_) #[true, true, true, false, false, false, false, false, false, false, false, false, false] rfl rfl (by kernel_rfl) (fun _ _ _ h => h) (Or.inl ⟨by rfl, ?_⟩) ?_ ?_
          rotate_left
          · intro w'
            go_simp
            with_reducible rfl
          rotate_left
          · simp only [Act.put, List.setIfInBounds_toArray, List.set_cons_zero, List.set_cons_succ, i64_w, i32_w]
            rfl
          refine pure_ (i := 3) (N := (some 25)) (v := ?_) (a' := ?_) #[true, true, true, true, false, false, false, false, false, false, false, false, false] rfl rfl (by kernel_rfl) (fun _ _ _ h => h) (Or.inl ⟨by rfl, ?_⟩) ?_ ?_
          rotate_left
          · intro w'
            go_simp
            with_reducible rfl
          rotate_left
          · simp only [Act.put, List.setIfInBounds_toArray, List.set_cons_zero, List.set_cons_succ, i64_w, i32_w]
            rfl
          refine pure_ (i := 4) (N := (some 26)) (v := ?_) (a' := ?_) #[true, true, true, true, true, false, false, false, false, false, false, false, false] rfl rfl (by kernel_rfl) (fun _ _ _ h => h) (Or.inl ⟨by rfl, ?_⟩) ?_ ?_
          rotate_left
          · intro w'
            go_simp
            with_reducible rfl
          rotate_left
          · simp only [Act.put, List.setIfInBounds_toArray, List.set_cons_zero, List.set_cons_succ, i64_w, i32_w]
            rfl
          refine pure_ (i := 5) (N := (some 27)) (v := ?_) (a' := ?_) #[true, true, true, true, true, true, false, false, false, false, false, false, false] rfl rfl (by kernel_rfl) (fun _ _ _ h => h) (Or.inl ⟨by rfl, ?_⟩) ?_ ?_
          rotate_left
          · intro w'
            go_simp
            with_reducible rfl
          rotate_left
          · simp only [Act.put, List.setIfInBounds_toArray, List.set_cons_zero, List.set_cons_succ, i64_w, i32_w]
            rfl
          refine pure_ (i := 6) (N := (some 28)) (v := ?_) (a' := ?_) #[true, true, true, true, true, true, true, false, false, false, false, false, false] rfl rfl (by kernel_rfl) (fun _ _ _ h => h) (Or.inl ⟨by rfl, ?_⟩) ?_ ?_
          rotate_left
          · intro w'
            go_simp
            with_reducible rfl
          rotate_left
          · simp only [Act.put, List.setIfInBounds_toArray, List.set_cons_zero, List.set_cons_succ, i64_w, i32_w]
            rfl
          refine pure_ (i := 7) (N := (some 29)) (v := ?_) (a' := ?_) #[true, true, true, true, true, true, true, true, false, false, false, false, false] rfl rfl (by kernel_rfl) (fun _ _ _ h => h) (Or.inl ⟨by rfl, ?_⟩) ?_ ?_
          rotate_left
          · intro w'
            go_simp
            with_reducible rfl
          rotate_left
          · simp only [Act.put, List.setIfInBounds_toArray, List.set_cons_zero, List.set_cons_succ, i64_w, i32_w]
            rfl
          refine take_ (i := 8) (N := (some 30)) (v := ?_) (a' := ?_) #[true, true, true, true, true, true, true, true, true, false, false, false, false] rfl rfl (by kernel_rfl) (fun _ _ _ h => h) (Or.inl ⟨by rfl, ?_⟩) hHeld ?_ ?_
          rotate_left
          · rintro w' ⟨s0, s1, s2, s3, s4, s5, s6, s7, s8, s9, s10⟩
            go_simp
            with_reducible rfl
          rotate_left
          · simp only [Act.put, List.setIfInBounds_toArray, List.set_cons_zero, List.set_cons_succ, i64_w, i32_w]
            rfl
          refine pure_ (i := 9) (N := (some 31)) (v := ?_) (a' := ?_) #[true, true, true, true, true, true, true, true, true, true, false, false, false] rfl rfl (by kernel_rfl) (fun _ _ _ h => h) (Or.inl ⟨by rfl, ?_⟩) ?_ ?_
          rotate_left
          · intro w'
            go_simp
            with_reducible rfl
          rotate_left
          · simp only [Act.put, List.setIfInBounds_toArray, List.set_cons_zero, List.set_cons_succ, i64_w, i32_w]
            rfl
          refine take_ (i := 10) (N := (some 32)) (v := ?_) (a' := ?_) #[true, true, true, true, true, true, true, true, true, true, true, false, false] rfl rfl (by kernel_rfl) (fun _ _ _ h => h) (Or.inl ⟨by rfl, ?_⟩) hHeld ?_ ?_
          rotate_left
          · rintro w' ⟨s0, s1, s2, s3, s4, s5, s6, s7, s8, s9, s10⟩
            go_simp
            with_reducible rfl
          rotate_left
          · simp only [Act.put, List.setIfInBounds_toArray, List.set_cons_zero, List.set_cons_succ, i64_w, i32_w]
            rfl
          refine pure_ (i := 11) (N := (some 33)) (v := ?_) (a' := ?_) #[true, true, true, true, true, true, true, true, true, true, true, true, false] rfl rfl (by kernel_rfl) (fun _ _ _ h => h) (Or.inl ⟨by rfl, ?_⟩) ?_ ?_
          rotate_left
          · intro w'
            go_simp
            with_reducible rfl
          rotate_left
          · simp only [Act.put, List.setIfInBounds_toArray, List.set_cons_zero, List.set_cons_succ, i64_w, i32_w]
            rfl
          refine pure_ (i := 12) (N := (some 34)) (v := ?_) (a' := ?_) #[true, true, true, true, true, true, true, true, true, true, true, true, true] rfl rfl (by kernel_rfl) (fun _ _ _ h => h) (Or.inl ⟨by rfl, ?_⟩) ?_ ?_
          rotate_left
          · intro w'
            go_simp
            with_reducible rfl
          rotate_left
          · simp only [Act.put, List.setIfInBounds_toArray, List.set_cons_zero, List.set_cons_succ, i64_w, i32_w]
            rfl
          refine done_ (by kernel_rfl) ?_
          obtain ⟨e0, e1, e2, e3, e4, e5, e6, e7, f0, f1, f2⟩ := HD3.out
          have HSS := HS.out
          rw [if_neg (fun h => by have := HBB.out; rw [beq_eq_false_iff_ne] at this; exact this h)] at HSS
          have HS2 := Lib.hid HSS
          have B5 : Below wr.heap.size wr (wr.alloc (.cells #[.int .i64 y0, .int .i64 y1, .int .i64 y2, .int .i64 y3, .int .i64 y4, .int .i64 y5, .int .i64 y6, .int .i64 y7] 24)).drew := bl2 (below_alloc (Below.refl _ wr) _) (drew_below _)
          clear HSS HD2 HD3 HZ4 hbq HFR HP B5
          generalize (wr.alloc (.cells #[.int .i64 y0, .int .i64 y1, .int .i64 y2, .int .i64 y3, .int .i64 y4, .int .i64 y5, .int .i64 y6, .int .i64 y7] 24)).drew = WD at *
          have HO2 := Lib.hid (Kd.R_below HR.out B4)
          have HB4 := Lib.hid (HB.out.trans (B4.mono HB.out.size))
          go_wp2_with (first
            | ((with_reducible refine gate_builtin (b := .append) (xs := #[.tmp 55, .tmp 61]) rfl ?_); at_builtin; refine Kd.R_append k123 (w0 := W2) W2.heap.size rfl (.tmp 55) (.tmp 61) 80 123 (.agg #[(.int .i64 0), (.int .i64 0), (.int .i64 0)]) 24 rfl Tryz.underlying80 info123 rfl (by decide) (by decide) (.slice (some ⟨g2, 0, none⟩) L c3) out ⟨y5, y4, 1⟩ [.int .i64 y5, .int .i64 y4, .int .i64 1] (fun _ => True) (fun _ => False) rfl rfl ?aP (fun _ hk => hk.elim) ?aF ?aO ?aB ?aS ?aL ?_; (case aP => exact k123_mkM _ _ _ _); (case aF => exact (fun _ _ => trivial)); (case aO => exact HO2.out); (case aB => exact HB4.out); (case aS => exact HB4.out.size); (case aL => exact HU.out); intro v1 W5 ho hb hg hat; have HO5 := Lib.hid ho; have HB5 := Lib.hid hb; clear ho hb hg hat))
          go_roundg kq
          case measure => omega
          case rel =>
            refine ⟨i + 1, _, rfl, congrArg (Value.int .i64) hwj, ⟨KJ⟩, ⟨?_⟩, ⟨HB5.out⟩⟩
            rw [HT.out]
            rw [HS2.out]
            exact HO5.out
        · go_wp2_with (fail)
          refine start_ (n := 13) (S := fun w' : World => w'.cell? ⟨wr.heap.size, 0, none⟩ = some (.int .i64 y0) ∧ w'.cell? ⟨wr.heap.size, 1, none⟩ = some (.int .i64 y1) ∧ w'.cell? ⟨wr.heap.size, 2, none⟩ = some (.int .i64 y2) ∧ w'.cell? ⟨wr.heap.size, 3, none⟩ = some (.int .i64 y3) ∧ w'.cell? ⟨wr.heap.size, 4, none⟩ = some (.int .i64 y4) ∧ w'.cell? ⟨wr.heap.size, 5, none⟩ = some (.int .i64 y5) ∧ w'.cell? ⟨wr.heap.size, 6, none⟩ = some (.int .i64 y6) ∧ w'.cell? ⟨wr.heap.size, 7, none⟩ = some (.int .i64 y7) ∧ w'.cell? ⟨g2, m * 3, none⟩ = some (.int .i64 z0) ∧ w'.cell? ⟨g2, m * 3 + 1, none⟩ = some (.int .i64 z1) ∧ w'.cell? ⟨g2, m * 3 + 2, none⟩ = some (.int .i64 z2)) (ds := []) #[false, false, false, false, false, false, false, false, false, false, false, false, false] (by kernel_rfl) rfl rfl HD3.out (fun hHeld => ?_)
          refine pure_ (i := 0) (N := (some 22)) (v := ?_) (a' := ?_) #[true, false, false, false, false, false, false, false, false, false, false, false, false] rfl rfl (by kernel_rfl) (fun _ _ _ h => h) (Or.inl ⟨by rfl, ?_⟩) ?_ ?_
          rotate_left
          · intro w'
            go_simp
            with_reducible rfl
          rotate_left
          · simp only [Act.put, List.setIfInBounds_toArray, List.set_cons_zero, List.set_cons_succ, i64_w, i32_w]
            rfl
          refine pure_ (i := 1) (N := (some 23)) (v := ?_) (a' := ?_) #[true, true, false, false, false, false, false, false, false, false, false, false, false] rfl rfl (by kernel_rfl) (fun _ _ _ h => h) (Or.inl ⟨by rfl, ?_⟩) ?_ ?_
          rotate_left
          · intro w'
            go_simp
            with_reducible rfl
          rotate_left
          · simp only [Act.put, List.setIfInBounds_toArray, List.set_cons_zero, List.set_cons_succ, i64_w, i32_w]
            rfl
          refine pure_ (i := 2) (N := (some 24)) (v := ?_) (a' := ?_) #[true, true, true, false, false, false, false, false, false, false, false, false, false] rfl rfl (by kernel_rfl) (fun _ _ _ h => h) (Or.inl ⟨by rfl, ?_⟩) ?_ ?_
          rotate_left
          · intro w'
            go_simp
            with_reducible rfl
          rotate_left
          · simp only [Act.put, List.setIfInBounds_toArray, List.set_cons_zero, List.set_cons_succ, i64_w, i32_w]
            rfl
          refine pure_ (i := 3) (N := (some 25)) (v := ?_) (a' := ?_) #[true, true, true, true, false, false, false, false, false, false, false, false, false] rfl rfl (by kernel_rfl) (fun _ _ _ h => h) (Or.inl ⟨by rfl, ?_⟩) ?_ ?_
          rotate_left
          · intro w'
            go_simp
            with_reducible rfl
          rotate_left
          · simp only [Act.put, List.setIfInBounds_toArray, List.set_cons_zero, List.set_cons_succ, i64_w, i32_w]
            rfl
          refine pure_ (i := 4) (N := (some 26)) (v := ?_) (a' := ?_) #[true, true, true, true, true, false, false, false, false, false, false, false, false] rfl rfl (by kernel_rfl) (fun _ _ _ h => h) (Or.inl ⟨by rfl, ?_⟩) ?_ ?_
          rotate_left
          · intro w'
            go_simp
            with_reducible rfl
          rotate_left
          · simp only [Act.put, List.setIfInBounds_toArray, List.set_cons_zero, List.set_cons_succ, i64_w, i32_w]
            rfl
          refine pure_ (i := 5) (N := (some 27)) (v := ?_) (a' := ?_) #[true, true, true, true, true, true, false, false, false, false, false, false, false] rfl rfl (by kernel_rfl) (fun _ _ _ h => h) (Or.inl ⟨by rfl, ?_⟩) ?_ ?_
          rotate_left
          · intro w'
            go_simp
            with_reducible rfl
          rotate_left
          · simp only [Act.put, List.setIfInBounds_toArray, List.set_cons_zero, List.set_cons_succ, i64_w, i32_w]
            rfl
          refine pure_ (i := 6) (N := (some 28)) (v := ?_) (a' := ?_) #[true, true, true, true, true, true, true, false, false, false, false, false, false] rfl rfl (by kernel_rfl) (fun _ _ _ h => h) (Or.inl ⟨by rfl, ?_⟩) ?_ ?_
          rotate_left
          · intro w'
            go_simp
            with_reducible rfl
          rotate_left
          · simp only [Act.put, List.setIfInBounds_toArray, List.set_cons_zero, List.set_cons_succ, i64_w, i32_w]
            rfl
          refine pure_ (i := 7) (N := (some 29)) (v := ?_) (a' := ?_) #[true, true, true, true, true, true, true, true, false, false, false, false, false] rfl rfl (by kernel_rfl) (fun _ _ _ h => h) (Or.inl ⟨by rfl, ?_⟩) ?_ ?_
          rotate_left
          · intro w'
            go_simp
            with_reducible rfl
          rotate_left
          · simp only [Act.put, List.setIfInBounds_toArray, List.set_cons_zero, List.set_cons_succ, i64_w, i32_w]
            rfl
          refine take_ (i := 8) (N := (some 30)) (v := ?_) (a' := ?_) #[true, true, true, true, true, true, true, true, true, false, false, false, false] rfl rfl (by kernel_rfl) (fun _ _ _ h => h) (Or.inl ⟨by rfl, ?_⟩) hHeld ?_ ?_
          rotate_left
          · rintro w' ⟨s0, s1, s2, s3, s4, s5, s6, s7, s8, s9, s10⟩
            go_simp
            with_reducible rfl
          rotate_left
          · simp only [Act.put, List.setIfInBounds_toArray, List.set_cons_zero, List.set_cons_succ, i64_w, i32_w]
            rfl
          refine pure_ (i := 9) (N := (some 31)) (v := ?_) (a' := ?_) #[true, true, true, true, true, true, true, true, true, true, false, false, false] rfl rfl (by kernel_rfl) (fun _ _ _ h => h) (Or.inl ⟨by rfl, ?_⟩) ?_ ?_
          rotate_left
          · intro w'
            go_simp
            with_reducible rfl
          rotate_left
          · simp only [Act.put, List.setIfInBounds_toArray, List.set_cons_zero, List.set_cons_succ, i64_w, i32_w]
            rfl
          refine take_ (i := 10) (N := (some 32)) (v := ?_) (a' := ?_) #[true, true, true, true, true, true, true, true, true, true, true, false, false] rfl rfl (by kernel_rfl) (fun _ _ _ h => h) (Or.inl ⟨by rfl, ?_⟩) hHeld ?_ ?_
          rotate_left
          · rintro w' ⟨s0, s1, s2, s3, s4, s5, s6, s7, s8, s9, s10⟩
            go_simp
            with_reducible rfl
          rotate_left
          · simp only [Act.put, List.setIfInBounds_toArray, List.set_cons_zero, List.set_cons_succ, i64_w, i32_w]
            rfl
          refine pure_ (i := 11) (N := (some 33)) (v := ?_) (a' := ?_) #[true, true, true, true, true, true, true, true, true, true, true, true, false] rfl rfl (by kernel_rfl) (fun _ _ _ h => h) (Or.inl ⟨by rfl, ?_⟩) ?_ ?_
          rotate_left
          · intro w'
            go_simp
            with_reducible rfl
          rotate_left
          · simp only [Act.put, List.setIfInBounds_toArray, List.set_cons_zero, List.set_cons_succ, i64_w, i32_w]
            rfl
          refine pure_ (i := 12) (N := (some 34)) (v := ?_) (a' := ?_) #[true, true, true, true, true, true, true, true, true, true, true, true, true] rfl rfl (by kernel_rfl) (fun _ _ _ h => h) (Or.inl ⟨by rfl, ?_⟩) ?_ ?_
          rotate_left
          · intro w'
            go_simp
            with_reducible rfl
          rotate_left
          · simp only [Act.put, List.setIfInBounds_toArray, List.set_cons_zero, List.set_cons_succ, i64_w, i32_w]
            rfl
          refine done_ (by kernel_rfl) ?_
          obtain ⟨e0, e1, e2, e3, e4, e5, e6, e7, f0, f1, f2⟩ := HD3.out
          have hfr := HFR.out
          clear HD2 HD3 HZ4 hbq HFR
          generalize (wr.alloc (.cells #[.int .i64 y0, .int .i64 y1, .int .i64 y2, .int .i64 y3, .int .i64 y4, .int .i64 y5, .int .i64 y6, .int .i64 y7] 24)).drew = WD at *
          have HB4 := Lib.hid (HB.out.trans (B4.mono HB.out.size))
          have HPW := Lib.hid (HP.out WD B4)
          have n1 : ∀ (W : World) (v : Value), (W.setCell ⟨g2, m * 3 + 1, none⟩ v).cell? ⟨g2, m * 3 + 2, none⟩ = W.cell? ⟨g2, m * 3 + 2, none⟩ := fun W v => away v (by omega)
          go_wp2_with (fail)
          go_region
          all_goals (
            go_wp2_with (fail)
            go_roundg kq
            case measure => omega
            case rel =>
              refine ⟨i + 1, _, rfl, congrArg (Value.int .i64) hwj, ⟨KJ⟩, ⟨?_⟩, ⟨?_⟩⟩
              · rw [HT.out, HS.out, if_pos (by have := HBB.out; exact beq_iff_eq.1 this)]
                exact Kd.R_below HPW.out.1 (drew_below _)
              · exact (below_grown HB4.out HPW.out.2 (fun k hk => by have h1 := Kd.R_base HR.out k hk; exact h1) HB4.out.size).drew)
    · have c4a : decide ((i : Int) < (zs.length : Int)) = false := decide_eq_false (by omega)
      have c4b : decide (i < zs.length) = false := decide_eq_false c4
      obtain rfl : i = zs.length := by omega
      have hr := HR.out
      rw [List.take_length] at hr
      obtain ⟨A3, c3, hu⟩ := Kd.R_slice hr
      subst hu
      have HRI := Lib.hid hr
      clear c4 hi1 hi2 hr
      go_wp2_with (fail)
      go_ret
      exact ⟨A3, c3, rfl, Kd.R_lower HRI.out HB2.out.size, HB2.out.trans (HB.out.mono HB2.out.size)⟩
end Go.Proofs.YtlhdbcjlmkglkaaGreat.Q

/- The document's Cancel, Less, Drop, plain. -/
set_option linter.unusedSimpArgs false
set_option linter.unusedVariables false
namespace Go.Proofs.YtlhdbcjlmkglkaaGreat.Q
open Go Go.RowKit Go.Proofs Go.Proofs.YtlhdbcjlmkglkaaGreat.PL Go.Proofs.YtlhdbcjlmkglkaaGreatW.PrintWords
theorem find_k (id : Int) (xs : List S24) (hl : xs.length ≤ 1000000) : ∀ k, xs.length + 1 ≤ k → lombardref21_Find.f k xs id = some (findI id xs) := by
  intro k hk
  induction k with
  | zero => omega
  | succ k ih =>
    by_cases e : k = xs.length
    · subst e; exact find_f id xs hl
    · exact lombardref21_Find.mono _ _ _ _ (ih (by omega))
theorem without_f (xs : List S24) (k : Nat) (hk : k < xs.length) (hl : xs.length ≤ 1000000) : lombardref21_without.f xs (k : Int) = some (xs.eraseIdx k) := by
  have hw : wrap64 ((k : Int) + 1) = ((k + 1 : Nat) : Int) := w1n k (by omega)
  unfold lombardref21_without.f
  rw [hw]
  simp only [Option.bind_some]
  rw [if_pos (by omega), if_pos (by omega), Int.toNat_natCast, Int.toNat_natCast, List.nil_append, if_pos (by simp; omega), if_pos (by omega), if_pos (by omega), if_pos (by simp; omega), ← List.eraseIdx_eq_take_drop_succ]
theorem can_no {m id : Int} {xs : List S24} (h : findI id xs = -1) : canE m id xs = 6 ∧ canL m id xs = xs := by
  have e : canE m id xs = 6 := by unfold canE; rw [h, if_pos (by decide)]
  exact ⟨e, by unfold canL; rw [e, if_neg (by decide)]⟩
theorem can_yes {m id : Int} {xs : List S24} {k : Nat} (h : findI id xs = (k : Int)) (hm : (rd_T24 xs (k : Int)).f1 = m) : canE m id xs = 0 ∧ canL m id xs = xs.eraseIdx k := by
  have e : canE m id xs = 0 := by unfold canE; rw [h, if_neg (by omega), if_pos hm]
  exact ⟨e, by unfold canL; rw [e, if_pos rfl, h]; rfl⟩
theorem can_ne {m id : Int} {xs : List S24} {k : Nat} (h : findI id xs = (k : Int)) (hm : ¬ (rd_T24 xs (k : Int)).f1 = m) : canE m id xs = 22 ∧ canL m id xs = xs := by
  have e : canE m id xs = 22 := by unfold canE; rw [h, if_neg (by omega), if_neg hm]
  exact ⟨e, by unfold canL; rw [e, if_neg (by decide)]⟩
theorem rcancel_f (m id : Int) (xs : List S24) (hl : xs.length ≤ 1000000) : lombardref21_Cancel.f (xs.length + 1) xs m id = some (canL m id xs, canE m id xs) := by
  unfold lombardref21_Cancel.f
  rw [find_k id xs hl _ (Nat.le_refl _), Option.bind_some]
  rcases find_cases id xs with h | ⟨k, hk, h⟩
  · rw [(can_no h).1, (can_no h).2, h, if_pos (by decide)]
  · by_cases hm : (rd_T24 xs (k : Int)).f1 = m
    · rw [(can_yes h hm).1, (can_yes h hm).2, h, if_neg (by omega), if_pos (by omega), if_pos (by omega), if_pos hm, without_f xs k hk hl]
      rfl
    · rw [(can_ne h hm).1, (can_ne h hm).2, h, if_neg (by omega), if_pos (by omega), if_pos (by omega), if_neg hm]
theorem les_no {n id : Int} {xs : List S24} (h : findI id xs = -1) : lesE id n xs = 6 ∧ lesL id n xs = xs := by
  have e : lesE id n xs = 6 := by unfold lesE; rw [h, if_pos (by decide)]
  exact ⟨e, by unfold lesL; rw [e, if_neg (by decide)]⟩
theorem les_arg {n id : Int} {xs : List S24} {k : Nat} (h : findI id xs = (k : Int)) (hn : n < 1 ∨ (rd_T24 xs (k : Int)).f4 < n) : lesE id n xs = 1 ∧ lesL id n xs = xs := by
  have e : lesE id n xs = 1 := by unfold lesE; rw [h, if_neg (by omega), if_pos hn]
  exact ⟨e, by unfold lesL; rw [e, if_neg (by decide)]⟩
theorem les_all {n id : Int} {xs : List S24} {k : Nat} (h : findI id xs = (k : Int)) (hn : ¬ (n < 1 ∨ (rd_T24 xs (k : Int)).f4 < n)) (he : n = (rd_T24 xs (k : Int)).f4) : lesE id n xs = 0 ∧ lesL id n xs = xs.eraseIdx k := by
  have e : lesE id n xs = 0 := by unfold lesE; rw [h, if_neg (by omega), if_neg hn]
  exact ⟨e, by unfold lesL; rw [e, if_pos rfl, h, if_pos he]; rfl⟩
theorem les_some {n id : Int} {xs : List S24} {k : Nat} (h : findI id xs = (k : Int)) (hn : ¬ (n < 1 ∨ (rd_T24 xs (k : Int)).f4 < n)) (he : ¬ n = (rd_T24 xs (k : Int)).f4) : lesE id n xs = 0 ∧ lesL id n xs = xs.set k (withAmt (rd_T24 xs (k : Int)) ((rd_T24 xs (k : Int)).f4 - n)) := by
  have e : lesE id n xs = 0 := by unfold lesE; rw [h, if_neg (by omega), if_neg hn]
  exact ⟨e, by unfold lesL; rw [e, if_pos rfl, h, if_neg he]; rfl⟩
theorem rless_f (id n : Int) (xs : List S24) (hl : xs.length ≤ 1000000) (hi : Inv xs) : lombardref21_Less.f (xs.length + 1) xs id n = some (lesL id n xs, lesE id n xs) := by
  unfold lombardref21_Less.f
  rw [find_k id xs hl _ (Nat.le_refl _), Option.bind_some]
  rcases find_cases id xs with h | ⟨k, hk, h⟩
  · rw [(les_no h).1, (les_no h).2, h, if_pos (by decide)]
  · have hy0 : rd_T24 xs (k : Int) ∈ xs := by
      unfold rd_T24
      rw [List.getD_eq_getElem?_getD, Int.toNat_natCast, List.getElem?_eq_getElem hk]
      exact List.getElem_mem hk
    have hyi := hi _ hy0
    by_cases h1 : n < 1
    · rw [(les_arg h (.inl h1)).1, (les_arg h (.inl h1)).2, h, if_neg (by omega), if_pos h1, lombardref21_Less.j0, if_pos rfl]
    by_cases h2 : (rd_T24 xs (k : Int)).f4 < n
    · rw [(les_arg h (.inr h2)).1, (les_arg h (.inr h2)).2, h, if_neg (by omega), if_neg h1, if_pos (by omega), if_pos (by omega), decide_eq_true h2, lombardref21_Less.j0, if_pos rfl]
    have hn : ¬ (n < 1 ∨ (rd_T24 xs (k : Int)).f4 < n) := by omega
    by_cases h3 : n = (rd_T24 xs (k : Int)).f4
    · rw [(les_all h hn h3).1, (les_all h hn h3).2, h, if_neg (by omega), if_neg h1, if_pos (by omega), if_pos (by omega), decide_eq_false h2, lombardref21_Less.j0, if_neg (by decide), if_pos (by omega), if_pos (by omega), if_pos h3, without_f xs k hk hl]
      rfl
    · rw [(les_some h hn h3).1, (les_some h hn h3).2, h, if_neg (by omega), if_neg h1, if_pos (by omega), if_pos (by omega), decide_eq_false h2, lombardref21_Less.j0, if_neg (by decide), if_pos (by omega), if_pos (by omega), if_neg h3]
      simp only [Option.bind_some, List.nil_append]
      rw [if_pos (by simp; omega), if_pos (by omega), w64 _ (by omega)]
      rfl
def dropP (m d : Int) (x : S24) : Bool := (decide (m > 0) && (x.f1 == m)) || decide (x.f6 < d)
theorem dropl_f (m d : Int) (xs : List S24) (hl : xs.length ≤ 1000000) : ∀ (f j : Nat), xs.length ≤ j + f → j ≤ xs.length →
    lombardref21_Drop.l0 (f + 1) xs m d ((xs.take j).filter fun x => !dropP m d x) (((xs.take j).filter (dropP m d)).map fun x => x.f0) (j : Int) = some (xs.filter fun x => !dropP m d x, (xs.filter (dropP m d)).map fun x => x.f0)
  | 0, j, h, hj => by
    obtain rfl : j = xs.length := by omega
    rw [lombardref21_Drop.l0, if_neg (by omega), List.take_length]
  | f + 1, j, h, hj => by
    by_cases hlt : j < xs.length
    · have hn := take_next xs j hlt
      have l1 := List.length_filter_le (dropP m d) (xs.take j)
      have l2 := List.length_filter_le (fun x => !dropP m d x) (xs.take j)
      have lt : (xs.take j).length = j := by rw [List.length_take]; omega
      have hw : wrap64 ((j : Int) + 1) = ((j + 1 : Nat) : Int) := w1n j (by omega)
      have ih := dropl_f m d xs hl f (j + 1) (by omega) (by omega)
      rw [hn, List.filter_append, List.filter_append, List.map_append] at ih
      have g1 : (((xs.take j).filter (dropP m d)).map fun x => x.f0).length < 17592186044416 := by rw [List.length_map]; omega
      have g2 : ((xs.take j).filter fun x => !dropP m d x).length < 2199023255552 := by omega
      rw [lombardref21_Drop.l0, if_pos (by omega), if_pos (show (0 : Int) ≤ (j : Int) by omega), hw, if_pos g1, if_pos g2]
      generalize rd_T24 xs (j : Int) = y at *
      obtain ⟨y0, y1, y2, y3, y4, y5, y6, y7⟩ := y
      simp only at *
      by_cases a1 : m > 0
      · rw [if_pos a1]
        by_cases a2 : y1 = m
        · have hp : dropP m d ⟨y0, y1, y2, y3, y4, y5, y6, y7⟩ = true := by unfold dropP; simp [a1, a2]
          rw [if_pos a2]
          simpa [hp] using ih
        · rw [if_neg a2]
          by_cases a3 : y6 < d
          · have hp : dropP m d ⟨y0, y1, y2, y3, y4, y5, y6, y7⟩ = true := by unfold dropP; simp [a3]
            rw [if_pos a3]
            simpa [hp] using ih
          · have hp : dropP m d ⟨y0, y1, y2, y3, y4, y5, y6, y7⟩ = false := by unfold dropP; simp [a2, a3]
            rw [if_neg a3]
            simpa [hp] using ih
      · rw [if_neg a1]
        by_cases a3 : y6 < d
        · have hp : dropP m d ⟨y0, y1, y2, y3, y4, y5, y6, y7⟩ = true := by unfold dropP; simp [a3]
          rw [if_pos a3]
          simpa [hp] using ih
        · have hp : dropP m d ⟨y0, y1, y2, y3, y4, y5, y6, y7⟩ = false := by unfold dropP; simp [a1, a3]
          rw [if_neg a3]
          simpa [hp] using ih
    · obtain rfl : j = xs.length := by omega
      rw [lombardref21_Drop.l0, if_neg (by omega), List.take_length]
theorem rdrop_f (m d : Int) (xs : List S24) (hl : xs.length ≤ 1000000) : lombardref21_Drop.f (xs.length + 1) xs m d = some (xs.filter fun x => !dropP m d x, (xs.filter (dropP m d)).map fun x => x.f0) := by
  have := dropl_f m d xs hl xs.length 0 (by omega) (Nat.zero_le _)
  exact this
end Go.Proofs.YtlhdbcjlmkglkaaGreat.Q
