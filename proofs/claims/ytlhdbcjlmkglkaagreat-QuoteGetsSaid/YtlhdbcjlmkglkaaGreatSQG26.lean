/- Part 26 of the proof's texts: what the theorem needs of them. -/
import Derived.Test.YtlhdbcjlmkglkaaGreatSQG25
import Derived.Lib.Small

set_option linter.unusedVariables false
set_option linter.unusedSimpArgs false
/- slices.DeleteFunc at quotes. -/
set_option linter.unusedSimpArgs false
set_option linter.unusedVariables false
namespace Go.Proofs.YtlhdbcjlmkglkaaGreat.Q
open Go Go.RowKit Go.Proofs Go.Proofs.YtlhdbcjlmkglkaaGreat.PL Go.Proofs.YtlhdbcjlmkglkaaGreatW.PrintWords
/-- A function value with one captured cell, that tells p of a quote wherever the cell holds cv. -/
def PredK (G k : Nat) (cv : Value) (p : S24 → Bool) : Prop :=
  ∀ (W : World) (x : S24), W.cell? ⟨k, 0, none⟩ = some cv → Calls Tryz.prog G (#[qA x] ++ #[.pointer (some ⟨k, 0, none⟩)]) W fun e w' => e = .returned (.bool (p x)) ∧ Below W.heap.size W w'
theorem leaveK (k : Nat) (m : Int) : PredK 59 k (.int .i64 m) (fun x => x.f1 == m) := fun W x h => leave1 k m W h W x (Below.refl _ W)
theorem expireK (k : Nat) (d : Int) : PredK 60 k (.int .i64 d) (fun x => decide (x.f6 < d)) := fun W x h => expire1 k d W h W x (Below.refl _ W)
theorem PredK.toC {G k : Nat} {cv : Value} {p : S24 → Bool} (h : PredK G k cv p) {w : World} (hc : w.cell? ⟨k, 0, none⟩ = some cv) : PredC G #[.pointer (some ⟨k, 0, none⟩)] p w :=
  fun W x hb => h W x (cell_below hc hb)
theorem idx_none {p : S24 → Bool} : ∀ {xs : List S24} {k : Nat}, idxF p xs (k : Int) = -1 → xs.filter (fun x => !p x) = xs
  | [], _, _ => rfl
  | x :: l, k, h => by
    rw [idxF] at h
    split at h
    · omega
    · next hp =>
      rw [List.filter_cons_of_pos (by simp [Bool.eq_false_iff.2 hp])]
      rw [idx_none (k := k + 1) h]
theorem idx_at {p : S24 → Bool} : ∀ {xs : List S24} {k j : Nat}, j < xs.length → idxF p xs (k : Int) = ((k + j : Nat) : Int) → p (rd_T24 xs (j : Int)) = true ∧ (xs.take j).filter (fun x => !p x) = xs.take j
  | x :: l, k, 0, _, h => by
    rw [idxF] at h
    split at h
    · next hp => exact ⟨hp, rfl⟩
    · exfalso
      have e : (k : Int) + 1 = ((k + 1 : Nat) : Int) := rfl
      rw [e] at h
      rcases idx_cases p l (k + 1) with h2 | ⟨i, _, h2⟩ <;> rw [h2] at h <;> omega
  | x :: l, k, j + 1, hj, h => by
    rw [idxF] at h
    split at h
    · omega
    · next hp =>
      obtain ⟨h1, h2⟩ := idx_at (xs := l) (k := k + 1) (j := j) (by simpa using hj) (by rw [show ((k + 1 : Nat) : Int) = (k : Int) + 1 from rfl, h]; congr 1; omega)
      refine ⟨h1, ?_⟩
      rw [List.take_succ_cons, List.filter_cons_of_pos (by simp [Bool.eq_false_iff.2 hp]), h2]
theorem take_next (xs : List S24) (j : Nat) (h : j < xs.length) : xs.take (j + 1) = xs.take j ++ [rd_T24 xs (j : Int)] := by
  unfold rd_T24
  rw [List.getD_eq_getElem?_getD, Int.toNat_natCast, List.getElem?_eq_getElem h]
  exact (List.take_append_getElem h).symm
theorem rd_of_drop {xs ys : List S24} {j : Nat} (hj : j < xs.length) (hl : ys.length = xs.length) (h : ys.drop j = xs.drop j) : rd_T24 ys (j : Int) = rd_T24 xs (j : Int) := by
  have h1 := rd_drop xs j hj
  have h2 := rd_drop ys j (by omega)
  rw [h1, h2] at h
  exact (List.cons.inj h).1
theorem drop_next {xs ys : List S24} {j : Nat} (h : ys.drop j = xs.drop j) : ys.drop (j + 1) = xs.drop (j + 1) := by
  have := congrArg List.tail h
  rwa [List.tail_drop, List.tail_drop] at this
theorem R_put {W : World} {B g c n : Nat} {ok : Nat → Prop} {xs : List S24} {k : Nat} (h : Kd.R k24 24 W B ok (.slice (some ⟨g, 0, none⟩) n c) xs) (hk : k < xs.length) (x : S24) :
    Kd.R k24 24 (W.setCells g (k * 8) (qL x)) B ok (.slice (some ⟨g, 0, none⟩) n c) (xs.set k x) ∧ W.grownBy (W.setCells g (k * 8) (qL x)) (some g) := by
  obtain ⟨hn, hnc, hC⟩ := Kd.R_reads' h
  obtain ⟨c0, c1, c2, c3, c4, c5, c6, c7⟩ := row_at hC hk
  have hcc : ∀ j u, (qL (rd_T24 xs (k : Int)))[j]? = some u → W.cell? ⟨g, ((k : Int)).toNat * k24.sz + j, none⟩ = some u := by
    intro j u hu
    match j, hu with
    | 0, hu => exact Option.some.inj hu ▸ c0
    | 1, hu => exact Option.some.inj hu ▸ c1
    | 2, hu => exact Option.some.inj hu ▸ c2
    | 3, hu => exact Option.some.inj hu ▸ c3
    | 4, hu => exact Option.some.inj hu ▸ c4
    | 5, hu => exact Option.some.inj hu ▸ c5
    | 6, hu => exact Option.some.inj hu ▸ c6
    | 7, hu => exact Option.some.inj hu ▸ c7
    | j + 8, hu => cases hu
  exact Kd.R_seg (okp := fun _ => False) (j := 0) (seg := qL x) (x' := x) h (k : Int) (by omega) (by omega) (c := qL (rd_T24 xs (k : Int))) rfl hcc (show 0 + 8 ≤ 8 by decide) (k24_mkM _ _ _ _) (fun _ h => h.elim)
theorem row_C {W : World} {B g c n : Nat} {ok : Nat → Prop} {xs : List S24} (h : Kd.R k24 24 W B ok (.slice (some ⟨g, 0, none⟩) n c) xs) (hl : xs.length = n) : Kd.C k24 W (some ⟨g, 0, none⟩) xs.length xs := (Kd.R_reads' h).2.2
theorem set_take : ∀ (ys : List S24) (i : Nat) (y : S24), i < ys.length → (ys.set i y).take (i + 1) = ys.take i ++ [y]
  | x :: l, 0, y, _ => by simp
  | x :: l, i + 1, y, h => by
    rw [List.set_cons_succ, List.take_succ_cons, set_take l i y (by simpa using h)]
    rfl
theorem cut_tail {i : TypeInfo} (hi : Tryz.prog.info? 24 = some i) (hsz : i.size = 8) (g n c lo : Nat) (hlo : lo ≤ n) (h2 : lo < c) :
    ∀ W : World, (Instr.slice 27 (.slice (some ⟨g, 0, none⟩) n c) (some (.int .i64 (lo : Int))) none none).run Tryz.prog W = .ok (.slice (some ⟨g, lo * 8, none⟩) (n - lo) (c - lo)) W := by
  intro W
  rw [cut_from (P := Tryz.prog) 27 24 .i64 Tryz.underlying27 hi 8 hsz (some ⟨g, 0, none⟩) n c (lo : Int) (by omega) (by omega) W, Int.toNat_natCast, if_neg (by omega)]
  show Result.ok (Value.slice (some ((⟨g, 0, none⟩ : Addr).add (lo * 8))) (n - lo) (c - lo)) W = _
  have e : (⟨g, 0, none⟩ : Addr).add (lo * 8) = ⟨g, lo * 8, none⟩ := by
    unfold Addr.add
    split
    · next h0 => rw [h0]
    · simp
  rw [e]
theorem w1n (n : Nat) (h : n ≤ 2000000) : wrap64 ((n : Int) + 1) = ((n + 1 : Nat) : Int) := by rw [w64 _ (by omega)]; rfl
set_option maxHeartbeats 400000 in
set_option maxRecDepth 1000000 in
theorem deletef_some (G k : Nat) (cv : Value) (p : S24 → Bool) (hp : PredK G k cv p) (eg : ∀ args w, (callFunc G args).run Tryz.prog w = .ok (.enter G args) w) (B : Nat) (ok : Nat → Prop) (g c i0 : Nat) (xs : List S24) (w : World)
    (hR : Kd.R k24 24 w B ok (.slice (some ⟨g, 0, none⟩) xs.length c) xs) (hc : w.cell? ⟨k, 0, none⟩ = some cv) (hkg : k ≠ g) (hlen : xs.length ≤ 1000000) (hi0 : i0 < xs.length) (hidx : idxF p xs 0 = (i0 : Int)) :
    Calls Tryz.prog 73 #[.slice (some ⟨g, 0, none⟩) xs.length c, .func (.func G) #[] #[.pointer (some ⟨k, 0, none⟩)]] w fun e w' =>
      e = .returned (.slice (some ⟨g, 0, none⟩) (xs.filter fun x => !p x).length c) ∧ Kd.R k24 24 w' B ok (.slice (some ⟨g, 0, none⟩) (xs.filter fun x => !p x).length c) (xs.filter fun x => !p x) ∧ w.grownBy w' (some g) := by
  have hu24 := Tryz.underlying24
  obtain ⟨i024, hi24, _, hsz24, _⟩ := info_parts info24
  have hix := idx_any G _ eg p (some ⟨g, 0, none⟩) c xs w (hp.toC hc) (Kd.R_reads' hR).2.2 hlen
  rw [hidx] at hix
  obtain ⟨hpt, hft⟩ := idx_at (k := 0) hi0 (by rw [Nat.zero_add]; exact hidx)
  obtain ⟨_, hcap, _⟩ := Kd.R_reads' hR
  have HP := Lib.hid hp
  have HR := Lib.hid hR
  have HC := Lib.hid hc
  have HL := Lib.hid (And.intro hlen (And.intro hi0 hcap))
  have HF := Lib.hid (And.intro hpt hft)
  have hne : ((i0 : Int) == -1) = false := beq_eq_false_iff_ne.2 (by omega)
  have hib : i0 ≤ 2000000 := by omega
  have hwi := w1n i0 hib
  clear hp hR hc hpt hft hidx
  go_enter Tryz.func73, Tryz.ntmps73
  go_wp2_with (first | (go_at_call 66; refine hix.mono ?_; rintro e W1 ⟨rfl, b1⟩))
  go_loopg [5, 6] (xs.length + 1) (fun kq v5 v6 w' => ∃ (i j : Nat) (ys : List S24), v5 = .int .i64 (i : Int) ∧ v6 = .int .i64 (j : Int) ∧ Aside0 (i < j ∧ j ≤ xs.length ∧ xs.length + 1 ≤ j + kq) ∧ Aside0 (ys.length = xs.length ∧ ys.take i = (xs.take j).filter (fun x => !p x) ∧ ys.drop j = xs.drop j) ∧ Aside0 (Kd.R k24 24 w' B ok (.slice (some ⟨g, 0, none⟩) xs.length c) ys) ∧ Aside0 (w.grownBy w' (some g)) ∧ Aside0 (w'.cell? ⟨k, 0, none⟩ = some cv))
  case atStart =>
    refine ⟨i0, i0 + 1, xs, rfl, rfl, ⟨by omega⟩, ⟨rfl, ?_, rfl⟩, ⟨Kd.R_below HR.out b1⟩, ⟨⟨b1.os, b1.tape, b1.output, b1.size, fun k hk _ => b1.block k hk⟩⟩, ⟨cell_below HC.out b1⟩⟩
    rw [take_next xs i0 hi0, List.filter_append, HF.out.2, List.filter_cons_of_neg (by simp [HF.out.1]), List.filter_nil, List.append_nil]
  case round =>
    obtain ⟨i, j, ys, rfl, rfl, HIJ, HY, HRR, HG, HCC⟩ := hrel
    clear hwi
    obtain ⟨hij, hjl, hjk⟩ := HIJ.out
    obtain ⟨hyl, hyt, hyd⟩ := HY.out
    cases gk with
    | zero => omega
    | succ k0 =>
      by_cases c4 : j < xs.length
      · have c4a : decide ((j : Int) < (xs.length : Int)) = true := decide_eq_true (by omega)
        have c4b : decide (j < xs.length) = true := decide_eq_true c4
        have pj : (0 ≤ (j : Int)) = True := eq_true (by omega)
        have pjl : ((j : Int) < (xs.length : Int)) = True := eq_true (by omega)
        have pi0 : (0 ≤ (i : Int)) = True := eq_true (by omega)
        have pil : ((i : Int) < (xs.length : Int)) = True := eq_true (by omega)
        have hCy : Kd.C k24 wr (some ⟨g, 0, none⟩) ys.length ys := (Kd.R_reads' HRR.out).2.2
        have hrow := row_at hCy (show j < ys.length by omega)
        rw [rd_of_drop c4 hyl hyd] at hrow
        obtain ⟨hx0, hx1, hx2, hx3, hx4, hx5, hx6, hx7⟩ := hrow
        have htn := take_next xs j c4
        generalize hy : rd_T24 xs (j : Int) = y at *
        have hpc := fun o : Obj => HP.out (wr.alloc o) y (cell_alloc HCC.out o)
        obtain ⟨b, hb⟩ : ∃ b, p y = b := ⟨_, rfl⟩
        rw [hb] at hpc
        have KJ : j + 1 ≤ xs.length ∧ xs.length + 1 ≤ j + 1 + k0 := by omega
        unfold qA at hpc
        have HN := Lib.hid (show k ≠ g ∧ i < ys.length from ⟨hkg, by omega⟩)
        have hjb : j ≤ 2000000 := by omega
        have hib : i ≤ 2000000 := by omega
        have hwj := w1n j hjb
        have hwi2 := w1n i hib
        clear hjb hib
        have HT := Lib.hid htn
        have HBB := Lib.hid hb
        clear c4 hij hjl hjk hyl hyt hyd htn hy hb hCy hi0 hlen
        cases b
        · obtain ⟨y0, y1, y2, y3, y4, y5, y6, y7⟩ := y
          simp only at *
          go_wp2_with (first | (go_at_fn G; refine (hpc _).mono ?_; rintro e W2 ⟨rfl, b2⟩; have z0 := cell_below (cell_new wr _ 24 0 (.int .i64 y0) rfl) b2; have z1 := cell_below (cell_new wr _ 24 1 (.int .i64 y1) rfl) b2; have z2 := cell_below (cell_new wr _ 24 2 (.int .i64 y2) rfl) b2; have z3 := cell_below (cell_new wr _ 24 3 (.int .i64 y3) rfl) b2; have z4 := cell_below (cell_new wr _ 24 4 (.int .i64 y4) rfl) b2; have z5 := cell_below (cell_new wr _ 24 5 (.int .i64 y5) rfl) b2; have z6 := cell_below (cell_new wr _ 24 6 (.int .i64 y6) rfl) b2; have z7 := cell_below (cell_new wr _ 24 7 (.int .i64 y7) rfl) b2; have B2 := bl2 (below_alloc (Below.refl _ wr) _) b2; have hR2 := Kd.R_below HRR.out B2; have hfr := fun j => R_frz hR2 j; obtain ⟨u0, u1, u2, u3, u4, u5, u6, u7⟩ := row_at (row_C hR2 HY.out.1) HN.out.2; clear hR2))
          go_roundg k0
          case measure => omega
          case rel =>
            obtain ⟨hyl, hyt, hyd⟩ := HY.out
            have hP := R_put (Kd.R_below HRR.out B2) HN.out.2 ⟨y0, y1, y2, y3, y4, y5, y6, y7⟩
            refine ⟨i + 1, j + 1, ys.set i ⟨y0, y1, y2, y3, y4, y5, y6, y7⟩, congrArg (Value.int .i64) hwi2, congrArg (Value.int .i64) hwj, ⟨by have := HIJ.out.1; omega, KJ.1, KJ.2⟩, ⟨by rw [List.length_set]; exact hyl, ?_, ?_⟩, ⟨hP.1⟩, ⟨grown_trans HG.out (grown_trans ⟨B2.os, B2.tape, B2.output, B2.size, fun k hk _ => B2.block k hk⟩ hP.2)⟩, ⟨keep_cell hP.2 (cell_below HCC.out B2) (fun e => HN.out.1 (Option.some.inj e))⟩⟩
            · rw [HT.out, List.filter_append, List.filter_cons_of_pos (by simp [HBB.out]), List.filter_nil, ← hyt]
              exact set_take ys i _ HN.out.2
            · rw [List.drop_set_of_lt (by have := HIJ.out.1; omega)]
              exact drop_next hyd
        · obtain ⟨y0, y1, y2, y3, y4, y5, y6, y7⟩ := y
          simp only at *
          go_wp2_with (first | (go_at_fn G; refine (hpc _).mono ?_; rintro e W2 ⟨rfl, b2⟩; have B2 := bl2 (below_alloc (Below.refl _ wr) _) b2))
          go_roundg k0
          case measure => omega
          case rel =>
            obtain ⟨hyl, hyt, hyd⟩ := HY.out
            refine ⟨i, j + 1, ys, rfl, congrArg (Value.int .i64) hwj, ⟨by have := HIJ.out.1; omega, KJ.1, KJ.2⟩, ⟨hyl, ?_, drop_next hyd⟩, ⟨Kd.R_below HRR.out B2⟩, ⟨grown_trans HG.out ⟨B2.os, B2.tape, B2.output, B2.size, fun k hk _ => B2.block k hk⟩⟩, ⟨cell_below HCC.out B2⟩⟩
            rw [HT.out, List.filter_append, List.filter_cons_of_neg (by simp [HBB.out]), List.filter_nil, List.append_nil]
            exact hyt
      · have c4a : decide ((j : Int) < (xs.length : Int)) = false := decide_eq_false (by omega)
        have c4b : decide (j < xs.length) = false := decide_eq_false c4
        obtain rfl : j = xs.length := by omega
        rw [List.take_length] at hyt
        have hil : i < xs.length := hij
        have hcut := cut_tail hi24 hsz24 g xs.length c i (by omega) (by omega)
        have hto := cut_to (P := Tryz.prog) 27 24 .i64 Tryz.underlying27 hi24 (some ⟨g, 0, none⟩) xs.length c (i : Int) (by omega) (by omega) hcap
        rw [Int.toNat_natCast] at hto
        obtain ⟨cur, hh, hcs⟩ := row_cells HRR.out
        have hclr := fun ty c' => clear_q wr ty g (i * 8) (xs.length - i) c' (by omega) (fun j hj => (row_some hh hcs _ (by omega)).1) (fun j hj => (row_some hh hcs _ (by omega)).2)
        have hti := Kd.R_take HRR.out (show i ≤ ys.length by omega)
        have hlt : (ys.take i).length = i := by rw [List.length_take]; omega
        have hRf := R_pasts (List.replicate ((xs.length - i) * 8) (Value.int .i64 0)) (i * 8) wr hti (by rw [hlt]; exact Nat.le_refl _)
        have hgf := grown_trans HG.out (grown_sets g (List.replicate ((xs.length - i) * 8) (Value.int .i64 0)) (i * 8) wr)
        have hfl : (xs.filter fun x => !p x).length = i := by rw [← hyt, hlt]
        rw [hyt] at hRf
        have HFL := Lib.hid hfl
        have HRF := Lib.hid hRf
        have HGF := Lib.hid hgf
        generalize hzs : List.replicate ((xs.length - i) * 8) (Value.int .i64 0) = zs at *
        clear hij hjl hjk hyl hyt hyd hil hh hcs hti hlt hRf hgf hfl hi0 hlen c4 hzs
        go_wp2_with (fail)
        go_ret
        exact ⟨congrArg (fun n => Ending.returned (Value.slice (some ⟨g, 0, none⟩) n c)) HFL.out.symm, by rw [HFL.out]; exact HRF.out, HGF.out⟩
end Go.Proofs.YtlhdbcjlmkglkaaGreat.Q

/- Board.Leave, Board.Expire. -/
set_option linter.unusedSimpArgs false
set_option linter.unusedVariables false
namespace Go.Proofs.YtlhdbcjlmkglkaaGreat.Q
open Go Go.RowKit Go.Proofs Go.Proofs.YtlhdbcjlmkglkaaGreat.PL Go.Proofs.YtlhdbcjlmkglkaaGreatW.PrintWords
theorem own_len (A : Option Addr) (n m c : Nat) : (Value.slice A n c).ownBlock = (Value.slice A m c).ownBlock := by cases A <;> rfl
theorem grown_below {w W : World} (hb : Below w.heap.size w W) (g : Option Nat) : w.grownBy W g := ⟨hb.os, hb.tape, hb.output, hb.size, fun k hk _ => hb.block k hk⟩
set_option maxHeartbeats 400000 in
set_option maxRecDepth 1000000 in
theorem deletef_any (G k : Nat) (cv : Value) (p : S24 → Bool) (hp : PredK G k cv p) (eg : ∀ args w, (callFunc G args).run Tryz.prog w = .ok (.enter G args) w) (B : Nat) (ok : Nat → Prop) (A : Option Addr) (c : Nat) (xs : List S24) (w : World)
    (hR : Kd.R k24 24 w B ok (.slice A xs.length c) xs) (hc : w.cell? ⟨k, 0, none⟩ = some cv) (hkg : some k ≠ (Value.slice A xs.length c).ownBlock) (hlen : xs.length ≤ 1000000) :
    Calls Tryz.prog 73 #[.slice A xs.length c, .func (.func G) #[] #[.pointer (some ⟨k, 0, none⟩)]] w fun e w' =>
      e = .returned (.slice A (xs.filter fun x => !p x).length c) ∧ Kd.R k24 24 w' B ok (.slice A (xs.filter fun x => !p x).length c) (xs.filter fun x => !p x) ∧ w.grownBy w' (Value.slice A xs.length c).ownBlock := by
  rcases idx_cases p xs 0 with h | ⟨j, hj, h⟩
  · rw [idx_none h]
    have hix := idx_any G _ eg p A c xs w (hp.toC hc) (Kd.R_reads' hR).2.2 hlen
    rw [show idxF p xs 0 = -1 from h] at hix
    have HR := Lib.hid hR
    clear hR hp h hc hkg hlen
    go_enter Tryz.func73, Tryz.ntmps73
    go_wp2_with (first | (go_at_call 66; refine hix.mono ?_; rintro e W1 ⟨rfl, b1⟩))
    go_ret
    exact ⟨rfl, Kd.R_below HR.out b1, grown_below b1 _⟩
  · obtain ⟨g, rfl⟩ := R_some hR (by omega)
    exact deletef_some G k cv p hp eg B ok g c j xs w hR hc (fun e => hkg (by rw [e]; rfl)) hlen hj (by rw [Nat.zero_add] at h; exact h)
set_option maxHeartbeats 400000 in
set_option maxRecDepth 1000000 in
theorem drop_any (G k : Nat) (cv : Value) (q : S24 → Bool) (hp : PredK G k cv q) (eg : ∀ args w, (callFunc G args).run Tryz.prog w = .ok (.enter G args) w) (B p : Nat) (A : Option Addr) (c : Nat) (xs : List S24) (w : World)
    (h : BO B p A c xs w) (hc : w.cell? ⟨k, 0, none⟩ = some cv) (hkg : some k ≠ (Value.slice A xs.length c).ownBlock) (hlen : xs.length ≤ 1000000) :
    Calls Tryz.prog 58 #[.pointer (some ⟨p, 0, none⟩), .func (.func G) #[] #[.pointer (some ⟨k, 0, none⟩)]] w fun e w' =>
      ∃ v, e = .returned v ∧ Kd.R (Kd.int .i64) 3 w' w.heap.size (fun _ => True) v ((xs.filter q).map fun x => x.f0) ∧ ∃ A' c', BO B p A' c' (xs.filter fun x => !q x) w' ∧ Fr p (Value.slice A xs.length c).ownBlock (Value.slice A' (xs.filter fun x => !q x).length c').ownBlock w w' := by
  have hu24 := Tryz.underlying24
  have HH := Lib.hid h
  have HP := Lib.hid hp
  have HC := Lib.hid (And.intro hc hkg)
  have HL := Lib.hid hlen
  have k0 := h.bd.c0
  clear h hp hc hkg hlen
  go_enter Tryz.func58, Tryz.ntmps58
  go_wp2
  go_loopg [5, 15] (xs.length + 1) (fun kq v5 v15 w' => ∃ (j : Nat), v15 = .int .i64 (j : Int) ∧ Aside0 (j ≤ xs.length ∧ xs.length + 1 ≤ j + kq) ∧ Aside0 (Kd.R (Kd.int .i64) 3 w' w.heap.size (fun _ => True) v5 (((xs.take j).filter q).map fun x => x.f0)) ∧ Aside0 (Below w.heap.size w w'))
  case atStart => exact ⟨0, rfl, ⟨by omega⟩, ⟨Kd.R_nil _ _ _ _ _⟩, ⟨Below.refl _ _⟩⟩
  case round =>
    obtain ⟨j, rfl, HJ, HR, HB⟩ := hrel
    obtain ⟨hjl, hjk⟩ := HJ.out
    have hlen := HL.out
    cases gk with
    | zero => omega
    | succ kq =>
      by_cases c4 : j < xs.length
      · have c4a : decide ((j : Int) < (xs.length : Int)) = true := decide_eq_true (by omega)
        have c4b : decide (j < xs.length) = true := decide_eq_true c4
        have pj : (0 ≤ (j : Int)) = True := eq_true (by omega)
        have pjl : ((j : Int) < (xs.length : Int)) = True := eq_true (by omega)
        obtain ⟨g, rfl⟩ := R_some HH.out.r (by omega)
        have hrow := row_at (HH.out.below HB.out).C c4
        have htn := take_next xs j c4
        generalize hy : rd_T24 xs (j : Int) = y at *
        obtain ⟨hx0, hx1, hx2, hx3, hx4, hx5, hx6, hx7⟩ := hrow
        have hpc := fun o : Obj => HP.out (wr.alloc o) y (cell_alloc (cell_below HC.out.1 HB.out) o)
        obtain ⟨b, hb⟩ : ∃ b, q y = b := ⟨_, rfl⟩
        rw [hb] at hpc
        have KJ : j + 1 ≤ xs.length ∧ xs.length + 1 ≤ j + 1 + kq := by omega
        have hjb : j ≤ 2000000 := by omega
        have hwj := w1n j hjb
        unfold qA at hpc
        have HT := Lib.hid htn
        have HBB := Lib.hid hb
        have HU := Lib.hid (show ((((xs.take j).filter q).map fun x => x.f0).length + 1) * 8 ≤ 140737488355328 by
          have h1 := List.length_filter_le q (xs.take j)
          rw [List.length_map]
          rw [List.length_take] at h1
          omega)
        clear c4 hjl hjk htn hy hb hlen hjb
        cases b
        · obtain ⟨y0, y1, y2, y3, y4, y5, y6, y7⟩ := y
          simp only at *
          go_wp2_with (first | (go_at_fn G; refine (hpc _).mono ?_; rintro e W2 ⟨rfl, b2⟩; have B2 := bl2 (below_alloc (Below.refl _ wr) _) b2))
          go_roundg kq
          case measure => omega
          case rel =>
            refine ⟨j + 1, congrArg (Value.int .i64) hwj, ⟨KJ⟩, ⟨?_⟩, ⟨HB.out.trans (B2.mono HB.out.size)⟩⟩
            rw [HT.out, List.filter_append, List.filter_cons_of_neg (by simp [HBB.out]), List.filter_nil, List.append_nil]
            exact Kd.R_below HR.out B2
        · obtain ⟨y0, y1, y2, y3, y4, y5, y6, y7⟩ := y
          simp only at *
          go_wp2_with (first
            | ((with_reducible refine gate_builtin (b := .append) (xs := #[.tmp 22, .tmp 25]) rfl ?_); at_builtin; refine Kd.R_append (Kd.int .i64) (w0 := w) w.heap.size rfl (.tmp 22) (.tmp 25) 44 3 (.int .i64 0) 8 rfl Tryz.underlying44 info3 rfl (by decide) (by decide) u5 (((xs.take j).filter q).map fun x => x.f0) y0 [.int .i64 y0] (fun _ => True) (fun _ => False) rfl rfl ?aP (fun _ hk => hk.elim) ?aF ?aO ?aB ?aS ?aL ?_; (case aP => exact rfl); (case aF => exact (fun _ _ => trivial)); (case aO => exact HO2.out); (case aB => exact HB2.out); (case aS => exact HB2.out.size); (case aL => exact HU.out); intro v1 W3 ho hb hg hat; have HO3 := Lib.hid ho; have HB3 := Lib.hid hb; clear ho hb hg hat)
            | (go_at_fn G; refine (hpc _).mono ?_; rintro e W2 ⟨rfl, b2⟩; have z0 := cell_below (cell_new wr _ 24 0 (.int .i64 y0) rfl) b2; have B2 := bl2 (below_alloc (Below.refl _ wr) _) b2; have HO2 := Lib.hid (Kd.R_below HR.out B2); have HB2 := Lib.hid (HB.out.trans (B2.mono HB.out.size))))
          go_roundg kq
          case measure => omega
          case rel =>
            refine ⟨j + 1, congrArg (Value.int .i64) hwj, ⟨KJ⟩, ⟨?_⟩, ⟨HB3.out⟩⟩
            rw [HT.out, List.filter_append, List.filter_cons_of_pos (by simp [HBB.out]), List.filter_nil, List.map_append]
            exact HO3.out
      · have c4a : decide ((j : Int) < (xs.length : Int)) = false := decide_eq_false (by omega)
        have c4b : decide (j < xs.length) = false := decide_eq_false c4
        obtain rfl : j = xs.length := by omega
        have hr := HR.out
        rw [List.take_length] at hr
        have HRI := Lib.hid hr
        have kk := (HH.out.below HB.out).bd.c0
        clear hjl hjk hlen c4 hr
        go_wp2_with (first | (go_at_call 73; refine (deletef_any G k cv q HP.out eg B (fun j => j ≠ p) A c xs _ ((HH.out.below HB.out).r) (cell_below HC.out.1 HB.out) HC.out.2 HL.out).mono ?_; rintro e W2 ⟨rfl, ho, hg⟩; have HZ := Lib.hid (HH.out.stored HB.out hg ho (.inl (own_len A _ _ c))); have HG := Lib.hid hg; have hbz := (HH.out.below HB.out).cut hg; have fz := hbz.frz 0; have cz := hbz.c0; clear ho hg hbz))
        go_ret
        refine ⟨_, rfl, ?_, _, _, HZ.out⟩
        have h1 := Kd.R_bound HRI.out
        have h2 := Kd.R_grown h1 HG.out (fun k hk e => by have := Kd.R_lt HH.out.r k e.symm; omega)
        exact Kd.R_mono (Kd.R_far h2 (p := ⟨p, 0, none⟩) (fun k hk => by have := HH.out.bd.lt; have := hk.2.1; show k ≠ p; omega) _) (fun _ _ => trivial)
end Go.Proofs.YtlhdbcjlmkglkaaGreat.Q

/- Board.Leave, Board.Expire, Board.Get. -/
set_option linter.unusedSimpArgs false
set_option linter.unusedVariables false
namespace Go.Proofs.YtlhdbcjlmkglkaaGreat.Q
open Go Go.RowKit Go.Proofs Go.Proofs.YtlhdbcjlmkglkaaGreat.PL Go.Proofs.YtlhdbcjlmkglkaaGreatW.PrintWords
set_option maxHeartbeats 400000 in
set_option maxRecDepth 1000000 in
theorem leave_any (B p : Nat) (m : Int) (A : Option Addr) (c : Nat) (xs : List S24) (w : World) (h : BO B p A c xs w) (hlen : xs.length ≤ 1000000) :
    Calls Tryz.prog 30 #[.pointer (some ⟨p, 0, none⟩), .int .i64 m] w fun e w' =>
      ∃ v, e = .returned v ∧ Kd.R (Kd.int .i64) 3 w' w.heap.size (fun _ => True) v ((xs.filter fun x => x.f1 == m).map fun x => x.f0) ∧ ∃ A' c', BO B p A' c' (xs.filter fun x => !(x.f1 == m)) w' ∧ Fr p (Value.slice A xs.length c).ownBlock (Value.slice A' (xs.filter fun x => !(x.f1 == m)).length c').ownBlock w w' := by
  have hmf := mkFunc
  have hcl : ∀ o : Obj, o = .cells #[.int .i64 m] 3 → _ := fun o ho =>
    drop_any 59 w.heap.size (.int .i64 m) (fun x => x.f1 == m) (leaveK _ m) (enters_of Tryz.func59 (by kernel_rfl) rfl) B p A c xs (w.alloc o) (h.below (below_alloc (Below.refl _ w) o)) (by subst ho; exact cell_new w _ 3 0 _ rfl) (fun e => Nat.lt_irrefl _ (Kd.R_lt h.r _ e.symm)) hlen
  have HCL := Lib.hid (hcl _ rfl)
  clear hcl h
  go_enter Tryz.func30, Tryz.ntmps30
  go_wp2_with (first | (go_at_call 58; refine HCL.out.mono ?_; rintro e W1 ⟨v, rfl, hr, A', c', hb, hf⟩))
  go_ret
  exact ⟨v, rfl, Kd.R_lower hr (by simp), A', c', hb, Fr.after (below_alloc (Below.refl _ w) _) hf⟩
set_option maxHeartbeats 400000 in
set_option maxRecDepth 1000000 in
theorem expire_any (B p : Nat) (m : Int) (A : Option Addr) (c : Nat) (xs : List S24) (w : World) (h : BO B p A c xs w) (hlen : xs.length ≤ 1000000) :
    Calls Tryz.prog 31 #[.pointer (some ⟨p, 0, none⟩), .int .i64 m] w fun e w' =>
      ∃ v, e = .returned v ∧ Kd.R (Kd.int .i64) 3 w' w.heap.size (fun _ => True) v ((xs.filter fun x => decide (x.f6 < m)).map fun x => x.f0) ∧ ∃ A' c', BO B p A' c' (xs.filter fun x => !decide (x.f6 < m)) w' ∧ Fr p (Value.slice A xs.length c).ownBlock (Value.slice A' (xs.filter fun x => !decide (x.f6 < m)).length c').ownBlock w w' := by
  have hmf := mkFunc
  have hcl : ∀ o : Obj, o = .cells #[.int .i64 m] 3 → _ := fun o ho =>
    drop_any 60 w.heap.size (.int .i64 m) (fun x => decide (x.f6 < m)) (expireK _ m) (enters_of Tryz.func60 (by kernel_rfl) rfl) B p A c xs (w.alloc o) (h.below (below_alloc (Below.refl _ w) o)) (by subst ho; exact cell_new w _ 3 0 _ rfl) (fun e => Nat.lt_irrefl _ (Kd.R_lt h.r _ e.symm)) hlen
  have HCL := Lib.hid (hcl _ rfl)
  clear hcl h
  go_enter Tryz.func31, Tryz.ntmps31
  go_wp2_with (first | (go_at_call 58; refine HCL.out.mono ?_; rintro e W1 ⟨v, rfl, hr, A', c', hb, hf⟩))
  go_ret
  exact ⟨v, rfl, Kd.R_lower hr (by simp), A', c', hb, Fr.after (below_alloc (Below.refl _ w) _) hf⟩
theorem new_blk {w W1 : World} {cs : Array Value} {t : TypeId} (b1 : Below (w.alloc (.cells cs t)).heap.size (w.alloc (.cells cs t)) W1) : W1.heap[w.heap.size]? = some (.cells cs t (0, 0)) := by
  rw [b1.block w.heap.size (by simp)]
  unfold World.alloc
  simp
theorem blk_frz {W : World} {k : Nat} {cs : Array Value} {t : TypeId} (h : W.heap[k]? = some (.cells cs t (0, 0))) (j : Nat) : W.frozen? ⟨k, j, none⟩ = false := by simp [World.frozen?, h]
def putQ (W : World) (k : Nat) (x : S24) : World := ((((((((W.setCell ⟨k, 0, none⟩ (.int .i64 x.f0)).setCell ⟨k, 1, none⟩ (.int .i64 x.f1)).setCell ⟨k, 2, none⟩ (.int .i64 x.f2)).setCell ⟨k, 3, none⟩ (.int .i64 x.f3)).setCell ⟨k, 4, none⟩ (.int .i64 x.f4)).setCell ⟨k, 5, none⟩ (.int .i64 x.f5)).setCell ⟨k, 6, none⟩ (.int .i64 x.f6)).setCell ⟨k, 7, none⟩ (.int .i64 x.f7))
theorem put1 {W : World} {k : Nat} {cs cs' : Array Value} (h : W.heap[k]? = some (.cells cs 24 (0, 0))) (j : Nat) (v : Value) (e : cs.setIfInBounds j v = cs') : (W.setCell ⟨k, j, none⟩ v).heap[k]? = some (.cells cs' 24 (0, 0)) := by
  rw [← e]
  exact heap_setCell_same W k j _ _ v h
theorem put8 {W : World} {k : Nat} {a0 a1 a2 a3 a4 a5 a6 a7 : Value} (h : W.heap[k]? = some (.cells #[a0, a1, a2, a3, a4, a5, a6, a7] 24 (0, 0))) (x : S24) :
    (putQ W k x).heap[k]? = some (.cells #[.int .i64 x.f0, .int .i64 x.f1, .int .i64 x.f2, .int .i64 x.f3, .int .i64 x.f4, .int .i64 x.f5, .int .i64 x.f6, .int .i64 x.f7] 24 (0, 0)) :=
  put1 (cs := #[.int .i64 x.f0, .int .i64 x.f1, .int .i64 x.f2, .int .i64 x.f3, .int .i64 x.f4, .int .i64 x.f5, .int .i64 x.f6, a7]) (cs' := #[.int .i64 x.f0, .int .i64 x.f1, .int .i64 x.f2, .int .i64 x.f3, .int .i64 x.f4, .int .i64 x.f5, .int .i64 x.f6, .int .i64 x.f7]) (put1 (cs := #[.int .i64 x.f0, .int .i64 x.f1, .int .i64 x.f2, .int .i64 x.f3, .int .i64 x.f4, .int .i64 x.f5, a6, a7]) (cs' := #[.int .i64 x.f0, .int .i64 x.f1, .int .i64 x.f2, .int .i64 x.f3, .int .i64 x.f4, .int .i64 x.f5, .int .i64 x.f6, a7]) (put1 (cs := #[.int .i64 x.f0, .int .i64 x.f1, .int .i64 x.f2, .int .i64 x.f3, .int .i64 x.f4, a5, a6, a7]) (cs' := #[.int .i64 x.f0, .int .i64 x.f1, .int .i64 x.f2, .int .i64 x.f3, .int .i64 x.f4, .int .i64 x.f5, a6, a7]) (put1 (cs := #[.int .i64 x.f0, .int .i64 x.f1, .int .i64 x.f2, .int .i64 x.f3, a4, a5, a6, a7]) (cs' := #[.int .i64 x.f0, .int .i64 x.f1, .int .i64 x.f2, .int .i64 x.f3, .int .i64 x.f4, a5, a6, a7]) (put1 (cs := #[.int .i64 x.f0, .int .i64 x.f1, .int .i64 x.f2, a3, a4, a5, a6, a7]) (cs' := #[.int .i64 x.f0, .int .i64 x.f1, .int .i64 x.f2, .int .i64 x.f3, a4, a5, a6, a7]) (put1 (cs := #[.int .i64 x.f0, .int .i64 x.f1, a2, a3, a4, a5, a6, a7]) (cs' := #[.int .i64 x.f0, .int .i64 x.f1, .int .i64 x.f2, a3, a4, a5, a6, a7]) (put1 (cs := #[.int .i64 x.f0, a1, a2, a3, a4, a5, a6, a7]) (cs' := #[.int .i64 x.f0, .int .i64 x.f1, a2, a3, a4, a5, a6, a7]) (put1 (cs := #[a0, a1, a2, a3, a4, a5, a6, a7]) (cs' := #[.int .i64 x.f0, a1, a2, a3, a4, a5, a6, a7]) (h) 0 _ rfl) 1 _ rfl) 2 _ rfl) 3 _ rfl) 4 _ rfl) 5 _ rfl) 6 _ rfl) 7 _ rfl
theorem put8_below {w W : World} (h : Below w.heap.size w W) (x : S24) : Below w.heap.size w (putQ W w.heap.size x) :=
  (((((((h.setCell (p := ⟨w.heap.size, 0, none⟩) (Nat.le_refl _) _).setCell (p := ⟨w.heap.size, 1, none⟩) (Nat.le_refl _) _).setCell (p := ⟨w.heap.size, 2, none⟩) (Nat.le_refl _) _).setCell (p := ⟨w.heap.size, 3, none⟩) (Nat.le_refl _) _).setCell (p := ⟨w.heap.size, 4, none⟩) (Nat.le_refl _) _).setCell (p := ⟨w.heap.size, 5, none⟩) (Nat.le_refl _) _).setCell (p := ⟨w.heap.size, 6, none⟩) (Nat.le_refl _) _).setCell (p := ⟨w.heap.size, 7, none⟩) (Nat.le_refl _) _
/-- Board.Get's answer. -/
def getQ (id : Int) (xs : List S24) : S24 := if findI id xs < 0 then z24 else rd_T24 xs (findI id xs)
set_option maxHeartbeats 400000 in
set_option maxRecDepth 1000000 in
theorem get_any (B p : Nat) (id : Int) (A : Option Addr) (c : Nat) (xs : List S24) (w : World) (h : BO B p A c xs w) (hlen : xs.length ≤ 1000000) :
    Calls Tryz.prog 9 #[.pointer (some ⟨p, 0, none⟩), .int .i64 id] w fun e w' => e = .returned (.tuple #[qA (getQ id xs), .bool (!decide (findI id xs < 0))]) ∧ Below w.heap.size w w' := by
  have hu24 := Tryz.underlying24
  have hat := fun w (hh : BO B p A c xs w) => at_any p id A c xs w hh.bd hh.C hlen
  have q0 := h.bd.c0
  have HH := Lib.hid h
  unfold getQ
  rcases find_cases id xs with hf | ⟨k, hk, hf⟩
  · rw [hf] at hat ⊢
    rw [if_pos (by decide)]
    have HAT := Lib.hid hat
    clear hat h hf hlen
    go_enter Tryz.func9, Tryz.ntmps9
    go_wp2_with (first | (go_at_call 40; refine (HAT.out _ (HH.out.below (below_alloc (Below.refl _ _) _))).mono ?_; rintro e W1 ⟨rfl, b1⟩; have z0 := cell_below (cell_new w _ 24 0 (.int .i64 0) rfl) b1; have z1 := cell_below (cell_new w _ 24 1 (.int .i64 0) rfl) b1; have z2 := cell_below (cell_new w _ 24 2 (.int .i64 0) rfl) b1; have z3 := cell_below (cell_new w _ 24 3 (.int .i64 0) rfl) b1; have z4 := cell_below (cell_new w _ 24 4 (.int .i64 0) rfl) b1; have z5 := cell_below (cell_new w _ 24 5 (.int .i64 0) rfl) b1; have z6 := cell_below (cell_new w _ 24 6 (.int .i64 0) rfl) b1; have z7 := cell_below (cell_new w _ 24 7 (.int .i64 0) rfl) b1; have hb8 := new_blk b1; have hfr := fun j => blk_frz hb8 j; have B1 := bl2 (below_alloc (Below.refl _ w) _) b1))
    refine bodyPost_ret (results_ct rfl _ _ w.heap.size 24 #[.int .i64 0, .int .i64 0, .int .i64 0, .int .i64 0, .int .i64 0, .int .i64 0, .int .i64 0, .int .i64 0] (0, 0) _ rfl (put8 hb8 z24) Tryz.underlying24 rfl (by kernel_rfl)) rfl ?_
    exact ⟨rfl, put8_below B1 z24⟩
  · rw [hf] at hat ⊢
    rw [if_neg (by omega)]
    obtain ⟨g, rfl⟩ := R_some h.r (by omega)
    have HAT := Lib.hid hat
    have HX := Lib.hid (fun (W : World) (b : Below w.heap.size w W) => row_at (h.below b).C hk)
    have hkb : ¬ (k : Int) < 0 := by omega
    have dk : decide ((k : Int) < 0) = false := decide_eq_false hkb
    have pk : (0 ≤ (k : Int)) = True := eq_true (by omega)
    have pl : ((k : Int) < (xs.length : Int)) = True := eq_true (by omega)
    rw [dk]
    generalize hy : rd_T24 xs (k : Int) = y at *
    clear hat h hf hlen hk hkb
    obtain ⟨y0, y1, y2, y3, y4, y5, y6, y7⟩ := y
    simp only at *
    go_enter Tryz.func9, Tryz.ntmps9
    go_wp2_with (first | (go_at_call 40; refine (HAT.out _ (HH.out.below (below_alloc (Below.refl _ _) _))).mono ?_; rintro e W1 ⟨rfl, b1⟩; have z0 := cell_below (cell_new w _ 24 0 (.int .i64 0) rfl) b1; have z1 := cell_below (cell_new w _ 24 1 (.int .i64 0) rfl) b1; have z2 := cell_below (cell_new w _ 24 2 (.int .i64 0) rfl) b1; have z3 := cell_below (cell_new w _ 24 3 (.int .i64 0) rfl) b1; have z4 := cell_below (cell_new w _ 24 4 (.int .i64 0) rfl) b1; have z5 := cell_below (cell_new w _ 24 5 (.int .i64 0) rfl) b1; have z6 := cell_below (cell_new w _ 24 6 (.int .i64 0) rfl) b1; have z7 := cell_below (cell_new w _ 24 7 (.int .i64 0) rfl) b1; have hb8 := new_blk b1; have hfr := fun j => blk_frz hb8 j; have B1 := bl2 (below_alloc (Below.refl _ w) _) b1; have k0 := (HH.out.below B1).bd.c0; obtain ⟨hx0, hx1, hx2, hx3, hx4, hx5, hx6, hx7⟩ := HX.out W1 B1))
    refine bodyPost_ret (results_ct rfl _ _ w.heap.size 24 #[.int .i64 y0, .int .i64 y1, .int .i64 y2, .int .i64 y3, .int .i64 y4, .int .i64 y5, .int .i64 y6, .int .i64 y7] (0, 0) _ rfl (put8 hb8 ⟨y0, y1, y2, y3, y4, y5, y6, y7⟩) Tryz.underlying24 rfl (by kernel_rfl)) rfl ?_
    exact ⟨rfl, put8_below B1 ⟨y0, y1, y2, y3, y4, y5, y6, y7⟩⟩
end Go.Proofs.YtlhdbcjlmkglkaaGreat.Q

/- cmp.Compare; the comparison that Side hands over. -/
set_option linter.unusedSimpArgs false
set_option linter.unusedVariables false
namespace Go.Proofs.YtlhdbcjlmkglkaaGreat.Q
open Go Go.RowKit Go.Proofs Go.Proofs.YtlhdbcjlmkglkaaGreat.PL Go.Proofs.YtlhdbcjlmkglkaaGreatW.PrintWords
set_option maxHeartbeats 400000 in
set_option maxRecDepth 1000000 in
theorem nan_any (x : Int) (w : World) : Calls Tryz.prog 72 #[.int .i64 x] w fun e w' => e = .returned (.bool false) ∧ w' = w := by
  go_enter Tryz.func72, Tryz.ntmps72
  go_wp2
  go_ret
  exact ⟨by simp, rfl⟩
set_option maxHeartbeats 400000 in
set_option maxRecDepth 1000000 in
theorem cmp_any (x y : Int) (w : World) : Calls Tryz.prog 56 #[.int .i64 x, .int .i64 y] w fun e w' => e = .returned (.int .i64 (Lib.compareInt x y)) ∧ w' = w := by
  go_enter Tryz.func56, Tryz.ntmps56
  go_wp2_with (go_at_call 72; refine (nan_any _ _).mono ?_; rintro e w' ⟨rfl, hw⟩; rw [hw])
  all_goals (go_ret; refine ⟨?_, rfl⟩; unfold Lib.compareInt; (repeat' split) <;> first | rfl | (exfalso; omega))
/-- A function value with one captured cell, that compares two quotes wherever the cell holds cv. -/
def CmpK (G k : Nat) (cv : Value) (cm : S24 → S24 → Int) : Prop :=
  ∀ (W : World) (x y : S24), W.cell? ⟨k, 0, none⟩ = some cv → Calls Tryz.prog G (#[qA x, qA y] ++ #[.pointer (some ⟨k, 0, none⟩)]) W fun e w' => e = .returned (.int .i64 (cm x y)) ∧ Below W.heap.size W w'
def sideC (s : Int) (x y : S24) : Int := if s = 2 then Lib.compareInt y.f5 x.f5 else Lib.compareInt x.f5 y.f5
set_option maxHeartbeats 400000 in
set_option maxRecDepth 1000000 in
theorem sideK_no (k : Nat) (s : Int) (hs : s ≠ 2) : CmpK 62 k (.int .i64 s) (sideC s) := by
  intro W x y h
  have hu24 := Tryz.underlying24
  have h1 := fun o o' => cell_alloc (cell_alloc h o) o'
  have hs0 : (s == 2) = false := beq_eq_false_iff_ne.2 hs
  unfold sideC
  rw [if_neg hs]
  show Calls Tryz.prog 62 #[qA x, qA y, .pointer (some ⟨k, 0, none⟩)] W _
  unfold qA
  obtain ⟨x0, x1, x2, x3, x4, x5, x6, x7⟩ := x
  obtain ⟨y0, y1, y2, y3, y4, y5, y6, y7⟩ := y
  simp only
  clear hs h
  go_enter Tryz.func62, Tryz.ntmps62
  go_wp2_with (go_at_call 56; refine (cmp_any _ _ _).mono ?_; rintro e w' ⟨rfl, hw⟩; rw [hw])
  go_ret
  exact ⟨rfl, bl2 (below_alloc (Below.refl _ _) _) (below_alloc (Below.refl _ _) _)⟩
set_option maxHeartbeats 400000 in
set_option maxRecDepth 1000000 in
theorem sideK_yes (k : Nat) : CmpK 62 k (.int .i64 2) (sideC 2) := by
  intro W x y h
  have hu24 := Tryz.underlying24
  have h1 := fun o o' => cell_alloc (cell_alloc h o) o'
  unfold sideC
  rw [if_pos rfl]
  show Calls Tryz.prog 62 #[qA x, qA y, .pointer (some ⟨k, 0, none⟩)] W _
  unfold qA
  obtain ⟨x0, x1, x2, x3, x4, x5, x6, x7⟩ := x
  obtain ⟨y0, y1, y2, y3, y4, y5, y6, y7⟩ := y
  simp only
  clear h
  go_enter Tryz.func62, Tryz.ntmps62
  go_wp2_with (go_at_call 56; refine (cmp_any _ _ _).mono ?_; rintro e w' ⟨rfl, hw⟩; rw [hw])
  go_ret
  exact ⟨rfl, bl2 (below_alloc (Below.refl _ _) _) (below_alloc (Below.refl _ _) _)⟩
theorem sideK (k : Nat) (s : Int) : CmpK 62 k (.int .i64 s) (sideC s) := by
  by_cases h : s = 2
  · subst h; exact sideK_yes k
  · exact sideK_no k s h
end Go.Proofs.YtlhdbcjlmkglkaaGreat.Q
