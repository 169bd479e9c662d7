/- Part 31 of the proof's texts: what the theorem needs of them. -/
import Derived.Test.YtlhdbcjlmkglkaaGreatSQG30
import Derived.Test.YtlhdbcjlmkglkaaGreatSQG19
import Derived.Test.YtlhdbcjlmkglkaaGreatSQG20

set_option linter.unusedVariables false
set_option linter.unusedSimpArgs false
/- slices.SortStableFunc at quotes. -/
set_option linter.unusedSimpArgs false
set_option linter.unusedVariables false
namespace Go.Proofs.YtlhdbcjlmkglkaaGreat.Q
open Go Go.RowKit Go.Proofs Go.Proofs.YtlhdbcjlmkglkaaGreat.PL Go.Proofs.YtlhdbcjlmkglkaaGreat.StN Go.Proofs.YtlhdbcjlmkglkaaGreatW.PrintWords
def Blks (key : S24 → Int) (s : Nat) (bs : List (List S24)) : Prop := ∀ b ∈ bs, b.length = s ∧ Srt key b
theorem Blks.len {key : S24 → Int} {s : Nat} : ∀ {bs : List (List S24)}, Blks key s bs → bs.flatten.length = s * bs.length
  | [], _ => by simp
  | b :: bs, h => by
    rw [List.flatten_cons, List.length_append, (h b (List.mem_cons_self ..)).1, Blks.len (fun x hx => h x (List.mem_cons_of_mem _ hx)), List.length_cons, Nat.mul_succ, Nat.add_comm]
theorem Blks.snoc {key : S24 → Int} {s : Nat} {bs : List (List S24)} (h : Blks key s bs) {b : List S24} (hl : b.length = s) (hs : Srt key b) : Blks key s (bs ++ [b]) := by
  intro x hx
  rcases List.mem_append.1 hx with hx | hx
  · exact h x hx
  · obtain rfl := List.mem_singleton.1 hx; exact ⟨hl, hs⟩
theorem flat_snoc (bs : List (List S24)) (b : List S24) : (bs ++ [b]).flatten = bs.flatten ++ b := by simp
theorem insB_spec (key : S24 → Int) (cm : S24 → S24 → Int) (hk : ∀ x y, cm x y < 0 ↔ key x < key y) : ∀ (f n : Nat) (bs : List (List S24)) (R : List S24), Blks key 20 bs → R.length < 20 * f → n = (bs.flatten ++ R).length →
    ∃ bs' T, Blks key 20 bs' ∧ T.length < 20 ∧ Srt key T ∧ (∀ r, Flt key r (bs'.flatten ++ T) = Flt key r (bs.flatten ++ R)) ∧ insB cm n f bs.flatten.length (bs.flatten ++ R) = bs'.flatten ++ T
  | 0, n, bs, R, hb, hf, hn => by omega
  | f + 1, n, bs, R, hb, hf, hn => by
    rw [List.length_append] at hn
    rw [insB]
    split
    · next h =>
      obtain ⟨X, R', rfl, hx⟩ : ∃ X R', R = X ++ R' ∧ X.length = 20 := ⟨R.take 20, R.drop 20, (List.take_append_drop ..).symm, by rw [List.length_take]; omega⟩
      obtain ⟨o, ho, e⟩ := insL_stb key cm hk bs.flatten X R'
      have hol := ho.len
      rw [hx] at e
      rw [e]
      obtain ⟨bs', T, h1, h2, h3, h4, h5⟩ := insB_spec key cm hk f n (bs ++ [o]) R' (hb.snoc (by omega) ho.srt) (by rw [List.length_append] at hf; omega) (by rw [hn, flat_snoc]; simp only [List.length_append]; omega)
      refine ⟨bs', T, h1, h2, h3, fun r => ?_, ?_⟩
      · rw [h4 r, flat_snoc]
        simp only [Flt_append, ho.flt, List.append_assoc]
      · rw [flat_snoc, List.length_append, show o.length = 20 by omega, List.append_assoc] at h5
        exact h5
    · next h =>
      obtain ⟨o, ho, e⟩ := insL_stb key cm hk bs.flatten R []
      have hol := ho.len
      rw [List.append_nil, List.append_nil] at e
      refine ⟨bs, o, hb, by omega, ho.srt, fun r => by simp only [Flt_append, ho.flt], ?_⟩
      rw [hn]
      exact e
theorem mrg_spec (key : S24 → Int) (cm : S24 → S24 → Int) (hk : ∀ x y, cm x y < 0 ↔ key x < key y) (s : Nat) (hs : 0 < s) : ∀ (f n : Nat) (ds bs : List (List S24)) (T : List S24), Blks key (2 * s) ds → Blks key s bs → Srt key T → T.length < s → bs.length < f → n = (ds.flatten ++ (bs.flatten ++ T)).length →
    ∃ ds' T', Blks key (2 * s) ds' ∧ T'.length < 2 * s ∧ Srt key T' ∧ (∀ r, Flt key r (ds'.flatten ++ T') = Flt key r (ds.flatten ++ (bs.flatten ++ T))) ∧ mrg cm s n f ds.flatten.length (ds.flatten ++ (bs.flatten ++ T)) = ds'.flatten ++ T'
  | 0, n, ds, bs, T, hd, hb, hT, hTl, hf, hn => by omega
  | f + 1, n, ds, [], T, hd, hb, hT, hTl, hf, hn => by
    simp only [List.flatten_nil, List.nil_append, List.length_append] at hn ⊢
    rw [mrg, if_neg (by omega), if_neg (by omega)]
    exact ⟨ds, T, hd, by omega, hT, fun r => rfl, rfl⟩
  | f + 1, n, ds, [b], T, hd, hb, hT, hTl, hf, hn => by
    obtain ⟨hbl, hbs⟩ := hb b (List.mem_singleton.2 rfl)
    simp only [List.flatten_cons, List.flatten_nil, List.append_nil, List.length_append] at hn ⊢
    rw [mrg, if_neg (by omega)]
    split
    · next h =>
      obtain ⟨M, hM, e⟩ := symL_stb key cm hk (n - ds.flatten.length) ds.flatten b T [] (by omega) (by omega) (by omega) hbs hT
      have hMl := hM.len
      rw [List.length_append] at hMl
      simp only [List.append_nil] at e
      refine ⟨ds, M, hd, by omega, hM.srt, fun r => by simp only [Flt_append, hM.flt], ?_⟩
      rw [← hbl, show n = ds.flatten.length + (b.length + T.length) by omega] at *
      exact e
    · next h =>
      have h0 : T.length = 0 := by omega
      obtain rfl := List.length_eq_zero_iff.1 h0
      exact ⟨ds, b, hd, by omega, hbs, fun r => by rw [List.append_nil], by rw [List.append_nil]⟩
  | f + 1, n, ds, b :: b2 :: bs, T, hd, hb, hT, hTl, hf, hn => by
    obtain ⟨h1l, h1s⟩ := hb b (List.mem_cons_self ..)
    obtain ⟨h2l, h2s⟩ := hb b2 (List.mem_cons_of_mem _ (List.mem_cons_self ..))
    have hb3 : Blks key s bs := fun x hx => hb x (List.mem_cons_of_mem _ (List.mem_cons_of_mem _ hx))
    simp only [List.flatten_cons, List.length_append] at hn
    rw [mrg, if_pos (by omega)]
    obtain ⟨M, hM, e⟩ := symL_stb key cm hk (2 * s) ds.flatten b b2 (bs.flatten ++ T) (by omega) (by omega) (by omega) h1s h2s
    have hMl := hM.len
    rw [List.length_append] at hMl
    obtain ⟨ds', T', i1, i2, i3, i4, i5⟩ := mrg_spec key cm hk s hs f n (ds ++ [M]) bs T (hd.snoc (by omega) hM.srt) hb3 hT hTl (by simp only [List.length_cons] at hf; omega) (by rw [flat_snoc]; simp only [List.length_append]; omega)
    refine ⟨ds', T', i1, i2, i3, fun r => ?_, ?_⟩
    · rw [i4 r, flat_snoc]
      simp only [List.flatten_cons, Flt_append, hM.flt, List.append_assoc]
    · rw [flat_snoc, List.length_append, show M.length = 2 * s by omega] at i5
      rw [show ds.flatten.length + s = ds.flatten.length + b.length by omega, show ds.flatten.length + 2 * s = ds.flatten.length + (b.length + b2.length) by omega]
      simp only [List.flatten_cons, List.append_assoc] at e i5 ⊢
      rw [e, show ds.flatten.length + (b.length + b2.length) = ds.flatten.length + 2 * s by omega]
      exact i5
theorem mrgs_spec (key : S24 → Int) (cm : S24 → S24 → Int) (hk : ∀ x y, cm x y < 0 ↔ key x < key y) : ∀ (f n s : Nat) (bs : List (List S24)) (T : List S24), 0 < s → Blks key s bs → Srt key T → T.length < s → n - s < f → n = (bs.flatten ++ T).length →
    Stb key (bs.flatten ++ T) (mrgs cm n f s (bs.flatten ++ T))
  | 0, n, s, bs, T, hs, hb, hT, hTl, hf, hn => by omega
  | f + 1, n, s, bs, T, hs, hb, hT, hTl, hf, hn => by
    have hbl := hb.len
    rw [mrgs]
    split
    · next h =>
      rw [List.length_append, hbl] at hn
      have h1 : bs.length < n + 1 := by
        have := Nat.le_mul_of_pos_left bs.length hs
        omega
      obtain ⟨ds', T', i1, i2, i3, i4, i5⟩ := mrg_spec key cm hk s hs (n + 1) n [] bs T (fun x hx => absurd hx (by simp)) hb hT hTl h1 (by rw [List.flatten_nil, List.nil_append, List.length_append, hbl]; exact hn)
      rw [List.flatten_nil, List.nil_append, List.length_nil] at i5
      rw [i5]
      have hl2 : n = (ds'.flatten ++ T').length := by
        rw [← i5, mrg_len, List.length_append, hbl]; exact hn
      have := mrgs_spec key cm hk f n (2 * s) ds' T' (by omega) i1 i3 i2 (by omega) hl2
      exact this.cong (fun r => by rw [i4 r]; rfl)
    · next h =>
      rw [List.length_append, hbl] at hn
      match bs, hb with
      | [], _ => exact Stb.of_srt hT
      | [b], hb =>
        obtain ⟨hl, hsb⟩ := hb b (List.mem_singleton.2 rfl)
        have h0 : T.length = 0 := by simp at hn; omega
        obtain rfl := List.length_eq_zero_iff.1 h0
        simp only [List.flatten_cons, List.flatten_nil, List.append_nil]
        exact Stb.of_srt hsb
      | b :: b2 :: bs, hb =>
        exfalso
        simp only [List.length_cons] at hn
        have : s * (bs.length + 1 + 1) = s * bs.length + s + s := by rw [Nat.mul_succ, Nat.mul_succ]
        omega
theorem stable_plain (key : S24 → Int) (cm : S24 → S24 → Int) (hk : ∀ x y, cm x y < 0 ↔ key x < key y) (xs : List S24) : mrgs cm xs.length (xs.length + 1) 20 (insB cm xs.length (xs.length + 1) 0 xs) = ssort key xs := by
  obtain ⟨bs, T, h1, h2, h3, h4, h5⟩ := insB_spec key cm hk (xs.length + 1) xs.length [] xs (fun x hx => absurd hx (by simp)) (by omega) (by simp)
  simp only [List.flatten_nil, List.nil_append, List.length_nil] at h4 h5
  rw [h5]
  have hl : xs.length = (bs.flatten ++ T).length := by rw [← h5, insB_len]
  exact ((mrgs_spec key cm hk (xs.length + 1) xs.length 20 bs T (by decide) h1 h3 h2 (by omega) hl).cong h4).eq
/-- slices.SortStableFunc, by a key. -/
theorem sort_any (key : S24 → Int) (G k : Nat) (cv : Value) (cm : S24 → S24 → Int) (hk : ∀ x y, cm x y < 0 ↔ key x < key y) (hp : CmpK G k cv cm) (eg : ∀ args w, (callFunc G args).run Tryz.prog w = .ok (.enter G args) w) (B : Nat) (ok : Nat → Prop) (A : Option Addr) (c : Nat) (xs : List S24) (w : World)
    (hR : Kd.R k24 24 w B ok (.slice A xs.length c) xs) (hc : w.cell? ⟨k, 0, none⟩ = some cv) (hkg : some k ≠ (Value.slice A xs.length c).ownBlock) (hlen : xs.length ≤ 1000000) :
    Calls Tryz.prog 61 #[.slice A xs.length c, .func (.func G) #[] #[.pointer (some ⟨k, 0, none⟩)]] w fun e w' =>
      e = .returned (.tuple #[]) ∧ Kd.R k24 24 w' B ok (.slice A xs.length c) (ssort key xs) ∧ w.grownBy w' (Value.slice A xs.length c).ownBlock := by
  rcases xs with _ | ⟨x, l⟩
  · exact sort_few G k cv cm hp eg B ok A c [] w hR hc hkg (by simp)
  · obtain ⟨g, rfl⟩ := R_some hR (by simp)
    apply sort_by _ _ _ _ _ (fun w' => Kd.R k24 24 w' B ok (.slice (some ⟨g, 0, none⟩) (x :: l).length c) (ssort key (x :: l)) ∧ w.grownBy w' (some g))
    have := stable_any G k cv cm hp eg B ok g c (x :: l) w hR hc (fun e => hkg (by rw [e]; rfl)) hlen
    rw [stable_plain key cm hk] at this
    exact this
def sideKey (s : Int) (x : S24) : Int := if s = 2 then -x.f5 else x.f5
theorem sideC_key (s : Int) (x y : S24) : sideC s x y < 0 ↔ sideKey s x < sideKey s y := by
  unfold sideC sideKey Lib.compareInt
  split
  · (repeat' split) <;> omega
  · (repeat' split) <;> omega
end Go.Proofs.YtlhdbcjlmkglkaaGreat.Q

/- Board.Side. -/
set_option linter.unusedSimpArgs false
set_option linter.unusedVariables false
namespace Go.Proofs.YtlhdbcjlmkglkaaGreat.Q
open Go Go.RowKit Go.Proofs Go.Proofs.YtlhdbcjlmkglkaaGreat.PL Go.Proofs.YtlhdbcjlmkglkaaGreatW.PrintWords Go.Proofs.YtlhdbcjlmkglkaaGreatW.PrintLast Go.Proofs.YtlhdbcjlmkglkaaGreatW.PrintMore
theorem eqA38 (d : Nat) (w : World) (x0 y0 : Int) (x1 y1 : Int) (x2 y2 : Int) :
    (Op.equalIn (d + 2) 38 (.agg #[.int .i64 x0, .int .i64 x1, .int .i64 x2]) (.agg #[.int .i64 y0, .int .i64 y1, .int .i64 y2])).run Tryz.prog w = .ok (x0 == y0 && (x1 == y1 && (x2 == y2))) w := by
  refine eqA_of Tryz.underlying38 (by kernel_rfl) ?_
  refine eqf_cons (by rfl) (by go_simp; rfl) (by go_simp; rfl) (by go_simp) ?_
  refine eqf_cons (by rfl) (by go_simp; rfl) (by go_simp; rfl) (by go_simp) ?_
  exact eqf_last (by rfl) (by go_simp; rfl) (by go_simp; rfl) (by go_simp)
attribute [local go_sem high] eqA38
theorem below_grown {n : Nat} {w W W' : World} {g : Option Nat} (h : Below n w W) (hg : W.grownBy W' g) (hk : ∀ k, g = some k → n ≤ k) (hn : n ≤ W.heap.size) : Below n w W' :=
  ⟨hg.os.trans h.os, hg.tape.trans h.tape, hg.output.trans h.output, Nat.le_trans h.size hg.size, fun k hk2 => (hg.block k (Nat.lt_of_lt_of_le hk2 hn) (fun e => by have := hk k e.symm; omega)).trans (h.block k hk2)⟩
/-- A quote's own term and side. -/
def mt (t0 t1 t2 s : Int) (x : S24) : Bool := (x.f3 == t0 && (x.f6 == t1 && (x.f7 == t2))) && x.f2 == s
def sideL (t0 t1 t2 s : Int) (xs : List S24) : List S24 := StN.ssort (sideKey s) (xs.filter (mt t0 t1 t2 s))
set_option maxHeartbeats 400000 in
set_option maxRecDepth 1000000 in
theorem side_any (B p : Nat) (t0 t1 t2 s : Int) (A : Option Addr) (c : Nat) (xs : List S24) (w : World) (h : BO B p A c xs w) (hlen : xs.length ≤ 1000000) :
    Calls Tryz.prog 32 #[.pointer (some ⟨p, 0, none⟩), .agg #[.int .i64 t0, .int .i64 t1, .int .i64 t2], .int .i64 s] w fun e w' =>
      ∃ A' c', e = .returned (.slice A' (sideL t0 t1 t2 s xs).length c') ∧ Kd.R k24 24 w' w.heap.size (fun _ => True) (.slice A' (sideL t0 t1 t2 s xs).length c') (sideL t0 t1 t2 s xs) ∧ Below w.heap.size w w' := by
  have hu24 := Tryz.underlying24
  have hu38 := Tryz.underlying38
  have hmf := mkFunc
  have hT : ∀ W : World, W = (w.alloc (.cells #[.int .i64 t0, .int .i64 t1, .int .i64 t2] 38)).alloc (.cells #[.int .i64 s] 3) →
      Below w.heap.size w W ∧ W.heap.size = w.heap.size + 2 ∧ W.cell? ⟨w.heap.size, 0, none⟩ = some (.int .i64 t0) ∧ W.cell? ⟨w.heap.size, 1, none⟩ = some (.int .i64 t1) ∧ W.cell? ⟨w.heap.size, 2, none⟩ = some (.int .i64 t2) ∧ W.cell? ⟨w.heap.size + 1, 0, none⟩ = some (.int .i64 s) := by
    rintro W rfl
    have q := cell_new (w.alloc (.cells #[.int .i64 t0, .int .i64 t1, .int .i64 t2] 38)) #[.int .i64 s] 3 0 (.int .i64 s) rfl
    exact ⟨bl2 (below_alloc (Below.refl _ _) _) (below_alloc (Below.refl _ _) _), by simp, cell_alloc (cell_new _ _ 38 0 _ rfl) _, cell_alloc (cell_new _ _ 38 1 _ rfl) _, cell_alloc (cell_new _ _ 38 2 _ rfl) _, by rw [World.size_alloc] at q; exact q⟩
  have HH := Lib.hid h
  have HL := Lib.hid (And.intro hlen (show (xs.filter (mt t0 t1 t2 s)).length ≤ 1000000 from Nat.le_trans (List.length_filter_le ..) hlen))
  clear h hlen
  go_enter Tryz.func32, Tryz.ntmps32
  obtain ⟨w2, hw2⟩ : ∃ W, W = (w.alloc (.cells #[.int .i64 t0, .int .i64 t1, .int .i64 t2] 38)).alloc (.cells #[.int .i64 s] 3) := ⟨_, rfl⟩
  obtain ⟨hb2, hs2, z0, z1, z2, z3⟩ := hT w2 hw2
  have k0 := (HH.out.below hb2).bd.c0
  rw [hw2] at k0
  have HB2 := Lib.hid (And.intro hb2 hs2)
  have HZ := Lib.hid (And.intro z0 (And.intro z1 (And.intro z2 z3)))
  have HW2 := Lib.hid hw2
  clear hT hb2 hs2 z0 z1 z2 z3 hw2
  go_wp2_with (fail)
  go_loopg [7, 17] (xs.length + 1) (fun kq v7 v17 w' => ∃ (i : Nat) (u : Value), v7 = u ∧ v17 = .int .i64 (i : Int) ∧ Aside0 (i ≤ xs.length ∧ xs.length + 1 ≤ i + kq) ∧ Aside0 (Kd.R k24 24 w' w2.heap.size (fun _ => True) u ((xs.take i).filter (mt t0 t1 t2 s))) ∧ Aside0 (Below w2.heap.size w2 w'))
  case atStart =>
    rw [← HW2.out]
    exact ⟨0, _, rfl, rfl, ⟨Nat.zero_le _, by omega⟩, ⟨Kd.R_nil _ _ _ _ _⟩, ⟨Below.refl _ _⟩⟩
  case round =>
    obtain ⟨i, u, rfl, rfl, HI, HR, HB⟩ := hrel
    obtain ⟨hi1, hi2⟩ := HI.out
    have BW := Lib.hid (HB2.out.1.trans (HB.out.mono HB2.out.1.size))
    by_cases c4 : i < xs.length
    · have c4a : decide ((i : Int) < (xs.length : Int)) = true := decide_eq_true (by omega)
      have c4b : decide (i < xs.length) = true := decide_eq_true c4
      have pj : (0 ≤ (i : Int)) = True := eq_true (by omega)
      have pjl : ((i : Int) < (xs.length : Int)) = True := eq_true (by omega)
      obtain ⟨kq, rfl⟩ : ∃ kq, gk = kq + 1 := ⟨gk - 1, by omega⟩
      obtain ⟨g, rfl⟩ := R_some HH.out.r (by omega)
      have hrow := row_at (HH.out.below BW.out).C c4
      have htn := take_next xs i c4
      generalize hy : rd_T24 xs (i : Int) = y at *
      obtain ⟨hx0, hx1, hx2, hx3, hx4, hx5, hx6, hx7⟩ := hrow
      have KJ : i + 1 ≤ xs.length ∧ xs.length + 1 ≤ i + 1 + kq := by omega
      have hwj := w1n i (by have := HL.out.1; omega)
      have HT := Lib.hid htn
      have hu := HR.out
      obtain ⟨b1, hb1⟩ : ∃ b1, (y.f3 == t0 && (y.f6 == t1 && (y.f7 == t2))) = b1 := ⟨_, rfl⟩
      obtain ⟨b2, hb2⟩ : ∃ b2, (y.f2 == s) = b2 := ⟨_, rfl⟩
      have hmt : mt t0 t1 t2 s y = (b1 && b2) := by unfold mt; rw [hb1, hb2]
      have HM := Lib.hid hmt
      have HU := Lib.hid (show (((xs.take i).filter (mt t0 t1 t2 s)).length + 1) * 64 ≤ 140737488355328 by
        have h1 := List.length_filter_le (mt t0 t1 t2 s) (xs.take i)
        rw [List.length_take] at h1
        have := HL.out.1
        omega)
      obtain ⟨y0, y1, y2, y3, y4, y5, y6, y7⟩ := y
      simp only at *
      have HT0 := Lib.hid (show ∀ o, o = Obj.cells #[.int .i64 y0, .int .i64 y1, .int .i64 y2, .int .i64 y3, .int .i64 y4, .int .i64 y5, .int .i64 y6, .int .i64 y7] 24 → ((wr.alloc o).cell? ⟨wr.heap.size, 0, none⟩ = some (.int .i64 y0) ∧ (wr.alloc o).cell? ⟨wr.heap.size, 1, none⟩ = some (.int .i64 y1) ∧ (wr.alloc o).cell? ⟨wr.heap.size, 2, none⟩ = some (.int .i64 y2) ∧ (wr.alloc o).cell? ⟨wr.heap.size, 3, none⟩ = some (.int .i64 y3) ∧ (wr.alloc o).cell? ⟨wr.heap.size, 4, none⟩ = some (.int .i64 y4) ∧ (wr.alloc o).cell? ⟨wr.heap.size, 5, none⟩ = some (.int .i64 y5) ∧ (wr.alloc o).cell? ⟨wr.heap.size, 6, none⟩ = some (.int .i64 y6) ∧ (wr.alloc o).cell? ⟨wr.heap.size, 7, none⟩ = some (.int .i64 y7) ∧ (wr.alloc o).cell? ⟨w.heap.size, 0, none⟩ = some (.int .i64 t0) ∧ (wr.alloc o).cell? ⟨w.heap.size, 1, none⟩ = some (.int .i64 t1) ∧ (wr.alloc o).cell? ⟨w.heap.size, 2, none⟩ = some (.int .i64 t2) ∧ (wr.alloc o).cell? ⟨w.heap.size + 1, 0, none⟩ = some (.int .i64 s)) from by
        rintro o rfl
        exact ⟨cell_new wr _ 24 0 _ rfl, cell_new wr _ 24 1 _ rfl, cell_new wr _ 24 2 _ rfl, cell_new wr _ 24 3 _ rfl, cell_new wr _ 24 4 _ rfl, cell_new wr _ 24 5 _ rfl, cell_new wr _ 24 6 _ rfl, cell_new wr _ 24 7 _ rfl, cell_alloc (cell_below HZ.out.1 HB.out) _, cell_alloc (cell_below HZ.out.2.1 HB.out) _, cell_alloc (cell_below HZ.out.2.2.1 HB.out) _, cell_alloc (cell_below HZ.out.2.2.2 HB.out) _⟩)
      have HSB := Lib.hid (show ∀ W W' : World, Below W.heap.size W W' → (W.cell? ⟨wr.heap.size, 0, none⟩ = some (.int .i64 y0) ∧ W.cell? ⟨wr.heap.size, 1, none⟩ = some (.int .i64 y1) ∧ W.cell? ⟨wr.heap.size, 2, none⟩ = some (.int .i64 y2) ∧ W.cell? ⟨wr.heap.size, 3, none⟩ = some (.int .i64 y3) ∧ W.cell? ⟨wr.heap.size, 4, none⟩ = some (.int .i64 y4) ∧ W.cell? ⟨wr.heap.size, 5, none⟩ = some (.int .i64 y5) ∧ W.cell? ⟨wr.heap.size, 6, none⟩ = some (.int .i64 y6) ∧ W.cell? ⟨wr.heap.size, 7, none⟩ = some (.int .i64 y7) ∧ W.cell? ⟨w.heap.size, 0, none⟩ = some (.int .i64 t0) ∧ W.cell? ⟨w.heap.size, 1, none⟩ = some (.int .i64 t1) ∧ W.cell? ⟨w.heap.size, 2, none⟩ = some (.int .i64 t2) ∧ W.cell? ⟨w.heap.size + 1, 0, none⟩ = some (.int .i64 s)) → (W'.cell? ⟨wr.heap.size, 0, none⟩ = some (.int .i64 y0) ∧ W'.cell? ⟨wr.heap.size, 1, none⟩ = some (.int .i64 y1) ∧ W'.cell? ⟨wr.heap.size, 2, none⟩ = some (.int .i64 y2) ∧ W'.cell? ⟨wr.heap.size, 3, none⟩ = some (.int .i64 y3) ∧ W'.cell? ⟨wr.heap.size, 4, none⟩ = some (.int .i64 y4) ∧ W'.cell? ⟨wr.heap.size, 5, none⟩ = some (.int .i64 y5) ∧ W'.cell? ⟨wr.heap.size, 6, none⟩ = some (.int .i64 y6) ∧ W'.cell? ⟨wr.heap.size, 7, none⟩ = some (.int .i64 y7) ∧ W'.cell? ⟨w.heap.size, 0, none⟩ = some (.int .i64 t0) ∧ W'.cell? ⟨w.heap.size, 1, none⟩ = some (.int .i64 t1) ∧ W'.cell? ⟨w.heap.size, 2, none⟩ = some (.int .i64 t2) ∧ W'.cell? ⟨w.heap.size + 1, 0, none⟩ = some (.int .i64 s)) from fun W W' b h => ⟨cell_below h.1 b, cell_below h.2.1 b, cell_below h.2.2.1 b, cell_below h.2.2.2.1 b, cell_below h.2.2.2.2.1 b, cell_below h.2.2.2.2.2.1 b, cell_below h.2.2.2.2.2.2.1 b, cell_below h.2.2.2.2.2.2.2.1 b, cell_below h.2.2.2.2.2.2.2.2.1 b, cell_below h.2.2.2.2.2.2.2.2.2.1 b, cell_below h.2.2.2.2.2.2.2.2.2.2.1 b, cell_below h.2.2.2.2.2.2.2.2.2.2.2 b⟩)
      have HD := HSB.out _ _ (drew_below _) (HT0.out _ rfl)
      clear c4 hi1 hi2 htn hy hmt hu
      cases b1
      · go_wp2_with (fail)
        have HD2 := Lib.hid (HSB.out _ _ (drew_below _) (HT0.out _ rfl))
        refine start_ (n := 10) (S := fun w' : World => w'.cell? ⟨wr.heap.size, 0, none⟩ = some (.int .i64 y0) ∧ w'.cell? ⟨wr.heap.size, 1, none⟩ = some (.int .i64 y1) ∧ w'.cell? ⟨wr.heap.size, 2, none⟩ = some (.int .i64 y2) ∧ w'.cell? ⟨wr.heap.size, 3, none⟩ = some (.int .i64 y3) ∧ w'.cell? ⟨wr.heap.size, 4, none⟩ = some (.int .i64 y4) ∧ w'.cell? ⟨wr.heap.size, 5, none⟩ = some (.int .i64 y5) ∧ w'.cell? ⟨wr.heap.size, 6, none⟩ = some (.int .i64 y6) ∧ w'.cell? ⟨wr.heap.size, 7, none⟩ = some (.int .i64 y7) ∧ w'.cell? ⟨w.heap.size, 0, none⟩ = some (.int .i64 t0) ∧ w'.cell? ⟨w.heap.size, 1, none⟩ = some (.int .i64 t1) ∧ w'.cell? ⟨w.heap.size, 2, none⟩ = some (.int .i64 t2) ∧ w'.cell? ⟨w.heap.size + 1, 0, none⟩ = some (.int .i64 s)) (ds := []) #[false, false, false, false, false, false, false, false, false, false] (by kernel_rfl) rfl rfl HD2.out (fun hHeld => ?_)
        refine take_ (i := 0) (N := (some 21)) (v := ?_) (a' := ?_) #[true, false, false, false, false, false, false, false, false, false] rfl rfl (by kernel_rfl) (fun _ _ _ h => h) (Or.inl ⟨by rfl, ?_⟩) hHeld ?_ ?_
        rotate_left
        · rintro w' ⟨s0, s1, s2, s3, s4, s5, s6, s7, s8, s9, s10, s11⟩
          go_simp
          with_reducible rfl
        rotate_left
        · simp only [Act.put, List.setIfInBounds_toArray, List.set_cons_zero, List.set_cons_succ, i64_w, i32_w]
          rfl
        refine take_ (i := 2) (N := (some 23)) (v := ?_) (a' := ?_) #[true, false, true, false, false, false, false, false, false, false] rfl rfl (by kernel_rfl) (fun _ _ _ h => h) (Or.inl ⟨by rfl, ?_⟩) hHeld ?_ ?_
        rotate_left
        · rintro w' ⟨s0, s1, s2, s3, s4, s5, s6, s7, s8, s9, s10, s11⟩
          go_simp
          with_reducible rfl
        rotate_left
        · simp only [Act.put, List.setIfInBounds_toArray, List.set_cons_zero, List.set_cons_succ, i64_w, i32_w]
          rfl
        refine one_ (i := 1) (N := (some 22)) #[true, true, true, false, false, false, false, false, false, false] rfl rfl (by kernel_rfl) (by decide) (fun K hK => ?_)
        refine goes_ Tryz.func12 (by kernel_rfl) rfl #[.agg #[.int .i64 y0, .int .i64 y1, .int .i64 y2, .int .i64 y3, .int .i64 y4, .int .i64 y5, .int .i64 y6, .int .i64 y7]] (by rfl) rfl rfl (by (try simp only [List.map_toArray, List.map_cons, List.map_nil]); first | done | rfl) ?_
        with_reducible refine (quote_Of.calls y0 y1 y2 y3 y4 y5 y6 y7 _ _ _ _ rfl).mono ?_
        rintro e W4 ⟨rfl, b4⟩
        refine ⟨_, rfl, ?_⟩
        refine hK.out _ _ (HSB.out _ _ b4 HD2.out) (fun hHeld => ?_)
        clear hK K
        refine norm_ (a' := ?_) ?_ ?_
        rotate_left
        · show Act.put _ (some 22) _ = _
          simp only [Act.put, List.setIfInBounds_toArray, List.set_cons_zero, List.set_cons_succ, i64_w, i32_w]
          rfl
        refine pure_ (i := 3) (N := (some 24)) (v := ?_) (a' := ?_) #[true, true, true, true, false, false, false, false, false, false] rfl rfl (by kernel_rfl) (fun _ _ _ h => h) (Or.inl ⟨by rfl, ?_⟩) ?_ ?_
        rotate_left
        · intro w'
          go_simp
          with_reducible rfl
        rotate_left
        · simp only [Act.put, List.setIfInBounds_toArray, List.set_cons_zero, List.set_cons_succ, i64_w, i32_w]
          rfl
        refine pure_ (i := 4) (N := (some 25)) (v := ?_) (a' := ?_) #[true, true, true, true, true, false, false, false, false, false] rfl rfl (by kernel_rfl) (fun _ _ _ h => h) (Or.inl ⟨by rfl, ?_⟩) ?_ ?_
        rotate_left
        · intro w'
          go_simp
          with_reducible rfl
        rotate_left
        · simp only [Act.put, List.setIfInBounds_toArray, List.set_cons_zero, List.set_cons_succ, i64_w, i32_w]
          rfl
        refine pure_ (i := 5) (N := (some 26)) (v := undef) (a' := ?_) #[true, true, true, true, true, true, false, false, false, false] rfl rfl (by kernel_rfl) (fun _ _ _ h => h) (Or.inr ⟨by rfl, rfl⟩) ?_ ?_
        rotate_left
        · simp only [Act.put, List.setIfInBounds_toArray, List.set_cons_zero, List.set_cons_succ, i64_w, i32_w]
          rfl
        refine pure_ (i := 6) (N := (some 27)) (v := undef) (a' := ?_) #[true, true, true, true, true, true, true, false, false, false] rfl rfl (by kernel_rfl) (fun _ _ _ h => h) (Or.inr ⟨by rfl, rfl⟩) ?_ ?_
        rotate_left
        · simp only [Act.put, List.setIfInBounds_toArray, List.set_cons_zero, List.set_cons_succ, i64_w, i32_w]
          rfl
        refine pure_ (i := 7) (N := (some 28)) (v := undef) (a' := ?_) #[true, true, true, true, true, true, true, true, false, false] rfl rfl (by kernel_rfl) (fun _ _ _ h => h) (Or.inr ⟨by rfl, rfl⟩) ?_ ?_
        rotate_left
        · simp only [Act.put, List.setIfInBounds_toArray, List.set_cons_zero, List.set_cons_succ, i64_w, i32_w]
          rfl
        refine pure_ (i := 8) (N := (some 29)) (v := undef) (a' := ?_) #[true, true, true, true, true, true, true, true, true, false] rfl rfl (by kernel_rfl) (fun _ _ _ h => h) (Or.inr ⟨by rfl, rfl⟩) ?_ ?_
        rotate_left
        · simp only [Act.put, List.setIfInBounds_toArray, List.set_cons_zero, List.set_cons_succ, i64_w, i32_w]
          rfl
        refine pure_ (i := 9) (N := (some 30)) (v := ?_) (a' := ?_) #[true, true, true, true, true, true, true, true, true, true] rfl rfl (by kernel_rfl) (fun _ _ _ h => h) (Or.inl ⟨by rfl, ?_⟩) ?_ ?_
        rotate_left
        · intro w'
          go_simp
          with_reducible rfl
        rotate_left
        · simp only [Act.put, List.setIfInBounds_toArray, List.set_cons_zero, List.set_cons_succ, i64_w, i32_w]
          rfl
        refine done_ (by kernel_rfl) ?_
        have B4 : Below wr.heap.size wr W4 := bl2 (bl2 (below_alloc (Below.refl _ wr) _) (drew_below _)) b4
        go_wp2_with (fail)
        go_roundg kq
        case measure => omega
        case rel =>
          refine ⟨i + 1, _, rfl, congrArg (Value.int .i64) hwj, ⟨KJ⟩, ⟨?_⟩, ⟨HB.out.trans (B4.mono HB.out.size)⟩⟩
          rw [HT.out, List.filter_append, List.filter_cons_of_neg (by rw [HM.out]; simp), List.filter_nil, List.append_nil]
          exact Kd.R_below HR.out B4
      · have HD2 := Lib.hid (HSB.out _ _ (drew_below _) (HT0.out _ rfl))
        cases b2
        · go_wp2_with (fail)
          refine start_ (n := 10) (S := fun w' : World => w'.cell? ⟨wr.heap.size, 0, none⟩ = some (.int .i64 y0) ∧ w'.cell? ⟨wr.heap.size, 1, none⟩ = some (.int .i64 y1) ∧ w'.cell? ⟨wr.heap.size, 2, none⟩ = some (.int .i64 y2) ∧ w'.cell? ⟨wr.heap.size, 3, none⟩ = some (.int .i64 y3) ∧ w'.cell? ⟨wr.heap.size, 4, none⟩ = some (.int .i64 y4) ∧ w'.cell? ⟨wr.heap.size, 5, none⟩ = some (.int .i64 y5) ∧ w'.cell? ⟨wr.heap.size, 6, none⟩ = some (.int .i64 y6) ∧ w'.cell? ⟨wr.heap.size, 7, none⟩ = some (.int .i64 y7) ∧ w'.cell? ⟨w.heap.size, 0, none⟩ = some (.int .i64 t0) ∧ w'.cell? ⟨w.heap.size, 1, none⟩ = some (.int .i64 t1) ∧ w'.cell? ⟨w.heap.size, 2, none⟩ = some (.int .i64 t2) ∧ w'.cell? ⟨w.heap.size + 1, 0, none⟩ = some (.int .i64 s)) (ds := []) #[false, false, false, false, false, false, false, false, false, false] (by kernel_rfl) rfl rfl HD2.out (fun hHeld => ?_)
          refine take_ (i := 0) (N := (some 21)) (v := ?_) (a' := ?_) #[true, false, false, false, false, false, false, false, false, false] rfl rfl (by kernel_rfl) (fun _ _ _ h => h) (Or.inl ⟨by rfl, ?_⟩) hHeld ?_ ?_
          rotate_left
          · rintro w' ⟨s0, s1, s2, s3, s4, s5, s6, s7, s8, s9, s10, s11⟩
            go_simp
            with_reducible rfl
          rotate_left
          · simp only [Act.put, List.setIfInBounds_toArray, List.set_cons_zero, List.set_cons_succ, i64_w, i32_w]
            rfl
          refine take_ (i := 2) (N := (some 23)) (v := ?_) (a' := ?_) #[true, false, true, false, false, false, false, false, false, false] rfl rfl (by kernel_rfl) (fun _ _ _ h => h) (Or.inl ⟨by rfl, ?_⟩) hHeld ?_ ?_
          rotate_left
          · rintro w' ⟨s0, s1, s2, s3, s4, s5, s6, s7, s8, s9, s10, s11⟩
            go_simp
            with_reducible rfl
          rotate_left
          · simp only [Act.put, List.setIfInBounds_toArray, List.set_cons_zero, List.set_cons_succ, i64_w, i32_w]
            rfl
          refine one_ (i := 1) (N := (some 22)) #[true, true, true, false, false, false, false, false, false, false] rfl rfl (by kernel_rfl) (by decide) (fun K hK => ?_)
          refine goes_ Tryz.func12 (by kernel_rfl) rfl #[.agg #[.int .i64 y0, .int .i64 y1, .int .i64 y2, .int .i64 y3, .int .i64 y4, .int .i64 y5, .int .i64 y6, .int .i64 y7]] (by rfl) rfl rfl (by (try simp only [List.map_toArray, List.map_cons, List.map_nil]); first | done | rfl) ?_
          with_reducible refine (quote_Of.calls y0 y1 y2 y3 y4 y5 y6 y7 _ _ _ _ rfl).mono ?_
          rintro e W4 ⟨rfl, b4⟩
          refine ⟨_, rfl, ?_⟩
          refine hK.out _ _ (HSB.out _ _ b4 HD2.out) (fun hHeld => ?_)
          clear hK K
          refine norm_ (a' := ?_) ?_ ?_
          rotate_left
          · show Act.put _ (some 22) _ = _
            simp only [Act.put, List.setIfInBounds_toArray, List.set_cons_zero, List.set_cons_succ, i64_w, i32_w]
            rfl
          refine pure_ (i := 3) (N := (some 24)) (v := ?_) (a' := ?_) #[true, true, true, true, false, false, false, false, false, false] rfl rfl (by kernel_rfl) (fun _ _ _ h => h) (Or.inl ⟨by rfl, ?_⟩) ?_ ?_
          rotate_left
          · intro w'
            go_simp
            with_reducible rfl
          rotate_left
          · simp only [Act.put, List.setIfInBounds_toArray, List.set_cons_zero, List.set_cons_succ, i64_w, i32_w]
            rfl
          refine pure_ (i := 4) (N := (some 25)) (v := ?_) (a' := ?_) #[true, true, true, true, true, false, false, false, false, false] rfl rfl (by kernel_rfl) (fun _ _ _ h => h) (Or.inl ⟨by rfl, ?_⟩) ?_ ?_
          rotate_left
          · intro w'
            go_simp
            with_reducible rfl
          rotate_left
          · simp only [Act.put, List.setIfInBounds_toArray, List.set_cons_zero, List.set_cons_succ, i64_w, i32_w]
            rfl
          refine pure_ (i := 5) (N := (some 26)) (v := ?_) (a' := ?_) #[true, true, true, true, true, true, false, false, false, false] rfl rfl (by kernel_rfl) (fun _ _ _ h => h) (Or.inl ⟨by rfl, ?_⟩) ?_ ?_
          rotate_left
          · intro w'
            go_simp
            with_reducible rfl
          rotate_left
          · simp only [Act.put, List.setIfInBounds_toArray, List.set_cons_zero, List.set_cons_succ, i64_w, i32_w]
            rfl
          refine take_ (i := 6) (N := (some 27)) (v := ?_) (a' := ?_) #[true, true, true, true, true, true, true, false, false, false] rfl rfl (by kernel_rfl) (fun _ _ _ h => h) (Or.inl ⟨by rfl, ?_⟩) hHeld ?_ ?_
          rotate_left
          · rintro w' ⟨s0, s1, s2, s3, s4, s5, s6, s7, s8, s9, s10, s11⟩
            go_simp
            with_reducible rfl
          rotate_left
          · simp only [Act.put, List.setIfInBounds_toArray, List.set_cons_zero, List.set_cons_succ, i64_w, i32_w]
            rfl
          refine take_ (i := 7) (N := (some 28)) (v := ?_) (a' := ?_) #[true, true, true, true, true, true, true, true, false, false] rfl rfl (by kernel_rfl) (fun _ _ _ h => h) (Or.inl ⟨by rfl, ?_⟩) hHeld ?_ ?_
          rotate_left
          · rintro w' ⟨s0, s1, s2, s3, s4, s5, s6, s7, s8, s9, s10, s11⟩
            go_simp
            with_reducible rfl
          rotate_left
          · simp only [Act.put, List.setIfInBounds_toArray, List.set_cons_zero, List.set_cons_succ, i64_w, i32_w]
            rfl
          refine pure_ (i := 8) (N := (some 29)) (v := ?_) (a' := ?_) #[true, true, true, true, true, true, true, true, true, false] rfl rfl (by kernel_rfl) (fun _ _ _ h => h) (Or.inl ⟨by rfl, ?_⟩) ?_ ?_
          rotate_left
          · intro w'
            go_simp
            with_reducible rfl
          rotate_left
          · simp only [Act.put, List.setIfInBounds_toArray, List.set_cons_zero, List.set_cons_succ, i64_w, i32_w]
            rfl
          refine pure_ (i := 9) (N := (some 30)) (v := ?_) (a' := ?_) #[true, true, true, true, true, true, true, true, true, true] rfl rfl (by kernel_rfl) (fun _ _ _ h => h) (Or.inl ⟨by rfl, ?_⟩) ?_ ?_
          rotate_left
          · intro w'
            go_simp
            with_reducible rfl
          rotate_left
          · simp only [Act.put, List.setIfInBounds_toArray, List.set_cons_zero, List.set_cons_succ, i64_w, i32_w]
            rfl
          refine done_ (by kernel_rfl) ?_
          have B4 : Below wr.heap.size wr W4 := bl2 (bl2 (below_alloc (Below.refl _ wr) _) (drew_below _)) b4
          go_wp2_with (fail)
          go_roundg kq
          case measure => omega
          case rel =>
            refine ⟨i + 1, _, rfl, congrArg (Value.int .i64) hwj, ⟨KJ⟩, ⟨?_⟩, ⟨HB.out.trans (B4.mono HB.out.size)⟩⟩
            rw [HT.out, List.filter_append, List.filter_cons_of_neg (by rw [HM.out]; simp), List.filter_nil, List.append_nil]
            exact Kd.R_below HR.out B4
        · go_wp2_with (fail)
          refine start_ (n := 10) (S := fun w' : World => w'.cell? ⟨wr.heap.size, 0, none⟩ = some (.int .i64 y0) ∧ w'.cell? ⟨wr.heap.size, 1, none⟩ = some (.int .i64 y1) ∧ w'.cell? ⟨wr.heap.size, 2, none⟩ = some (.int .i64 y2) ∧ w'.cell? ⟨wr.heap.size, 3, none⟩ = some (.int .i64 y3) ∧ w'.cell? ⟨wr.heap.size, 4, none⟩ = some (.int .i64 y4) ∧ w'.cell? ⟨wr.heap.size, 5, none⟩ = some (.int .i64 y5) ∧ w'.cell? ⟨wr.heap.size, 6, none⟩ = some (.int .i64 y6) ∧ w'.cell? ⟨wr.heap.size, 7, none⟩ = some (.int .i64 y7) ∧ w'.cell? ⟨w.heap.size, 0, none⟩ = some (.int .i64 t0) ∧ w'.cell? ⟨w.heap.size, 1, none⟩ = some (.int .i64 t1) ∧ w'.cell? ⟨w.heap.size, 2, none⟩ = some (.int .i64 t2) ∧ w'.cell? ⟨w.heap.size + 1, 0, none⟩ = some (.int .i64 s)) (ds := []) #[false, false, false, false, false, false, false, false, false, false] (by kernel_rfl) rfl rfl HD2.out (fun hHeld => ?_)
          refine take_ (i := 0) (N := (some 21)) (v := ?_) (a' := ?_) #[true, false, false, false, false, false, false, false, false, false] rfl rfl (by kernel_rfl) (fun _ _ _ h => h) (Or.inl ⟨by rfl, ?_⟩) hHeld ?_ ?_
          rotate_left
          · rintro w' ⟨s0, s1, s2, s3, s4, s5, s6, s7, s8, s9, s10, s11⟩
            go_simp
            with_reducible rfl
          rotate_left
          · simp only [Act.put, List.setIfInBounds_toArray, List.set_cons_zero, List.set_cons_succ, i64_w, i32_w]
            rfl
          refine take_ (i := 2) (N := (some 23)) (v := ?_) (a' := ?_) #[true, false, true, false, false, false, false, false, false, false] rfl rfl (by kernel_rfl) (fun _ _ _ h => h) (Or.inl ⟨by rfl, ?_⟩) hHeld ?_ ?_
          rotate_left
          · rintro w' ⟨s0, s1, s2, s3, s4, s5, s6, s7, s8, s9, s10, s11⟩
            go_simp
            with_reducible rfl
          rotate_left
          · simp only [Act.put, List.setIfInBounds_toArray, List.set_cons_zero, List.set_cons_succ, i64_w, i32_w]
            rfl
          refine one_ (i := 1) (N := (some 22)) #[true, true, true, false, false, false, false, false, false, false] rfl rfl (by kernel_rfl) (by decide) (fun K hK => ?_)
          refine goes_ Tryz.func12 (by kernel_rfl) rfl #[.agg #[.int .i64 y0, .int .i64 y1, .int .i64 y2, .int .i64 y3, .int .i64 y4, .int .i64 y5, .int .i64 y6, .int .i64 y7]] (by rfl) rfl rfl (by (try simp only [List.map_toArray, List.map_cons, List.map_nil]); first | done | rfl) ?_
          with_reducible refine (quote_Of.calls y0 y1 y2 y3 y4 y5 y6 y7 _ _ _ _ rfl).mono ?_
          rintro e W4 ⟨rfl, b4⟩
          refine ⟨_, rfl, ?_⟩
          refine hK.out _ _ (HSB.out _ _ b4 HD2.out) (fun hHeld => ?_)
          clear hK K
          refine norm_ (a' := ?_) ?_ ?_
          rotate_left
          · show Act.put _ (some 22) _ = _
            simp only [Act.put, List.setIfInBounds_toArray, List.set_cons_zero, List.set_cons_succ, i64_w, i32_w]
            rfl
          refine pure_ (i := 3) (N := (some 24)) (v := ?_) (a' := ?_) #[true, true, true, true, false, false, false, false, false, false] rfl rfl (by kernel_rfl) (fun _ _ _ h => h) (Or.inl ⟨by rfl, ?_⟩) ?_ ?_
          rotate_left
          · intro w'
            go_simp
            with_reducible rfl
          rotate_left
          · simp only [Act.put, List.setIfInBounds_toArray, List.set_cons_zero, List.set_cons_succ, i64_w, i32_w]
            rfl
          refine pure_ (i := 4) (N := (some 25)) (v := ?_) (a' := ?_) #[true, true, true, true, true, false, false, false, false, false] rfl rfl (by kernel_rfl) (fun _ _ _ h => h) (Or.inl ⟨by rfl, ?_⟩) ?_ ?_
          rotate_left
          · intro w'
            go_simp
            with_reducible rfl
          rotate_left
          · simp only [Act.put, List.setIfInBounds_toArray, List.set_cons_zero, List.set_cons_succ, i64_w, i32_w]
            rfl
          refine pure_ (i := 5) (N := (some 26)) (v := ?_) (a' := ?_) #[true, true, true, true, true, true, false, false, false, false] rfl rfl (by kernel_rfl) (fun _ _ _ h => h) (Or.inl ⟨by rfl, ?_⟩) ?_ ?_
          rotate_left
          · intro w'
            go_simp
            with_reducible rfl
          rotate_left
          · simp only [Act.put, List.setIfInBounds_toArray, List.set_cons_zero, List.set_cons_succ, i64_w, i32_w]
            rfl
          refine take_ (i := 6) (N := (some 27)) (v := ?_) (a' := ?_) #[true, true, true, true, true, true, true, false, false, false] rfl rfl (by kernel_rfl) (fun _ _ _ h => h) (Or.inl ⟨by rfl, ?_⟩) hHeld ?_ ?_
          rotate_left
          · rintro w' ⟨s0, s1, s2, s3, s4, s5, s6, s7, s8, s9, s10, s11⟩
            go_simp
            with_reducible rfl
          rotate_left
          · simp only [Act.put, List.setIfInBounds_toArray, List.set_cons_zero, List.set_cons_succ, i64_w, i32_w]
            rfl
          refine take_ (i := 7) (N := (some 28)) (v := ?_) (a' := ?_) #[true, true, true, true, true, true, true, true, false, false] rfl rfl (by kernel_rfl) (fun _ _ _ h => h) (Or.inl ⟨by rfl, ?_⟩) hHeld ?_ ?_
          rotate_left
          · rintro w' ⟨s0, s1, s2, s3, s4, s5, s6, s7, s8, s9, s10, s11⟩
            go_simp
            with_reducible rfl
          rotate_left
          · simp only [Act.put, List.setIfInBounds_toArray, List.set_cons_zero, List.set_cons_succ, i64_w, i32_w]
            rfl
          refine pure_ (i := 8) (N := (some 29)) (v := ?_) (a' := ?_) #[true, true, true, true, true, true, true, true, true, false] rfl rfl (by kernel_rfl) (fun _ _ _ h => h) (Or.inl ⟨by rfl, ?_⟩) ?_ ?_
          rotate_left
          · intro w'
            go_simp
            with_reducible rfl
          rotate_left
          · simp only [Act.put, List.setIfInBounds_toArray, List.set_cons_zero, List.set_cons_succ, i64_w, i32_w]
            rfl
          refine pure_ (i := 9) (N := (some 30)) (v := ?_) (a' := ?_) #[true, true, true, true, true, true, true, true, true, true] rfl rfl (by kernel_rfl) (fun _ _ _ h => h) (Or.inl ⟨by rfl, ?_⟩) ?_ ?_
          rotate_left
          · intro w'
            go_simp
            with_reducible rfl
          rotate_left
          · simp only [Act.put, List.setIfInBounds_toArray, List.set_cons_zero, List.set_cons_succ, i64_w, i32_w]
            rfl
          refine done_ (by kernel_rfl) ?_
          have B4 : Below wr.heap.size wr W4 := bl2 (bl2 (below_alloc (Below.refl _ wr) _) (drew_below _)) b4
          have HO2 := Lib.hid (Kd.R_below HR.out B4)
          have HB4 := Lib.hid (HB.out.trans (B4.mono HB.out.size))
          obtain ⟨e0, e1, e2, e3, e4, e5, e6, e7, e8, e9, e10, e11⟩ := HSB.out _ _ b4 HD2.out
          go_wp2_with (first
            | ((with_reducible refine gate_builtin (b := .append) (xs := #[.tmp 31, .tmp 33]) rfl ?_); at_builtin; refine Kd.R_append k24 (w0 := w2) w2.heap.size rfl (.tmp 31) (.tmp 33) 27 24 (.agg #[(.int .i64 0), (.int .i64 0), (.int .i64 0), (.int .i64 0), (.int .i64 0), (.int .i64 0), (.int .i64 0), (.int .i64 0)]) 64 rfl Tryz.underlying27 info24 rfl (by decide) (by decide) u7 ((xs.take i).filter (mt t0 t1 t2 s)) ⟨y0, y1, y2, y3, y4, y5, y6, y7⟩ [.int .i64 y0, .int .i64 y1, .int .i64 y2, .int .i64 y3, .int .i64 y4, .int .i64 y5, .int .i64 y6, .int .i64 y7] (fun _ => True) (fun _ => False) rfl rfl ?aP (fun _ hk => hk.elim) ?aF ?aO ?aB ?aS ?aL ?_; (case aP => exact k24_mkM _ _ _ _); (case aF => exact (fun _ _ => trivial)); (case aO => exact HO2.out); (case aB => exact HB4.out); (case aS => exact HB4.out.size); (case aL => exact HU.out); intro v1 W5 ho hb hg hat; have HO5 := Lib.hid ho; have HB5 := Lib.hid hb; clear ho hb hg hat))
          go_roundg kq
          case measure => omega
          case rel =>
            refine ⟨i + 1, _, rfl, congrArg (Value.int .i64) hwj, ⟨KJ⟩, ⟨?_⟩, ⟨HB5.out⟩⟩
            rw [HT.out, List.filter_append, List.filter_cons_of_pos (by rw [HM.out]; rfl), List.filter_nil]
            exact HO5.out
    · have c4a : decide ((i : Int) < (xs.length : Int)) = false := decide_eq_false (by omega)
      have c4b : decide (i < xs.length) = false := decide_eq_false c4
      obtain rfl : i = xs.length := by omega
      have hr := HR.out
      rw [List.take_length] at hr
      obtain ⟨A', c', hu⟩ := Kd.R_slice hr
      subst hu
      have HRI := Lib.hid hr
      have hz3 := cell_below HZ.out.2.2.2 HB.out
      have hkg : some (w.heap.size + 1) ≠ (Value.slice A' (xs.filter (mt t0 t1 t2 s)).length c').ownBlock := fun e => by
        have h1 := Kd.R_base hr _ e.symm
        have h2 := HB2.out.2
        omega
      have HC := Lib.hid (sort_any (sideKey s) 62 (w.heap.size + 1) (.int .i64 s) (sideC s) (sideC_key s) (sideK _ s) (enters_of Tryz.func62 (by kernel_rfl) rfl) w2.heap.size (fun _ => True) A' c' _ _ hr hz3 hkg HL.out.2)
      clear c4 hi1 hi2 hr hz3 hkg
      go_wp2_with (first | (go_at_call 61; refine HC.out.mono ?_; rintro e W5 ⟨rfl, hR5, hG5⟩; have HR5 := Lib.hid hR5; have HG5 := Lib.hid hG5; clear hR5 hG5))
      go_ret
      refine ⟨A', c', ?_, ?_, ?_⟩
      · unfold sideL; rw [StN.ssort_len]; rfl
      · unfold sideL; rw [StN.ssort_len]; exact Kd.R_lower HR5.out HB2.out.1.size
      · refine below_grown BW.out HG5.out (fun k hk => ?_) BW.out.size
        rw [own_len A' _ (xs.filter (mt t0 t1 t2 s)).length c'] at hk
        exact Nat.le_trans HB2.out.1.size (Kd.R_base HRI.out _ hk)
end Go.Proofs.YtlhdbcjlmkglkaaGreat.Q
