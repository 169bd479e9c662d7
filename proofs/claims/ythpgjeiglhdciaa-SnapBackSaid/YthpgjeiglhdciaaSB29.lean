/- Part 29 of the proof's texts: what the theorem needs of them. -/
import Derived.Test.YthpgjeiglhdciaaSB28
import Derived.Deep.RegionHeld3

set_option linter.unusedVariables false
set_option linter.unusedSimpArgs false
/- The reader: Ints, End, At, Err. -/
namespace Go.Proofs.Ythpgjeiglhdciaa.SN
open Go Go.RowKit Go.Proofs Go.Proofs.Ythpgjeiglhdciaa.PL Go.Proofs.YthpgjeiglhdciaaW.PrintWords Go.Proofs.YthpgjeiglhdciaaW.PrintLast Go.Proofs.YthpgjeiglhdciaaW.PrintMore
theorem repR_snoc {α : Type} (f : St → α × St) : ∀ (n : Nat) (st : St), repR f (n + 1) st = ((repR f n st).1 ++ [(f (repR f n st).2).1], (f (repR f n st).2).2)
  | 0, _ => rfl
  | n + 1, st => by
    have h := repR_snoc f n (f st).2
    show ((f st).1 :: (repR f (n + 1) (f st).2).1, (repR f (n + 1) (f st).2).2) = _
    rw [h]
    rfl
theorem info3 : (Try.prog.info? 3).map (fun i => (i.zero, i.size, i.bytes)) = some (some (.int .i64 0), 1, 8) := by kernel_rfl
/-- The world between two rounds: the reader, the list so far. -/
theorem grown_row {W W1 W2 : World} {q : Nat} {v : Value} (h : W.grownBy W1 (some q)) (h2 : W1.grownBy W2 v.ownBlock) (hv : ∀ k, v.ownBlock = some k → W.heap.size ≤ k) : W.grownBy W2 (some q) :=
  h.andThen h2 (fun j hj => .inl (hv j hj))
theorem RD.lt {W : World} {q : Nat} {s : ByteArray} {st : St} (h : RD W q s st) : q < W.heap.size := (Array.getElem?_eq_some_iff.1 h).1
theorem RD.row {W W2 : World} {q : Nat} {s : ByteArray} {st : St} {v : Value} {b : Nat} (h : RD W q s st) (h2 : W.grownBy W2 v.ownBlock) (hq : q < b) (hv : ∀ k, v.ownBlock = some k → b ≤ k) : RD W2 q s st := by
  have hne : some q ≠ v.ownBlock := fun e => by have := hv q e.symm; omega
  exact (h2.block q h.lt hne).trans h
theorem row_keep {α : Type} {d : Kd α} {e : Nat} {w1 w2 : World} {b q : Nat} {v : Value} {xs : List α} (h : d.R e w1 b (fun _ => True) v xs) (hg : w1.grownBy w2 (some q)) (hq : q < b) : d.R e w2 b (fun _ => True) v xs :=
  Kd.R_mono (Kd.R_grown (Kd.R_bound h) hg (fun k hk e => by injection e with e; have := hk.2.1; omega)) (fun _ _ => trivial)
set_option maxRecDepth 100000 in
set_option maxHeartbeats 1000000 in
theorem ints_any {w : World} {q : Nat} {s : ByteArray} {st : St} (h : RD w q s st) (hs : s.size ≤ 140737488355328) (ha : st.at' ≤ s.size) :
    Calls Try.prog 48 #[.pointer (some ⟨q, 0, none⟩), .int .i64 4096] w fun o w' => ∃ v, o = .returned v ∧ Hid (Kd.R (Kd.int .i64) 3 w' w.heap.size (fun _ => True) v (nsR (lst s) st).1 ∧ RD w' q s (nsR (lst s) st).2 ∧ w.grownBy w' (some q)) := by
  have hu := count_any h hs ha
  have hf := ((cR_good (lst s) 4096).fwd st (by rw [lst_len]; exact ha)).2
  rw [lst_len] at hf
  have hle := cR_le (lst s) 4096 st
  obtain ⟨⟨n, st0⟩, hr⟩ : ∃ r, cR (lst s) 4096 st = r := ⟨_, rfl⟩
  have hN : nsR (lst s) st = (if (repR (iR (lst s)) n st0).2.e ≠ 0 then [] else (repR (iR (lst s)) n st0).1, (repR (iR (lst s)) n st0).2) := by
    unfold nsR lR
    rw [hr]
  rw [hr] at hu hf hle
  simp only at hu hf hle
  have HU := Lib.hid hu
  have HN := Lib.hid hN
  have HF := Lib.hid (And.intro hf (And.intro hle (And.intro hs h.lt)))
  clear h ha hu hr hN hf hle hs
  go_enter Try.func48, Try.ntmps48
  go_wp2_with (first
    | (go_at_call 45; refine HU.out.mono ?_; rintro e w1 ⟨rfl, H1⟩))
  go_loopg [5, 9] (n + 1) (fun kq v5 v9 w' => ∃ k : Nat, v9 = .int .i64 k ∧ Hid (kq + k = n + 1 ∧ k ≤ n ∧ Kd.R (Kd.int .i64) 3 w' w.heap.size (fun _ => True) v5 (repR (iR (lst s)) k st0).1 ∧ RD w' q s (repR (iR (lst s)) k st0).2 ∧ w.grownBy w' (some q)))
  case atStart =>
    exact ⟨0, rfl, ⟨rfl, Nat.zero_le _, Kd.R_nil _ _ _ _ _, H1.out.1, H1.out.2⟩⟩
  case round =>
    obtain ⟨k, rfl, HI⟩ := hrel
    by_cases hk : k < n
    · have q2 : ((k : Int) < (n : Int)) = True := eq_true (by omega)
      have hl64 : wrap64 ((k : Int) + 1) = ((k + 1 : Nat) : Int) := by
        have h3 := HF.out.2.1
        show wrap64 ((k + 1 : Nat) : Int) = _
        exact wrap_nat (by omega)
      have HK := Lib.hid hk
      have Hw := Lib.hid hl64
      have hfw := repR_fwd (iR_good (lst s)) k st0 (by rw [lst_len]; exact HF.out.1)
      rw [lst_len] at hfw
      have hsn := repR_snoc (iR (lst s)) k st0
      obtain ⟨⟨xs, st1⟩, hrk⟩ : ∃ r, repR (iR (lst s)) k st0 = r := ⟨_, rfl⟩
      have hlen := repR_len (iR (lst s)) k st0
      have HI2 := HI.out
      rw [hrk] at HI2 hfw hsn hlen
      simp only at HI2 hfw hsn hlen
      have hcall := int_any HI2.2.2.2.1 HF.out.2.2.1 hfw.2
      obtain ⟨⟨x, st2⟩, hx⟩ : ∃ r, iR (lst s) st1 = r := ⟨_, rfl⟩
      rw [hx] at hcall hsn
      simp only at hcall hsn
      have HC := Lib.hid hcall
      have HS := Lib.hid hsn
      have HJ := Lib.hid (And.intro HI2 (show (xs.length + 1) * 8 ≤ 140737488355328 by have := HF.out.2.1; omega))
      clear hk hl64 hfw hsn hrk hlen HI2 hcall hx
      go_wp2_with (first
        | (at_builtin; refine Kd.R_append (Kd.int .i64) (w0 := w2) (W := w2) w.heap.size rfl (.tmp 11) (.tmp 14) 61 3 (.int .i64 0) 8 rfl Try.underlying61 info3 rfl (by decide) (by decide) u5 xs x [.int .i64 x] (fun _ => True) (fun _ => False) rfl rfl (show (Kd.int .i64).M w2 w.heap.size (fun _ => False) x [.int .i64 x] from rfl) (fun _ h => h.elim) (fun _ _ => trivial) HQ.out.1 (Below.refl _ _) HQ.out.2 HJ.out.2 ?_; intro v1 w5 ho hb hg hat; have H5 := Lib.hid (And.intro ho hg); clear ho hb hg hat)
        | (go_at_call 24; refine HC.out.mono ?_; rintro e w2 ⟨rfl, H2⟩; have HQ := Lib.hid (show Kd.R (Kd.int .i64) 3 w2 w.heap.size (fun _ => True) u5 xs ∧ w.heap.size ≤ w2.heap.size from ⟨row_keep HJ.out.1.2.2.1 H2.out.2 HF.out.2.2.2, Nat.le_trans HJ.out.1.2.2.2.2.size H2.out.2.size⟩)))
      go_roundg (n - k)
      case measure => have := HI.out.1; have := HK.out; omega
      case rel =>
        have hb := Kd.R_base HQ.out.1
        refine ⟨k + 1, by rw [Hw.out], ⟨by have := HI.out.1; have := HK.out; omega, HK.out, ?_, ?_, ?_⟩⟩
        · rw [HS.out]; exact H5.out.1
        · rw [HS.out]; exact H2.out.1.row H5.out.2 HF.out.2.2.2 hb
        · exact grown_row (grown_then HJ.out.1.2.2.2.2 H2.out.2) H5.out.2 hb
    · have q2 : ((k : Int) < (n : Int)) = False := eq_false (by omega)
      obtain rfl : k = n := by have := HI.out.2.1; omega
      have HI2 := HI.out
      have HN2 := HN.out
      obtain ⟨⟨xs, ⟨a1, e1⟩⟩, hrk⟩ : ∃ r, repR (iR (lst s)) k st0 = r := ⟨_, rfl⟩
      rw [hrk] at HI2 HN2
      simp only at HI2 HN2
      obtain ⟨j0, j1, j2, _, _, _⟩ := HI2.2.2.2.1.cells
      simp only at j1 j2
      by_cases he : e1 = 0
      · subst he
        rw [if_neg (by simp)] at HN2
        have HR := Lib.hid (And.intro HN2 HI2)
        clear HI2 HN2 hk hrk
        go_wp2_with (fail)
        go_ret
        rw [HR.out.1]
        exact ⟨_, rfl, ⟨HR.out.2.2.2.1, HR.out.2.2.2.2⟩⟩
      · rw [if_pos he] at HN2
        have b1 : (e1 != 0) = true := by simpa using he
        have HR := Lib.hid (And.intro HN2 HI2)
        clear HI2 HN2 hk hrk he
        go_wp2_with (fail)
        go_ret
        rw [HR.out.1]
        exact ⟨_, rfl, ⟨Kd.R_nil _ _ _ _ _, HR.out.2.2.2.2⟩⟩
/-- The reader's end: a fault where more stands behind. -/
def endR (s : Bs) (st : St) : St := if st.e ≠ 0 then st else if st.at' < s.length then ⟨st.at', 16⟩ else st
set_option maxRecDepth 100000 in
set_option maxHeartbeats 1000000 in
theorem end_any {W : World} {q : Nat} {s : ByteArray} {st : St} (h : RD W q s st) (hs : s.size ≤ 140737488355328) (ha : st.at' ≤ s.size) :
    Calls Try.prog 34 #[.pointer (some ⟨q, 0, none⟩)] W fun o w' => o = .returned (.bool ((endR (lst s) st).e == 0)) ∧ Hid (RD w' q s (endR (lst s) st) ∧ W.grownBy w' (some q)) := by
  obtain ⟨k0, k1, k2, f0, f1, f2⟩ := h.cells
  have hE : endR (lst s) st = if st.e ≠ 0 then st else if st.at' < s.size then ⟨st.at', 16⟩ else st := by unfold endR; rw [lst_len]
  obtain ⟨a, e⟩ := st
  simp only at k1 k2 ha hE
  have H := Lib.hid h
  by_cases he : e = 0
  · subst he
    rw [if_neg (by simp)] at hE
    by_cases hl : a < s.size
    · rw [if_pos hl] at hE
      have HE := Lib.hid hE
      have b1 : ((a : Int) < (s.size : Int)) = True := eq_true (by omega)
      clear h hs ha hE hl
      go_enter Try.func34, Try.ntmps34
      go_wp2_with (fail)
      go_quiet (fail)
      go_wp2_with (go_at_call 49; refine (fail_any (H.out.drewN _) rfl 16).mono ?_; rintro e w2 ⟨rfl, H2⟩; obtain ⟨i0, i1, i2, _, _, _⟩ := H2.out.1.cells)
      go_ret
      rw [HE.out]
      exact ⟨rfl, ⟨H2.out.1, grown_dn H2.out.2⟩⟩
    · rw [if_neg hl] at hE
      have HE := Lib.hid hE
      have b1 : ((a : Int) < (s.size : Int)) = False := eq_false (by omega)
      clear h hs ha hE hl
      go_enter Try.func34, Try.ntmps34
      go_wp2_with (fail)
      go_quiet (fail)
      go_wp2_with (fail)
      go_ret
      rw [HE.out]
      exact ⟨rfl, ⟨H.out.drewN _, ⟨rfl, rfl, rfl, Nat.le_refl _, fun j hj _ => rfl⟩⟩⟩
  · rw [if_pos he] at hE
    have HE := Lib.hid hE
    have b1 : (e == 0) = false := by simpa using he
    clear h hs ha hE he
    go_enter Try.func34, Try.ntmps34
    go_wp2_with (fail)
    go_quiet (fail)
    go_wp2_with (fail)
    go_ret
    rw [HE.out]
    exact ⟨by show _ = Ending.returned (Value.bool (e == 0)); rw [b1]; rfl, ⟨H.out.drewN _, ⟨rfl, rfl, rfl, Nat.le_refl _, fun j hj _ => rfl⟩⟩⟩
end Go.Proofs.Ythpgjeiglhdciaa.SN

/- The decoder: prices. -/
namespace Go.Proofs.Ythpgjeiglhdciaa.SN
open Go Go.RowKit Go.Proofs Go.Proofs.Ythpgjeiglhdciaa.PL Go.Proofs.YthpgjeiglhdciaaW.PrintWords Go.Proofs.YthpgjeiglhdciaaW.PrintLast Go.Proofs.YthpgjeiglhdciaaW.PrintMore
theorem int_all {q : Nat} {s : ByteArray} {st : St} (hs : s.size ≤ 140737488355328) (ha : st.at' ≤ s.size) (w : World) (h : RD w q s st) :
    Calls Try.prog 24 #[.pointer (some ⟨q, 0, none⟩)] w fun o w' => o = .returned (.int .i64 (iR (lst s) st).1) ∧ Hid (RD w' q s (iR (lst s) st).2 ∧ w.grownBy w' (some q)) := int_any h hs ha
theorem text_all {q : Nat} {s : ByteArray} {st : St} (hs : s.size ≤ 140737488355328) (ha : st.at' ≤ s.size) (w : World) (h : RD w q s st) :
    Calls Try.prog 46 #[.pointer (some ⟨q, 0, none⟩), .int .i64 160] w fun o w' => o = .returned (.string (bst (tR (lst s) 160 st).1)) ∧ Hid (RD w' q s (tR (lst s) 160 st).2 ∧ w.grownBy w' (some q)) := text_any h hs ha
theorem int_le {s : ByteArray} {st : St} (ha : st.at' ≤ s.size) : (iR (lst s) st).2.at' ≤ s.size := by
  have h := ((iR_good (lst s)).fwd st (by rw [lst_len]; exact ha)).2
  rw [lst_len] at h
  exact h
theorem text_le {s : ByteArray} {st : St} (ha : st.at' ≤ s.size) : (tR (lst s) 160 st).2.at' ≤ s.size := by
  have h := ((tR_good (lst s) 160).fwd st (by rw [lst_len]; exact ha)).2
  rw [lst_len] at h
  exact h
/-- The decoder's own cell: it holds the reader. -/
def BX (w : World) (g q : Nat) : Prop := w.heap[g]? = some (.cells #[.pointer (some ⟨q, 0, none⟩)] 101 (0, 0))
theorem BX.lt {w : World} {g q : Nat} (h : BX w g q) : g < w.heap.size := (Array.getElem?_eq_some_iff.1 h).1
theorem BX.cell {w : World} {g q : Nat} (h : BX w g q) : w.cell? ⟨g, 0, none⟩ = some (.pointer (some ⟨q, 0, none⟩)) := by
  unfold BX at h
  simp [World.cell?, h]
theorem BX.grown {w w' : World} {g q : Nat} (h : BX w g q) (hg : w.grownBy w' (some q)) (hq : q < g) : BX w' g q := (hg.block g h.lt (fun e => by injection e with e; omega)).trans h
theorem BX.row {w w' : World} {g q : Nat} {v : Value} {b : Nat} (h : BX w g q) (hg : w.grownBy w' v.ownBlock) (hq : g < b) (hv : ∀ k, v.ownBlock = some k → b ≤ k) : BX w' g q :=
  (hg.block g h.lt (fun e => by have := hv g e.symm; omega)).trans h
theorem grown_dw {W W' : World} {q : Nat} (h : W.drew.grownBy W' (some q)) : W.grownBy W' (some q) := by
  have h0 : W.grownBy W.drew none := ⟨rfl, rfl, rfl, by simp, fun j hj _ => rfl⟩
  exact (h0.but (some q)).andThen h (fun j hj => .inr hj)
theorem count_box {w : World} {q : Nat} {s : ByteArray} {st : St} (h : RD w q s st) (hs : s.size ≤ 140737488355328) (ha : st.at' ≤ s.size) :
    Calls Try.prog 45 #[.pointer (some ⟨q, 0, none⟩), .int .i64 4096] (w.alloc (.cells #[.pointer (some ⟨q, 0, none⟩)] 101)) fun o w' => o = .returned (.int .i64 (cR (lst s) 4096 st).1) ∧ Hid (BX w' w.heap.size q ∧ RD w' q s (cR (lst s) 4096 st).2 ∧ w.grownBy w' (some q)) := by
  have h0 : RD (w.alloc (.cells #[.pointer (some ⟨q, 0, none⟩)] 101)) q s st := ((below_alloc (Below.refl w.heap.size w) _).block q h.lt).trans h
  refine (count_any h0 hs ha).mono ?_
  rintro o w' ⟨rfl, H⟩
  have hb : BX (w.alloc (.cells #[.pointer (some ⟨q, 0, none⟩)] 101)) w.heap.size q := (Go.MapKept.heap_alloc w _).1
  have h1 : w.grownBy (w.alloc (.cells #[.pointer (some ⟨q, 0, none⟩)] 101)) none := ⟨rfl, rfl, rfl, by simp, fun j hj _ => (below_alloc (Below.refl w.heap.size w) _).block j hj⟩
  exact ⟨rfl, ⟨hb.grown H.out.2 h.lt, H.out.1, (h1.but (some q)).andThen H.out.2 (fun j hj => .inr hj)⟩⟩
/-- One of the prices, as it is written. -/
def pricesE (p : S70) : Bs := encT (lst p.f0) ++ (encI p.f1)
/-- One of the prices, read. -/
def pricesR (s : Bs) : St → S70 × St := mapR (fun p : Bs × Int => (⟨bst (p.1), p.2⟩ : S70)) (andR (tR s 160) (iR s))
theorem pricesR_good (s : Bs) : Good s (pricesR s) pricesE := (Good.map ((tR_good s 160).and (iR_good s)) _ _ (fun a => by simp only [pricesE, lst_bst]))
set_option maxRecDepth 100000 in
set_option maxHeartbeats 1000000 in
theorem prices_any {w : World} {q : Nat} {s : ByteArray} {st : St} (h : RD w q s st) (hs : s.size ≤ 140737488355328) (ha : st.at' ≤ s.size) :
    Calls Try.prog 27 #[.agg #[.pointer (some ⟨q, 0, none⟩)]] w fun o w' => ∃ v, o = .returned v ∧ Hid (k70.R 70 w' w.heap.size (fun _ => True) v (lR (lst s) (pricesR (lst s)) st).1 ∧ RD w' q s (lR (lst s) (pricesR (lst s)) st).2 ∧ w.grownBy w' (some q)) := by
  have hu := count_box h hs ha
  have hf := ((cR_good (lst s) 4096).fwd st (by rw [lst_len]; exact ha)).2
  rw [lst_len] at hf
  have hle := cR_le (lst s) 4096 st
  obtain ⟨⟨n, st0⟩, hr⟩ : ∃ r, cR (lst s) 4096 st = r := ⟨_, rfl⟩
  have hN : lR (lst s) (pricesR (lst s)) st = repR (pricesR (lst s)) n st0 := by
    unfold lR
    rw [hr]
  rw [hr] at hu hf hle
  simp only at hu hf hle
  obtain ⟨g, hg⟩ : ∃ g, w.heap.size = g := ⟨_, rfl⟩
  have hq := h.lt
  rw [hg] at hu hq
  have HU := Lib.hid hu
  have HN := Lib.hid hN
  have HF := Lib.hid (And.intro hf (And.intro hle (And.intro hs hq)))
  have HG := Lib.hid hg
  clear h ha hu hr hN hf hle hs hq
  go_enter Try.func27, Try.ntmps27
  rw [hg]
  go_wp2_with (go_at_call 45; refine HU.out.mono ?_; rintro e w1 ⟨rfl, H1⟩)
  try simp only [hg]
  clear hg
  go_loopg [3, 7] (n + 1) (fun kq v3 v7 w' => ∃ k : Nat, v7 = .int .i64 k ∧ Hid (kq + k = n + 1 ∧ k ≤ n ∧ k70.R 70 w' (g + 1) (fun _ => True) v3 (repR (pricesR (lst s)) k st0).1 ∧ RD w' q s (repR (pricesR (lst s)) k st0).2 ∧ BX w' g q ∧ w.grownBy w' (some q)))
  case atStart =>
    exact ⟨0, rfl, ⟨rfl, Nat.zero_le _, Kd.R_nil _ _ _ _ _, H1.out.2.1, H1.out.1, H1.out.2.2⟩⟩
  case round =>
    obtain ⟨k, rfl, HI⟩ := hrel
    by_cases hk : k < n
    · have q2 : ((k : Int) < (n : Int)) = True := eq_true (by omega)
      have hl64 : wrap64 ((k : Int) + 1) = ((k + 1 : Nat) : Int) := by
        have h3 := HF.out.2.1
        show wrap64 ((k + 1 : Nat) : Int) = _
        exact wrap_nat (by omega)
      have HK := Lib.hid hk
      have Hw := Lib.hid hl64
      have hfw := repR_fwd (pricesR_good (lst s)) k st0 (by rw [lst_len]; exact HF.out.1)
      rw [lst_len] at hfw
      have hsn := repR_snoc (pricesR (lst s)) k st0
      obtain ⟨⟨xs, st1⟩, hrk⟩ : ∃ r, repR (pricesR (lst s)) k st0 = r := ⟨_, rfl⟩
      have hlen := repR_len (pricesR (lst s)) k st0
      have HI2 := HI.out
      rw [hrk] at HI2 hfw hsn hlen
      simp only at HI2 hfw hsn hlen
      have l0 := hfw.2
      have hp : pricesR (lst s) st1 = (⟨bst (tR (lst s) 160 st1).1, (iR (lst s) (tR (lst s) 160 st1).2).1⟩, (iR (lst s) (tR (lst s) 160 st1).2).2) := rfl
      rw [hp] at hsn
      have c1 := text_all (q := q) HF.out.2.2.1 l0
      have l1 := text_le (s := s) l0
      obtain ⟨⟨y1, st2⟩, hy1⟩ : ∃ r, tR (lst s) 160 st1 = r := ⟨_, rfl⟩
      rw [hy1] at c1 l1 hsn
      simp only at c1 l1 hsn
      have c2 := int_all (q := q) HF.out.2.2.1 l1
      have l2 := int_le (s := s) l1
      obtain ⟨⟨y2, st3⟩, hy2⟩ : ∃ r, iR (lst s) st2 = r := ⟨_, rfl⟩
      rw [hy2] at c2 l2 hsn
      simp only at c2 l2 hsn
      have C1 := Lib.hid c1
      have C2 := Lib.hid c2
      have HS := Lib.hid hsn
      have HJ := Lib.hid (And.intro HI2.2.2.1 (And.intro HI2.2.2.2.1 (And.intro HI2.2.2.2.2.1 (And.intro (Nat.lt_succ_of_lt HF.out.2.2.2) (And.intro HF.out.2.2.2 (And.intro (Nat.succ_le_of_lt HI2.2.2.2.2.1.lt) (show (xs.length + 1) * 24 ≤ 140737488355328 by have := HF.out.2.1; omega)))))))
      have hSD : wr.drew.cell? ⟨g, 0, none⟩ = some (.pointer (some ⟨q, 0, none⟩)) := HI2.2.2.2.2.1.cell
      have HSA := Lib.hid (show ∀ (w' : World) (o : Obj), w'.cell? ⟨g, 0, none⟩ = some (.pointer (some ⟨q, 0, none⟩)) → (w'.alloc o).cell? ⟨g, 0, none⟩ = some (.pointer (some ⟨q, 0, none⟩)) from fun w' o h0 => ((Below.refl w'.heap.size w').alloc (Nat.le_refl _) o |>.cell (World.block_lt_of_cell? w' _ h0)).trans h0)
      clear hk hl64 hfw hsn hrk hlen HI2 hp l0 c1 l1 hy1 c2 l2 hy2
      go_wp2
      go_region_held3 (fun w' => w'.cell? ⟨g, 0, none⟩ = some (.pointer (some ⟨q, 0, none⟩)))
        (first | assumption | exact HSA.out _ _ (by assumption))
        (first
          | (refine Kd.R_append_step k70 (w0 := w3) (W := w3) (g + 1) (by rfl) (.tmp 9) (.tmp 17) 40 70 (.agg #[(.string ⟨#[]⟩), (.int .i64 0)]) 24 rfl Try.underlying40 info70 rfl (by decide) (by decide) u3 xs ⟨bst y1, y2⟩ [.string (bst y1), .int .i64 y2] (fun _ => True) (fun _ => False) rfl rfl (k70_mkM _ _ _ _) (fun _ h => h.elim) (fun _ _ => trivial) HQ.out.1 (Below.refl _ _) HQ.out.2.1 HJ.out.2.2.2.2.2.2 ?_; intro v1 wz ho hb hg5 hat; have kk5 := (HQ.out.2.2.1.row hg5 (Nat.lt_succ_self g) (Kd.R_base HQ.out.1)).cell; have H5 := Lib.hid (And.intro ho hg5); clear ho hb hg5 hat)
          | (go_at_call 24; refine (C2.out _ X1.out.1).mono ?_; rintro e w3 ⟨rfl, X2⟩; have G2 := Lib.hid (show wr.grownBy w3 (some q) from grown_then G1.out X2.out.2); have kx2 := (HJ.out.2.2.1.grown G2.out HJ.out.2.2.2.2.1).cell; have HQ := Lib.hid (And.intro (row_keep HJ.out.1 G2.out HJ.out.2.2.2.1) (And.intro (Nat.le_trans HJ.out.2.2.2.2.2.1 G2.out.size) (And.intro (HJ.out.2.2.1.grown G2.out HJ.out.2.2.2.2.1) G2.out))))
          | (go_at_call 46; refine (C1.out wr.drew HJ.out.2.1).mono ?_; rintro e w2 ⟨rfl, X1⟩; have G1 := Lib.hid (show wr.grownBy w2 (some q) from grown_dw X1.out.2); have kx1 := (HJ.out.2.2.1.grown G1.out HJ.out.2.2.2.2.1).cell))
      go_wp2
      go_roundg (n - k)
      case measure => have := HI.out.1; have := HK.out; omega
      case rel =>
        have hb := Kd.R_base HQ.out.1
        refine ⟨k + 1, by rw [Hw.out], ⟨by have := HI.out.1; have := HK.out; omega, HK.out, ?_, ?_, ?_, ?_⟩⟩
        · rw [HS.out]; exact H5.out.1
        · rw [HS.out]; exact X2.out.1.row H5.out.2 HJ.out.2.2.2.1 hb
        · exact HQ.out.2.2.1.row H5.out.2 (Nat.lt_succ_self g) hb
        · exact grown_row (grown_then HI.out.2.2.2.2.2 HQ.out.2.2.2) H5.out.2 (fun k hk => by have := hb k hk; have := HG.out; omega)
    · have q2 : ((k : Int) < (n : Int)) = False := eq_false (by omega)
      obtain rfl : k = n := by have := HI.out.2.1; omega
      clear hk
      go_wp2_with (fail)
      go_ret
      rw [HN.out]
      exact ⟨_, rfl, ⟨Kd.R_lower HI.out.2.2.1 (by have := HG.out; omega), HI.out.2.2.2.1, HI.out.2.2.2.2.2⟩⟩
end Go.Proofs.Ythpgjeiglhdciaa.SN

/- The decoder: assets, quotes, links (printed by genflat.py). -/
namespace Go.Proofs.Ythpgjeiglhdciaa.SN
open Go Go.RowKit Go.Proofs Go.Proofs.Ythpgjeiglhdciaa.PL Go.Proofs.YthpgjeiglhdciaaW.PrintWords Go.Proofs.YthpgjeiglhdciaaW.PrintLast Go.Proofs.YthpgjeiglhdciaaW.PrintMore
theorem info127 : (Try.prog.info? 127).map (fun i => (i.zero, i.size, i.bytes)) = some (some (.agg #[(.int .i64 0), (.int .i64 0), (.int .i64 0), (.int .i64 0), (.int .i64 0), (.int .i64 0), (.int .i64 0), (.int .i64 0)]), 8, 64) := by kernel_rfl
/-- One of the assets, as it is written. -/
def assetsE (p : S57) : Bs := encT (lst p.f0) ++ (encI p.f1 ++ (encI p.f2 ++ (encI p.f3 ++ (encT (lst p.f4)))))
/-- One of the assets, read. -/
def assetsR (s : Bs) : St → S57 × St := mapR (fun p : Bs × Int × Int × Int × Bs => (⟨bst (p.1), p.2.1, p.2.2.1, p.2.2.2.1, bst (p.2.2.2.2)⟩ : S57)) (andR (tR s 160) (andR (iR s) (andR (iR s) (andR (iR s) (tR s 160)))))
theorem assetsR_good (s : Bs) : Good s (assetsR s) assetsE := (Good.map ((tR_good s 160).and ((iR_good s).and ((iR_good s).and ((iR_good s).and (tR_good s 160))))) _ _ (fun a => by simp only [assetsE, lst_bst]))
set_option maxRecDepth 100000 in
set_option maxHeartbeats 1000000 in
theorem assets_any {w : World} {q : Nat} {s : ByteArray} {st : St} (h : RD w q s st) (hs : s.size ≤ 140737488355328) (ha : st.at' ≤ s.size) :
    Calls Try.prog 26 #[.agg #[.pointer (some ⟨q, 0, none⟩)]] w fun o w' => ∃ v, o = .returned v ∧ Hid (k57.R 57 w' w.heap.size (fun _ => True) v (lR (lst s) (assetsR (lst s)) st).1 ∧ RD w' q s (lR (lst s) (assetsR (lst s)) st).2 ∧ w.grownBy w' (some q)) := by
  have hu := count_box h hs ha
  have hf := ((cR_good (lst s) 4096).fwd st (by rw [lst_len]; exact ha)).2
  rw [lst_len] at hf
  have hle := cR_le (lst s) 4096 st
  obtain ⟨⟨n, st0⟩, hr⟩ : ∃ r, cR (lst s) 4096 st = r := ⟨_, rfl⟩
  have hN : lR (lst s) (assetsR (lst s)) st = repR (assetsR (lst s)) n st0 := by
    unfold lR
    rw [hr]
  rw [hr] at hu hf hle
  simp only at hu hf hle
  obtain ⟨g, hg⟩ : ∃ g, w.heap.size = g := ⟨_, rfl⟩
  have hq := h.lt
  rw [hg] at hu hq
  have HU := Lib.hid hu
  have HN := Lib.hid hN
  have HF := Lib.hid (And.intro hf (And.intro hle (And.intro hs hq)))
  have HG := Lib.hid hg
  clear h ha hu hr hN hf hle hs hq
  go_enter Try.func26, Try.ntmps26
  rw [hg]
  go_wp2_with (go_at_call 45; refine HU.out.mono ?_; rintro e w1 ⟨rfl, H1⟩)
  try simp only [hg]
  clear hg
  go_loopg [3, 7] (n + 1) (fun kq v3 v7 w' => ∃ k : Nat, v7 = .int .i64 k ∧ Hid (kq + k = n + 1 ∧ k ≤ n ∧ k57.R 57 w' (g + 1) (fun _ => True) v3 (repR (assetsR (lst s)) k st0).1 ∧ RD w' q s (repR (assetsR (lst s)) k st0).2 ∧ BX w' g q ∧ w.grownBy w' (some q)))
  case atStart =>
    exact ⟨0, rfl, ⟨rfl, Nat.zero_le _, Kd.R_nil _ _ _ _ _, H1.out.2.1, H1.out.1, H1.out.2.2⟩⟩
  case round =>
    obtain ⟨k, rfl, HI⟩ := hrel
    by_cases hk : k < n
    · have q2 : ((k : Int) < (n : Int)) = True := eq_true (by omega)
      have hl64 : wrap64 ((k : Int) + 1) = ((k + 1 : Nat) : Int) := by
        have h3 := HF.out.2.1
        show wrap64 ((k + 1 : Nat) : Int) = _
        exact wrap_nat (by omega)
      have HK := Lib.hid hk
      have Hw := Lib.hid hl64
      have hfw := repR_fwd (assetsR_good (lst s)) k st0 (by rw [lst_len]; exact HF.out.1)
      rw [lst_len] at hfw
      have hsn := repR_snoc (assetsR (lst s)) k st0
      obtain ⟨⟨xs, st1⟩, hrk⟩ : ∃ r, repR (assetsR (lst s)) k st0 = r := ⟨_, rfl⟩
      have hlen := repR_len (assetsR (lst s)) k st0
      have HI2 := HI.out
      rw [hrk] at HI2 hfw hsn hlen
      simp only at HI2 hfw hsn hlen
      have l0 := hfw.2
      have hp : assetsR (lst s) st1 = (⟨bst (tR (lst s) 160 st1).1, (iR (lst s) (tR (lst s) 160 st1).2).1, (iR (lst s) (iR (lst s) (tR (lst s) 160 st1).2).2).1, (iR (lst s) (iR (lst s) (iR (lst s) (tR (lst s) 160 st1).2).2).2).1, bst (tR (lst s) 160 (iR (lst s) (iR (lst s) (iR (lst s) (tR (lst s) 160 st1).2).2).2).2).1⟩, (tR (lst s) 160 (iR (lst s) (iR (lst s) (iR (lst s) (tR (lst s) 160 st1).2).2).2).2).2) := rfl
      rw [hp] at hsn
      have c1 := text_all (q := q) HF.out.2.2.1 l0
      have l1 := text_le (s := s) l0
      obtain ⟨⟨y1, st2⟩, hy1⟩ : ∃ r, tR (lst s) 160 st1 = r := ⟨_, rfl⟩
      rw [hy1] at c1 l1 hsn
      simp only at c1 l1 hsn
      have c2 := int_all (q := q) HF.out.2.2.1 l1
      have l2 := int_le (s := s) l1
      obtain ⟨⟨y2, st3⟩, hy2⟩ : ∃ r, iR (lst s) st2 = r := ⟨_, rfl⟩
      rw [hy2] at c2 l2 hsn
      simp only at c2 l2 hsn
      have c3 := int_all (q := q) HF.out.2.2.1 l2
      have l3 := int_le (s := s) l2
      obtain ⟨⟨y3, st4⟩, hy3⟩ : ∃ r, iR (lst s) st3 = r := ⟨_, rfl⟩
      rw [hy3] at c3 l3 hsn
      simp only at c3 l3 hsn
      have c4 := int_all (q := q) HF.out.2.2.1 l3
      have l4 := int_le (s := s) l3
      obtain ⟨⟨y4, st5⟩, hy4⟩ : ∃ r, iR (lst s) st4 = r := ⟨_, rfl⟩
      rw [hy4] at c4 l4 hsn
      simp only at c4 l4 hsn
      have c5 := text_all (q := q) HF.out.2.2.1 l4
      have l5 := text_le (s := s) l4
      obtain ⟨⟨y5, st6⟩, hy5⟩ : ∃ r, tR (lst s) 160 st5 = r := ⟨_, rfl⟩
      rw [hy5] at c5 l5 hsn
      simp only at c5 l5 hsn
      have C1 := Lib.hid c1
      have C2 := Lib.hid c2
      have C3 := Lib.hid c3
      have C4 := Lib.hid c4
      have C5 := Lib.hid c5
      have HS := Lib.hid hsn
      have HJ := Lib.hid (And.intro HI2.2.2.1 (And.intro HI2.2.2.2.1 (And.intro HI2.2.2.2.2.1 (And.intro (Nat.lt_succ_of_lt HF.out.2.2.2) (And.intro HF.out.2.2.2 (And.intro (Nat.succ_le_of_lt HI2.2.2.2.2.1.lt) (show (xs.length + 1) * 56 ≤ 140737488355328 by have := HF.out.2.1; omega)))))))
      have hSD : wr.drew.cell? ⟨g, 0, none⟩ = some (.pointer (some ⟨q, 0, none⟩)) := HI2.2.2.2.2.1.cell
      have HSA := Lib.hid (show ∀ (w' : World) (o : Obj), w'.cell? ⟨g, 0, none⟩ = some (.pointer (some ⟨q, 0, none⟩)) → (w'.alloc o).cell? ⟨g, 0, none⟩ = some (.pointer (some ⟨q, 0, none⟩)) from fun w' o h0 => ((Below.refl w'.heap.size w').alloc (Nat.le_refl _) o |>.cell (World.block_lt_of_cell? w' _ h0)).trans h0)
      clear hk hl64 hfw hsn hrk hlen HI2 hp l0 c1 l1 hy1 c2 l2 hy2 c3 l3 hy3 c4 l4 hy4 c5 l5 hy5
      go_wp2
      go_region_held3 (fun w' => w'.cell? ⟨g, 0, none⟩ = some (.pointer (some ⟨q, 0, none⟩)))
        (first | assumption | exact HSA.out _ _ (by assumption))
        (first
          | (refine Kd.R_append_step k57 (w0 := w6) (W := w6) (g + 1) (by rfl) (.tmp 9) (.tmp 26) 39 57 (.agg #[(.string ⟨#[]⟩), (.int .i64 0), (.int .i64 0), (.int .i64 0), (.string ⟨#[]⟩)]) 56 rfl Try.underlying39 info57 rfl (by decide) (by decide) u3 xs ⟨bst y1, y2, y3, y4, bst y5⟩ [.string (bst y1), .int .i64 y2, .int .i64 y3, .int .i64 y4, .string (bst y5)] (fun _ => True) (fun _ => False) rfl rfl (k57_mkM _ _ _ _) (fun _ h => h.elim) (fun _ _ => trivial) HQ.out.1 (Below.refl _ _) HQ.out.2.1 HJ.out.2.2.2.2.2.2 ?_; intro v1 wz ho hb hg5 hat; have kk5 := (HQ.out.2.2.1.row hg5 (Nat.lt_succ_self g) (Kd.R_base HQ.out.1)).cell; have H5 := Lib.hid (And.intro ho hg5); clear ho hb hg5 hat)
          | (go_at_call 46; refine (C5.out _ X4.out.1).mono ?_; rintro e w6 ⟨rfl, X5⟩; have G5 := Lib.hid (show wr.grownBy w6 (some q) from grown_then G4.out X5.out.2); have kx5 := (HJ.out.2.2.1.grown G5.out HJ.out.2.2.2.2.1).cell; have HQ := Lib.hid (And.intro (row_keep HJ.out.1 G5.out HJ.out.2.2.2.1) (And.intro (Nat.le_trans HJ.out.2.2.2.2.2.1 G5.out.size) (And.intro (HJ.out.2.2.1.grown G5.out HJ.out.2.2.2.2.1) G5.out))))
          | (go_at_call 24; refine (C4.out _ X3.out.1).mono ?_; rintro e w5 ⟨rfl, X4⟩; have G4 := Lib.hid (show wr.grownBy w5 (some q) from grown_then G3.out X4.out.2); have kx4 := (HJ.out.2.2.1.grown G4.out HJ.out.2.2.2.2.1).cell)
          | (go_at_call 24; refine (C3.out _ X2.out.1).mono ?_; rintro e w4 ⟨rfl, X3⟩; have G3 := Lib.hid (show wr.grownBy w4 (some q) from grown_then G2.out X3.out.2); have kx3 := (HJ.out.2.2.1.grown G3.out HJ.out.2.2.2.2.1).cell)
          | (go_at_call 24; refine (C2.out _ X1.out.1).mono ?_; rintro e w3 ⟨rfl, X2⟩; have G2 := Lib.hid (show wr.grownBy w3 (some q) from grown_then G1.out X2.out.2); have kx2 := (HJ.out.2.2.1.grown G2.out HJ.out.2.2.2.2.1).cell)
          | (go_at_call 46; refine (C1.out wr.drew HJ.out.2.1).mono ?_; rintro e w2 ⟨rfl, X1⟩; have G1 := Lib.hid (show wr.grownBy w2 (some q) from grown_dw X1.out.2); have kx1 := (HJ.out.2.2.1.grown G1.out HJ.out.2.2.2.2.1).cell))
      go_wp2
      go_roundg (n - k)
      case measure => have := HI.out.1; have := HK.out; omega
      case rel =>
        have hb := Kd.R_base HQ.out.1
        refine ⟨k + 1, by rw [Hw.out], ⟨by have := HI.out.1; have := HK.out; omega, HK.out, ?_, ?_, ?_, ?_⟩⟩
        · rw [HS.out]; exact H5.out.1
        · rw [HS.out]; exact X5.out.1.row H5.out.2 HJ.out.2.2.2.1 hb
        · exact HQ.out.2.2.1.row H5.out.2 (Nat.lt_succ_self g) hb
        · exact grown_row (grown_then HI.out.2.2.2.2.2 HQ.out.2.2.2) H5.out.2 (fun k hk => by have := hb k hk; have := HG.out; omega)
    · have q2 : ((k : Int) < (n : Int)) = False := eq_false (by omega)
      obtain rfl : k = n := by have := HI.out.2.1; omega
      clear hk
      go_wp2_with (fail)
      go_ret
      rw [HN.out]
      exact ⟨_, rfl, ⟨Kd.R_lower HI.out.2.2.1 (by have := HG.out; omega), HI.out.2.2.2.1, HI.out.2.2.2.2.2⟩⟩
/-- One of the links, as it is written. -/
def linksE (p : S80) : Bs := encI p.f0 ++ (encI p.f1 ++ (encT (lst p.f2) ++ (encI p.f3)))
/-- One of the links, read. -/
def linksR (s : Bs) : St → S80 × St := mapR (fun p : Int × Int × Bs × Int => (⟨p.1, p.2.1, bst (p.2.2.1), p.2.2.2⟩ : S80)) (andR (iR s) (andR (iR s) (andR (tR s 160) (iR s))))
theorem linksR_good (s : Bs) : Good s (linksR s) linksE := (Good.map ((iR_good s).and ((iR_good s).and ((tR_good s 160).and (iR_good s)))) _ _ (fun a => by simp only [linksE, lst_bst]))
set_option maxRecDepth 100000 in
set_option maxHeartbeats 1000000 in
theorem links_any {w : World} {q : Nat} {s : ByteArray} {st : St} (h : RD w q s st) (hs : s.size ≤ 140737488355328) (ha : st.at' ≤ s.size) :
    Calls Try.prog 33 #[.agg #[.pointer (some ⟨q, 0, none⟩)]] w fun o w' => ∃ v, o = .returned v ∧ Hid (k80.R 80 w' w.heap.size (fun _ => True) v (lR (lst s) (linksR (lst s)) st).1 ∧ RD w' q s (lR (lst s) (linksR (lst s)) st).2 ∧ w.grownBy w' (some q)) := by
  have hu := count_box h hs ha
  have hf := ((cR_good (lst s) 4096).fwd st (by rw [lst_len]; exact ha)).2
  rw [lst_len] at hf
  have hle := cR_le (lst s) 4096 st
  obtain ⟨⟨n, st0⟩, hr⟩ : ∃ r, cR (lst s) 4096 st = r := ⟨_, rfl⟩
  have hN : lR (lst s) (linksR (lst s)) st = repR (linksR (lst s)) n st0 := by
    unfold lR
    rw [hr]
  rw [hr] at hu hf hle
  simp only at hu hf hle
  obtain ⟨g, hg⟩ : ∃ g, w.heap.size = g := ⟨_, rfl⟩
  have hq := h.lt
  rw [hg] at hu hq
  have HU := Lib.hid hu
  have HN := Lib.hid hN
  have HF := Lib.hid (And.intro hf (And.intro hle (And.intro hs hq)))
  have HG := Lib.hid hg
  clear h ha hu hr hN hf hle hs hq
  go_enter Try.func33, Try.ntmps33
  rw [hg]
  go_wp2_with (go_at_call 45; refine HU.out.mono ?_; rintro e w1 ⟨rfl, H1⟩)
  try simp only [hg]
  clear hg
  go_loopg [3, 7] (n + 1) (fun kq v3 v7 w' => ∃ k : Nat, v7 = .int .i64 k ∧ Hid (kq + k = n + 1 ∧ k ≤ n ∧ k80.R 80 w' (g + 1) (fun _ => True) v3 (repR (linksR (lst s)) k st0).1 ∧ RD w' q s (repR (linksR (lst s)) k st0).2 ∧ BX w' g q ∧ w.grownBy w' (some q)))
  case atStart =>
    exact ⟨0, rfl, ⟨rfl, Nat.zero_le _, Kd.R_nil _ _ _ _ _, H1.out.2.1, H1.out.1, H1.out.2.2⟩⟩
  case round =>
    obtain ⟨k, rfl, HI⟩ := hrel
    by_cases hk : k < n
    · have q2 : ((k : Int) < (n : Int)) = True := eq_true (by omega)
      have hl64 : wrap64 ((k : Int) + 1) = ((k + 1 : Nat) : Int) := by
        have h3 := HF.out.2.1
        show wrap64 ((k + 1 : Nat) : Int) = _
        exact wrap_nat (by omega)
      have HK := Lib.hid hk
      have Hw := Lib.hid hl64
      have hfw := repR_fwd (linksR_good (lst s)) k st0 (by rw [lst_len]; exact HF.out.1)
      rw [lst_len] at hfw
      have hsn := repR_snoc (linksR (lst s)) k st0
      obtain ⟨⟨xs, st1⟩, hrk⟩ : ∃ r, repR (linksR (lst s)) k st0 = r := ⟨_, rfl⟩
      have hlen := repR_len (linksR (lst s)) k st0
      have HI2 := HI.out
      rw [hrk] at HI2 hfw hsn hlen
      simp only at HI2 hfw hsn hlen
      have l0 := hfw.2
      have hp : linksR (lst s) st1 = (⟨(iR (lst s) st1).1, (iR (lst s) (iR (lst s) st1).2).1, bst (tR (lst s) 160 (iR (lst s) (iR (lst s) st1).2).2).1, (iR (lst s) (tR (lst s) 160 (iR (lst s) (iR (lst s) st1).2).2).2).1⟩, (iR (lst s) (tR (lst s) 160 (iR (lst s) (iR (lst s) st1).2).2).2).2) := rfl
      rw [hp] at hsn
      have c1 := int_all (q := q) HF.out.2.2.1 l0
      have l1 := int_le (s := s) l0
      obtain ⟨⟨y1, st2⟩, hy1⟩ : ∃ r, iR (lst s) st1 = r := ⟨_, rfl⟩
      rw [hy1] at c1 l1 hsn
      simp only at c1 l1 hsn
      have c2 := int_all (q := q) HF.out.2.2.1 l1
      have l2 := int_le (s := s) l1
      obtain ⟨⟨y2, st3⟩, hy2⟩ : ∃ r, iR (lst s) st2 = r := ⟨_, rfl⟩
      rw [hy2] at c2 l2 hsn
      simp only at c2 l2 hsn
      have c3 := text_all (q := q) HF.out.2.2.1 l2
      have l3 := text_le (s := s) l2
      obtain ⟨⟨y3, st4⟩, hy3⟩ : ∃ r, tR (lst s) 160 st3 = r := ⟨_, rfl⟩
      rw [hy3] at c3 l3 hsn
      simp only at c3 l3 hsn
      have c4 := int_all (q := q) HF.out.2.2.1 l3
      have l4 := int_le (s := s) l3
      obtain ⟨⟨y4, st5⟩, hy4⟩ : ∃ r, iR (lst s) st4 = r := ⟨_, rfl⟩
      rw [hy4] at c4 l4 hsn
      simp only at c4 l4 hsn
      have C1 := Lib.hid c1
      have C2 := Lib.hid c2
      have C3 := Lib.hid c3
      have C4 := Lib.hid c4
      have HS := Lib.hid hsn
      have HJ := Lib.hid (And.intro HI2.2.2.1 (And.intro HI2.2.2.2.1 (And.intro HI2.2.2.2.2.1 (And.intro (Nat.lt_succ_of_lt HF.out.2.2.2) (And.intro HF.out.2.2.2 (And.intro (Nat.succ_le_of_lt HI2.2.2.2.2.1.lt) (show (xs.length + 1) * 40 ≤ 140737488355328 by have := HF.out.2.1; omega)))))))
      have hSD : wr.drew.cell? ⟨g, 0, none⟩ = some (.pointer (some ⟨q, 0, none⟩)) := HI2.2.2.2.2.1.cell
      have HSA := Lib.hid (show ∀ (w' : World) (o : Obj), w'.cell? ⟨g, 0, none⟩ = some (.pointer (some ⟨q, 0, none⟩)) → (w'.alloc o).cell? ⟨g, 0, none⟩ = some (.pointer (some ⟨q, 0, none⟩)) from fun w' o h0 => ((Below.refl w'.heap.size w').alloc (Nat.le_refl _) o |>.cell (World.block_lt_of_cell? w' _ h0)).trans h0)
      clear hk hl64 hfw hsn hrk hlen HI2 hp l0 c1 l1 hy1 c2 l2 hy2 c3 l3 hy3 c4 l4 hy4
      go_wp2
      go_region_held3 (fun w' => w'.cell? ⟨g, 0, none⟩ = some (.pointer (some ⟨q, 0, none⟩)))
        (first | assumption | exact HSA.out _ _ (by assumption))
        (first
          | (refine Kd.R_append_step k80 (w0 := w5) (W := w5) (g + 1) (by rfl) (.tmp 9) (.tmp 23) 43 80 (.agg #[(.int .i64 0), (.int .i64 0), (.string ⟨#[]⟩), (.int .i64 0)]) 40 rfl Try.underlying43 info80 rfl (by decide) (by decide) u3 xs ⟨y1, y2, bst y3, y4⟩ [.int .i64 y1, .int .i64 y2, .string (bst y3), .int .i64 y4] (fun _ => True) (fun _ => False) rfl rfl (k80_mkM _ _ _ _) (fun _ h => h.elim) (fun _ _ => trivial) HQ.out.1 (Below.refl _ _) HQ.out.2.1 HJ.out.2.2.2.2.2.2 ?_; intro v1 wz ho hb hg5 hat; have kk5 := (HQ.out.2.2.1.row hg5 (Nat.lt_succ_self g) (Kd.R_base HQ.out.1)).cell; have H5 := Lib.hid (And.intro ho hg5); clear ho hb hg5 hat)
          | (go_at_call 24; refine (C4.out _ X3.out.1).mono ?_; rintro e w5 ⟨rfl, X4⟩; have G4 := Lib.hid (show wr.grownBy w5 (some q) from grown_then G3.out X4.out.2); have kx4 := (HJ.out.2.2.1.grown G4.out HJ.out.2.2.2.2.1).cell; have HQ := Lib.hid (And.intro (row_keep HJ.out.1 G4.out HJ.out.2.2.2.1) (And.intro (Nat.le_trans HJ.out.2.2.2.2.2.1 G4.out.size) (And.intro (HJ.out.2.2.1.grown G4.out HJ.out.2.2.2.2.1) G4.out))))
          | (go_at_call 46; refine (C3.out _ X2.out.1).mono ?_; rintro e w4 ⟨rfl, X3⟩; have G3 := Lib.hid (show wr.grownBy w4 (some q) from grown_then G2.out X3.out.2); have kx3 := (HJ.out.2.2.1.grown G3.out HJ.out.2.2.2.2.1).cell)
          | (go_at_call 24; refine (C2.out _ X1.out.1).mono ?_; rintro e w3 ⟨rfl, X2⟩; have G2 := Lib.hid (show wr.grownBy w3 (some q) from grown_then G1.out X2.out.2); have kx2 := (HJ.out.2.2.1.grown G2.out HJ.out.2.2.2.2.1).cell)
          | (go_at_call 24; refine (C1.out wr.drew HJ.out.2.1).mono ?_; rintro e w2 ⟨rfl, X1⟩; have G1 := Lib.hid (show wr.grownBy w2 (some q) from grown_dw X1.out.2); have kx1 := (HJ.out.2.2.1.grown G1.out HJ.out.2.2.2.2.1).cell))
      go_wp2
      go_roundg (n - k)
      case measure => have := HI.out.1; have := HK.out; omega
      case rel =>
        have hb := Kd.R_base HQ.out.1
        refine ⟨k + 1, by rw [Hw.out], ⟨by have := HI.out.1; have := HK.out; omega, HK.out, ?_, ?_, ?_, ?_⟩⟩
        · rw [HS.out]; exact H5.out.1
        · rw [HS.out]; exact X4.out.1.row H5.out.2 HJ.out.2.2.2.1 hb
        · exact HQ.out.2.2.1.row H5.out.2 (Nat.lt_succ_self g) hb
        · exact grown_row (grown_then HI.out.2.2.2.2.2 HQ.out.2.2.2) H5.out.2 (fun k hk => by have := hb k hk; have := HG.out; omega)
    · have q2 : ((k : Int) < (n : Int)) = False := eq_false (by omega)
      obtain rfl : k = n := by have := HI.out.2.1; omega
      clear hk
      go_wp2_with (fail)
      go_ret
      rw [HN.out]
      exact ⟨_, rfl, ⟨Kd.R_lower HI.out.2.2.1 (by have := HG.out; omega), HI.out.2.2.2.1, HI.out.2.2.2.2.2⟩⟩
/-- One of the quotes, as it is written. -/
def quotesE (p : S127) : Bs := encI p.f0 ++ (encI p.f1 ++ (encI p.f2 ++ (encI p.f3 ++ (encI p.f4 ++ (encI p.f5 ++ (encI p.f6 ++ (encI p.f7)))))))
/-- One of the quotes, read. -/
def quotesR (s : Bs) : St → S127 × St := mapR (fun p : Int × Int × Int × Int × Int × Int × Int × Int => (⟨p.1, p.2.1, p.2.2.1, p.2.2.2.1, p.2.2.2.2.1, p.2.2.2.2.2.1, p.2.2.2.2.2.2.1, p.2.2.2.2.2.2.2⟩ : S127)) (andR (iR s) (andR (iR s) (andR (iR s) (andR (iR s) (andR (iR s) (andR (iR s) (andR (iR s) (iR s))))))))
theorem quotesR_good (s : Bs) : Good s (quotesR s) quotesE := (Good.map ((iR_good s).and ((iR_good s).and ((iR_good s).and ((iR_good s).and ((iR_good s).and ((iR_good s).and ((iR_good s).and (iR_good s)))))))) _ _ (fun a => by simp only [quotesE, lst_bst]))
set_option maxRecDepth 100000 in
set_option maxHeartbeats 1000000 in
theorem quotes_any {w : World} {q : Nat} {s : ByteArray} {st : St} (h : RD w q s st) (hs : s.size ≤ 140737488355328) (ha : st.at' ≤ s.size) :
    Calls Try.prog 30 #[.agg #[.pointer (some ⟨q, 0, none⟩)]] w fun o w' => ∃ v, o = .returned v ∧ Hid (k127.R 127 w' w.heap.size (fun _ => True) v (lR (lst s) (quotesR (lst s)) st).1 ∧ RD w' q s (lR (lst s) (quotesR (lst s)) st).2 ∧ w.grownBy w' (some q)) := by
  have hu := count_box h hs ha
  have hf := ((cR_good (lst s) 4096).fwd st (by rw [lst_len]; exact ha)).2
  rw [lst_len] at hf
  have hle := cR_le (lst s) 4096 st
  obtain ⟨⟨n, st0⟩, hr⟩ : ∃ r, cR (lst s) 4096 st = r := ⟨_, rfl⟩
  have hN : lR (lst s) (quotesR (lst s)) st = repR (quotesR (lst s)) n st0 := by
    unfold lR
    rw [hr]
  rw [hr] at hu hf hle
  simp only at hu hf hle
  obtain ⟨g, hg⟩ : ∃ g, w.heap.size = g := ⟨_, rfl⟩
  have hq := h.lt
  rw [hg] at hu hq
  have HU := Lib.hid hu
  have HN := Lib.hid hN
  have HF := Lib.hid (And.intro hf (And.intro hle (And.intro hs hq)))
  have HG := Lib.hid hg
  clear h ha hu hr hN hf hle hs hq
  go_enter Try.func30, Try.ntmps30
  rw [hg]
  go_wp2_with (go_at_call 45; refine HU.out.mono ?_; rintro e w1 ⟨rfl, H1⟩)
  try simp only [hg]
  clear hg
  go_loopg [3, 7] (n + 1) (fun kq v3 v7 w' => ∃ k : Nat, v7 = .int .i64 k ∧ Hid (kq + k = n + 1 ∧ k ≤ n ∧ k127.R 127 w' (g + 1) (fun _ => True) v3 (repR (quotesR (lst s)) k st0).1 ∧ RD w' q s (repR (quotesR (lst s)) k st0).2 ∧ BX w' g q ∧ w.grownBy w' (some q)))
  case atStart =>
    exact ⟨0, rfl, ⟨rfl, Nat.zero_le _, Kd.R_nil _ _ _ _ _, H1.out.2.1, H1.out.1, H1.out.2.2⟩⟩
  case round =>
    obtain ⟨k, rfl, HI⟩ := hrel
    by_cases hk : k < n
    · have q2 : ((k : Int) < (n : Int)) = True := eq_true (by omega)
      have hl64 : wrap64 ((k : Int) + 1) = ((k + 1 : Nat) : Int) := by
        have h3 := HF.out.2.1
        show wrap64 ((k + 1 : Nat) : Int) = _
        exact wrap_nat (by omega)
      have HK := Lib.hid hk
      have Hw := Lib.hid hl64
      have hfw := repR_fwd (quotesR_good (lst s)) k st0 (by rw [lst_len]; exact HF.out.1)
      rw [lst_len] at hfw
      have hsn := repR_snoc (quotesR (lst s)) k st0
      obtain ⟨⟨xs, st1⟩, hrk⟩ : ∃ r, repR (quotesR (lst s)) k st0 = r := ⟨_, rfl⟩
      have hlen := repR_len (quotesR (lst s)) k st0
      have HI2 := HI.out
      rw [hrk] at HI2 hfw hsn hlen
      simp only at HI2 hfw hsn hlen
      have l0 := hfw.2
      have hp : quotesR (lst s) st1 = (⟨(iR (lst s) st1).1, (iR (lst s) (iR (lst s) st1).2).1, (iR (lst s) (iR (lst s) (iR (lst s) st1).2).2).1, (iR (lst s) (iR (lst s) (iR (lst s) (iR (lst s) st1).2).2).2).1, (iR (lst s) (iR (lst s) (iR (lst s) (iR (lst s) (iR (lst s) st1).2).2).2).2).1, (iR (lst s) (iR (lst s) (iR (lst s) (iR (lst s) (iR (lst s) (iR (lst s) st1).2).2).2).2).2).1, (iR (lst s) (iR (lst s) (iR (lst s) (iR (lst s) (iR (lst s) (iR (lst s) (iR (lst s) st1).2).2).2).2).2).2).1, (iR (lst s) (iR (lst s) (iR (lst s) (iR (lst s) (iR (lst s) (iR (lst s) (iR (lst s) (iR (lst s) st1).2).2).2).2).2).2).2).1⟩, (iR (lst s) (iR (lst s) (iR (lst s) (iR (lst s) (iR (lst s) (iR (lst s) (iR (lst s) (iR (lst s) st1).2).2).2).2).2).2).2).2) := rfl
      rw [hp] at hsn
      have c1 := int_all (q := q) HF.out.2.2.1 l0
      have l1 := int_le (s := s) l0
      obtain ⟨⟨y1, st2⟩, hy1⟩ : ∃ r, iR (lst s) st1 = r := ⟨_, rfl⟩
      rw [hy1] at c1 l1 hsn
      simp only at c1 l1 hsn
      have c2 := int_all (q := q) HF.out.2.2.1 l1
      have l2 := int_le (s := s) l1
      obtain ⟨⟨y2, st3⟩, hy2⟩ : ∃ r, iR (lst s) st2 = r := ⟨_, rfl⟩
      rw [hy2] at c2 l2 hsn
      simp only at c2 l2 hsn
      have c3 := int_all (q := q) HF.out.2.2.1 l2
      have l3 := int_le (s := s) l2
      obtain ⟨⟨y3, st4⟩, hy3⟩ : ∃ r, iR (lst s) st3 = r := ⟨_, rfl⟩
      rw [hy3] at c3 l3 hsn
      simp only at c3 l3 hsn
      have c4 := int_all (q := q) HF.out.2.2.1 l3
      have l4 := int_le (s := s) l3
      obtain ⟨⟨y4, st5⟩, hy4⟩ : ∃ r, iR (lst s) st4 = r := ⟨_, rfl⟩
      rw [hy4] at c4 l4 hsn
      simp only at c4 l4 hsn
      have c5 := int_all (q := q) HF.out.2.2.1 l4
      have l5 := int_le (s := s) l4
      obtain ⟨⟨y5, st6⟩, hy5⟩ : ∃ r, iR (lst s) st5 = r := ⟨_, rfl⟩
      rw [hy5] at c5 l5 hsn
      simp only at c5 l5 hsn
      have c6 := int_all (q := q) HF.out.2.2.1 l5
      have l6 := int_le (s := s) l5
      obtain ⟨⟨y6, st7⟩, hy6⟩ : ∃ r, iR (lst s) st6 = r := ⟨_, rfl⟩
      rw [hy6] at c6 l6 hsn
      simp only at c6 l6 hsn
      have c7 := int_all (q := q) HF.out.2.2.1 l6
      have l7 := int_le (s := s) l6
      obtain ⟨⟨y7, st8⟩, hy7⟩ : ∃ r, iR (lst s) st7 = r := ⟨_, rfl⟩
      rw [hy7] at c7 l7 hsn
      simp only at c7 l7 hsn
      have c8 := int_all (q := q) HF.out.2.2.1 l7
      have l8 := int_le (s := s) l7
      obtain ⟨⟨y8, st9⟩, hy8⟩ : ∃ r, iR (lst s) st8 = r := ⟨_, rfl⟩
      rw [hy8] at c8 l8 hsn
      simp only at c8 l8 hsn
      have C1 := Lib.hid c1
      have C2 := Lib.hid c2
      have C3 := Lib.hid c3
      have C4 := Lib.hid c4
      have C5 := Lib.hid c5
      have C6 := Lib.hid c6
      have C7 := Lib.hid c7
      have C8 := Lib.hid c8
      have HS := Lib.hid hsn
      have HJ := Lib.hid (And.intro HI2.2.2.1 (And.intro HI2.2.2.2.1 (And.intro HI2.2.2.2.2.1 (And.intro (Nat.lt_succ_of_lt HF.out.2.2.2) (And.intro HF.out.2.2.2 (And.intro (Nat.succ_le_of_lt HI2.2.2.2.2.1.lt) (show (xs.length + 1) * 64 ≤ 140737488355328 by have := HF.out.2.1; omega)))))))
      have hSD : wr.drew.cell? ⟨g, 0, none⟩ = some (.pointer (some ⟨q, 0, none⟩)) := HI2.2.2.2.2.1.cell
      have HSA := Lib.hid (show ∀ (w' : World) (o : Obj), w'.cell? ⟨g, 0, none⟩ = some (.pointer (some ⟨q, 0, none⟩)) → (w'.alloc o).cell? ⟨g, 0, none⟩ = some (.pointer (some ⟨q, 0, none⟩)) from fun w' o h0 => ((Below.refl w'.heap.size w').alloc (Nat.le_refl _) o |>.cell (World.block_lt_of_cell? w' _ h0)).trans h0)
      clear hk hl64 hfw hsn hrk hlen HI2 hp l0 c1 l1 hy1 c2 l2 hy2 c3 l3 hy3 c4 l4 hy4 c5 l5 hy5 c6 l6 hy6 c7 l7 hy7 c8 l8 hy8
      go_wp2
      go_region_held3 (fun w' => w'.cell? ⟨g, 0, none⟩ = some (.pointer (some ⟨q, 0, none⟩)))
        (first | assumption | exact HSA.out _ _ (by assumption))
        (first
          | (refine Kd.R_append_step k127 (w0 := w9) (W := w9) (g + 1) (by rfl) (.tmp 9) (.tmp 35) 26 127 (.agg #[(.int .i64 0), (.int .i64 0), (.int .i64 0), (.int .i64 0), (.int .i64 0), (.int .i64 0), (.int .i64 0), (.int .i64 0)]) 64 rfl Try.underlying26 info127 rfl (by decide) (by decide) u3 xs ⟨y1, y2, y3, y4, y5, y6, y7, y8⟩ [.int .i64 y1, .int .i64 y2, .int .i64 y3, .int .i64 y4, .int .i64 y5, .int .i64 y6, .int .i64 y7, .int .i64 y8] (fun _ => True) (fun _ => False) rfl rfl (k127_mkM _ _ _ _) (fun _ h => h.elim) (fun _ _ => trivial) HQ.out.1 (Below.refl _ _) HQ.out.2.1 HJ.out.2.2.2.2.2.2 ?_; intro v1 wz ho hb hg5 hat; have kk5 := (HQ.out.2.2.1.row hg5 (Nat.lt_succ_self g) (Kd.R_base HQ.out.1)).cell; have H5 := Lib.hid (And.intro ho hg5); clear ho hb hg5 hat)
          | (go_at_call 24; refine (C8.out _ X7.out.1).mono ?_; rintro e w9 ⟨rfl, X8⟩; have G8 := Lib.hid (show wr.grownBy w9 (some q) from grown_then G7.out X8.out.2); have kx8 := (HJ.out.2.2.1.grown G8.out HJ.out.2.2.2.2.1).cell; have HQ := Lib.hid (And.intro (row_keep HJ.out.1 G8.out HJ.out.2.2.2.1) (And.intro (Nat.le_trans HJ.out.2.2.2.2.2.1 G8.out.size) (And.intro (HJ.out.2.2.1.grown G8.out HJ.out.2.2.2.2.1) G8.out))))
          | (go_at_call 24; refine (C7.out _ X6.out.1).mono ?_; rintro e w8 ⟨rfl, X7⟩; have G7 := Lib.hid (show wr.grownBy w8 (some q) from grown_then G6.out X7.out.2); have kx7 := (HJ.out.2.2.1.grown G7.out HJ.out.2.2.2.2.1).cell)
          | (go_at_call 24; refine (C6.out _ X5.out.1).mono ?_; rintro e w7 ⟨rfl, X6⟩; have G6 := Lib.hid (show wr.grownBy w7 (some q) from grown_then G5.out X6.out.2); have kx6 := (HJ.out.2.2.1.grown G6.out HJ.out.2.2.2.2.1).cell)
          | (go_at_call 24; refine (C5.out _ X4.out.1).mono ?_; rintro e w6 ⟨rfl, X5⟩; have G5 := Lib.hid (show wr.grownBy w6 (some q) from grown_then G4.out X5.out.2); have kx5 := (HJ.out.2.2.1.grown G5.out HJ.out.2.2.2.2.1).cell)
          | (go_at_call 24; refine (C4.out _ X3.out.1).mono ?_; rintro e w5 ⟨rfl, X4⟩; have G4 := Lib.hid (show wr.grownBy w5 (some q) from grown_then G3.out X4.out.2); have kx4 := (HJ.out.2.2.1.grown G4.out HJ.out.2.2.2.2.1).cell)
          | (go_at_call 24; refine (C3.out _ X2.out.1).mono ?_; rintro e w4 ⟨rfl, X3⟩; have G3 := Lib.hid (show wr.grownBy w4 (some q) from grown_then G2.out X3.out.2); have kx3 := (HJ.out.2.2.1.grown G3.out HJ.out.2.2.2.2.1).cell)
          | (go_at_call 24; refine (C2.out _ X1.out.1).mono ?_; rintro e w3 ⟨rfl, X2⟩; have G2 := Lib.hid (show wr.grownBy w3 (some q) from grown_then G1.out X2.out.2); have kx2 := (HJ.out.2.2.1.grown G2.out HJ.out.2.2.2.2.1).cell)
          | (go_at_call 24; refine (C1.out wr.drew HJ.out.2.1).mono ?_; rintro e w2 ⟨rfl, X1⟩; have G1 := Lib.hid (show wr.grownBy w2 (some q) from grown_dw X1.out.2); have kx1 := (HJ.out.2.2.1.grown G1.out HJ.out.2.2.2.2.1).cell))
      go_wp2
      go_roundg (n - k)
      case measure => have := HI.out.1; have := HK.out; omega
      case rel =>
        have hb := Kd.R_base HQ.out.1
        refine ⟨k + 1, by rw [Hw.out], ⟨by have := HI.out.1; have := HK.out; omega, HK.out, ?_, ?_, ?_, ?_⟩⟩
        · rw [HS.out]; exact H5.out.1
        · rw [HS.out]; exact X8.out.1.row H5.out.2 HJ.out.2.2.2.1 hb
        · exact HQ.out.2.2.1.row H5.out.2 (Nat.lt_succ_self g) hb
        · exact grown_row (grown_then HI.out.2.2.2.2.2 HQ.out.2.2.2) H5.out.2 (fun k hk => by have := hb k hk; have := HG.out; omega)
    · have q2 : ((k : Int) < (n : Int)) = False := eq_false (by omega)
      obtain rfl : k = n := by have := HI.out.2.1; omega
      clear hk
      go_wp2_with (fail)
      go_ret
      rw [HN.out]
      exact ⟨_, rfl, ⟨Kd.R_lower HI.out.2.2.1 (by have := HG.out; omega), HI.out.2.2.2.1, HI.out.2.2.2.2.2⟩⟩
end Go.Proofs.Ythpgjeiglhdciaa.SN
