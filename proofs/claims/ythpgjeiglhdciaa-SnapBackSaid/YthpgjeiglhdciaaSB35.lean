/- Part 35 of the proof's texts: what the theorem needs of them. -/
import Derived.Test.YthpgjeiglhdciaaSB33
import Derived.Test.YthpgjeiglhdciaaSB34

set_option linter.unusedVariables false
set_option linter.unusedSimpArgs false
/- The decoder: baskets. (printed by gen_dec_nest.py) -/
namespace Go.Proofs.Ythpgjeiglhdciaa.SN
open Go Go.RowKit Go.Proofs Go.Proofs.Ythpgjeiglhdciaa.PL Go.Proofs.YthpgjeiglhdciaaW.PrintWords Go.Proofs.YthpgjeiglhdciaaW.PrintLast Go.Proofs.YthpgjeiglhdciaaW.PrintMore
/-- One of the baskets, read. -/
def basketsR (s : Bs) : St → S63 × St := mapR (fun p : Int × Int × Int × Int × Int × Int × Int × Bs × (List S124) × (List Int) => (⟨p.1, p.2.1, bst (p.2.2.2.2.2.2.2.1), p.2.2.1, p.2.2.2.1, p.2.2.2.2.1, p.2.2.2.2.2.2.2.2.1, p.2.2.2.2.2.1, p.2.2.2.2.2.2.1, p.2.2.2.2.2.2.2.2.2⟩ : S63)) (andR (iR s) (andR (iR s) (andR (iR s) (andR (iR s) (andR (iR s) (andR (iR s) (andR (iR s) (andR (tR s 160) (andR (lR s (cutR s)) (nsR s))))))))))
theorem basketsR_good (s : Bs) : Good s (basketsR s) basketsE := (Good.map ((iR_good s).and ((iR_good s).and ((iR_good s).and ((iR_good s).and ((iR_good s).and ((iR_good s).and ((iR_good s).and ((tR_good s 160).and ((lR_good (cutR_good s)).and (nsR_good s)))))))))) _ _ (fun a => by simp only [basketsE, lst_bst]))
attribute [local go_sem] id_eq
set_option maxRecDepth 100000 in
set_option maxHeartbeats 8000000 in
theorem baskets_any {w : World} {q : Nat} {s : ByteArray} {st : St} (h : RD w q s st) (hs : s.size ≤ 140737488355328) (ha : st.at' ≤ s.size) :
    Calls Try.prog 28 #[.agg #[.pointer (some ⟨q, 0, none⟩)]] w fun o w' => ∃ v, o = .returned v ∧ Hid (k63.R 63 w' w.heap.size (fun _ => True) v (lR (lst s) (basketsR (lst s)) st).1 ∧ RD w' q s (lR (lst s) (basketsR (lst s)) st).2 ∧ w.grownBy w' (some q)) := by
  have hu := count_box h hs ha
  have hf := ((cR_good (lst s) 4096).fwd st (by rw [lst_len]; exact ha)).2
  rw [lst_len] at hf
  have hle := cR_le (lst s) 4096 st
  obtain ⟨⟨n, st0⟩, hr⟩ : ∃ r, cR (lst s) 4096 st = r := ⟨_, rfl⟩
  have hN : lR (lst s) (basketsR (lst s)) st = repR (basketsR (lst s)) n st0 := by
    unfold lR
    rw [hr]
  rw [hr] at hu hf hle
  simp only at hu hf hle
  obtain ⟨g, hg⟩ : ∃ g, w.heap.size = g := ⟨_, rfl⟩
  have hq := h.lt
  rw [hg] at hu hq
  have HU := Lib.hid hu
  have HN := Lib.hid hN
  have HF := Lib.hid (And.intro hf (And.intro hle (And.intro hs hq)))
  have HG := Lib.hid hg
  clear h ha hu hr hN hf hle hs hq
  go_enter Try.func28, Try.ntmps28
  rw [hg]
  go_wp2_with (go_at_call 45; refine HU.out.mono ?_; rintro e w1 ⟨rfl, H1⟩)
  try simp only [hg]
  clear hg
  go_loopg [3, 8] (n + 1) (fun kq v3 v7 w' => ∃ k : Nat, v7 = .int .i64 k ∧ Hid (kq + k = n + 1 ∧ k ≤ n ∧ k63.R 63 w' (g + 1) (fun _ => True) v3 (repR (basketsR (lst s)) k st0).1 ∧ RD w' q s (repR (basketsR (lst s)) k st0).2 ∧ BX w' g q ∧ w.grownBy w' (some q)))
  case atStart =>
    exact ⟨0, rfl, ⟨rfl, Nat.zero_le _, Kd.R_nil _ _ _ _ _, H1.out.2.1, H1.out.1, H1.out.2.2⟩⟩
  case round =>
    rename World => ws
    rename Nat => gs
    obtain ⟨k, rfl, HI⟩ := hrel
    by_cases hk : k < n
    · have q2 : ((k : Int) < (n : Int)) = True := eq_true (by omega)
      have hl64 : wrap64 ((k : Int) + 1) = ((k + 1 : Nat) : Int) := by
        have h3 := HF.out.2.1
        show wrap64 ((k + 1 : Nat) : Int) = _
        exact wrap_nat (by omega)
      have HK := Lib.hid hk
      have Hw := Lib.hid hl64
      have hfw := repR_fwd (basketsR_good (lst s)) k st0 (by rw [lst_len]; exact HF.out.1)
      rw [lst_len] at hfw
      have hsn := repR_snoc (basketsR (lst s)) k st0
      obtain ⟨⟨xs, st1⟩, hrk⟩ : ∃ r, repR (basketsR (lst s)) k st0 = r := ⟨_, rfl⟩
      have hlen := repR_len (basketsR (lst s)) k st0
      have HI2 := HI.out
      rw [hrk] at HI2 hfw hsn hlen
      simp only at HI2 hfw hsn hlen
      have l0 := hfw.2
      have hp : basketsR (lst s) st1 = (⟨(iR (lst s) st1).1, (iR (lst s) (iR (lst s) st1).2).1, bst (tR (lst s) 160 (iR (lst s) (iR (lst s) (iR (lst s) (iR (lst s) (iR (lst s) (iR (lst s) (iR (lst s) st1).2).2).2).2).2).2).2).1, (iR (lst s) (iR (lst s) (iR (lst s) st1).2).2).1, (iR (lst s) (iR (lst s) (iR (lst s) (iR (lst s) st1).2).2).2).1, (iR (lst s) (iR (lst s) (iR (lst s) (iR (lst s) (iR (lst s) st1).2).2).2).2).1, (lR (lst s) (cutR (lst s)) (tR (lst s) 160 (iR (lst s) (iR (lst s) (iR (lst s) (iR (lst s) (iR (lst s) (iR (lst s) (iR (lst s) st1).2).2).2).2).2).2).2).2).1, (iR (lst s) (iR (lst s) (iR (lst s) (iR (lst s) (iR (lst s) (iR (lst s) st1).2).2).2).2).2).1, (iR (lst s) (iR (lst s) (iR (lst s) (iR (lst s) (iR (lst s) (iR (lst s) (iR (lst s) st1).2).2).2).2).2).2).1, (nsR (lst s) ((lR (lst s) (cutR (lst s)) (tR (lst s) 160 (iR (lst s) (iR (lst s) (iR (lst s) (iR (lst s) (iR (lst s) (iR (lst s) (iR (lst s) st1).2).2).2).2).2).2).2).2).2)).1⟩, (nsR (lst s) ((lR (lst s) (cutR (lst s)) (tR (lst s) 160 (iR (lst s) (iR (lst s) (iR (lst s) (iR (lst s) (iR (lst s) (iR (lst s) (iR (lst s) st1).2).2).2).2).2).2).2).2).2)).2) := rfl
      rw [hp] at hsn
      obtain ⟨⟨y1, st2⟩, hy1⟩ : ∃ r, iR (lst s) st1 = r := ⟨_, rfl⟩
      rw [hy1] at hsn
      simp only at hsn
      have E1 := Lib.hid hy1
      obtain ⟨⟨y2, st3⟩, hy2⟩ : ∃ r, iR (lst s) st2 = r := ⟨_, rfl⟩
      rw [hy2] at hsn
      simp only at hsn
      have E2 := Lib.hid hy2
      obtain ⟨⟨y3, st4⟩, hy3⟩ : ∃ r, iR (lst s) st3 = r := ⟨_, rfl⟩
      rw [hy3] at hsn
      simp only at hsn
      have E3 := Lib.hid hy3
      obtain ⟨⟨y4, st5⟩, hy4⟩ : ∃ r, iR (lst s) st4 = r := ⟨_, rfl⟩
      rw [hy4] at hsn
      simp only at hsn
      have E4 := Lib.hid hy4
      obtain ⟨⟨y5, st6⟩, hy5⟩ : ∃ r, iR (lst s) st5 = r := ⟨_, rfl⟩
      rw [hy5] at hsn
      simp only at hsn
      have E5 := Lib.hid hy5
      obtain ⟨⟨y6, st7⟩, hy6⟩ : ∃ r, iR (lst s) st6 = r := ⟨_, rfl⟩
      rw [hy6] at hsn
      simp only at hsn
      have E6 := Lib.hid hy6
      obtain ⟨⟨y7, st8⟩, hy7⟩ : ∃ r, iR (lst s) st7 = r := ⟨_, rfl⟩
      rw [hy7] at hsn
      simp only at hsn
      have E7 := Lib.hid hy7
      obtain ⟨⟨y8, st9⟩, hy8⟩ : ∃ r, tR (lst s) 160 st8 = r := ⟨_, rfl⟩
      rw [hy8] at hsn
      simp only at hsn
      have E8 := Lib.hid hy8
      obtain ⟨⟨ys, stE⟩, hys⟩ : ∃ r, lR (lst s) (cutR (lst s)) st9 = r := ⟨_, rfl⟩
      rw [hys] at hsn
      simp only at hsn
      have hle2 := cR_le (lst s) 4096 st9
      obtain ⟨⟨n2, stc⟩, hcR⟩ : ∃ r, cR (lst s) 4096 st9 = r := ⟨_, rfl⟩
      rw [hcR] at hle2
      simp only at hle2
      have HREP := Lib.hid (show repR (cutR (lst s)) n2 stc = (ys, stE) by unfold lR at hys; rw [hcR] at hys; exact hys)
      have EC := Lib.hid hcR
      have HL2 := Lib.hid hle2
      obtain ⟨⟨ns, stN⟩, hns⟩ : ∃ r, nsR (lst s) stE = r := ⟨_, rfl⟩
      rw [hns] at hsn
      simp only at hsn
      have EN := Lib.hid hns
      have HS := Lib.hid hsn
      have HB := Lib.hid (And.intro HI2.2.2.2.2.1 (And.intro HF.out.2.2.2 (Nat.lt_trans HF.out.2.2.2 HI2.2.2.2.2.1.lt)))
      have PP := Lib.hid (DP.start HI2.2.2.2.1 HF.out.2.2.1 l0)
      have HJ := Lib.hid (And.intro HI2.2.2.1 (And.intro (Nat.succ_le_of_lt HI2.2.2.2.2.1.lt) (show (xs.length + 1) * 120 ≤ 140737488355328 by have := HF.out.2.1; omega)))
      have HOK := Lib.hid (row_old HI2.2.2.1)
      have kx0 : ws.cell? ⟨g, 0, none⟩ = some (.pointer (some ⟨q, 0, none⟩)) := HI2.2.2.2.2.1.cell
      have hSD : ws.drew.cell? ⟨g, 0, none⟩ = some (.pointer (some ⟨q, 0, none⟩)) := HI2.2.2.2.2.1.cell
      have HSA := Lib.hid (show ∀ (w' : World) (o : Obj), w'.cell? ⟨g, 0, none⟩ = some (.pointer (some ⟨q, 0, none⟩)) → (w'.alloc o).cell? ⟨g, 0, none⟩ = some (.pointer (some ⟨q, 0, none⟩)) from fun w' o h0 => ((Below.refl w'.heap.size w').alloc (Nat.le_refl _) o |>.cell (World.block_lt_of_cell? w' _ h0)).trans h0)
      have HSD := Lib.hid (show ∀ o : Obj, (ws.alloc o).drew.cell? ⟨g, 0, none⟩ = some (.pointer (some ⟨q, 0, none⟩)) from fun o => HSA.out ws o HI2.2.2.2.2.1.cell)
      have PD := Lib.hid (fun cs T => ((DP.start0 HI2.2.2.2.1 HF.out.2.2.1 l0).alloc HB.out.2.2 cs T).drew)
      clear hk hl64 hfw hsn hrk hlen HI2 hp l0 hys hcR hle2 hy1 hy2 hy3 hy4 hy5 hy6 hy7 hy8 hns
      go_upto_region 4 with (fail)
      go_cut [4] (fun v4 wx => ∃ G, v4 = .pointer (some ⟨G, 0, none⟩) ∧ Hid (DS ws wx q G s st8 #[.int .i64 y1, .int .i64 y2, .string ⟨#[]⟩, .int .i64 y3, .int .i64 y4, .int .i64 y5, .slice none 0 0, .int .i64 y6, .int .i64 y7, .slice none 0 0] 63))
      case first =>
        go_region_held3 (fun w' => w'.cell? ⟨g, 0, none⟩ = some (.pointer (some ⟨q, 0, none⟩)))
          (first | with_reducible assumption | with_reducible exact HSD.out _ | with_reducible exact HSA.out _ _ (by with_reducible assumption) | ((repeat (with_reducible refine cell_off (by with_reducible assumption) ?_)); with_reducible assumption))
          (first
            | (go_at_call 24; refine (DS.int PL.out E7.out).mono ?_; rintro e wv ⟨rfl, PL⟩; have kx := PL.out.bx HB.out.1 HB.out.2.1; have hGg := PL.out.away HB.out.1.lt; have zz0 : (_ : Option Value) = some (.int .i64 0) := PL.out.cell 0; have ff0 := PL.out.frz 0; have zz1 : (_ : Option Value) = some (.int .i64 0) := PL.out.cell 1; have ff1 := PL.out.frz 1; have zz2 : (_ : Option Value) = some (.string ⟨#[]⟩) := PL.out.cell 2; have ff2 := PL.out.frz 2; have zz3 : (_ : Option Value) = some (.int .i64 0) := PL.out.cell 3; have ff3 := PL.out.frz 3; have zz4 : (_ : Option Value) = some (.int .i64 0) := PL.out.cell 4; have ff4 := PL.out.frz 4; have zz5 : (_ : Option Value) = some (.int .i64 0) := PL.out.cell 5; have ff5 := PL.out.frz 5; have zz6 : (_ : Option Value) = some (.slice none 0 0) := PL.out.cell 6; have ff6 := PL.out.frz 6; have zz7 : (_ : Option Value) = some (.int .i64 0) := PL.out.cell 7; have ff7 := PL.out.frz 7; have zz8 : (_ : Option Value) = some (.int .i64 0) := PL.out.cell 8; have ff8 := PL.out.frz 8; have zz9 : (_ : Option Value) = some (.slice none 0 0) := PL.out.cell 9; have ff9 := PL.out.frz 9)
            | (go_at_call 24; refine (DS.int (PP.out.alloc HB.out.2.2 _ _) E7.out).mono ?_; rintro e wv ⟨rfl, PL⟩; have kx := PL.out.bx HB.out.1 HB.out.2.1; have hGg := PL.out.away HB.out.1.lt; have zz0 : (_ : Option Value) = some (.int .i64 0) := PL.out.cell 0; have ff0 := PL.out.frz 0; have zz1 : (_ : Option Value) = some (.int .i64 0) := PL.out.cell 1; have ff1 := PL.out.frz 1; have zz2 : (_ : Option Value) = some (.string ⟨#[]⟩) := PL.out.cell 2; have ff2 := PL.out.frz 2; have zz3 : (_ : Option Value) = some (.int .i64 0) := PL.out.cell 3; have ff3 := PL.out.frz 3; have zz4 : (_ : Option Value) = some (.int .i64 0) := PL.out.cell 4; have ff4 := PL.out.frz 4; have zz5 : (_ : Option Value) = some (.int .i64 0) := PL.out.cell 5; have ff5 := PL.out.frz 5; have zz6 : (_ : Option Value) = some (.slice none 0 0) := PL.out.cell 6; have ff6 := PL.out.frz 6; have zz7 : (_ : Option Value) = some (.int .i64 0) := PL.out.cell 7; have ff7 := PL.out.frz 7; have zz8 : (_ : Option Value) = some (.int .i64 0) := PL.out.cell 8; have ff8 := PL.out.frz 8; have zz9 : (_ : Option Value) = some (.slice none 0 0) := PL.out.cell 9; have ff9 := PL.out.frz 9)
            | (go_at_call 24; refine (DP.int PP.out E7.out).mono ?_; rintro e wv ⟨rfl, PP⟩; have kx := PP.out.bx HB.out.1 HB.out.2.1)
            | (go_at_call 24; refine (DS.int PL.out E6.out).mono ?_; rintro e wv ⟨rfl, PL⟩; have kx := PL.out.bx HB.out.1 HB.out.2.1)
            | (go_at_call 24; refine (DS.int (PP.out.alloc HB.out.2.2 _ _) E6.out).mono ?_; rintro e wv ⟨rfl, PL⟩; have kx := PL.out.bx HB.out.1 HB.out.2.1)
            | (go_at_call 24; refine (DP.int PP.out E6.out).mono ?_; rintro e wv ⟨rfl, PP⟩; have kx := PP.out.bx HB.out.1 HB.out.2.1)
            | (go_at_call 24; refine (DS.int PL.out E5.out).mono ?_; rintro e wv ⟨rfl, PL⟩; have kx := PL.out.bx HB.out.1 HB.out.2.1)
            | (go_at_call 24; refine (DS.int (PP.out.alloc HB.out.2.2 _ _) E5.out).mono ?_; rintro e wv ⟨rfl, PL⟩; have kx := PL.out.bx HB.out.1 HB.out.2.1)
            | (go_at_call 24; refine (DP.int PP.out E5.out).mono ?_; rintro e wv ⟨rfl, PP⟩; have kx := PP.out.bx HB.out.1 HB.out.2.1)
            | (go_at_call 24; refine (DS.int PL.out E4.out).mono ?_; rintro e wv ⟨rfl, PL⟩; have kx := PL.out.bx HB.out.1 HB.out.2.1)
            | (go_at_call 24; refine (DS.int (PP.out.alloc HB.out.2.2 _ _) E4.out).mono ?_; rintro e wv ⟨rfl, PL⟩; have kx := PL.out.bx HB.out.1 HB.out.2.1)
            | (go_at_call 24; refine (DP.int PP.out E4.out).mono ?_; rintro e wv ⟨rfl, PP⟩; have kx := PP.out.bx HB.out.1 HB.out.2.1)
            | (go_at_call 24; refine (DS.int PL.out E3.out).mono ?_; rintro e wv ⟨rfl, PL⟩; have kx := PL.out.bx HB.out.1 HB.out.2.1)
            | (go_at_call 24; refine (DS.int (PP.out.alloc HB.out.2.2 _ _) E3.out).mono ?_; rintro e wv ⟨rfl, PL⟩; have kx := PL.out.bx HB.out.1 HB.out.2.1)
            | (go_at_call 24; refine (DP.int PP.out E3.out).mono ?_; rintro e wv ⟨rfl, PP⟩; have kx := PP.out.bx HB.out.1 HB.out.2.1)
            | (go_at_call 24; refine (DS.int PL.out E2.out).mono ?_; rintro e wv ⟨rfl, PL⟩; have kx := PL.out.bx HB.out.1 HB.out.2.1)
            | (go_at_call 24; refine (DS.int (PP.out.alloc HB.out.2.2 _ _) E2.out).mono ?_; rintro e wv ⟨rfl, PL⟩; have kx := PL.out.bx HB.out.1 HB.out.2.1)
            | (go_at_call 24; refine (DP.int PP.out E2.out).mono ?_; rintro e wv ⟨rfl, PP⟩; have kx := PP.out.bx HB.out.1 HB.out.2.1)
            | (go_at_call 24; refine (DS.int PL.out E1.out).mono ?_; rintro e wv ⟨rfl, PL⟩; have kx := PL.out.bx HB.out.1 HB.out.2.1)
            | (go_at_call 24; refine (DS.int (PD.out _ _) E1.out).mono ?_; rintro e wv ⟨rfl, PL⟩; have kx := PL.out.bx HB.out.1 HB.out.2.1)
            | (go_at_call 24; refine (DS.int (PP.out.alloc HB.out.2.2 _ _) E1.out).mono ?_; rintro e wv ⟨rfl, PL⟩; have kx := PL.out.bx HB.out.1 HB.out.2.1)
            | (go_at_call 24; refine (DP.int PP.out E1.out).mono ?_; rintro e wv ⟨rfl, PP⟩; have kx := PP.out.bx HB.out.1 HB.out.2.1))
        all_goals (go_wp2_with (fail); go_meet; first | exact ⟨_, rfl, PL.out.fill [.int .i64 y1, .int .i64 y2, .string ⟨#[]⟩, .int .i64 y3, .int .i64 y4, .int .i64 y5, .slice none 0 0, .int .i64 y6, .int .i64 y7, .slice none 0 0] rfl⟩ | exact ⟨_, rfl, PP.out.alloc HB.out.2.2 _ _⟩)
      case rest =>
        obtain ⟨G, rfl, HD⟩ := hcut
        have kx := HD.out.bx HB.out.1 HB.out.2.1
        have hGg := HD.out.away HB.out.1.lt
        go_wp2_with (first
          | (go_at_call 45; refine (DS.count (H8.out.set 2 _) EC.out).mono ?_; rintro e wn ⟨rfl, HCN⟩)
          | (go_at_call 46; refine (DS.text HD.out E8.out).mono ?_; rintro e v8 ⟨rfl, H8⟩; have kx8 := H8.out.bx HB.out.1 HB.out.2.1; have z8_2 : v8.cell? ⟨G, 2, none⟩ = some (.string ⟨#[]⟩) := H8.out.cell 2; have f8_2 := H8.out.frz 2))
        have HN0 := Lib.hid (show DS ws wn q G s stc #[.int .i64 y1, .int .i64 y2, .string (bst y8), .int .i64 y3, .int .i64 y4, .int .i64 y5, .slice none 0 0, .int .i64 y6, .int .i64 y7, .slice none 0 0] 63 from HCN.out.to rfl)
        go_loopg [39] (n2 + 1) (fun kq v17 w' => ∃ (j : Nat) (v : Value), v17 = .int .i64 j ∧ Hid (kq + j = n2 + 1 ∧ j ≤ n2 ∧ DN k124 124 ws w' q G s (repR (cutR (lst s)) j stc).2 #[.int .i64 y1, .int .i64 y2, .string (bst y8), .int .i64 y3, .int .i64 y4, .int .i64 y5, v, .int .i64 y6, .int .i64 y7, .slice none 0 0] 63 v (repR (cutR (lst s)) j stc).1))
        case atStart => exact ⟨0, _, rfl, ⟨rfl, Nat.zero_le _, ⟨HN0.out, Kd.R_nil _ _ _ _ _⟩⟩⟩
        case round =>
          obtain ⟨j, v, rfl, HJn⟩ := hrel
          by_cases hj : j < n2
          · have q3 : ((j : Int) < (n2 : Int)) = True := eq_true (by omega)
            have Hw2 := Lib.hid (idx_next hj (Nat.le_trans HL2.out (by decide)))
            have HJK := Lib.hid hj
            have hlen2 := repR_len (cutR (lst s)) j stc
            have hsn2 := repR_snoc (cutR (lst s)) j stc
            obtain ⟨⟨us, su1⟩, hrj⟩ : ∃ r, repR (cutR (lst s)) j stc = r := ⟨_, rfl⟩
            have hdn := HJn.out.2.2
            rw [hrj] at hdn hsn2 hlen2
            simp only at hdn hsn2 hlen2
            obtain ⟨A0, N0, c0, rfl⟩ := sl3 hdn.row
            have hp2 : cutR (lst s) su1 = (⟨(iR (lst s) su1).1, (iR (lst s) (iR (lst s) su1).2).1, (iR (lst s) (iR (lst s) (iR (lst s) su1).2).2).1⟩, (iR (lst s) (iR (lst s) (iR (lst s) su1).2).2).2) := rfl
            rw [hp2] at hsn2
            obtain ⟨⟨a1, su2⟩, ha1⟩ : ∃ r, iR (lst s) su1 = r := ⟨_, rfl⟩
            rw [ha1] at hsn2
            simp only at hsn2
            have F1 := Lib.hid ha1
            obtain ⟨⟨a2, su3⟩, ha2⟩ : ∃ r, iR (lst s) su2 = r := ⟨_, rfl⟩
            rw [ha2] at hsn2
            simp only at hsn2
            have F2 := Lib.hid ha2
            obtain ⟨⟨a3, su4⟩, ha3⟩ : ∃ r, iR (lst s) su3 = r := ⟨_, rfl⟩
            rw [ha3] at hsn2
            simp only at hsn2
            have F3 := Lib.hid ha3
            have HS2 := Lib.hid hsn2
            have HDN := Lib.hid hdn
            have HLB := Lib.hid (show (us.length + 1) * 24 ≤ 140737488355328 by have := HL2.out; omega)
            have kS : wr.drew.cell? ⟨g, 0, none⟩ = some (.pointer (some ⟨q, 0, none⟩)) := hdn.ds.drew.bx HB.out.1 HB.out.2.1
            have kS2 : wr.drew.cell? ⟨G, 6, none⟩ = some (.slice A0 N0 c0) := hdn.ds.drew.cell 6
            clear hj hsn2 hrj hdn hp2 hlen2 ha1 ha2 ha3
            go_wp2
            conv => arg 2; arg 2; arg 1; arg 2; arg 1; arg 2; change id _
            go_region_held3 (fun w' => w'.cell? ⟨g, 0, none⟩ = some (.pointer (some ⟨q, 0, none⟩)))
              (first | with_reducible assumption | with_reducible exact HSA.out _ _ (by with_reducible assumption) | ((repeat (with_reducible refine cell_off (by with_reducible assumption) ?_)); with_reducible assumption))
              (first
                | (refine Kd.R_append_step k124 (w0 := x3) (W := x3) ws.heap.size (by rfl) (.tmp 42) (.tmp 53) 60 124 (.agg #[(.int .i64 0), (.int .i64 0), (.int .i64 0)]) 24 rfl Try.underlying60 info124 rfl (by decide) (by decide) (.slice A0 N0 c0) us ⟨a1, a2, a3⟩ [.int .i64 a1, .int .i64 a2, .int .i64 a3] (fun k => k ≠ G) (fun _ => False) rfl rfl (k124_mkM _ _ _ _) (fun _ h => h.elim) D3.out.fresh D3.out.row (Below.refl _ _) D3.out.le HLB.out ?_; intro v1 wz ho hb hg5 hat; obtain ⟨A1, N1, c1, rfl⟩ := sl3 ho; have kk5 := (D3.out.grown hg5).bx HB.out.1 HB.out.2.1; have kk6 : wz.cell? ⟨G, 6, none⟩ = some (.slice A0 N0 c0) := (D3.out.grown hg5).cell 6; have kk7 := (D3.out.grown hg5).frz 6; have HP := Lib.hid (And.intro hg5 ho); clear ho hb hg5 hat)
                | (go_at_call 24; refine (DN.int D2.out F3.out).mono ?_; rintro e x3 ⟨rfl, D3⟩; have kx3 := D3.out.ds.bx HB.out.1 HB.out.2.1; have ky3 : x3.cell? ⟨G, 6, none⟩ = some (.slice A0 N0 c0) := D3.out.ds.cell 6; have kv : ∀ o : Obj, (x3.alloc o).cell? ⟨G, 6, none⟩ = some (.slice A0 N0 c0) := fun o => D3.out.ds.cellA 6 o)
                | (go_at_call 24; refine (DN.int D1.out F2.out).mono ?_; rintro e x2 ⟨rfl, D2⟩; have kx2 := D2.out.ds.bx HB.out.1 HB.out.2.1; have ky2 : x2.cell? ⟨G, 6, none⟩ = some (.slice A0 N0 c0) := D2.out.ds.cell 6)
                | (go_at_call 24; refine (DN.int HDN.out.drew F1.out).mono ?_; rintro e x1 ⟨rfl, D1⟩; have kx1 := D1.out.ds.bx HB.out.1 HB.out.2.1; have ky1 : x1.cell? ⟨G, 6, none⟩ = some (.slice A0 N0 c0) := D1.out.ds.cell 6))
            all_goals
              go_wp2
              go_roundg (n2 - j)
              case measure => have := HJn.out.1; have := HJK.out; omega
              case rel =>
                refine ⟨j + 1, .slice A1 N1 c1, by rw [Hw2.out], ⟨by have := HJn.out.1; have := HJK.out; omega, HJK.out, ?_⟩⟩
                rw [HS2.out]
                exact D3.out.app HP.out.1 HP.out.2 6 rfl
          · have q3 : ((j : Int) < (n2 : Int)) = False := eq_false (by omega)
            obtain rfl : j = n2 := by have := HJn.out.2.1; omega
            have hdn := HJn.out.2.2
            rw [HREP.out] at hdn
            simp only at hdn
            obtain ⟨A0, N0, c0, rfl⟩ := sl3 hdn.row
            have HDN := Lib.hid hdn
            have kz := hdn.ds.bx HB.out.1 HB.out.2.1
            clear hj hdn
            have hni := ints_any HDN.out.ds.rd HDN.out.ds.sz HDN.out.ds.le
            rw [EN.out] at hni
            have HNI := Lib.hid hni
            clear hni
            have hsl := Lib.hid (show stN.at' ≤ s.size by have h := ((nsR_good (lst s)).fwd stE (by rw [lst_len]; exact HDN.out.ds.le)).2; rw [EN.out, lst_len] at h; exact h)
            go_upto_region 11 with (go_at_call 48; refine HNI.out.mono ?_; rintro e wi ⟨vi, rfl, HI4⟩; obtain ⟨A9, N9, c9, rfl⟩ := sl3 HI4.out.1; have HT := Lib.hid (HDN.out.ds.step HI4.out.2.1 HI4.out.2.2 hsl.out); have HR6 := Lib.hid (row_step HDN.out.ds HDN.out.row HI4.out.2.2); have HR9 := Lib.hid (row_read HDN.out.ds HI4.out.2.2 HI4.out.1); have kt := HT.out.bx HB.out.1 HB.out.2.1; have kt1 : wi.cell? ⟨G, 9, none⟩ = some (.slice none 0 0) := HT.out.cell 9; have kt2 := HT.out.frz 9)
            obtain ⟨W, hW⟩ : ∃ W, wi.setCell ⟨G, 9, none⟩ (.slice A9 N9 c9) = W := ⟨_, rfl⟩
            rw [hW]
            have HZ := Lib.hid (show DS ws W q G s stN #[.int .i64 y1, .int .i64 y2, .string (bst y8), .int .i64 y3, .int .i64 y4, .int .i64 y5, .slice A0 N0 c0, .int .i64 y6, .int .i64 y7, .slice A9 N9 c9] 63 from hW ▸ (HT.out.set 9 _).to rfl)
            have HRW := Lib.hid (show k124.R 124 W (g + 1) (fun k => ws.heap.size ≤ k) (.slice A0 N0 c0) ys from hW ▸ row_new (row_set 9 _ HR6.out) HJ.out.2.1)
            have HRV := Lib.hid (show (Kd.int .i64).R 3 W (g + 1) (fun k => ws.heap.size ≤ k) (.slice A9 N9 c9) ns from hW ▸ row_new (row_set 9 _ HR9.out) HJ.out.2.1)
            clear hW
            have e0 : W.cell? ⟨G, 0, none⟩ = some (.int .i64 y1) := HZ.out.cell 0
            have e1 : W.cell? ⟨G, 1, none⟩ = some (.int .i64 y2) := HZ.out.cell 1
            have e2 : W.cell? ⟨G, 2, none⟩ = some (.string (bst y8)) := HZ.out.cell 2
            have e3 : W.cell? ⟨G, 3, none⟩ = some (.int .i64 y3) := HZ.out.cell 3
            have e4 : W.cell? ⟨G, 4, none⟩ = some (.int .i64 y4) := HZ.out.cell 4
            have e5 : W.cell? ⟨G, 5, none⟩ = some (.int .i64 y5) := HZ.out.cell 5
            have e6 : W.cell? ⟨G, 6, none⟩ = some (.slice A0 N0 c0) := HZ.out.cell 6
            have e7 : W.cell? ⟨G, 7, none⟩ = some (.int .i64 y6) := HZ.out.cell 7
            have e8 : W.cell? ⟨G, 8, none⟩ = some (.int .i64 y7) := HZ.out.cell 8
            have e9 : W.cell? ⟨G, 9, none⟩ = some (.slice A9 N9 c9) := HZ.out.cell 9
            have HQ := Lib.hid (And.intro (row_keep HJ.out.1 HZ.out.gr (Nat.lt_succ_of_lt HB.out.2.1)) (And.intro (Nat.le_trans HJ.out.2.1 HZ.out.gr.size) (HB.out.1.grown HZ.out.gr HB.out.2.1)))
            go_wp2_with (at_builtin; refine Kd.R_append k63 (w0 := W) (W := W) (g + 1) (by rfl) (.tmp 61) (.tmp 63) 24 63 (.agg #[(.int .i64 0), (.int .i64 0), (.string ⟨#[]⟩), (.int .i64 0), (.int .i64 0), (.int .i64 0), (.slice none 0 0), (.int .i64 0), (.int .i64 0), (.slice none 0 0)]) 120 rfl Try.underlying24 info63 rfl (by decide) (by decide) u3 xs ⟨y1, y2, bst y8, y3, y4, y5, ys, y6, y7, ns⟩ [.int .i64 y1, .int .i64 y2, .string (bst y8), .int .i64 y3, .int .i64 y4, .int .i64 y5, .slice A0 N0 c0, .int .i64 y6, .int .i64 y7, .slice A9 N9 c9] (fun _ => True) (fun k => ws.heap.size ≤ k) rfl rfl (k63_mkM _ _ _ ⟨y1, y2, bst y8, y3, y4, y5, ys, y6, y7, ns⟩ HRW.out HRV.out) HOK.out (fun _ _ => trivial) HQ.out.1 (Below.refl _ _) HQ.out.2.1 HJ.out.2.2 ?_; intro v1 wz ho hb hg5 hat; have H5 := Lib.hid (And.intro ho hg5); clear ho hb hg5 hat)
            go_roundg (n - k)
            case measure => have := HI.out.1; have := HK.out; omega
            case rel =>
              have hb := Kd.R_base HQ.out.1
              refine ⟨k + 1, by rw [Hw.out], ⟨by have := HI.out.1; have := HK.out; omega, HK.out, ?_, ?_, ?_, ?_⟩⟩
              · rw [HS.out]; exact H5.out.1
              · rw [HS.out]; exact HZ.out.rd.row H5.out.2 (Nat.lt_succ_of_lt HB.out.2.1) hb
              · exact HQ.out.2.2.row H5.out.2 (Nat.lt_succ_self g) hb
              · exact grown_row (grown_then HI.out.2.2.2.2.2 HZ.out.gr) H5.out.2 (fun k hk => by have := hb k hk; have := HG.out; omega)
    · have q2 : ((k : Int) < (n : Int)) = False := eq_false (by omega)
      obtain rfl : k = n := by have := HI.out.2.1; omega
      clear hk
      go_wp2_with (fail)
      go_ret
      rw [HN.out]
      exact ⟨_, rfl, ⟨Kd.R_lower HI.out.2.2.1 (by have := HG.out; omega), HI.out.2.2.2.1, HI.out.2.2.2.2.2⟩⟩
end Go.Proofs.Ythpgjeiglhdciaa.SN

/- Decode whole. (printed by gen_decode.py) -/
namespace Go.Proofs.Ythpgjeiglhdciaa.SN
open Go Go.RowKit Go.Proofs Go.Proofs.Ythpgjeiglhdciaa.PL Go.Proofs.YthpgjeiglhdciaaW.PrintWords Go.Proofs.YthpgjeiglhdciaaW.PrintLast Go.Proofs.YthpgjeiglhdciaaW.PrintMore
/-- A view, read. -/
def viewR (s : Bs) : St → VW × St := mapR (fun p : Int × Int × List S68 × List S57 × List S70 × List S63 × List S73 × List S127 × List S117 × List S77 × List S80 × List S80 => (⟨p.1, p.2.1, p.2.2.1, p.2.2.2.1, p.2.2.2.2.1, p.2.2.2.2.2.1, p.2.2.2.2.2.2.1, p.2.2.2.2.2.2.2.1, p.2.2.2.2.2.2.2.2.1, p.2.2.2.2.2.2.2.2.2.1, p.2.2.2.2.2.2.2.2.2.2.1, p.2.2.2.2.2.2.2.2.2.2.2⟩ : VW)) (andR (iR s) (andR (iR s) (andR (lR s (membersR s)) (andR (lR s (assetsR s)) (andR (lR s (pricesR s)) (andR (lR s (basketsR s)) (andR (lR s (balancesR s)) (andR (lR s (quotesR s)) (andR (lR s (tradesR s)) (andR (lR s (coversR s)) (andR (lR s (linksR s)) (lR s (linksR s)))))))))))))
theorem andR_eq {α β : Type} {f : St → α × St} {g : St → β × St} {st st1 st2 : St} {a : α} {b : β} (h1 : f st = (a, st1)) (h2 : g st1 = (b, st2)) : andR f g st = ((a, b), st2) := by
  unfold andR
  rw [h1]
  simp only
  rw [h2]
theorem mapR_eq {α β : Type} {f : St → α × St} {st st1 : St} {a : α} (k : α → β) (h1 : f st = (a, st1)) : mapR k f st = (k a, st1) := by
  unfold mapR
  rw [h1]
/-- What holds of the lists read so far holds on. -/
def RS (q G : Nat) (P : World → Prop) : Prop := (∀ W w' : World, W.grownBy w' (some q) → P W → P w') ∧ (∀ (W : World) (i : Nat) (u : Value), P W → P (W.setCell ⟨G, i, none⟩ u))
theorem RS.nil (q G : Nat) : RS q G (fun _ => True) := ⟨fun _ _ _ _ => trivial, fun _ _ _ _ => trivial⟩
theorem RS.snoc {α : Type} {d : Kd α} {e q G b : Nat} {P : World → Prop} {v : Value} {xs : List α} (h : RS q G P) (hq : q < b) : RS q G (fun W => P W ∧ d.R e W b (fun k => k ≠ G) v xs) :=
  ⟨fun W w' hg hp => ⟨h.1 W w' hg hp.1, Kd.R_mono (Kd.R_grown (Kd.R_bound hp.2) hg (fun k hk e => by injection e with e; have := hk.2.1; omega)) (fun k hk => hk.1)⟩,
   fun W i u hp => ⟨h.2 W i u hp.1, Kd.R_far hp.2 (p := ⟨G, i, none⟩) (fun k hk => hk) u⟩⟩
theorem DS.list {α : Type} {d : Kd α} {e fn q G : Nat} {f : St → List α × St} {enc : List α → Bs} {P : World → Prop} {ws W : World} {s : ByteArray} {st st' : St} {cs : Array Value} {T : Nat} {xs : List α} (h : DS ws W q G s st cs T)
    (hc : Calls Try.prog fn #[.agg #[.pointer (some ⟨q, 0, none⟩)]] W fun o w' => ∃ v, o = .returned v ∧ Hid (d.R e w' W.heap.size (fun _ => True) v (f st).1 ∧ RD w' q s (f st).2 ∧ W.grownBy w' (some q)))
    (hg : Good (lst s) f enc) (he : f st = (xs, st')) (hS : RS q G P) (hP : P W) :
    Calls Try.prog fn #[.agg #[.pointer (some ⟨q, 0, none⟩)]] W fun o w' => ∃ A c, o = .returned (.slice A xs.length c) ∧ Hid (DS ws w' q G s st' cs T ∧ RS q G (fun W => P W ∧ d.R e W ws.heap.size (fun k => k ≠ G) (.slice A xs.length c) xs) ∧ (P w' ∧ d.R e w' ws.heap.size (fun k => k ≠ G) (.slice A xs.length c) xs)) := by
  have hl := (hg.fwd st (by rw [lst_len]; exact h.le)).2
  rw [lst_len, he] at hl
  rw [he] at hc
  refine hc.mono ?_
  rintro o w' ⟨v, rfl, H⟩
  obtain ⟨A, c, rfl⟩ := Kd.R_slice H.out.1
  exact ⟨A, c, rfl, h.step H.out.2.1 H.out.2.2 hl, hS.snoc h.lt, hS.1 W w' H.out.2.2 hP, row_read h H.out.2.2 H.out.1⟩
theorem DS.end_ {q G : Nat} {P : World → Prop} {ws W : World} {s : ByteArray} {st st' : St} {cs : Array Value} {T : Nat} (h : DS ws W q G s st cs T) (he : endR (lst s) st = st') (hS : RS q G P) (hP : P W) :
    Calls Try.prog 34 #[.pointer (some ⟨q, 0, none⟩)] W fun o w' => o = .returned (.bool (st'.e == 0)) ∧ Hid (DS ws w' q G s st' cs T ∧ P w') := by
  have hl : st'.at' ≤ s.size := by
    have h1 : st'.at' = st.at' := by
      rw [← he]
      unfold endR
      split
      · rfl
      · split <;> rfl
    rw [h1]
    exact h.le
  have hc := end_any h.rd h.sz h.le
  rw [he] at hc
  refine hc.mono ?_
  rintro o w' ⟨rfl, H⟩
  exact ⟨rfl, h.step H.out.1 H.out.2 hl, hS.1 W w' H.out.2 hP⟩
set_option maxRecDepth 100000 in
theorem newreader_any {w : World} {t : ByteArray} : Calls Try.prog 23 #[.string t] w fun o w' => ∃ q, o = .returned (.pointer (some ⟨q, 0, none⟩)) ∧ Hid (w.heap.size = q ∧ RD w' q t ⟨0, 0⟩ ∧ w'.heap.size = q + 1 ∧ Below q w w') := by
  go_enter Try.func23, Try.ntmps23
  go_wp2
  go_ret
  exact ⟨w.heap.size, rfl, ⟨rfl, (Go.MapKept.heap_alloc w _).1, by simp, below_alloc (Below.refl _ _) _⟩⟩
theorem mk_ws {w1 : World} {q : Nat} {t : ByteArray} (hr : RD w1 q t ⟨0, 0⟩) (hz : w1.heap.size = q + 1) : RD (w1.alloc (.cells #[.pointer (some ⟨q, 0, none⟩)] 101)) q t ⟨0, 0⟩ ∧ BX (w1.alloc (.cells #[.pointer (some ⟨q, 0, none⟩)] 101)) (q + 1) q ∧ (w1.alloc (.cells #[.pointer (some ⟨q, 0, none⟩)] 101)).heap.size = q + 2 ∧ Below (q + 1) w1 (w1.alloc (.cells #[.pointer (some ⟨q, 0, none⟩)] 101)) := by
  have h1 := (Go.MapKept.heap_alloc w1 (.cells #[.pointer (some ⟨q, 0, none⟩)] 101)).1
  have hb := below_alloc (Below.refl w1.heap.size w1) (.cells #[.pointer (some ⟨q, 0, none⟩)] 101)
  rw [hz] at h1 hb
  exact ⟨(hb.block q (Nat.lt_succ_self q)).trans hr, h1, by simp [hz], hb⟩
theorem DS.keepC {q G C : Nat} {ws W : World} {s : ByteArray} {st : St} {cs cz : Array Value} {T t : Nat} (h : DS ws W q G s st cs T) (hC : ws.heap[C]? = some (.cells cz t (0, 0))) (hq : C ≠ q) : W.heap[C]? = some (.cells cz t (0, 0)) :=
  (h.gr.block C (Array.getElem?_eq_some_iff.1 hC).1 (fun e => by injection e with e; exact hq e)).trans hC
theorem grown_below {q b : Nat} {ws W w : World} (hg : ws.grownBy W (some q)) (hb : Below b w ws) (hs : b ≤ ws.heap.size) (hq : b ≤ q) : Below b w W := hb.grown hg hs (fun k hk => by injection hk with hk; omega)
end Go.Proofs.Ythpgjeiglhdciaa.SN
