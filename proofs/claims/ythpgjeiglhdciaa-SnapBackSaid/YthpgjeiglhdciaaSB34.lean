/- Part 34 of the proof's texts: what the theorem needs of them. -/
import Derived.Test.YthpgjeiglhdciaaSB33

set_option linter.unusedVariables false
set_option linter.unusedSimpArgs false
/- The decoder: covers. (printed by gen_dec_nest.py) -/
namespace Go.Proofs.Ythpgjeiglhdciaa.SN
open Go Go.RowKit Go.Proofs Go.Proofs.Ythpgjeiglhdciaa.PL Go.Proofs.YthpgjeiglhdciaaW.PrintWords Go.Proofs.YthpgjeiglhdciaaW.PrintLast Go.Proofs.YthpgjeiglhdciaaW.PrintMore
/-- One of the covers, read. -/
def coversR (s : Bs) : St → S77 × St := mapR (fun p : Int × (List S119) => (⟨p.1, p.2⟩ : S77)) (andR (iR s) (lR s (lotR s)))
theorem coversR_good (s : Bs) : Good s (coversR s) coversE := (Good.map ((iR_good s).and (lR_good (lotR_good s))) _ _ (fun a => by simp only [coversE, lst_bst]))
attribute [local go_sem] id_eq
set_option maxRecDepth 100000 in
set_option maxHeartbeats 8000000 in
theorem covers_any {w : World} {q : Nat} {s : ByteArray} {st : St} (h : RD w q s st) (hs : s.size ≤ 140737488355328) (ha : st.at' ≤ s.size) :
    Calls Try.prog 32 #[.agg #[.pointer (some ⟨q, 0, none⟩)]] w fun o w' => ∃ v, o = .returned v ∧ Hid (k77.R 77 w' w.heap.size (fun _ => True) v (lR (lst s) (coversR (lst s)) st).1 ∧ RD w' q s (lR (lst s) (coversR (lst s)) st).2 ∧ w.grownBy w' (some q)) := by
  have hu := count_box h hs ha
  have hf := ((cR_good (lst s) 4096).fwd st (by rw [lst_len]; exact ha)).2
  rw [lst_len] at hf
  have hle := cR_le (lst s) 4096 st
  obtain ⟨⟨n, st0⟩, hr⟩ : ∃ r, cR (lst s) 4096 st = r := ⟨_, rfl⟩
  have hN : lR (lst s) (coversR (lst s)) st = repR (coversR (lst s)) n st0 := by
    unfold lR
    rw [hr]
  rw [hr] at hu hf hle
  simp only at hu hf hle
  obtain ⟨g, hg⟩ : ∃ g, w.heap.size = g := ⟨_, rfl⟩
  have hq := h.lt
  rw [hg] at hu hq
  have HU := Lib.hid hu
  have HN := Lib.hid hN
  have HF := Lib.hid (And.intro hf (And.intro hle (And.intro hs hq)))
  have HG := Lib.hid hg
  clear h ha hu hr hN hf hle hs hq
  go_enter Try.func32, Try.ntmps32
  rw [hg]
  go_wp2_with (go_at_call 45; refine HU.out.mono ?_; rintro e w1 ⟨rfl, H1⟩)
  try simp only [hg]
  clear hg
  go_loopg [3, 8] (n + 1) (fun kq v3 v7 w' => ∃ k : Nat, v7 = .int .i64 k ∧ Hid (kq + k = n + 1 ∧ k ≤ n ∧ k77.R 77 w' (g + 1) (fun _ => True) v3 (repR (coversR (lst s)) k st0).1 ∧ RD w' q s (repR (coversR (lst s)) k st0).2 ∧ BX w' g q ∧ w.grownBy w' (some q)))
  case atStart =>
    exact ⟨0, rfl, ⟨rfl, Nat.zero_le _, Kd.R_nil _ _ _ _ _, H1.out.2.1, H1.out.1, H1.out.2.2⟩⟩
  case round =>
    rename World => ws
    rename Nat => gs
    obtain ⟨k, rfl, HI⟩ := hrel
    by_cases hk : k < n
    · have q2 : ((k : Int) < (n : Int)) = True := eq_true (by omega)
      have hl64 : wrap64 ((k : Int) + 1) = ((k + 1 : Nat) : Int) := by
        have h3 := HF.out.2.1
        show wrap64 ((k + 1 : Nat) : Int) = _
        exact wrap_nat (by omega)
      have HK := Lib.hid hk
      have Hw := Lib.hid hl64
      have hfw := repR_fwd (coversR_good (lst s)) k st0 (by rw [lst_len]; exact HF.out.1)
      rw [lst_len] at hfw
      have hsn := repR_snoc (coversR (lst s)) k st0
      obtain ⟨⟨xs, st1⟩, hrk⟩ : ∃ r, repR (coversR (lst s)) k st0 = r := ⟨_, rfl⟩
      have hlen := repR_len (coversR (lst s)) k st0
      have HI2 := HI.out
      rw [hrk] at HI2 hfw hsn hlen
      simp only at HI2 hfw hsn hlen
      have l0 := hfw.2
      have hp : coversR (lst s) st1 = (⟨(iR (lst s) st1).1, (lR (lst s) (lotR (lst s)) (iR (lst s) st1).2).1⟩, (lR (lst s) (lotR (lst s)) (iR (lst s) st1).2).2) := rfl
      rw [hp] at hsn
      obtain ⟨⟨y1, st2⟩, hy1⟩ : ∃ r, iR (lst s) st1 = r := ⟨_, rfl⟩
      rw [hy1] at hsn
      simp only at hsn
      have E1 := Lib.hid hy1
      obtain ⟨⟨ys, stE⟩, hys⟩ : ∃ r, lR (lst s) (lotR (lst s)) st2 = r := ⟨_, rfl⟩
      rw [hys] at hsn
      simp only at hsn
      have hle2 := cR_le (lst s) 4096 st2
      obtain ⟨⟨n2, stc⟩, hcR⟩ : ∃ r, cR (lst s) 4096 st2 = r := ⟨_, rfl⟩
      rw [hcR] at hle2
      simp only at hle2
      have HREP := Lib.hid (show repR (lotR (lst s)) n2 stc = (ys, stE) by unfold lR at hys; rw [hcR] at hys; exact hys)
      have EC := Lib.hid hcR
      have HL2 := Lib.hid hle2
      have HS := Lib.hid hsn
      have HB := Lib.hid (And.intro HI2.2.2.2.2.1 (And.intro HF.out.2.2.2 (Nat.lt_trans HF.out.2.2.2 HI2.2.2.2.2.1.lt)))
      have PP := Lib.hid (DP.start0 HI2.2.2.2.1 HF.out.2.2.1 l0)
      have HJ := Lib.hid (And.intro HI2.2.2.1 (And.intro (Nat.succ_le_of_lt HI2.2.2.2.2.1.lt) (show (xs.length + 1) * 32 ≤ 140737488355328 by have := HF.out.2.1; omega)))
      have HOK := Lib.hid (row_old HI2.2.2.1)
      have kx0 : ws.cell? ⟨g, 0, none⟩ = some (.pointer (some ⟨q, 0, none⟩)) := HI2.2.2.2.2.1.cell
      have hSD : ws.drew.cell? ⟨g, 0, none⟩ = some (.pointer (some ⟨q, 0, none⟩)) := HI2.2.2.2.2.1.cell
      have HSA := Lib.hid (show ∀ (w' : World) (o : Obj), w'.cell? ⟨g, 0, none⟩ = some (.pointer (some ⟨q, 0, none⟩)) → (w'.alloc o).cell? ⟨g, 0, none⟩ = some (.pointer (some ⟨q, 0, none⟩)) from fun w' o h0 => ((Below.refl w'.heap.size w').alloc (Nat.le_refl _) o |>.cell (World.block_lt_of_cell? w' _ h0)).trans h0)
      have HSD := Lib.hid (show ∀ o : Obj, (ws.alloc o).drew.cell? ⟨g, 0, none⟩ = some (.pointer (some ⟨q, 0, none⟩)) from fun o => HSA.out ws o HI2.2.2.2.2.1.cell)
      have PD := Lib.hid (fun cs T => ((DP.start0 HI2.2.2.2.1 HF.out.2.2.1 l0).alloc HB.out.2.2 cs T).drew)
      clear hk hl64 hfw hsn hrk hlen HI2 hp l0 hys hcR hle2 hy1
      go_upto_region 4 with (fail)
      go_cut [4] (fun v4 wx => ∃ G, v4 = .pointer (some ⟨G, 0, none⟩) ∧ Hid (DS ws wx q G s st2 #[.int .i64 y1, .slice none 0 0] 77))
      case first =>
        go_wp2_with (go_at_call 24; refine (DP.int PP.out E1.out).mono ?_; rintro e wv ⟨rfl, PP⟩)
        go_meet
        exact ⟨_, rfl, PP.out.alloc HB.out.2.2 _ _⟩
      case rest =>
        obtain ⟨G, rfl, HD⟩ := hcut
        have kx := HD.out.bx HB.out.1 HB.out.2.1
        have hGg := HD.out.away HB.out.1.lt
        go_wp2_with (go_at_call 45; refine (DS.count HD.out EC.out).mono ?_; rintro e wn ⟨rfl, HCN⟩)
        have HN0 := Lib.hid (show DS ws wn q G s stc #[.int .i64 y1, .slice none 0 0] 77 from HCN.out.to rfl)
        go_loopg [17] (n2 + 1) (fun kq v17 w' => ∃ (j : Nat) (v : Value), v17 = .int .i64 j ∧ Hid (kq + j = n2 + 1 ∧ j ≤ n2 ∧ DN k119 119 ws w' q G s (repR (lotR (lst s)) j stc).2 #[.int .i64 y1, v] 77 v (repR (lotR (lst s)) j stc).1))
        case atStart => exact ⟨0, _, rfl, ⟨rfl, Nat.zero_le _, ⟨HN0.out, Kd.R_nil _ _ _ _ _⟩⟩⟩
        case round =>
          obtain ⟨j, v, rfl, HJn⟩ := hrel
          by_cases hj : j < n2
          · have q3 : ((j : Int) < (n2 : Int)) = True := eq_true (by omega)
            have Hw2 := Lib.hid (idx_next hj (Nat.le_trans HL2.out (by decide)))
            have HJK := Lib.hid hj
            have hlen2 := repR_len (lotR (lst s)) j stc
            have hsn2 := repR_snoc (lotR (lst s)) j stc
            obtain ⟨⟨us, su1⟩, hrj⟩ : ∃ r, repR (lotR (lst s)) j stc = r := ⟨_, rfl⟩
            have hdn := HJn.out.2.2
            rw [hrj] at hdn hsn2 hlen2
            simp only at hdn hsn2 hlen2
            obtain ⟨A0, N0, c0, rfl⟩ := sl3 hdn.row
            have hp2 : lotR (lst s) su1 = (⟨bst (tR (lst s) 160 su1).1, (iR (lst s) (tR (lst s) 160 su1).2).1⟩, (iR (lst s) (tR (lst s) 160 su1).2).2) := rfl
            rw [hp2] at hsn2
            obtain ⟨⟨a1, su2⟩, ha1⟩ : ∃ r, tR (lst s) 160 su1 = r := ⟨_, rfl⟩
            rw [ha1] at hsn2
            simp only at hsn2
            have F1 := Lib.hid ha1
            obtain ⟨⟨a2, su3⟩, ha2⟩ : ∃ r, iR (lst s) su2 = r := ⟨_, rfl⟩
            rw [ha2] at hsn2
            simp only at hsn2
            have F2 := Lib.hid ha2
            have HS2 := Lib.hid hsn2
            have HDN := Lib.hid hdn
            have HLB := Lib.hid (show (us.length + 1) * 24 ≤ 140737488355328 by have := HL2.out; omega)
            have kS : wr.drew.cell? ⟨g, 0, none⟩ = some (.pointer (some ⟨q, 0, none⟩)) := hdn.ds.drew.bx HB.out.1 HB.out.2.1
            have kS2 : wr.drew.cell? ⟨G, 1, none⟩ = some (.slice A0 N0 c0) := hdn.ds.drew.cell 1
            clear hj hsn2 hrj hdn hp2 hlen2 ha1 ha2
            go_wp2
            conv => arg 2; arg 2; arg 1; arg 2; arg 1; arg 2; change id _
            go_region_held3 (fun w' => w'.cell? ⟨g, 0, none⟩ = some (.pointer (some ⟨q, 0, none⟩)))
              (first | with_reducible assumption | with_reducible exact HSA.out _ _ (by with_reducible assumption) | ((repeat (with_reducible refine cell_off (by with_reducible assumption) ?_)); with_reducible assumption))
              (first
                | (refine Kd.R_append_step k119 (w0 := x2) (W := x2) ws.heap.size (by rfl) (.tmp 20) (.tmp 28) 74 119 (.agg #[(.string ⟨#[]⟩), (.int .i64 0)]) 24 rfl Try.underlying74 info119 rfl (by decide) (by decide) (.slice A0 N0 c0) us ⟨bst a1, a2⟩ [.string (bst a1), .int .i64 a2] (fun k => k ≠ G) (fun _ => False) rfl rfl (k119_mkM _ _ _ _) (fun _ h => h.elim) D2.out.fresh D2.out.row (Below.refl _ _) D2.out.le HLB.out ?_; intro v1 wz ho hb hg5 hat; obtain ⟨A1, N1, c1, rfl⟩ := sl3 ho; have kk5 := (D2.out.grown hg5).bx HB.out.1 HB.out.2.1; have kk6 : wz.cell? ⟨G, 1, none⟩ = some (.slice A0 N0 c0) := (D2.out.grown hg5).cell 1; have kk7 := (D2.out.grown hg5).frz 1; have HP := Lib.hid (And.intro hg5 ho); clear ho hb hg5 hat)
                | (go_at_call 24; refine (DN.int D1.out F2.out).mono ?_; rintro e x2 ⟨rfl, D2⟩; have kx2 := D2.out.ds.bx HB.out.1 HB.out.2.1; have ky2 : x2.cell? ⟨G, 1, none⟩ = some (.slice A0 N0 c0) := D2.out.ds.cell 1; have kv : ∀ o : Obj, (x2.alloc o).cell? ⟨G, 1, none⟩ = some (.slice A0 N0 c0) := fun o => D2.out.ds.cellA 1 o)
                | (go_at_call 46; refine (DN.text HDN.out.drew F1.out).mono ?_; rintro e x1 ⟨rfl, D1⟩; have kx1 := D1.out.ds.bx HB.out.1 HB.out.2.1; have ky1 : x1.cell? ⟨G, 1, none⟩ = some (.slice A0 N0 c0) := D1.out.ds.cell 1))
            all_goals
              go_wp2
              go_roundg (n2 - j)
              case measure => have := HJn.out.1; have := HJK.out; omega
              case rel =>
                refine ⟨j + 1, .slice A1 N1 c1, by rw [Hw2.out], ⟨by have := HJn.out.1; have := HJK.out; omega, HJK.out, ?_⟩⟩
                rw [HS2.out]
                exact D2.out.app HP.out.1 HP.out.2 1 rfl
          · have q3 : ((j : Int) < (n2 : Int)) = False := eq_false (by omega)
            obtain rfl : j = n2 := by have := HJn.out.2.1; omega
            have hdn := HJn.out.2.2
            rw [HREP.out] at hdn
            simp only at hdn
            obtain ⟨A0, N0, c0, rfl⟩ := sl3 hdn.row
            have HDN := Lib.hid hdn
            have kz := hdn.ds.bx HB.out.1 HB.out.2.1
            clear hj hdn
            go_upto_region 9 with (fail)
            obtain ⟨W, hW⟩ : ∃ W, wr = W := ⟨_, rfl⟩
            subst hW
            have HZ := Lib.hid HDN.out.ds
            have HRW := Lib.hid (row_new HDN.out.row HJ.out.2.1)
            have e0 : wr.cell? ⟨G, 0, none⟩ = some (.int .i64 y1) := HZ.out.cell 0
            have e1 : wr.cell? ⟨G, 1, none⟩ = some (.slice A0 N0 c0) := HZ.out.cell 1
            have HQ := Lib.hid (And.intro (row_keep HJ.out.1 HZ.out.gr (Nat.lt_succ_of_lt HB.out.2.1)) (And.intro (Nat.le_trans HJ.out.2.1 HZ.out.gr.size) (HB.out.1.grown HZ.out.gr HB.out.2.1)))
            go_wp2_with (at_builtin; refine Kd.R_append k77 (w0 := wr) (W := wr) (g + 1) (by rfl) (.tmp 32) (.tmp 34) 42 77 (.agg #[(.int .i64 0), (.slice none 0 0)]) 32 rfl Try.underlying42 info77 rfl (by decide) (by decide) u3 xs ⟨y1, ys⟩ [.int .i64 y1, .slice A0 N0 c0] (fun _ => True) (fun k => ws.heap.size ≤ k) rfl rfl (k77_mkM _ _ _ ⟨y1, ys⟩ HRW.out) HOK.out (fun _ _ => trivial) HQ.out.1 (Below.refl _ _) HQ.out.2.1 HJ.out.2.2 ?_; intro v1 wz ho hb hg5 hat; have H5 := Lib.hid (And.intro ho hg5); clear ho hb hg5 hat)
            go_roundg (n - k)
            case measure => have := HI.out.1; have := HK.out; omega
            case rel =>
              have hb := Kd.R_base HQ.out.1
              refine ⟨k + 1, by rw [Hw.out], ⟨by have := HI.out.1; have := HK.out; omega, HK.out, ?_, ?_, ?_, ?_⟩⟩
              · rw [HS.out]; exact H5.out.1
              · rw [HS.out]; exact HZ.out.rd.row H5.out.2 (Nat.lt_succ_of_lt HB.out.2.1) hb
              · exact HQ.out.2.2.row H5.out.2 (Nat.lt_succ_self g) hb
              · exact grown_row (grown_then HI.out.2.2.2.2.2 HZ.out.gr) H5.out.2 (fun k hk => by have := hb k hk; have := HG.out; omega)
    · have q2 : ((k : Int) < (n : Int)) = False := eq_false (by omega)
      obtain rfl : k = n := by have := HI.out.2.1; omega
      clear hk
      go_wp2_with (fail)
      go_ret
      rw [HN.out]
      exact ⟨_, rfl, ⟨Kd.R_lower HI.out.2.2.1 (by have := HG.out; omega), HI.out.2.2.2.1, HI.out.2.2.2.2.2⟩⟩
end Go.Proofs.Ythpgjeiglhdciaa.SN

/- The decoder: trades. (printed by gen_dec_nest.py) -/
namespace Go.Proofs.Ythpgjeiglhdciaa.SN
open Go Go.RowKit Go.Proofs Go.Proofs.Ythpgjeiglhdciaa.PL Go.Proofs.YthpgjeiglhdciaaW.PrintWords Go.Proofs.YthpgjeiglhdciaaW.PrintLast Go.Proofs.YthpgjeiglhdciaaW.PrintMore
/-- One of the trades, read. -/
def tradesR (s : Bs) : St → S117 × St := mapR (fun p : Int × Int × Int × Int × Int × Int × Int × Int × Int × Bool × (List S129) => (⟨p.1, p.2.1, p.2.2.1, p.2.2.2.1, p.2.2.2.2.1, p.2.2.2.2.2.1, p.2.2.2.2.2.2.1, p.2.2.2.2.2.2.2.1, p.2.2.2.2.2.2.2.2.2.2, p.2.2.2.2.2.2.2.2.1, p.2.2.2.2.2.2.2.2.2.1⟩ : S117)) (andR (iR s) (andR (iR s) (andR (iR s) (andR (iR s) (andR (iR s) (andR (iR s) (andR (iR s) (andR (iR s) (andR (iR s) (andR (bR s) (lR s (resetR s))))))))))))
theorem tradesR_good (s : Bs) : Good s (tradesR s) tradesE := (Good.map ((iR_good s).and ((iR_good s).and ((iR_good s).and ((iR_good s).and ((iR_good s).and ((iR_good s).and ((iR_good s).and ((iR_good s).and ((iR_good s).and ((bR_good s).and (lR_good (resetR_good s)))))))))))) _ _ (fun a => by simp only [tradesE, lst_bst]))
attribute [local go_sem] id_eq
set_option maxRecDepth 100000 in
set_option maxHeartbeats 8000000 in
theorem trades_any {w : World} {q : Nat} {s : ByteArray} {st : St} (h : RD w q s st) (hs : s.size ≤ 140737488355328) (ha : st.at' ≤ s.size) :
    Calls Try.prog 31 #[.agg #[.pointer (some ⟨q, 0, none⟩)]] w fun o w' => ∃ v, o = .returned v ∧ Hid (k117.R 117 w' w.heap.size (fun _ => True) v (lR (lst s) (tradesR (lst s)) st).1 ∧ RD w' q s (lR (lst s) (tradesR (lst s)) st).2 ∧ w.grownBy w' (some q)) := by
  have hu := count_box h hs ha
  have hf := ((cR_good (lst s) 4096).fwd st (by rw [lst_len]; exact ha)).2
  rw [lst_len] at hf
  have hle := cR_le (lst s) 4096 st
  obtain ⟨⟨n, st0⟩, hr⟩ : ∃ r, cR (lst s) 4096 st = r := ⟨_, rfl⟩
  have hN : lR (lst s) (tradesR (lst s)) st = repR (tradesR (lst s)) n st0 := by
    unfold lR
    rw [hr]
  rw [hr] at hu hf hle
  simp only at hu hf hle
  obtain ⟨g, hg⟩ : ∃ g, w.heap.size = g := ⟨_, rfl⟩
  have hq := h.lt
  rw [hg] at hu hq
  have HU := Lib.hid hu
  have HN := Lib.hid hN
  have HF := Lib.hid (And.intro hf (And.intro hle (And.intro hs hq)))
  have HG := Lib.hid hg
  clear h ha hu hr hN hf hle hs hq
  go_enter Try.func31, Try.ntmps31
  rw [hg]
  go_wp2_with (go_at_call 45; refine HU.out.mono ?_; rintro e w1 ⟨rfl, H1⟩)
  try simp only [hg]
  clear hg
  go_loopg [3, 8] (n + 1) (fun kq v3 v7 w' => ∃ k : Nat, v7 = .int .i64 k ∧ Hid (kq + k = n + 1 ∧ k ≤ n ∧ k117.R 117 w' (g + 1) (fun _ => True) v3 (repR (tradesR (lst s)) k st0).1 ∧ RD w' q s (repR (tradesR (lst s)) k st0).2 ∧ BX w' g q ∧ w.grownBy w' (some q)))
  case atStart =>
    exact ⟨0, rfl, ⟨rfl, Nat.zero_le _, Kd.R_nil _ _ _ _ _, H1.out.2.1, H1.out.1, H1.out.2.2⟩⟩
  case round =>
    rename World => ws
    rename Nat => gs
    obtain ⟨k, rfl, HI⟩ := hrel
    by_cases hk : k < n
    · have q2 : ((k : Int) < (n : Int)) = True := eq_true (by omega)
      have hl64 : wrap64 ((k : Int) + 1) = ((k + 1 : Nat) : Int) := by
        have h3 := HF.out.2.1
        show wrap64 ((k + 1 : Nat) : Int) = _
        exact wrap_nat (by omega)
      have HK := Lib.hid hk
      have Hw := Lib.hid hl64
      have hfw := repR_fwd (tradesR_good (lst s)) k st0 (by rw [lst_len]; exact HF.out.1)
      rw [lst_len] at hfw
      have hsn := repR_snoc (tradesR (lst s)) k st0
      obtain ⟨⟨xs, st1⟩, hrk⟩ : ∃ r, repR (tradesR (lst s)) k st0 = r := ⟨_, rfl⟩
      have hlen := repR_len (tradesR (lst s)) k st0
      have HI2 := HI.out
      rw [hrk] at HI2 hfw hsn hlen
      simp only at HI2 hfw hsn hlen
      have l0 := hfw.2
      have hp : tradesR (lst s) st1 = (⟨(iR (lst s) st1).1, (iR (lst s) (iR (lst s) st1).2).1, (iR (lst s) (iR (lst s) (iR (lst s) st1).2).2).1, (iR (lst s) (iR (lst s) (iR (lst s) (iR (lst s) st1).2).2).2).1, (iR (lst s) (iR (lst s) (iR (lst s) (iR (lst s) (iR (lst s) st1).2).2).2).2).1, (iR (lst s) (iR (lst s) (iR (lst s) (iR (lst s) (iR (lst s) (iR (lst s) st1).2).2).2).2).2).1, (iR (lst s) (iR (lst s) (iR (lst s) (iR (lst s) (iR (lst s) (iR (lst s) (iR (lst s) st1).2).2).2).2).2).2).1, (iR (lst s) (iR (lst s) (iR (lst s) (iR (lst s) (iR (lst s) (iR (lst s) (iR (lst s) (iR (lst s) st1).2).2).2).2).2).2).2).1, (lR (lst s) (resetR (lst s)) (bR (lst s) (iR (lst s) (iR (lst s) (iR (lst s) (iR (lst s) (iR (lst s) (iR (lst s) (iR (lst s) (iR (lst s) (iR (lst s) st1).2).2).2).2).2).2).2).2).2).2).1, (iR (lst s) (iR (lst s) (iR (lst s) (iR (lst s) (iR (lst s) (iR (lst s) (iR (lst s) (iR (lst s) (iR (lst s) st1).2).2).2).2).2).2).2).2).1, (bR (lst s) (iR (lst s) (iR (lst s) (iR (lst s) (iR (lst s) (iR (lst s) (iR (lst s) (iR (lst s) (iR (lst s) (iR (lst s) st1).2).2).2).2).2).2).2).2).2).1⟩, (lR (lst s) (resetR (lst s)) (bR (lst s) (iR (lst s) (iR (lst s) (iR (lst s) (iR (lst s) (iR (lst s) (iR (lst s) (iR (lst s) (iR (lst s) (iR (lst s) st1).2).2).2).2).2).2).2).2).2).2).2) := rfl
      rw [hp] at hsn
      obtain ⟨⟨y1, st2⟩, hy1⟩ : ∃ r, iR (lst s) st1 = r := ⟨_, rfl⟩
      rw [hy1] at hsn
      simp only at hsn
      have E1 := Lib.hid hy1
      obtain ⟨⟨y2, st3⟩, hy2⟩ : ∃ r, iR (lst s) st2 = r := ⟨_, rfl⟩
      rw [hy2] at hsn
      simp only at hsn
      have E2 := Lib.hid hy2
      obtain ⟨⟨y3, st4⟩, hy3⟩ : ∃ r, iR (lst s) st3 = r := ⟨_, rfl⟩
      rw [hy3] at hsn
      simp only at hsn
      have E3 := Lib.hid hy3
      obtain ⟨⟨y4, st5⟩, hy4⟩ : ∃ r, iR (lst s) st4 = r := ⟨_, rfl⟩
      rw [hy4] at hsn
      simp only at hsn
      have E4 := Lib.hid hy4
      obtain ⟨⟨y5, st6⟩, hy5⟩ : ∃ r, iR (lst s) st5 = r := ⟨_, rfl⟩
      rw [hy5] at hsn
      simp only at hsn
      have E5 := Lib.hid hy5
      obtain ⟨⟨y6, st7⟩, hy6⟩ : ∃ r, iR (lst s) st6 = r := ⟨_, rfl⟩
      rw [hy6] at hsn
      simp only at hsn
      have E6 := Lib.hid hy6
      obtain ⟨⟨y7, st8⟩, hy7⟩ : ∃ r, iR (lst s) st7 = r := ⟨_, rfl⟩
      rw [hy7] at hsn
      simp only at hsn
      have E7 := Lib.hid hy7
      obtain ⟨⟨y8, st9⟩, hy8⟩ : ∃ r, iR (lst s) st8 = r := ⟨_, rfl⟩
      rw [hy8] at hsn
      simp only at hsn
      have E8 := Lib.hid hy8
      obtain ⟨⟨y9, st10⟩, hy9⟩ : ∃ r, iR (lst s) st9 = r := ⟨_, rfl⟩
      rw [hy9] at hsn
      simp only at hsn
      have E9 := Lib.hid hy9
      obtain ⟨⟨y10, st11⟩, hy10⟩ : ∃ r, bR (lst s) st10 = r := ⟨_, rfl⟩
      rw [hy10] at hsn
      simp only at hsn
      have E10 := Lib.hid hy10
      obtain ⟨⟨ys, stE⟩, hys⟩ : ∃ r, lR (lst s) (resetR (lst s)) st11 = r := ⟨_, rfl⟩
      rw [hys] at hsn
      simp only at hsn
      have hle2 := cR_le (lst s) 4096 st11
      obtain ⟨⟨n2, stc⟩, hcR⟩ : ∃ r, cR (lst s) 4096 st11 = r := ⟨_, rfl⟩
      rw [hcR] at hle2
      simp only at hle2
      have HREP := Lib.hid (show repR (resetR (lst s)) n2 stc = (ys, stE) by unfold lR at hys; rw [hcR] at hys; exact hys)
      have EC := Lib.hid hcR
      have HL2 := Lib.hid hle2
      have HS := Lib.hid hsn
      have HB := Lib.hid (And.intro HI2.2.2.2.2.1 (And.intro HF.out.2.2.2 (Nat.lt_trans HF.out.2.2.2 HI2.2.2.2.2.1.lt)))
      have PP := Lib.hid (DP.start HI2.2.2.2.1 HF.out.2.2.1 l0)
      have HJ := Lib.hid (And.intro HI2.2.2.1 (And.intro (Nat.succ_le_of_lt HI2.2.2.2.2.1.lt) (show (xs.length + 1) * 104 ≤ 140737488355328 by have := HF.out.2.1; omega)))
      have HOK := Lib.hid (row_old HI2.2.2.1)
      have kx0 : ws.cell? ⟨g, 0, none⟩ = some (.pointer (some ⟨q, 0, none⟩)) := HI2.2.2.2.2.1.cell
      have hSD : ws.drew.cell? ⟨g, 0, none⟩ = some (.pointer (some ⟨q, 0, none⟩)) := HI2.2.2.2.2.1.cell
      have HSA := Lib.hid (show ∀ (w' : World) (o : Obj), w'.cell? ⟨g, 0, none⟩ = some (.pointer (some ⟨q, 0, none⟩)) → (w'.alloc o).cell? ⟨g, 0, none⟩ = some (.pointer (some ⟨q, 0, none⟩)) from fun w' o h0 => ((Below.refl w'.heap.size w').alloc (Nat.le_refl _) o |>.cell (World.block_lt_of_cell? w' _ h0)).trans h0)
      have HSD := Lib.hid (show ∀ o : Obj, (ws.alloc o).drew.cell? ⟨g, 0, none⟩ = some (.pointer (some ⟨q, 0, none⟩)) from fun o => HSA.out ws o HI2.2.2.2.2.1.cell)
      have PD := Lib.hid (fun cs T => ((DP.start0 HI2.2.2.2.1 HF.out.2.2.1 l0).alloc HB.out.2.2 cs T).drew)
      clear hk hl64 hfw hsn hrk hlen HI2 hp l0 hys hcR hle2 hy1 hy2 hy3 hy4 hy5 hy6 hy7 hy8 hy9 hy10
      go_upto_region 4 with (fail)
      go_cut [4] (fun v4 wx => ∃ G, v4 = .pointer (some ⟨G, 0, none⟩) ∧ Hid (DS ws wx q G s st10 #[.int .i64 y1, .int .i64 y2, .int .i64 y3, .int .i64 y4, .int .i64 y5, .int .i64 y6, .int .i64 y7, .int .i64 y8, .slice none 0 0, .int .i64 y9, .bool false] 117))
      case first =>
        go_region_held3 (fun w' => w'.cell? ⟨g, 0, none⟩ = some (.pointer (some ⟨q, 0, none⟩)))
          (first | with_reducible assumption | with_reducible exact HSD.out _ | with_reducible exact HSA.out _ _ (by with_reducible assumption) | ((repeat (with_reducible refine cell_off (by with_reducible assumption) ?_)); with_reducible assumption))
          (first
            | (go_at_call 24; refine (DS.int PL.out E9.out).mono ?_; rintro e wv ⟨rfl, PL⟩; have kx := PL.out.bx HB.out.1 HB.out.2.1; have hGg := PL.out.away HB.out.1.lt; have zz0 : (_ : Option Value) = some (.int .i64 0) := PL.out.cell 0; have ff0 := PL.out.frz 0; have zz1 : (_ : Option Value) = some (.int .i64 0) := PL.out.cell 1; have ff1 := PL.out.frz 1; have zz2 : (_ : Option Value) = some (.int .i64 0) := PL.out.cell 2; have ff2 := PL.out.frz 2; have zz3 : (_ : Option Value) = some (.int .i64 0) := PL.out.cell 3; have ff3 := PL.out.frz 3; have zz4 : (_ : Option Value) = some (.int .i64 0) := PL.out.cell 4; have ff4 := PL.out.frz 4; have zz5 : (_ : Option Value) = some (.int .i64 0) := PL.out.cell 5; have ff5 := PL.out.frz 5; have zz6 : (_ : Option Value) = some (.int .i64 0) := PL.out.cell 6; have ff6 := PL.out.frz 6; have zz7 : (_ : Option Value) = some (.int .i64 0) := PL.out.cell 7; have ff7 := PL.out.frz 7; have zz8 : (_ : Option Value) = some (.slice none 0 0) := PL.out.cell 8; have ff8 := PL.out.frz 8; have zz9 : (_ : Option Value) = some (.int .i64 0) := PL.out.cell 9; have ff9 := PL.out.frz 9; have zz10 : (_ : Option Value) = some (.bool false) := PL.out.cell 10; have ff10 := PL.out.frz 10)
            | (go_at_call 24; refine (DS.int (PP.out.alloc HB.out.2.2 _ _) E9.out).mono ?_; rintro e wv ⟨rfl, PL⟩; have kx := PL.out.bx HB.out.1 HB.out.2.1; have hGg := PL.out.away HB.out.1.lt; have zz0 : (_ : Option Value) = some (.int .i64 0) := PL.out.cell 0; have ff0 := PL.out.frz 0; have zz1 : (_ : Option Value) = some (.int .i64 0) := PL.out.cell 1; have ff1 := PL.out.frz 1; have zz2 : (_ : Option Value) = some (.int .i64 0) := PL.out.cell 2; have ff2 := PL.out.frz 2; have zz3 : (_ : Option Value) = some (.int .i64 0) := PL.out.cell 3; have ff3 := PL.out.frz 3; have zz4 : (_ : Option Value) = some (.int .i64 0) := PL.out.cell 4; have ff4 := PL.out.frz 4; have zz5 : (_ : Option Value) = some (.int .i64 0) := PL.out.cell 5; have ff5 := PL.out.frz 5; have zz6 : (_ : Option Value) = some (.int .i64 0) := PL.out.cell 6; have ff6 := PL.out.frz 6; have zz7 : (_ : Option Value) = some (.int .i64 0) := PL.out.cell 7; have ff7 := PL.out.frz 7; have zz8 : (_ : Option Value) = some (.slice none 0 0) := PL.out.cell 8; have ff8 := PL.out.frz 8; have zz9 : (_ : Option Value) = some (.int .i64 0) := PL.out.cell 9; have ff9 := PL.out.frz 9; have zz10 : (_ : Option Value) = some (.bool false) := PL.out.cell 10; have ff10 := PL.out.frz 10)
            | (go_at_call 24; refine (DP.int PP.out E9.out).mono ?_; rintro e wv ⟨rfl, PP⟩; have kx := PP.out.bx HB.out.1 HB.out.2.1)
            | (go_at_call 24; refine (DS.int PL.out E8.out).mono ?_; rintro e wv ⟨rfl, PL⟩; have kx := PL.out.bx HB.out.1 HB.out.2.1)
            | (go_at_call 24; refine (DS.int (PP.out.alloc HB.out.2.2 _ _) E8.out).mono ?_; rintro e wv ⟨rfl, PL⟩; have kx := PL.out.bx HB.out.1 HB.out.2.1)
            | (go_at_call 24; refine (DP.int PP.out E8.out).mono ?_; rintro e wv ⟨rfl, PP⟩; have kx := PP.out.bx HB.out.1 HB.out.2.1)
            | (go_at_call 24; refine (DS.int PL.out E7.out).mono ?_; rintro e wv ⟨rfl, PL⟩; have kx := PL.out.bx HB.out.1 HB.out.2.1)
            | (go_at_call 24; refine (DS.int (PP.out.alloc HB.out.2.2 _ _) E7.out).mono ?_; rintro e wv ⟨rfl, PL⟩; have kx := PL.out.bx HB.out.1 HB.out.2.1)
            | (go_at_call 24; refine (DP.int PP.out E7.out).mono ?_; rintro e wv ⟨rfl, PP⟩; have kx := PP.out.bx HB.out.1 HB.out.2.1)
            | (go_at_call 24; refine (DS.int PL.out E6.out).mono ?_; rintro e wv ⟨rfl, PL⟩; have kx := PL.out.bx HB.out.1 HB.out.2.1)
            | (go_at_call 24; refine (DS.int (PP.out.alloc HB.out.2.2 _ _) E6.out).mono ?_; rintro e wv ⟨rfl, PL⟩; have kx := PL.out.bx HB.out.1 HB.out.2.1)
            | (go_at_call 24; refine (DP.int PP.out E6.out).mono ?_; rintro e wv ⟨rfl, PP⟩; have kx := PP.out.bx HB.out.1 HB.out.2.1)
            | (go_at_call 24; refine (DS.int PL.out E5.out).mono ?_; rintro e wv ⟨rfl, PL⟩; have kx := PL.out.bx HB.out.1 HB.out.2.1)
            | (go_at_call 24; refine (DS.int (PP.out.alloc HB.out.2.2 _ _) E5.out).mono ?_; rintro e wv ⟨rfl, PL⟩; have kx := PL.out.bx HB.out.1 HB.out.2.1)
            | (go_at_call 24; refine (DP.int PP.out E5.out).mono ?_; rintro e wv ⟨rfl, PP⟩; have kx := PP.out.bx HB.out.1 HB.out.2.1)
            | (go_at_call 24; refine (DS.int PL.out E4.out).mono ?_; rintro e wv ⟨rfl, PL⟩; have kx := PL.out.bx HB.out.1 HB.out.2.1)
            | (go_at_call 24; refine (DS.int (PP.out.alloc HB.out.2.2 _ _) E4.out).mono ?_; rintro e wv ⟨rfl, PL⟩; have kx := PL.out.bx HB.out.1 HB.out.2.1)
            | (go_at_call 24; refine (DP.int PP.out E4.out).mono ?_; rintro e wv ⟨rfl, PP⟩; have kx := PP.out.bx HB.out.1 HB.out.2.1)
            | (go_at_call 24; refine (DS.int PL.out E3.out).mono ?_; rintro e wv ⟨rfl, PL⟩; have kx := PL.out.bx HB.out.1 HB.out.2.1)
            | (go_at_call 24; refine (DS.int (PP.out.alloc HB.out.2.2 _ _) E3.out).mono ?_; rintro e wv ⟨rfl, PL⟩; have kx := PL.out.bx HB.out.1 HB.out.2.1)
            | (go_at_call 24; refine (DP.int PP.out E3.out).mono ?_; rintro e wv ⟨rfl, PP⟩; have kx := PP.out.bx HB.out.1 HB.out.2.1)
            | (go_at_call 24; refine (DS.int PL.out E2.out).mono ?_; rintro e wv ⟨rfl, PL⟩; have kx := PL.out.bx HB.out.1 HB.out.2.1)
            | (go_at_call 24; refine (DS.int (PP.out.alloc HB.out.2.2 _ _) E2.out).mono ?_; rintro e wv ⟨rfl, PL⟩; have kx := PL.out.bx HB.out.1 HB.out.2.1)
            | (go_at_call 24; refine (DP.int PP.out E2.out).mono ?_; rintro e wv ⟨rfl, PP⟩; have kx := PP.out.bx HB.out.1 HB.out.2.1)
            | (go_at_call 24; refine (DS.int PL.out E1.out).mono ?_; rintro e wv ⟨rfl, PL⟩; have kx := PL.out.bx HB.out.1 HB.out.2.1)
            | (go_at_call 24; refine (DS.int (PD.out _ _) E1.out).mono ?_; rintro e wv ⟨rfl, PL⟩; have kx := PL.out.bx HB.out.1 HB.out.2.1)
            | (go_at_call 24; refine (DS.int (PP.out.alloc HB.out.2.2 _ _) E1.out).mono ?_; rintro e wv ⟨rfl, PL⟩; have kx := PL.out.bx HB.out.1 HB.out.2.1)
            | (go_at_call 24; refine (DP.int PP.out E1.out).mono ?_; rintro e wv ⟨rfl, PP⟩; have kx := PP.out.bx HB.out.1 HB.out.2.1))
        all_goals (go_wp2_with (fail); go_meet; first | exact ⟨_, rfl, PL.out.fill [.int .i64 y1, .int .i64 y2, .int .i64 y3, .int .i64 y4, .int .i64 y5, .int .i64 y6, .int .i64 y7, .int .i64 y8, .slice none 0 0, .int .i64 y9, .bool false] rfl⟩ | exact ⟨_, rfl, PP.out.alloc HB.out.2.2 _ _⟩)
      case rest =>
        obtain ⟨G, rfl, HD⟩ := hcut
        have kx := HD.out.bx HB.out.1 HB.out.2.1
        have hGg := HD.out.away HB.out.1.lt
        go_wp2_with (first
          | (go_at_call 45; refine (DS.count (H10.out.set 10 _) EC.out).mono ?_; rintro e wn ⟨rfl, HCN⟩)
          | (go_at_call 47; refine (DS.bool HD.out E10.out).mono ?_; rintro e v10 ⟨rfl, H10⟩; have kx10 := H10.out.bx HB.out.1 HB.out.2.1; have z10_10 : v10.cell? ⟨G, 10, none⟩ = some (.bool false) := H10.out.cell 10; have f10_10 := H10.out.frz 10))
        have HN0 := Lib.hid (show DS ws wn q G s stc #[.int .i64 y1, .int .i64 y2, .int .i64 y3, .int .i64 y4, .int .i64 y5, .int .i64 y6, .int .i64 y7, .int .i64 y8, .slice none 0 0, .int .i64 y9, .bool y10] 117 from HCN.out.to rfl)
        go_loopg [45] (n2 + 1) (fun kq v17 w' => ∃ (j : Nat) (v : Value), v17 = .int .i64 j ∧ Hid (kq + j = n2 + 1 ∧ j ≤ n2 ∧ DN k129 129 ws w' q G s (repR (resetR (lst s)) j stc).2 #[.int .i64 y1, .int .i64 y2, .int .i64 y3, .int .i64 y4, .int .i64 y5, .int .i64 y6, .int .i64 y7, .int .i64 y8, v, .int .i64 y9, .bool y10] 117 v (repR (resetR (lst s)) j stc).1))
        case atStart => exact ⟨0, _, rfl, ⟨rfl, Nat.zero_le _, ⟨HN0.out, Kd.R_nil _ _ _ _ _⟩⟩⟩
        case round =>
          obtain ⟨j, v, rfl, HJn⟩ := hrel
          by_cases hj : j < n2
          · have q3 : ((j : Int) < (n2 : Int)) = True := eq_true (by omega)
            have Hw2 := Lib.hid (idx_next hj (Nat.le_trans HL2.out (by decide)))
            have HJK := Lib.hid hj
            have hlen2 := repR_len (resetR (lst s)) j stc
            have hsn2 := repR_snoc (resetR (lst s)) j stc
            obtain ⟨⟨us, su1⟩, hrj⟩ : ∃ r, repR (resetR (lst s)) j stc = r := ⟨_, rfl⟩
            have hdn := HJn.out.2.2
            rw [hrj] at hdn hsn2 hlen2
            simp only at hdn hsn2 hlen2
            obtain ⟨A0, N0, c0, rfl⟩ := sl3 hdn.row
            have hp2 : resetR (lst s) su1 = (⟨(iR (lst s) su1).1, (iR (lst s) (iR (lst s) su1).2).1⟩, (iR (lst s) (iR (lst s) su1).2).2) := rfl
            rw [hp2] at hsn2
            obtain ⟨⟨a1, su2⟩, ha1⟩ : ∃ r, iR (lst s) su1 = r := ⟨_, rfl⟩
            rw [ha1] at hsn2
            simp only at hsn2
            have F1 := Lib.hid ha1
            obtain ⟨⟨a2, su3⟩, ha2⟩ : ∃ r, iR (lst s) su2 = r := ⟨_, rfl⟩
            rw [ha2] at hsn2
            simp only at hsn2
            have F2 := Lib.hid ha2
            have HS2 := Lib.hid hsn2
            have HDN := Lib.hid hdn
            have HLB := Lib.hid (show (us.length + 1) * 16 ≤ 140737488355328 by have := HL2.out; omega)
            have kS : wr.drew.cell? ⟨g, 0, none⟩ = some (.pointer (some ⟨q, 0, none⟩)) := hdn.ds.drew.bx HB.out.1 HB.out.2.1
            have kS2 : wr.drew.cell? ⟨G, 8, none⟩ = some (.slice A0 N0 c0) := hdn.ds.drew.cell 8
            clear hj hsn2 hrj hdn hp2 hlen2 ha1 ha2
            go_wp2
            conv => arg 2; arg 2; arg 1; arg 2; arg 1; arg 2; change id _
            go_region_held3 (fun w' => w'.cell? ⟨g, 0, none⟩ = some (.pointer (some ⟨q, 0, none⟩)))
              (first | with_reducible assumption | with_reducible exact HSA.out _ _ (by with_reducible assumption) | ((repeat (with_reducible refine cell_off (by with_reducible assumption) ?_)); with_reducible assumption))
              (first
                | (refine Kd.R_append_step k129 (w0 := x2) (W := x2) ws.heap.size (by rfl) (.tmp 48) (.tmp 56) 115 129 (.agg #[(.int .i64 0), (.int .i64 0)]) 16 rfl Try.underlying115 info129 rfl (by decide) (by decide) (.slice A0 N0 c0) us ⟨a1, a2⟩ [.int .i64 a1, .int .i64 a2] (fun k => k ≠ G) (fun _ => False) rfl rfl (k129_mkM _ _ _ _) (fun _ h => h.elim) D2.out.fresh D2.out.row (Below.refl _ _) D2.out.le HLB.out ?_; intro v1 wz ho hb hg5 hat; obtain ⟨A1, N1, c1, rfl⟩ := sl3 ho; have kk5 := (D2.out.grown hg5).bx HB.out.1 HB.out.2.1; have kk6 : wz.cell? ⟨G, 8, none⟩ = some (.slice A0 N0 c0) := (D2.out.grown hg5).cell 8; have kk7 := (D2.out.grown hg5).frz 8; have HP := Lib.hid (And.intro hg5 ho); clear ho hb hg5 hat)
                | (go_at_call 24; refine (DN.int D1.out F2.out).mono ?_; rintro e x2 ⟨rfl, D2⟩; have kx2 := D2.out.ds.bx HB.out.1 HB.out.2.1; have ky2 : x2.cell? ⟨G, 8, none⟩ = some (.slice A0 N0 c0) := D2.out.ds.cell 8; have kv : ∀ o : Obj, (x2.alloc o).cell? ⟨G, 8, none⟩ = some (.slice A0 N0 c0) := fun o => D2.out.ds.cellA 8 o)
                | (go_at_call 24; refine (DN.int HDN.out.drew F1.out).mono ?_; rintro e x1 ⟨rfl, D1⟩; have kx1 := D1.out.ds.bx HB.out.1 HB.out.2.1; have ky1 : x1.cell? ⟨G, 8, none⟩ = some (.slice A0 N0 c0) := D1.out.ds.cell 8))
            all_goals
              go_wp2
              go_roundg (n2 - j)
              case measure => have := HJn.out.1; have := HJK.out; omega
              case rel =>
                refine ⟨j + 1, .slice A1 N1 c1, by rw [Hw2.out], ⟨by have := HJn.out.1; have := HJK.out; omega, HJK.out, ?_⟩⟩
                rw [HS2.out]
                exact D2.out.app HP.out.1 HP.out.2 8 rfl
          · have q3 : ((j : Int) < (n2 : Int)) = False := eq_false (by omega)
            obtain rfl : j = n2 := by have := HJn.out.2.1; omega
            have hdn := HJn.out.2.2
            rw [HREP.out] at hdn
            simp only at hdn
            obtain ⟨A0, N0, c0, rfl⟩ := sl3 hdn.row
            have HDN := Lib.hid hdn
            have kz := hdn.ds.bx HB.out.1 HB.out.2.1
            clear hj hdn
            go_upto_region 10 with (fail)
            obtain ⟨W, hW⟩ : ∃ W, wr = W := ⟨_, rfl⟩
            subst hW
            have HZ := Lib.hid HDN.out.ds
            have HRW := Lib.hid (row_new HDN.out.row HJ.out.2.1)
            have e0 : wr.cell? ⟨G, 0, none⟩ = some (.int .i64 y1) := HZ.out.cell 0
            have e1 : wr.cell? ⟨G, 1, none⟩ = some (.int .i64 y2) := HZ.out.cell 1
            have e2 : wr.cell? ⟨G, 2, none⟩ = some (.int .i64 y3) := HZ.out.cell 2
            have e3 : wr.cell? ⟨G, 3, none⟩ = some (.int .i64 y4) := HZ.out.cell 3
            have e4 : wr.cell? ⟨G, 4, none⟩ = some (.int .i64 y5) := HZ.out.cell 4
            have e5 : wr.cell? ⟨G, 5, none⟩ = some (.int .i64 y6) := HZ.out.cell 5
            have e6 : wr.cell? ⟨G, 6, none⟩ = some (.int .i64 y7) := HZ.out.cell 6
            have e7 : wr.cell? ⟨G, 7, none⟩ = some (.int .i64 y8) := HZ.out.cell 7
            have e8 : wr.cell? ⟨G, 8, none⟩ = some (.slice A0 N0 c0) := HZ.out.cell 8
            have e9 : wr.cell? ⟨G, 9, none⟩ = some (.int .i64 y9) := HZ.out.cell 9
            have e10 : wr.cell? ⟨G, 10, none⟩ = some (.bool y10) := HZ.out.cell 10
            have HQ := Lib.hid (And.intro (row_keep HJ.out.1 HZ.out.gr (Nat.lt_succ_of_lt HB.out.2.1)) (And.intro (Nat.le_trans HJ.out.2.1 HZ.out.gr.size) (HB.out.1.grown HZ.out.gr HB.out.2.1)))
            go_wp2_with (at_builtin; refine Kd.R_append k117 (w0 := wr) (W := wr) (g + 1) (by rfl) (.tmp 60) (.tmp 62) 27 117 (.agg #[(.int .i64 0), (.int .i64 0), (.int .i64 0), (.int .i64 0), (.int .i64 0), (.int .i64 0), (.int .i64 0), (.int .i64 0), (.slice none 0 0), (.int .i64 0), (.bool false)]) 104 rfl Try.underlying27 info117 rfl (by decide) (by decide) u3 xs ⟨y1, y2, y3, y4, y5, y6, y7, y8, ys, y9, y10⟩ [.int .i64 y1, .int .i64 y2, .int .i64 y3, .int .i64 y4, .int .i64 y5, .int .i64 y6, .int .i64 y7, .int .i64 y8, .slice A0 N0 c0, .int .i64 y9, .bool y10] (fun _ => True) (fun k => ws.heap.size ≤ k) rfl rfl (k117_mkM _ _ _ ⟨y1, y2, y3, y4, y5, y6, y7, y8, ys, y9, y10⟩ HRW.out) HOK.out (fun _ _ => trivial) HQ.out.1 (Below.refl _ _) HQ.out.2.1 HJ.out.2.2 ?_; intro v1 wz ho hb hg5 hat; have H5 := Lib.hid (And.intro ho hg5); clear ho hb hg5 hat)
            go_roundg (n - k)
            case measure => have := HI.out.1; have := HK.out; omega
            case rel =>
              have hb := Kd.R_base HQ.out.1
              refine ⟨k + 1, by rw [Hw.out], ⟨by have := HI.out.1; have := HK.out; omega, HK.out, ?_, ?_, ?_, ?_⟩⟩
              · rw [HS.out]; exact H5.out.1
              · rw [HS.out]; exact HZ.out.rd.row H5.out.2 (Nat.lt_succ_of_lt HB.out.2.1) hb
              · exact HQ.out.2.2.row H5.out.2 (Nat.lt_succ_self g) hb
              · exact grown_row (grown_then HI.out.2.2.2.2.2 HZ.out.gr) H5.out.2 (fun k hk => by have := hb k hk; have := HG.out; omega)
    · have q2 : ((k : Int) < (n : Int)) = False := eq_false (by omega)
      obtain rfl : k = n := by have := HI.out.2.1; omega
      clear hk
      go_wp2_with (fail)
      go_ret
      rw [HN.out]
      exact ⟨_, rfl, ⟨Kd.R_lower HI.out.2.2.1 (by have := HG.out; omega), HI.out.2.2.2.1, HI.out.2.2.2.2.2⟩⟩
end Go.Proofs.Ythpgjeiglhdciaa.SN
