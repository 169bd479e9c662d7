/- Part 43 of the proof's texts: what the theorem needs of them. -/
import Derived.Test.YthpgjeiglhdciaaSB35
import Derived.Test.YthpgjeiglhdciaaSB37
import Derived.Test.YthpgjeiglhdciaaSB41
import Derived.Test.YthpgjeiglhdciaaSB42
import Derived.Lib.SlicesS

set_option linter.unusedVariables false
set_option linter.unusedSimpArgs false
/- Decode where reading goes well: what its slices' capacities are, besides. (SnN, turned) -/
namespace Go.Proofs.Ythpgjeiglhdciaa.SN
open Go Go.RowKit Go.Proofs Go.Proofs.Ythpgjeiglhdciaa.PL Go.Proofs.YthpgjeiglhdciaaW.PrintWords Go.Proofs.YthpgjeiglhdciaaW.PrintLast Go.Proofs.YthpgjeiglhdciaaW.PrintMore
set_option maxRecDepth 100000 in
set_option maxHeartbeats 8000000 in
theorem decode_good2 {w : World} {s t : ByteArray} {V : VW} {stV stZ : St} (hs : 8 ≤ s.size) (hs2 : s.size ≤ 140737488355328) (hm : ∀ j, j < 8 → (lst s)[j]? = mark[j]?) (ht : s.extract 8 s.size = t) (hv : viewR (lst t) ⟨0, 0⟩ = (V, stV)) (hz : endR (lst t) stV = stZ) (hzz : stZ.e = 0) :
    Calls Try.prog 9 #[.string s] w fun o w' => ∃ (A1 A2 A3 A4 A5 A6 A7 A9 A10 A11 : Option Addr) (c1 c2 c3 c4 c5 c6 c7 c9 c10 c11 : Nat), o = .returned (.tuple #[.agg #[.int .i64 V.day, .slice A1 V.members.length c1, .slice A2 V.assets.length c2, .slice A3 V.prices.length c3, .slice A4 V.baskets.length c4, .slice A5 V.balances.length c5, .slice A6 V.quotes.length c6, .slice A7 V.trades.length c7, .int .i64 V.next, .slice A9 V.covers.length c9, .slice A10 V.inn.length c10, .slice A11 V.outs.length c11], .int .i64 s.size, .int .i64 0]) ∧ Hid (VL w' V A1 A2 A3 A4 A5 A6 A7 A9 A10 A11 ∧ VC V c1 c2 c3 c4 c5 c6 c7 c9 c10 c11 ∧ Below w.heap.size w w') := by
  have hts : t.size ≤ 140737488355328 := by rw [← ht, ByteArray.size_extract]; omega
  obtain ⟨st1, h01⟩ : ∃ x, (⟨0, 0⟩ : St) = x := ⟨_, rfl⟩
  rw [h01] at hv
  have H01 := Lib.hid h01
  have hz1 : st1.at' = 0 := by rw [← h01]
  obtain ⟨⟨y1, st2⟩, hy1⟩ : ∃ r, iR (lst t) st1 = r := ⟨_, rfl⟩
  have E1 := Lib.hid hy1
  obtain ⟨⟨y2, st3⟩, hy2⟩ : ∃ r, iR (lst t) st2 = r := ⟨_, rfl⟩
  have E2 := Lib.hid hy2
  obtain ⟨⟨y3, st4⟩, hy3⟩ : ∃ r, lR (lst t) (membersR (lst t)) st3 = r := ⟨_, rfl⟩
  have E3 := Lib.hid hy3
  obtain ⟨⟨y4, st5⟩, hy4⟩ : ∃ r, lR (lst t) (assetsR (lst t)) st4 = r := ⟨_, rfl⟩
  have E4 := Lib.hid hy4
  obtain ⟨⟨y5, st6⟩, hy5⟩ : ∃ r, lR (lst t) (pricesR (lst t)) st5 = r := ⟨_, rfl⟩
  have E5 := Lib.hid hy5
  obtain ⟨⟨y6, st7⟩, hy6⟩ : ∃ r, lR (lst t) (basketsR (lst t)) st6 = r := ⟨_, rfl⟩
  have E6 := Lib.hid hy6
  obtain ⟨⟨y7, st8⟩, hy7⟩ : ∃ r, lR (lst t) (balancesR (lst t)) st7 = r := ⟨_, rfl⟩
  have E7 := Lib.hid hy7
  obtain ⟨⟨y8, st9⟩, hy8⟩ : ∃ r, lR (lst t) (quotesR (lst t)) st8 = r := ⟨_, rfl⟩
  have E8 := Lib.hid hy8
  obtain ⟨⟨y9, st10⟩, hy9⟩ : ∃ r, lR (lst t) (tradesR (lst t)) st9 = r := ⟨_, rfl⟩
  have E9 := Lib.hid hy9
  obtain ⟨⟨y10, st11⟩, hy10⟩ : ∃ r, lR (lst t) (coversR (lst t)) st10 = r := ⟨_, rfl⟩
  have E10 := Lib.hid hy10
  obtain ⟨⟨y11, st12⟩, hy11⟩ : ∃ r, lR (lst t) (linksR (lst t)) st11 = r := ⟨_, rfl⟩
  have E11 := Lib.hid hy11
  obtain ⟨⟨y12, st13⟩, hy12⟩ : ∃ r, lR (lst t) (linksR (lst t)) st12 = r := ⟨_, rfl⟩
  have E12 := Lib.hid hy12
  have hp : viewR (lst t) st1 = (⟨y1, y2, y3, y4, y5, y6, y7, y8, y9, y10, y11, y12⟩, st13) := mapR_eq _ (andR_eq hy1 (andR_eq hy2 (andR_eq hy3 (andR_eq hy4 (andR_eq hy5 (andR_eq hy6 (andR_eq hy7 (andR_eq hy8 (andR_eq hy9 (andR_eq hy10 (andR_eq hy11 hy12)))))))))))
  rw [hp] at hv
  clear hp
  obtain ⟨rfl, rfl⟩ := Prod.mk.inj hv
  have HZE := Lib.hid hz
  have bz : (stZ.e == 0) = true := by simpa using hzz
  have HM := Lib.hid (And.intro hs (And.intro hm (And.intro hts (And.intro ht hs2))))
  have HZ1 := Lib.hid (show st1.at' ≤ t.size by omega)
  clear hv hm hts hz hzz hs2 h01 hz1 hy1 hy2 hy3 hy4 hy5 hy6 hy7 hy8 hy9 hy10 hy11 hy12
  go_enter Try.func9, Try.ntmps9
  go_upto_region 1 with (fail)
  obtain ⟨C, hC⟩ : ∃ C, w.heap.size = C := ⟨_, rfl⟩
  have HB0 := Lib.hid (show Below C w (w.alloc (.cells #[.int .i64 0, .slice none 0 0, .slice none 0 0, .slice none 0 0, .slice none 0 0, .slice none 0 0, .slice none 0 0, .slice none 0 0, .int .i64 0, .slice none 0 0, .slice none 0 0, .slice none 0 0] 45)) from hC ▸ below_alloc (Below.refl _ _) _)
  have HC0 := Lib.hid (show (w.alloc (.cells #[.int .i64 0, .slice none 0 0, .slice none 0 0, .slice none 0 0, .slice none 0 0, .slice none 0 0, .slice none 0 0, .slice none 0 0, .int .i64 0, .slice none 0 0, .slice none 0 0, .slice none 0 0] 45)).heap[C]? = some (.cells #[.int .i64 0, .slice none 0 0, .slice none 0 0, .slice none 0 0, .slice none 0 0, .slice none 0 0, .slice none 0 0, .slice none 0 0, .int .i64 0, .slice none 0 0, .slice none 0 0, .slice none 0 0] 45 (0, 0)) from hC ▸ (Go.MapKept.heap_alloc w _).1)
  have HZ0 := Lib.hid (show (w.alloc (.cells #[.int .i64 0, .slice none 0 0, .slice none 0 0, .slice none 0 0, .slice none 0 0, .slice none 0 0, .slice none 0 0, .slice none 0 0, .int .i64 0, .slice none 0 0, .slice none 0 0, .slice none 0 0] 45)).heap.size = C + 1 from by rw [← hC]; simp)
  rw [hC]
  generalize w.alloc (.cells #[.int .i64 0, .slice none 0 0, .slice none 0 0, .slice none 0 0, .slice none 0 0, .slice none 0 0, .slice none 0 0, .slice none 0 0, .int .i64 0, .slice none 0 0, .slice none 0 0, .slice none 0 0] 45) = W0 at HB0 HC0 HZ0 ⊢
  have HCC := Lib.hid hC
  clear hC
  go_cut [10, 11] (fun v10 v11 wx => ∃ m : Nat, v10 = .int .i64 m ∧ v11 = .int .i64 0 ∧ Hid (wx = W0 ∧ min s.size 8 = m))
  case first =>
    by_cases hs8 : 8 < s.size
    · have hs9 : (8 : Int) < (s.size : Int) := by omega
      go_wp2_with (fail)
      go_meet
      exact ⟨8, rfl, rfl, ⟨rfl, by omega⟩⟩
    · have hs9 : (s.size : Int) ≤ 8 := by omega
      go_wp2_with (fail)
      go_meet
      exact ⟨s.size, rfl, rfl, ⟨rfl, by omega⟩⟩
  case rest =>
    obtain ⟨m, rfl, rfl, HM8⟩ := hcut
    obtain ⟨hw0, hm8⟩ := HM8.out
    subst hw0
    clear HM8
    have HM8 := Lib.hid hm8
    clear hm8
    go_wp2_with (fail)
    have hm8 : m = 8 := by have := HM8.out; have := HM.out.1; omega
    subst hm8
    clear ht
    go_loopg [11] (8 + 1) (fun kq v11 w' => ∃ (k d : Nat), v11 = .int .i64 k ∧ w' = wc.drewN d ∧ Hid (kq + k = 8 + 1 ∧ k ≤ 8))
    case atStart => exact ⟨0, 0, rfl, rfl, ⟨rfl, Nat.zero_le _⟩⟩
    case round =>
      obtain ⟨k, d, rfl, rfl, HI⟩ := hrel
      by_cases hkm0 : k < 8
      · have hk : k < s.size := by have := HM.out.1; omega
        have hk8 : k < ({ data := #[108, 111, 109, 98, 97, 114, 100, 49] } : ByteArray).size := hkm0
        have hq := mark_same hk hk8 (HM.out.2.1 k hkm0)
        have hkq : (k : Int) < (s.size : Int) := by omega
        have hkm : (k : Int) < 8 := by omega
        go_wp2_with (fail)
        go_quiet (fail)
        go_wp2_with (fail)
        go_roundg (8 - k)
        case measure => have := HI.out.1; omega
        case rel => exact ⟨k + 1, _, rfl, rfl, ⟨by have := HI.out.1; omega, hkm0⟩⟩
      · have q1 : ((k : Int) < 8) = False := eq_false (by omega)
        have hs2 : (8 : Int) ≤ (s.size : Int) := by omega
        have hs3 : ((s.size : Int) < 8) = False := eq_false (by omega)
        have HCB := Lib.hid (And.intro (show Below C w (wc.drewN d) from pw_below_drewN HB0.out d) (show (wc.drewN d).heap[C]? = some (.cells #[.int .i64 0, .slice none 0 0, .slice none 0 0, .slice none 0 0, .slice none 0 0, .slice none 0 0, .slice none 0 0, .slice none 0 0, .int .i64 0, .slice none 0 0, .slice none 0 0, .slice none 0 0] 45 (0, 0)) from HC0.out))
        have HCZ := Lib.hid (show (wc.drewN d).heap.size = C + 1 from HZ0.out)
        clear hkm0
        go_upto_region 10 with (go_at_call 23; rw [HM.out.2.2.2.1]; refine newreader_any.mono ?_; rintro e w1 ⟨q, rfl, HQ⟩; have kq1 := HQ.out.2.2.1)
        obtain ⟨hws1, hws2, hws3, hws4⟩ := mk_ws HQ.out.2.1 HQ.out.2.2.1
        rw [H01.out] at hws1
        have hqC : q = C + 1 := HQ.out.1.symm.trans HCZ.out
        have hwsC := (hws4.block C (by omega)).trans ((HQ.out.2.2.2.block C (by omega)).trans HCB.out.2)
        have hwsB : Below C w (w1.alloc (.cells #[.pointer (some ⟨q, 0, none⟩)] 101)) := HCB.out.1.trans ((HQ.out.2.2.2.mono (by omega)).trans (hws4.mono (by omega)))
        try rw [HQ.out.2.2.1]
        obtain ⟨g, hg⟩ : ∃ g, q + 1 = g := ⟨_, rfl⟩
        rw [hg] at hws2 ⊢
        generalize w1.alloc (.cells #[.pointer (some ⟨q, 0, none⟩)] 101) = ws at hws1 hws2 hws3 hwsC hwsB ⊢
        have HB := Lib.hid (show BX ws g q ∧ q < g ∧ q < ws.heap.size from ⟨hws2, by omega, by omega⟩)
        have HWS := Lib.hid (show Below C w ws ∧ ws.heap[C]? = some (.cells #[.int .i64 0, .slice none 0 0, .slice none 0 0, .slice none 0 0, .slice none 0 0, .slice none 0 0, .slice none 0 0, .slice none 0 0, .int .i64 0, .slice none 0 0, .slice none 0 0, .slice none 0 0] 45 (0, 0)) ∧ C ≠ q ∧ C < ws.heap.size ∧ C ≤ q ∧ g ≠ C from ⟨hwsB, hwsC, by omega, by omega, by omega, by omega⟩)
        have PP := Lib.hid (DP.start hws1 HM.out.2.2.1 HZ1.out)
        have hSD : ws.drew.cell? ⟨g, 0, none⟩ = some (.pointer (some ⟨q, 0, none⟩)) := hws2.cell
        have HSA := Lib.hid (show ∀ (w' : World) (o : Obj), w'.cell? ⟨g, 0, none⟩ = some (.pointer (some ⟨q, 0, none⟩)) → (w'.alloc o).cell? ⟨g, 0, none⟩ = some (.pointer (some ⟨q, 0, none⟩)) from fun w' o h0 => ((Below.refl w'.heap.size w').alloc (Nat.le_refl _) o |>.cell (World.block_lt_of_cell? w' _ h0)).trans h0)
        have HSD := Lib.hid (show ∀ o : Obj, (ws.alloc o).drew.cell? ⟨g, 0, none⟩ = some (.pointer (some ⟨q, 0, none⟩)) from fun o => HSA.out ws o hws2.cell)
        have PD := Lib.hid (fun cs T => ((DP.start0 hws1 HM.out.2.2.1 HZ1.out).alloc HB.out.2.2 cs T).drew)
        clear hws1 hws2 hws3 hws4 hqC hwsC hwsB hg kq1
        go_cut [7] (fun v7 wx => ∃ G, v7 = .pointer (some ⟨G, 0, none⟩) ∧ Hid (DS ws wx q G t st3 #[.int .i64 y1, .slice none 0 0, .slice none 0 0, .slice none 0 0, .slice none 0 0, .slice none 0 0, .slice none 0 0, .slice none 0 0, .int .i64 y2, .slice none 0 0, .slice none 0 0, .slice none 0 0] 45))
        case first =>
          go_region_held3 (fun w' => w'.cell? ⟨g, 0, none⟩ = some (.pointer (some ⟨q, 0, none⟩)))
            (first | with_reducible assumption | with_reducible exact HSD.out _ | with_reducible exact HSA.out _ _ (by with_reducible assumption) | ((repeat (with_reducible refine cell_off (by with_reducible assumption) ?_)); with_reducible assumption))
            (first
              | (go_at_call 24; refine (DS.int PL.out E2.out).mono ?_; rintro e wv ⟨rfl, PL⟩; have kx := PL.out.bx HB.out.1 HB.out.2.1; have hGg := PL.out.away HB.out.1.lt; have zz0 : (_ : Option Value) = some (.int .i64 0) := PL.out.cell 0; have ff0 := PL.out.frz 0; have zz1 : (_ : Option Value) = some (.slice none 0 0) := PL.out.cell 1; have ff1 := PL.out.frz 1; have zz2 : (_ : Option Value) = some (.slice none 0 0) := PL.out.cell 2; have ff2 := PL.out.frz 2; have zz3 : (_ : Option Value) = some (.slice none 0 0) := PL.out.cell 3; have ff3 := PL.out.frz 3; have zz4 : (_ : Option Value) = some (.slice none 0 0) := PL.out.cell 4; have ff4 := PL.out.frz 4; have zz5 : (_ : Option Value) = some (.slice none 0 0) := PL.out.cell 5; have ff5 := PL.out.frz 5; have zz6 : (_ : Option Value) = some (.slice none 0 0) := PL.out.cell 6; have ff6 := PL.out.frz 6; have zz7 : (_ : Option Value) = some (.slice none 0 0) := PL.out.cell 7; have ff7 := PL.out.frz 7; have zz8 : (_ : Option Value) = some (.int .i64 0) := PL.out.cell 8; have ff8 := PL.out.frz 8; have zz9 : (_ : Option Value) = some (.slice none 0 0) := PL.out.cell 9; have ff9 := PL.out.frz 9; have zz10 : (_ : Option Value) = some (.slice none 0 0) := PL.out.cell 10; have ff10 := PL.out.frz 10; have zz11 : (_ : Option Value) = some (.slice none 0 0) := PL.out.cell 11; have ff11 := PL.out.frz 11)
              | (go_at_call 24; refine (DS.int (PP.out.alloc HB.out.2.2 _ _) E2.out).mono ?_; rintro e wv ⟨rfl, PL⟩; have kx := PL.out.bx HB.out.1 HB.out.2.1; have hGg := PL.out.away HB.out.1.lt; have zz0 : (_ : Option Value) = some (.int .i64 0) := PL.out.cell 0; have ff0 := PL.out.frz 0; have zz1 : (_ : Option Value) = some (.slice none 0 0) := PL.out.cell 1; have ff1 := PL.out.frz 1; have zz2 : (_ : Option Value) = some (.slice none 0 0) := PL.out.cell 2; have ff2 := PL.out.frz 2; have zz3 : (_ : Option Value) = some (.slice none 0 0) := PL.out.cell 3; have ff3 := PL.out.frz 3; have zz4 : (_ : Option Value) = some (.slice none 0 0) := PL.out.cell 4; have ff4 := PL.out.frz 4; have zz5 : (_ : Option Value) = some (.slice none 0 0) := PL.out.cell 5; have ff5 := PL.out.frz 5; have zz6 : (_ : Option Value) = some (.slice none 0 0) := PL.out.cell 6; have ff6 := PL.out.frz 6; have zz7 : (_ : Option Value) = some (.slice none 0 0) := PL.out.cell 7; have ff7 := PL.out.frz 7; have zz8 : (_ : Option Value) = some (.int .i64 0) := PL.out.cell 8; have ff8 := PL.out.frz 8; have zz9 : (_ : Option Value) = some (.slice none 0 0) := PL.out.cell 9; have ff9 := PL.out.frz 9; have zz10 : (_ : Option Value) = some (.slice none 0 0) := PL.out.cell 10; have ff10 := PL.out.frz 10; have zz11 : (_ : Option Value) = some (.slice none 0 0) := PL.out.cell 11; have ff11 := PL.out.frz 11)
              | (go_at_call 24; refine (DP.int PP.out E2.out).mono ?_; rintro e wv ⟨rfl, PP⟩; have kx := PP.out.bx HB.out.1 HB.out.2.1)
              | (go_at_call 24; refine (DS.int PL.out E1.out).mono ?_; rintro e wv ⟨rfl, PL⟩; have kx := PL.out.bx HB.out.1 HB.out.2.1)
              | (go_at_call 24; refine (DS.int (PD.out _ _) E1.out).mono ?_; rintro e wv ⟨rfl, PL⟩; have kx := PL.out.bx HB.out.1 HB.out.2.1)
              | (go_at_call 24; refine (DS.int (PP.out.alloc HB.out.2.2 _ _) E1.out).mono ?_; rintro e wv ⟨rfl, PL⟩; have kx := PL.out.bx HB.out.1 HB.out.2.1)
              | (go_at_call 24; refine (DP.int PP.out E1.out).mono ?_; rintro e wv ⟨rfl, PP⟩; have kx := PP.out.bx HB.out.1 HB.out.2.1))
          all_goals (go_wp2_with (fail); go_meet; first | exact ⟨_, rfl, PL.out.fill [.int .i64 y1, .slice none 0 0, .slice none 0 0, .slice none 0 0, .slice none 0 0, .slice none 0 0, .slice none 0 0, .slice none 0 0, .int .i64 y2, .slice none 0 0, .slice none 0 0, .slice none 0 0] rfl⟩ | exact ⟨_, rfl, PP.out.alloc HB.out.2.2 _ _⟩)
        case rest =>
          obtain ⟨G, rfl, HD⟩ := hcut
          have kx := HD.out.bx HB.out.1 HB.out.2.1
          have hgG := HD.out.away HB.out.1.lt
          go_wp2_with (first
            | (go_at_call 34; refine (DS.end_ (K10.out) HZE.out H10.out.2.1 (H10.out.2.1.2 _ 11 _ H10.out.2.2)).mono ?_; rintro e wz ⟨rfl, HZ⟩; have hcc := Lib.hid (HZ.out.1.keepC HWS.out.2.1 HWS.out.2.2.1); have kxz := HZ.out.1.bx HB.out.1 HB.out.2.1; have cg0 : wz.cell? ⟨G, 0, none⟩ = some (.int .i64 y1) := HZ.out.1.cell 0; have cg1 : wz.cell? ⟨G, 1, none⟩ = some (.slice A1 y3.length c1) := HZ.out.1.cell 1; have cg2 : wz.cell? ⟨G, 2, none⟩ = some (.slice A2 y4.length c2) := HZ.out.1.cell 2; have cg3 : wz.cell? ⟨G, 3, none⟩ = some (.slice A3 y5.length c3) := HZ.out.1.cell 3; have cg4 : wz.cell? ⟨G, 4, none⟩ = some (.slice A4 y6.length c4) := HZ.out.1.cell 4; have cg5 : wz.cell? ⟨G, 5, none⟩ = some (.slice A5 y7.length c5) := HZ.out.1.cell 5; have cg6 : wz.cell? ⟨G, 6, none⟩ = some (.slice A6 y8.length c6) := HZ.out.1.cell 6; have cg7 : wz.cell? ⟨G, 7, none⟩ = some (.slice A7 y9.length c7) := HZ.out.1.cell 7; have cg8 : wz.cell? ⟨G, 8, none⟩ = some (.int .i64 y2) := HZ.out.1.cell 8; have cg9 : wz.cell? ⟨G, 9, none⟩ = some (.slice A9 y10.length c9) := HZ.out.1.cell 9; have cg10 : wz.cell? ⟨G, 10, none⟩ = some (.slice A10 y11.length c10) := HZ.out.1.cell 10; have cg11 : wz.cell? ⟨G, 11, none⟩ = some (.slice A11 y12.length c11) := HZ.out.1.cell 11; have cc0 : wz.cell? ⟨C, 0, none⟩ = some (.int .i64 0) := cellsAt hcc.out 0; have fc0 := frzAt hcc.out 0; have cc1 : wz.cell? ⟨C, 1, none⟩ = some (.slice none 0 0) := cellsAt hcc.out 1; have fc1 := frzAt hcc.out 1; have cc2 : wz.cell? ⟨C, 2, none⟩ = some (.slice none 0 0) := cellsAt hcc.out 2; have fc2 := frzAt hcc.out 2; have cc3 : wz.cell? ⟨C, 3, none⟩ = some (.slice none 0 0) := cellsAt hcc.out 3; have fc3 := frzAt hcc.out 3; have cc4 : wz.cell? ⟨C, 4, none⟩ = some (.slice none 0 0) := cellsAt hcc.out 4; have fc4 := frzAt hcc.out 4; have cc5 : wz.cell? ⟨C, 5, none⟩ = some (.slice none 0 0) := cellsAt hcc.out 5; have fc5 := frzAt hcc.out 5; have cc6 : wz.cell? ⟨C, 6, none⟩ = some (.slice none 0 0) := cellsAt hcc.out 6; have fc6 := frzAt hcc.out 6; have cc7 : wz.cell? ⟨C, 7, none⟩ = some (.slice none 0 0) := cellsAt hcc.out 7; have fc7 := frzAt hcc.out 7; have cc8 : wz.cell? ⟨C, 8, none⟩ = some (.int .i64 0) := cellsAt hcc.out 8; have fc8 := frzAt hcc.out 8; have cc9 : wz.cell? ⟨C, 9, none⟩ = some (.slice none 0 0) := cellsAt hcc.out 9; have fc9 := frzAt hcc.out 9; have cc10 : wz.cell? ⟨C, 10, none⟩ = some (.slice none 0 0) := cellsAt hcc.out 10; have fc10 := frzAt hcc.out 10; have cc11 : wz.cell? ⟨C, 11, none⟩ = some (.slice none 0 0) := cellsAt hcc.out 11; have fc11 := frzAt hcc.out 11)
            | (go_at_call 33; refine (DS.list K9.out (links_any (K9.out).rd (K9.out).sz (K9.out).le) (lR_good (linksR_good (lst t))) E12.out H9.out.2.1 (H9.out.2.1.2 _ 10 _ H9.out.2.2)).mono ?_; rintro e w11 ⟨A11, c11, rfl, H10⟩; have kx10 := H10.out.1.bx HB.out.1 HB.out.2.1; have kz10 : w11.cell? ⟨G, 11, none⟩ = some (.slice none 0 0) := H10.out.1.cell 11; have kf10 := H10.out.1.frz 11; have K10 := Lib.hid (show DS ws (w11.setCell ⟨G, 11, none⟩ (.slice A11 y12.length c11)) q G t st13 #[.int .i64 y1, .slice A1 y3.length c1, .slice A2 y4.length c2, .slice A3 y5.length c3, .slice A4 y6.length c4, .slice A5 y7.length c5, .slice A6 y8.length c6, .slice A7 y9.length c7, .int .i64 y2, .slice A9 y10.length c9, .slice A10 y11.length c10, .slice A11 y12.length c11] 45 from (H10.out.1.set 11 _).to rfl))
            | (go_at_call 33; refine (DS.list K8.out (links_any (K8.out).rd (K8.out).sz (K8.out).le) (lR_good (linksR_good (lst t))) E11.out H8.out.2.1 (H8.out.2.1.2 _ 9 _ H8.out.2.2)).mono ?_; rintro e w10 ⟨A10, c10, rfl, H9⟩; have kx9 := H9.out.1.bx HB.out.1 HB.out.2.1; have kz9 : w10.cell? ⟨G, 10, none⟩ = some (.slice none 0 0) := H9.out.1.cell 10; have kf9 := H9.out.1.frz 10; have K9 := Lib.hid (show DS ws (w10.setCell ⟨G, 10, none⟩ (.slice A10 y11.length c10)) q G t st12 #[.int .i64 y1, .slice A1 y3.length c1, .slice A2 y4.length c2, .slice A3 y5.length c3, .slice A4 y6.length c4, .slice A5 y7.length c5, .slice A6 y8.length c6, .slice A7 y9.length c7, .int .i64 y2, .slice A9 y10.length c9, .slice A10 y11.length c10, .slice none 0 0] 45 from (H9.out.1.set 10 _).to rfl))
            | (go_at_call 32; refine (DS.list K7.out (covers_any (K7.out).rd (K7.out).sz (K7.out).le) (lR_good (coversR_good (lst t))) E10.out H7.out.2.1 (H7.out.2.1.2 _ 7 _ H7.out.2.2)).mono ?_; rintro e w9 ⟨A9, c9, rfl, H8⟩; have kx8 := H8.out.1.bx HB.out.1 HB.out.2.1; have kz8 : w9.cell? ⟨G, 9, none⟩ = some (.slice none 0 0) := H8.out.1.cell 9; have kf8 := H8.out.1.frz 9; have K8 := Lib.hid (show DS ws (w9.setCell ⟨G, 9, none⟩ (.slice A9 y10.length c9)) q G t st11 #[.int .i64 y1, .slice A1 y3.length c1, .slice A2 y4.length c2, .slice A3 y5.length c3, .slice A4 y6.length c4, .slice A5 y7.length c5, .slice A6 y8.length c6, .slice A7 y9.length c7, .int .i64 y2, .slice A9 y10.length c9, .slice none 0 0, .slice none 0 0] 45 from (H8.out.1.set 9 _).to rfl))
            | (go_at_call 31; refine (DS.list K6.out (trades_any (K6.out).rd (K6.out).sz (K6.out).le) (lR_good (tradesR_good (lst t))) E9.out H6.out.2.1 (H6.out.2.1.2 _ 6 _ H6.out.2.2)).mono ?_; rintro e w8 ⟨A7, c7, rfl, H7⟩; have kx7 := H7.out.1.bx HB.out.1 HB.out.2.1; have kz7 : w8.cell? ⟨G, 7, none⟩ = some (.slice none 0 0) := H7.out.1.cell 7; have kf7 := H7.out.1.frz 7; have K7 := Lib.hid (show DS ws (w8.setCell ⟨G, 7, none⟩ (.slice A7 y9.length c7)) q G t st10 #[.int .i64 y1, .slice A1 y3.length c1, .slice A2 y4.length c2, .slice A3 y5.length c3, .slice A4 y6.length c4, .slice A5 y7.length c5, .slice A6 y8.length c6, .slice A7 y9.length c7, .int .i64 y2, .slice none 0 0, .slice none 0 0, .slice none 0 0] 45 from (H7.out.1.set 7 _).to rfl))
            | (go_at_call 30; refine (DS.list K5.out (quotes_any (K5.out).rd (K5.out).sz (K5.out).le) (lR_good (quotesR_good (lst t))) E8.out H5.out.2.1 (H5.out.2.1.2 _ 5 _ H5.out.2.2)).mono ?_; rintro e w7 ⟨A6, c6, rfl, H6⟩; have kx6 := H6.out.1.bx HB.out.1 HB.out.2.1; have kz6 : w7.cell? ⟨G, 6, none⟩ = some (.slice none 0 0) := H6.out.1.cell 6; have kf6 := H6.out.1.frz 6; have K6 := Lib.hid (show DS ws (w7.setCell ⟨G, 6, none⟩ (.slice A6 y8.length c6)) q G t st9 #[.int .i64 y1, .slice A1 y3.length c1, .slice A2 y4.length c2, .slice A3 y5.length c3, .slice A4 y6.length c4, .slice A5 y7.length c5, .slice A6 y8.length c6, .slice none 0 0, .int .i64 y2, .slice none 0 0, .slice none 0 0, .slice none 0 0] 45 from (H6.out.1.set 6 _).to rfl))
            | (go_at_call 29; refine (DS.list K4.out (balances_any (K4.out).rd (K4.out).sz (K4.out).le) (lR_good (balancesR_good (lst t))) E7.out H4.out.2.1 (H4.out.2.1.2 _ 4 _ H4.out.2.2)).mono ?_; rintro e w6 ⟨A5, c5, rfl, H5⟩; have kx5 := H5.out.1.bx HB.out.1 HB.out.2.1; have kz5 : w6.cell? ⟨G, 5, none⟩ = some (.slice none 0 0) := H5.out.1.cell 5; have kf5 := H5.out.1.frz 5; have K5 := Lib.hid (show DS ws (w6.setCell ⟨G, 5, none⟩ (.slice A5 y7.length c5)) q G t st8 #[.int .i64 y1, .slice A1 y3.length c1, .slice A2 y4.length c2, .slice A3 y5.length c3, .slice A4 y6.length c4, .slice A5 y7.length c5, .slice none 0 0, .slice none 0 0, .int .i64 y2, .slice none 0 0, .slice none 0 0, .slice none 0 0] 45 from (H5.out.1.set 5 _).to rfl))
            | (go_at_call 28; refine (DS.list K3.out (baskets_any (K3.out).rd (K3.out).sz (K3.out).le) (lR_good (basketsR_good (lst t))) E6.out H3.out.2.1 (H3.out.2.1.2 _ 3 _ H3.out.2.2)).mono ?_; rintro e w5 ⟨A4, c4, rfl, H4⟩; have kx4 := H4.out.1.bx HB.out.1 HB.out.2.1; have kz4 : w5.cell? ⟨G, 4, none⟩ = some (.slice none 0 0) := H4.out.1.cell 4; have kf4 := H4.out.1.frz 4; have K4 := Lib.hid (show DS ws (w5.setCell ⟨G, 4, none⟩ (.slice A4 y6.length c4)) q G t st7 #[.int .i64 y1, .slice A1 y3.length c1, .slice A2 y4.length c2, .slice A3 y5.length c3, .slice A4 y6.length c4, .slice none 0 0, .slice none 0 0, .slice none 0 0, .int .i64 y2, .slice none 0 0, .slice none 0 0, .slice none 0 0] 45 from (H4.out.1.set 4 _).to rfl))
            | (go_at_call 27; refine (DS.list K2.out (prices_any (K2.out).rd (K2.out).sz (K2.out).le) (lR_good (pricesR_good (lst t))) E5.out H2.out.2.1 (H2.out.2.1.2 _ 2 _ H2.out.2.2)).mono ?_; rintro e w4 ⟨A3, c3, rfl, H3⟩; have kx3 := H3.out.1.bx HB.out.1 HB.out.2.1; have kz3 : w4.cell? ⟨G, 3, none⟩ = some (.slice none 0 0) := H3.out.1.cell 3; have kf3 := H3.out.1.frz 3; have K3 := Lib.hid (show DS ws (w4.setCell ⟨G, 3, none⟩ (.slice A3 y5.length c3)) q G t st6 #[.int .i64 y1, .slice A1 y3.length c1, .slice A2 y4.length c2, .slice A3 y5.length c3, .slice none 0 0, .slice none 0 0, .slice none 0 0, .slice none 0 0, .int .i64 y2, .slice none 0 0, .slice none 0 0, .slice none 0 0] 45 from (H3.out.1.set 3 _).to rfl))
            | (go_at_call 26; refine (DS.list K1.out (assets_any (K1.out).rd (K1.out).sz (K1.out).le) (lR_good (assetsR_good (lst t))) E4.out H1.out.2.1 (H1.out.2.1.2 _ 1 _ H1.out.2.2)).mono ?_; rintro e w3 ⟨A2, c2, rfl, H2⟩; have kx2 := H2.out.1.bx HB.out.1 HB.out.2.1; have kz2 : w3.cell? ⟨G, 2, none⟩ = some (.slice none 0 0) := H2.out.1.cell 2; have kf2 := H2.out.1.frz 2; have K2 := Lib.hid (show DS ws (w3.setCell ⟨G, 2, none⟩ (.slice A2 y4.length c2)) q G t st5 #[.int .i64 y1, .slice A1 y3.length c1, .slice A2 y4.length c2, .slice none 0 0, .slice none 0 0, .slice none 0 0, .slice none 0 0, .slice none 0 0, .int .i64 y2, .slice none 0 0, .slice none 0 0, .slice none 0 0] 45 from (H2.out.1.set 2 _).to rfl))
            | (go_at_call 25; refine (DS.list HD.out (members_any (HD.out).rd (HD.out).sz (HD.out).le) (lR_good (membersR_good (lst t))) E3.out (RS.nil q G) trivial).mono ?_; rintro e w2 ⟨A1, c1, rfl, H1⟩; have kx1 := H1.out.1.bx HB.out.1 HB.out.2.1; have kz1 : w2.cell? ⟨G, 1, none⟩ = some (.slice none 0 0) := H1.out.1.cell 1; have kf1 := H1.out.1.frz 1; have K1 := Lib.hid (show DS ws (w2.setCell ⟨G, 1, none⟩ (.slice A1 y3.length c1)) q G t st4 #[.int .i64 y1, .slice A1 y3.length c1, .slice none 0 0, .slice none 0 0, .slice none 0 0, .slice none 0 0, .slice none 0 0, .slice none 0 0, .int .i64 y2, .slice none 0 0, .slice none 0 0, .slice none 0 0] 45 from (H1.out.1.set 1 _).to rfl)))
          refine bodyPost_ret (results_cell3 rfl _ _ C 45 #[.int .i64 y1, .slice A1 y3.length c1, .slice A2 y4.length c2, .slice A3 y5.length c3, .slice A4 y6.length c4, .slice A5 y7.length c5, .slice A6 y8.length c6, .slice A7 y9.length c7, .int .i64 y2, .slice A9 y10.length c9, .slice A10 y11.length c10, .slice A11 y12.length c11] (0, 0) _ rfl (by exact fill_block hcc.out [.int .i64 y1, .slice A1 y3.length c1, .slice A2 y4.length c2, .slice A3 y5.length c3, .slice A4 y6.length c4, .slice A5 y7.length c5, .slice A6 y8.length c6, .slice A7 y9.length c7, .int .i64 y2, .slice A9 y10.length c9, .slice A10 y11.length c10, .slice A11 y12.length c11] rfl) Try.underlying45 rfl (by kernel_rfl)) rfl ?_
          have hrows := HZ.out.2
          obtain ⟨⟨⟨⟨⟨⟨⟨⟨⟨⟨_, r1⟩, r2⟩, r3⟩, r4⟩, r5⟩, r6⟩, r7⟩, r8⟩, r9⟩, r10⟩ := hrows
          refine ⟨A1, A2, A3, A4, A5, A6, A7, A9, A10, A11, c1, c2, c3, c4, c5, c6, c7, c9, c10, c11, rfl, ⟨?_, ?_, ?_⟩⟩
          · exact ⟨(Kd.R_reads' (fill_row HWS.out.2.2.2.1 [.int .i64 y1, .slice A1 y3.length c1, .slice A2 y4.length c2, .slice A3 y5.length c3, .slice A4 y6.length c4, .slice A5 y7.length c5, .slice A6 y8.length c6, .slice A7 y9.length c7, .int .i64 y2, .slice A9 y10.length c9, .slice A10 y11.length c10, .slice A11 y12.length c11] 0 r1)).2.2, (Kd.R_reads' (fill_row HWS.out.2.2.2.1 [.int .i64 y1, .slice A1 y3.length c1, .slice A2 y4.length c2, .slice A3 y5.length c3, .slice A4 y6.length c4, .slice A5 y7.length c5, .slice A6 y8.length c6, .slice A7 y9.length c7, .int .i64 y2, .slice A9 y10.length c9, .slice A10 y11.length c10, .slice A11 y12.length c11] 0 r2)).2.2, (Kd.R_reads' (fill_row HWS.out.2.2.2.1 [.int .i64 y1, .slice A1 y3.length c1, .slice A2 y4.length c2, .slice A3 y5.length c3, .slice A4 y6.length c4, .slice A5 y7.length c5, .slice A6 y8.length c6, .slice A7 y9.length c7, .int .i64 y2, .slice A9 y10.length c9, .slice A10 y11.length c10, .slice A11 y12.length c11] 0 r3)).2.2, (Kd.R_reads' (fill_row HWS.out.2.2.2.1 [.int .i64 y1, .slice A1 y3.length c1, .slice A2 y4.length c2, .slice A3 y5.length c3, .slice A4 y6.length c4, .slice A5 y7.length c5, .slice A6 y8.length c6, .slice A7 y9.length c7, .int .i64 y2, .slice A9 y10.length c9, .slice A10 y11.length c10, .slice A11 y12.length c11] 0 r4)).2.2, (Kd.R_reads' (fill_row HWS.out.2.2.2.1 [.int .i64 y1, .slice A1 y3.length c1, .slice A2 y4.length c2, .slice A3 y5.length c3, .slice A4 y6.length c4, .slice A5 y7.length c5, .slice A6 y8.length c6, .slice A7 y9.length c7, .int .i64 y2, .slice A9 y10.length c9, .slice A10 y11.length c10, .slice A11 y12.length c11] 0 r5)).2.2, (Kd.R_reads' (fill_row HWS.out.2.2.2.1 [.int .i64 y1, .slice A1 y3.length c1, .slice A2 y4.length c2, .slice A3 y5.length c3, .slice A4 y6.length c4, .slice A5 y7.length c5, .slice A6 y8.length c6, .slice A7 y9.length c7, .int .i64 y2, .slice A9 y10.length c9, .slice A10 y11.length c10, .slice A11 y12.length c11] 0 r6)).2.2, (Kd.R_reads' (fill_row HWS.out.2.2.2.1 [.int .i64 y1, .slice A1 y3.length c1, .slice A2 y4.length c2, .slice A3 y5.length c3, .slice A4 y6.length c4, .slice A5 y7.length c5, .slice A6 y8.length c6, .slice A7 y9.length c7, .int .i64 y2, .slice A9 y10.length c9, .slice A10 y11.length c10, .slice A11 y12.length c11] 0 r7)).2.2, (Kd.R_reads' (fill_row HWS.out.2.2.2.1 [.int .i64 y1, .slice A1 y3.length c1, .slice A2 y4.length c2, .slice A3 y5.length c3, .slice A4 y6.length c4, .slice A5 y7.length c5, .slice A6 y8.length c6, .slice A7 y9.length c7, .int .i64 y2, .slice A9 y10.length c9, .slice A10 y11.length c10, .slice A11 y12.length c11] 0 r8)).2.2, (Kd.R_reads' (fill_row HWS.out.2.2.2.1 [.int .i64 y1, .slice A1 y3.length c1, .slice A2 y4.length c2, .slice A3 y5.length c3, .slice A4 y6.length c4, .slice A5 y7.length c5, .slice A6 y8.length c6, .slice A7 y9.length c7, .int .i64 y2, .slice A9 y10.length c9, .slice A10 y11.length c10, .slice A11 y12.length c11] 0 r9)).2.2, (Kd.R_reads' (fill_row HWS.out.2.2.2.1 [.int .i64 y1, .slice A1 y3.length c1, .slice A2 y4.length c2, .slice A3 y5.length c3, .slice A4 y6.length c4, .slice A5 y7.length c5, .slice A6 y8.length c6, .slice A7 y9.length c7, .int .i64 y2, .slice A9 y10.length c9, .slice A10 y11.length c10, .slice A11 y12.length c11] 0 r10)).2.2⟩
          · exact ⟨(Kd.R_reads' r1).2.1, (Kd.R_reads' r2).2.1, (Kd.R_reads' r3).2.1, (Kd.R_reads' r4).2.1, (Kd.R_reads' r5).2.1, (Kd.R_reads' r6).2.1, (Kd.R_reads' r7).2.1, (Kd.R_reads' r8).2.1, (Kd.R_reads' r9).2.1, (Kd.R_reads' r10).2.1⟩
          · rw [HCC.out]
            exact fill_below (Nat.le_refl _) [.int .i64 y1, .slice A1 y3.length c1, .slice A2 y4.length c2, .slice A3 y5.length c3, .slice A4 y6.length c4, .slice A5 y7.length c5, .slice A6 y8.length c6, .slice A7 y9.length c7, .int .i64 y2, .slice A9 y10.length c9, .slice A10 y11.length c10, .slice A11 y12.length c11] 0 (grown_below HZ.out.1.gr HWS.out.1 (Nat.le_of_lt HWS.out.2.2.2.1) HWS.out.2.2.2.2.1)
end Go.Proofs.Ythpgjeiglhdciaa.SN

/- SnapBack (function 3), walked. (printed by gen_back.py) -/
namespace Go.Proofs.Ythpgjeiglhdciaa.SN
open Go Go.RowKit Go.Proofs Go.Proofs.Ythpgjeiglhdciaa.PL Go.Proofs.YthpgjeiglhdciaaW.PrintWords Go.Proofs.YthpgjeiglhdciaaW.PrintLast Go.Proofs.YthpgjeiglhdciaaW.PrintMore
/-- The text that is written: its front and what is behind it. -/
theorem text_says (L : Bs) (hL : (mark ++ L).length ≤ 524288) : ∃ s t : ByteArray, bst (mark ++ L) = s ∧ 8 ≤ s.size ∧ s.size ≤ 140737488355328 ∧ (∀ j, j < 8 → (lst s)[j]? = mark[j]?) ∧ s.extract 8 s.size = t ∧ lst t = L := by
  have hm : mark.length = 8 := rfl
  have hs : (bst (mark ++ L)).size = 8 + L.length := by rw [bst_size, List.length_append, hm]
  rw [List.length_append, hm] at hL
  refine ⟨_, _, rfl, by omega, by omega, fun j hj => ?_, rfl, ?_⟩
  · rw [lst_bst, List.getElem?_append_left (by omega)]
  · rw [cut_bst, lst_bst, lst_bst, List.drop_left' hm, List.take_of_length_le (by omega)]
set_option maxRecDepth 100000 in
set_option maxHeartbeats 8000000 in
theorem back_any {w : World} {V : VR} {A1 A2 A3 A4 A5 A6 A8 A9 A10 : Option Addr} {c1 c2 c3 c4 c5 c6 c8 c9 c10 : Nat} (hL : RL w V A1 A2 A3 A4 A5 A6 A8 A9 A10) (hC : RC V c1 c2 c3 c4 c5 c6 c8 c9 c10) (hO : VO (ofV V)) :
    Calls Try.prog 3 #[.agg #[.int .i64 V.day, .slice A1 V.members.length c1, .slice A2 V.known.length c2, .slice A3 V.baskets.length c3, .slice A4 V.balances.length c4, .slice A5 V.quotes.length c5, .slice A6 V.trades.length c6, .int .i64 V.next, .slice A8 V.covers.length c8, .slice A9 V.inn.length c9, .slice A10 V.outs.length c10]] w fun o w' => o = .returned (.bool true) ∧ Below w.heap.size w w' := by
  have HSH := Lib.hid (fun W (hb : Below w.heap.size w W) => short_any (hL.below hb) hC)
  have HAW := Lib.hid awake_walk
  have hpb := PB.start w #[.int .i64 V.day, .slice A1 V.members.length c1, .slice A2 V.known.length c2, .slice A3 V.baskets.length c3, .slice A4 V.balances.length c4, .slice A5 V.quotes.length c5, .slice A6 V.trades.length c6, .int .i64 V.next, .slice A8 V.covers.length c8, .slice A9 V.inn.length c9, .slice A10 V.outs.length c10] 35
  obtain ⟨P, hP⟩ : ∃ P, w.heap.size = P := ⟨_, rfl⟩
  obtain ⟨W0, hW0⟩ : ∃ W, w.alloc (.cells #[.int .i64 V.day, .slice A1 V.members.length c1, .slice A2 V.known.length c2, .slice A3 V.baskets.length c3, .slice A4 V.balances.length c4, .slice A5 V.quotes.length c5, .slice A6 V.trades.length c6, .int .i64 V.next, .slice A8 V.covers.length c8, .slice A9 V.inn.length c9, .slice A10 V.outs.length c10] 35) = W := ⟨_, rfl⟩
  rw [hW0, hP] at hpb
  have HPB := Lib.hid hpb
  have p0 : W0.cell? ⟨P, 0, none⟩ = some (.int .i64 V.day) := cellsAt hpb.p 0
  have p1 : W0.cell? ⟨P, 1, none⟩ = some (.slice A1 V.members.length c1) := cellsAt hpb.p 1
  have p2 : W0.cell? ⟨P, 2, none⟩ = some (.slice A2 V.known.length c2) := cellsAt hpb.p 2
  have p3 : W0.cell? ⟨P, 3, none⟩ = some (.slice A3 V.baskets.length c3) := cellsAt hpb.p 3
  have p4 : W0.cell? ⟨P, 4, none⟩ = some (.slice A4 V.balances.length c4) := cellsAt hpb.p 4
  have p5 : W0.cell? ⟨P, 5, none⟩ = some (.slice A5 V.quotes.length c5) := cellsAt hpb.p 5
  have p6 : W0.cell? ⟨P, 6, none⟩ = some (.slice A6 V.trades.length c6) := cellsAt hpb.p 6
  have p7 : W0.cell? ⟨P, 7, none⟩ = some (.int .i64 V.next) := cellsAt hpb.p 7
  have p8 : W0.cell? ⟨P, 8, none⟩ = some (.slice A8 V.covers.length c8) := cellsAt hpb.p 8
  have p9 : W0.cell? ⟨P, 9, none⟩ = some (.slice A9 V.inn.length c9) := cellsAt hpb.p 9
  have p10 : W0.cell? ⟨P, 10, none⟩ = some (.slice A10 V.outs.length c10) := cellsAt hpb.p 10
  clear hpb
  go_enter Try.func3, Try.ntmps3
  go_upto_region 1 with (fail)
  try rw [hW0, hP]
  clear hW0 hP
  go_cut [13] (fun v wx => ∃ b : Bool, v = .bool b ∧ Hid (PB w wx P 35 #[.int .i64 V.day, .slice A1 V.members.length c1, .slice A2 V.known.length c2, .slice A3 V.baskets.length c3, .slice A4 V.balances.length c4, .slice A5 V.quotes.length c5, .slice A6 V.trades.length c6, .int .i64 V.next, .slice A8 V.covers.length c8, .slice A9 V.inn.length c9, .slice A10 V.outs.length c10] ∧ (b = false → ShortQ V)))
  case first =>
    go_wp2_with (go_at_call 5; refine (HSH.out _ HPB.out.b).mono ?_; rintro e w1 ⟨r, rfl, hq, h1⟩; have HP1 := Lib.hid (HPB.out.up h1); have HQ := Lib.hid hq; clear h1 hq)
    go_meet
    exact ⟨!r, rfl, ⟨HP1.out, fun h => HQ.out (by cases r <;> first | rfl | cases h)⟩⟩
  case rest =>
    obtain ⟨b, rfl, HC⟩ := hcut
    cases b with
    | true =>
      go_wp2_with (go_at_call 6; refine (HAW.out _).mono ?_; rintro e w2 ⟨rfl, h2⟩; have HB2 := Lib.hid (HC.out.1.up h2); clear h2)
      go_ret
      exact ⟨rfl, HB2.out.b⟩
    | false =>
      have hp1 := HC.out.1
      have HP1 := Lib.hid hp1
      have p1_0 : wc.cell? ⟨P, 0, none⟩ = some (.int .i64 V.day) := cellsAt hp1.p 0
      have p1_1 : wc.cell? ⟨P, 1, none⟩ = some (.slice A1 V.members.length c1) := cellsAt hp1.p 1
      have p1_2 : wc.cell? ⟨P, 2, none⟩ = some (.slice A2 V.known.length c2) := cellsAt hp1.p 2
      have p1_3 : wc.cell? ⟨P, 3, none⟩ = some (.slice A3 V.baskets.length c3) := cellsAt hp1.p 3
      have p1_4 : wc.cell? ⟨P, 4, none⟩ = some (.slice A4 V.balances.length c4) := cellsAt hp1.p 4
      have p1_5 : wc.cell? ⟨P, 5, none⟩ = some (.slice A5 V.quotes.length c5) := cellsAt hp1.p 5
      have p1_6 : wc.cell? ⟨P, 6, none⟩ = some (.slice A6 V.trades.length c6) := cellsAt hp1.p 6
      have p1_7 : wc.cell? ⟨P, 7, none⟩ = some (.int .i64 V.next) := cellsAt hp1.p 7
      have p1_8 : wc.cell? ⟨P, 8, none⟩ = some (.slice A8 V.covers.length c8) := cellsAt hp1.p 8
      have p1_9 : wc.cell? ⟨P, 9, none⟩ = some (.slice A9 V.inn.length c9) := cellsAt hp1.p 9
      have p1_10 : wc.cell? ⟨P, 10, none⟩ = some (.slice A10 V.outs.length c10) := cellsAt hp1.p 10
      have hq0 := HC.out.2 rfl
      clear p0 p1 p2 p3 p4 p5 p6 p7 p8 p9 p10 hp1 HC HSH
      obtain ⟨hvs, hvb, hwr⟩ := short_says hq0
      clear hq0
      have hlen := view_len hO hvs
      have HOF := Lib.hid (fun W (hb : Below w.heap.size w W) => of_any (c1 := c1) (c2 := c2) (c3 := c3) (c4 := c4) (c5 := c5) (c6 := c6) (c8 := c8) (c9_ := c9) (c10_ := c10) (hL.below hb) hvb)
      have HCP := Lib.hid (And.intro hC.baskets (And.intro hC.quotes hC.trades))
      obtain ⟨M, hM⟩ : ∃ M, encA (ofV V) = M := ⟨_, rfl⟩
      have HEN := Lib.hid (fun (W : World) (U1 U2 U3 U4 U5 U6 U7 U9 U10 U11 : Option Addr) (g1 g2 g3 g4 g5 g6 g7 g9 g10 g11 : Nat) (hv : VL W (ofV V) U1 U2 U3 U4 U5 U6 U7 U9 U10 U11) => hM ▸ encode_any (c1 := g1) (c2 := g2) (c3 := g3) (c4 := g4) (c5 := g5) (c6 := g6) (c7 := g7) (c9 := g9) (c10 := g10) (c11 := g11) hv hO hlen)
      by_cases hz : 524288 < (mark ++ encV (ofV V)).length
      · have hM2 : M = ([], 2) := hM ▸ if_pos hz
        subst hM2
        simp only [bst_nil] at HEN
        have b0 : (({ data := #[] } : ByteArray).toList == ({ data := #[] } : ByteArray).toList) = true := (Go.Lib.bytes_beq_iff _ _).2 rfl
        clear hL hC hO hvs hvb hwr hlen hM hz
        go_wp2_with (first
          | (go_at_call 6; refine (HAW.out _).mono ?_; rintro e w9 ⟨rfl, h9⟩; have HB9 := Lib.hid (HQ3.out.up h9); clear h9)
          | (go_at_call 8; refine (HEN.out _ B1 B2 B3 A3 B5 A5 A6 B9 B10 B11 d1 d2 d3 c3 d5 c5 c6 d9 d10 d11 HVL.out).mono ?_; rintro e w3 ⟨rfl, h3⟩; have hq3 := HQ.out.up h3; have HQ3 := Lib.hid hq3; have HVL3 := Lib.hid (HVL.out.below h3); clear h3 hq3)
          | (go_at_call 7; refine (HOF.out _ HP1.out.b).mono ?_; rintro e w2 ⟨B1, B2, B3, B5, B9, B10, B11, d1, d2, d3, d5, d9, d10, d11, rfl, h2⟩; have HP2 := Lib.hid (HP1.out.up h2.out.2.2); have hq := PB.new HP2.out.b #[.int .i64 V.day, .slice B1 (ofV V).members.length d1, .slice B2 (ofV V).assets.length d2, .slice B3 (ofV V).prices.length d3, .slice A3 V.baskets.length c3, .slice B5 (ofV V).balances.length d5, .slice A5 V.quotes.length c5, .slice A6 V.trades.length c6, .int .i64 V.next, .slice B9 (ofV V).covers.length d9, .slice B10 (ofV V).inn.length d10, .slice B11 (ofV V).outs.length d11] 45; have HVL := Lib.hid (h2.out.1.below (below_alloc (Below.refl _ _) (.cells #[.int .i64 V.day, .slice B1 (ofV V).members.length d1, .slice B2 (ofV V).assets.length d2, .slice B3 (ofV V).prices.length d3, .slice A3 V.baskets.length c3, .slice B5 (ofV V).balances.length d5, .slice A5 V.quotes.length c5, .slice A6 V.trades.length c6, .int .i64 V.next, .slice B9 (ofV V).covers.length d9, .slice B10 (ofV V).inn.length d10, .slice B11 (ofV V).outs.length d11] 45))); have HQ := Lib.hid hq; have HVC := Lib.hid h2.out.2.1; clear h2 hq))
        go_ret
        exact ⟨rfl, HB9.out.b⟩
      · have hM2 : M = (mark ++ encV (ofV V), 0) := hM ▸ if_neg hz
        subst hM2
        obtain ⟨s, t, hs, hs8, hsz, hsm, hst, hlt⟩ := text_says (encV (ofV V)) (by omega)
        obtain ⟨hvr, her⟩ := view_back hO hvs
        rw [← hlt] at hvr her
        have HDE := Lib.hid (fun W => decode_good2 (w := W) hs8 hsz hsm hst hvr her rfl)
        simp only [hs] at HEN
        have HSA := Lib.hid (fun (W : World) (B1 B2 B3 B5 B9 B10 B11 : Option Addr) (d1 d2 d3 d5 d9 d10 d11 : Nat) (E1 E2 E3 E4 E5 E6 E7 E9 E10 E11 : Option Addr) (e1 e2 e3 e4 e5 e6 e7 e9 e10 e11 : Nat) (hx : VL W (ofV V) B1 B2 B3 A3 B5 A5 A6 B9 B10 B11) (hxc : (ofV V).members.length ≤ d1 ∧ (ofV V).assets.length ≤ d2 ∧ (ofV V).prices.length ≤ d3 ∧ (ofV V).balances.length ≤ d5 ∧ (ofV V).covers.length ≤ d9 ∧ (ofV V).inn.length ≤ d10 ∧ (ofV V).outs.length ≤ d11) (hy : VL W (ofV V) E1 E2 E3 E4 E5 E6 E7 E9 E10 E11) (hyc : VC (ofV V) e1 e2 e3 e4 e5 e6 e7 e9 e10 e11) => same10_any hx hy (⟨hxc.1, hxc.2.1, hxc.2.2.1, HCP.out.1, hxc.2.2.2.1, HCP.out.2.1, HCP.out.2.2, hxc.2.2.2.2.1, hxc.2.2.2.2.2.1, hxc.2.2.2.2.2.2⟩ : VC (ofV V) d1 d2 d3 c3 d5 c5 c6 d9 d10 d11) hyc hwr)
        have HLN := Lib.hid (And.intro hs8 hsz)
        clear hL hC hO hvs hvb hwr hlen hM hz hs hs8 hsz hsm hst hlt hvr her
        go_wp2_with (first
          | (go_at_call 6; refine (HAW.out _).mono ?_; rintro e w9 ⟨rfl, h9⟩; have HB9 := Lib.hid (HR7.out.up h9); clear h9)
          | (go_at_call 10; refine (HSA.out _ B1 B2 B3 B5 B9 B10 B11 d1 d2 d3 d5 d9 d10 d11 E1 E2 E3 E4 E5 E6 E7 E9 E10 E11 e1 e2 e3 e4 e5 e6 e7 e9 e10 e11 HVL6.out HVC.out HWL6.out HWC.out).mono ?_; rintro e w7 ⟨rfl, h7⟩; have HR7 := Lib.hid (HR6.out.up h7); clear h7)
          | (go_at_call 8; have hk := HR; clear hk; refine (HEN.out _ E1 E2 E3 E4 E5 E6 E7 E9 E10 E11 e1 e2 e3 e4 e5 e6 e7 e9 e10 e11 HWL.out).mono ?_; rintro e w6 ⟨rfl, h6⟩; have hq6 := HQ5.out.up h6; have hr6 := HR.out.up h6; have HVL6 := Lib.hid (HVL5.out.below h6); have HWL6 := Lib.hid (HWL.out.below h6); have HR6 := Lib.hid hr6; have x6_0 : w6.cell? ⟨w2.heap.size, 0, none⟩ = some (.int .i64 V.day) := cellsAt hq6.p 0; have x6_1 : w6.cell? ⟨w2.heap.size, 1, none⟩ = some (.slice B1 (ofV V).members.length d1) := cellsAt hq6.p 1; have x6_2 : w6.cell? ⟨w2.heap.size, 2, none⟩ = some (.slice B2 (ofV V).assets.length d2) := cellsAt hq6.p 2; have x6_3 : w6.cell? ⟨w2.heap.size, 3, none⟩ = some (.slice B3 (ofV V).prices.length d3) := cellsAt hq6.p 3; have x6_4 : w6.cell? ⟨w2.heap.size, 4, none⟩ = some (.slice A3 V.baskets.length c3) := cellsAt hq6.p 4; have x6_5 : w6.cell? ⟨w2.heap.size, 5, none⟩ = some (.slice B5 (ofV V).balances.length d5) := cellsAt hq6.p 5; have x6_6 : w6.cell? ⟨w2.heap.size, 6, none⟩ = some (.slice A5 V.quotes.length c5) := cellsAt hq6.p 6; have x6_7 : w6.cell? ⟨w2.heap.size, 7, none⟩ = some (.slice A6 V.trades.length c6) := cellsAt hq6.p 7; have x6_8 : w6.cell? ⟨w2.heap.size, 8, none⟩ = some (.int .i64 V.next) := cellsAt hq6.p 8; have x6_9 : w6.cell? ⟨w2.heap.size, 9, none⟩ = some (.slice B9 (ofV V).covers.length d9) := cellsAt hq6.p 9; have x6_10 : w6.cell? ⟨w2.heap.size, 10, none⟩ = some (.slice B10 (ofV V).inn.length d10) := cellsAt hq6.p 10; have x6_11 : w6.cell? ⟨w2.heap.size, 11, none⟩ = some (.slice B11 (ofV V).outs.length d11) := cellsAt hq6.p 11; have y6_0 : w6.cell? ⟨w4.heap.size, 0, none⟩ = some (.int .i64 V.day) := cellsAt hr6.p 0; have y6_1 : w6.cell? ⟨w4.heap.size, 1, none⟩ = some (.slice E1 (ofV V).members.length e1) := cellsAt hr6.p 1; have y6_2 : w6.cell? ⟨w4.heap.size, 2, none⟩ = some (.slice E2 (ofV V).assets.length e2) := cellsAt hr6.p 2; have y6_3 : w6.cell? ⟨w4.heap.size, 3, none⟩ = some (.slice E3 (ofV V).prices.length e3) := cellsAt hr6.p 3; have y6_4 : w6.cell? ⟨w4.heap.size, 4, none⟩ = some (.slice E4 (ofV V).baskets.length e4) := cellsAt hr6.p 4; have y6_5 : w6.cell? ⟨w4.heap.size, 5, none⟩ = some (.slice E5 (ofV V).balances.length e5) := cellsAt hr6.p 5; have y6_6 : w6.cell? ⟨w4.heap.size, 6, none⟩ = some (.slice E6 (ofV V).quotes.length e6) := cellsAt hr6.p 6; have y6_7 : w6.cell? ⟨w4.heap.size, 7, none⟩ = some (.slice E7 (ofV V).trades.length e7) := cellsAt hr6.p 7; have y6_8 : w6.cell? ⟨w4.heap.size, 8, none⟩ = some (.int .i64 V.next) := cellsAt hr6.p 8; have y6_9 : w6.cell? ⟨w4.heap.size, 9, none⟩ = some (.slice E9 (ofV V).covers.length e9) := cellsAt hr6.p 9; have y6_10 : w6.cell? ⟨w4.heap.size, 10, none⟩ = some (.slice E10 (ofV V).inn.length e10) := cellsAt hr6.p 10; have y6_11 : w6.cell? ⟨w4.heap.size, 11, none⟩ = some (.slice E11 (ofV V).outs.length e11) := cellsAt hr6.p 11; clear h6 hq6 hr6)
          | (go_at_call 9; refine (HDE.out _).mono ?_; rintro e w4 ⟨E1, E2, E3, E4, E5, E6, E7, E9, E10, E11, e1, e2, e3, e4, e5, e6, e7, e9, e10, e11, rfl, h4⟩; have HQ4 := Lib.hid (HQ3.out.up h4.out.2.2); have hr := PB.new HQ4.out.b #[.int .i64 V.day, .slice E1 (ofV V).members.length e1, .slice E2 (ofV V).assets.length e2, .slice E3 (ofV V).prices.length e3, .slice E4 (ofV V).baskets.length e4, .slice E5 (ofV V).balances.length e5, .slice E6 (ofV V).quotes.length e6, .slice E7 (ofV V).trades.length e7, .int .i64 V.next, .slice E9 (ofV V).covers.length e9, .slice E10 (ofV V).inn.length e10, .slice E11 (ofV V).outs.length e11] 45; have HR := Lib.hid hr; have HWL := Lib.hid (h4.out.1.below (below_alloc (Below.refl _ _) (.cells #[.int .i64 V.day, .slice E1 (ofV V).members.length e1, .slice E2 (ofV V).assets.length e2, .slice E3 (ofV V).prices.length e3, .slice E4 (ofV V).baskets.length e4, .slice E5 (ofV V).balances.length e5, .slice E6 (ofV V).quotes.length e6, .slice E7 (ofV V).trades.length e7, .int .i64 V.next, .slice E9 (ofV V).covers.length e9, .slice E10 (ofV V).inn.length e10, .slice E11 (ofV V).outs.length e11] 45))); have HQ5 := Lib.hid (HQ4.out.up (below_alloc (Below.refl _ _) (.cells #[.int .i64 V.day, .slice E1 (ofV V).members.length e1, .slice E2 (ofV V).assets.length e2, .slice E3 (ofV V).prices.length e3, .slice E4 (ofV V).baskets.length e4, .slice E5 (ofV V).balances.length e5, .slice E6 (ofV V).quotes.length e6, .slice E7 (ofV V).trades.length e7, .int .i64 V.next, .slice E9 (ofV V).covers.length e9, .slice E10 (ofV V).inn.length e10, .slice E11 (ofV V).outs.length e11] 45))); have HVL5 := Lib.hid ((HVL3.out.below h4.out.2.2).below (below_alloc (Below.refl _ _) (.cells #[.int .i64 V.day, .slice E1 (ofV V).members.length e1, .slice E2 (ofV V).assets.length e2, .slice E3 (ofV V).prices.length e3, .slice E4 (ofV V).baskets.length e4, .slice E5 (ofV V).balances.length e5, .slice E6 (ofV V).quotes.length e6, .slice E7 (ofV V).trades.length e7, .int .i64 V.next, .slice E9 (ofV V).covers.length e9, .slice E10 (ofV V).inn.length e10, .slice E11 (ofV V).outs.length e11] 45))); have HWC := Lib.hid h4.out.2.1; clear h4 hr)
          | (go_at_call 8; refine (HEN.out _ B1 B2 B3 A3 B5 A5 A6 B9 B10 B11 d1 d2 d3 c3 d5 c5 c6 d9 d10 d11 HVL.out).mono ?_; rintro e w3 ⟨rfl, h3⟩; have hq3 := HQ.out.up h3; have HQ3 := Lib.hid hq3; have HVL3 := Lib.hid (HVL.out.below h3); have x3_0 : w3.cell? ⟨w2.heap.size, 0, none⟩ = some (.int .i64 V.day) := cellsAt hq3.p 0; have x3_1 : w3.cell? ⟨w2.heap.size, 1, none⟩ = some (.slice B1 (ofV V).members.length d1) := cellsAt hq3.p 1; have x3_2 : w3.cell? ⟨w2.heap.size, 2, none⟩ = some (.slice B2 (ofV V).assets.length d2) := cellsAt hq3.p 2; have x3_3 : w3.cell? ⟨w2.heap.size, 3, none⟩ = some (.slice B3 (ofV V).prices.length d3) := cellsAt hq3.p 3; have x3_4 : w3.cell? ⟨w2.heap.size, 4, none⟩ = some (.slice A3 V.baskets.length c3) := cellsAt hq3.p 4; have x3_5 : w3.cell? ⟨w2.heap.size, 5, none⟩ = some (.slice B5 (ofV V).balances.length d5) := cellsAt hq3.p 5; have x3_6 : w3.cell? ⟨w2.heap.size, 6, none⟩ = some (.slice A5 V.quotes.length c5) := cellsAt hq3.p 6; have x3_7 : w3.cell? ⟨w2.heap.size, 7, none⟩ = some (.slice A6 V.trades.length c6) := cellsAt hq3.p 7; have x3_8 : w3.cell? ⟨w2.heap.size, 8, none⟩ = some (.int .i64 V.next) := cellsAt hq3.p 8; have x3_9 : w3.cell? ⟨w2.heap.size, 9, none⟩ = some (.slice B9 (ofV V).covers.length d9) := cellsAt hq3.p 9; have x3_10 : w3.cell? ⟨w2.heap.size, 10, none⟩ = some (.slice B10 (ofV V).inn.length d10) := cellsAt hq3.p 10; have x3_11 : w3.cell? ⟨w2.heap.size, 11, none⟩ = some (.slice B11 (ofV V).outs.length d11) := cellsAt hq3.p 11; clear h3 hq3)
          | (go_at_call 7; refine (HOF.out _ HP1.out.b).mono ?_; rintro e w2 ⟨B1, B2, B3, B5, B9, B10, B11, d1, d2, d3, d5, d9, d10, d11, rfl, h2⟩; have HP2 := Lib.hid (HP1.out.up h2.out.2.2); have hq := PB.new HP2.out.b #[.int .i64 V.day, .slice B1 (ofV V).members.length d1, .slice B2 (ofV V).assets.length d2, .slice B3 (ofV V).prices.length d3, .slice A3 V.baskets.length c3, .slice B5 (ofV V).balances.length d5, .slice A5 V.quotes.length c5, .slice A6 V.trades.length c6, .int .i64 V.next, .slice B9 (ofV V).covers.length d9, .slice B10 (ofV V).inn.length d10, .slice B11 (ofV V).outs.length d11] 45; have HVL := Lib.hid (h2.out.1.below (below_alloc (Below.refl _ _) (.cells #[.int .i64 V.day, .slice B1 (ofV V).members.length d1, .slice B2 (ofV V).assets.length d2, .slice B3 (ofV V).prices.length d3, .slice A3 V.baskets.length c3, .slice B5 (ofV V).balances.length d5, .slice A5 V.quotes.length c5, .slice A6 V.trades.length c6, .int .i64 V.next, .slice B9 (ofV V).covers.length d9, .slice B10 (ofV V).inn.length d10, .slice B11 (ofV V).outs.length d11] 45))); have HQ := Lib.hid hq; have HVC := Lib.hid h2.out.2.1; clear h2 hq))
        go_ret
        exact ⟨rfl, HB9.out.b⟩
end Go.Proofs.Ythpgjeiglhdciaa.SN
