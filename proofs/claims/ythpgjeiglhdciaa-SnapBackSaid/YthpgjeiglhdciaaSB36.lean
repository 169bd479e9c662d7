/- Part 36 of the proof's texts: what the theorem needs of them. -/
import Derived.Test.YthpgjeiglhdciaaSB35
import Derived.Test.YthpgjeiglhdciaaSB14
import Derived.Test.YthpgjeiglhdciaaSB15
import Derived.Test.YthpgjeiglhdciaaSB16
import Derived.Test.YthpgjeiglhdciaaSB17
import Derived.Test.YthpgjeiglhdciaaSB18
import Derived.Test.YthpgjeiglhdciaaSB19
import Derived.Test.YthpgjeiglhdciaaSB20
import Derived.Test.YthpgjeiglhdciaaSB21
import Derived.Test.YthpgjeiglhdciaaSB22
import Derived.Test.YthpgjeiglhdciaaSB23
import Derived.Test.YthpgjeiglhdciaaSB24
import Derived.Test.YthpgjeiglhdciaaSB25
import Derived.Test.YthpgjeiglhdciaaSB26
import Derived.Test.YthpgjeiglhdciaaSB27

set_option linter.unusedVariables false
set_option linter.unusedSimpArgs false
/- Decode where reading goes well. (printed by gen_decode.py) -/
namespace Go.Proofs.Ythpgjeiglhdciaa.SN
open Go Go.RowKit Go.Proofs Go.Proofs.Ythpgjeiglhdciaa.PL Go.Proofs.YthpgjeiglhdciaaW.PrintWords Go.Proofs.YthpgjeiglhdciaaW.PrintLast Go.Proofs.YthpgjeiglhdciaaW.PrintMore
set_option maxRecDepth 100000 in
set_option maxHeartbeats 8000000 in
theorem decode_good {w : World} {s t : ByteArray} {V : VW} {stV stZ : St} (hs : 8 ≤ s.size) (hs2 : s.size ≤ 140737488355328) (hm : ∀ j, j < 8 → (lst s)[j]? = mark[j]?) (ht : s.extract 8 s.size = t) (hv : viewR (lst t) ⟨0, 0⟩ = (V, stV)) (hz : endR (lst t) stV = stZ) (hzz : stZ.e = 0) :
    Calls Try.prog 9 #[.string s] w fun o w' => ∃ (A1 A2 A3 A4 A5 A6 A7 A9 A10 A11 : Option Addr) (c1 c2 c3 c4 c5 c6 c7 c9 c10 c11 : Nat), o = .returned (.tuple #[.agg #[.int .i64 V.day, .slice A1 V.members.length c1, .slice A2 V.assets.length c2, .slice A3 V.prices.length c3, .slice A4 V.baskets.length c4, .slice A5 V.balances.length c5, .slice A6 V.quotes.length c6, .slice A7 V.trades.length c7, .int .i64 V.next, .slice A9 V.covers.length c9, .slice A10 V.inn.length c10, .slice A11 V.outs.length c11], .int .i64 s.size, .int .i64 0]) ∧ Hid (VL w' V A1 A2 A3 A4 A5 A6 A7 A9 A10 A11 ∧ Below w.heap.size w w') := by
  have hts : t.size ≤ 140737488355328 := by rw [← ht, ByteArray.size_extract]; omega
  obtain ⟨st1, h01⟩ : ∃ x, (⟨0, 0⟩ : St) = x := ⟨_, rfl⟩
  rw [h01] at hv
  have H01 := Lib.hid h01
  have hz1 : st1.at' = 0 := by rw [← h01]
  obtain ⟨⟨y1, st2⟩, hy1⟩ : ∃ r, iR (lst t) st1 = r := ⟨_, rfl⟩
  have E1 := Lib.hid hy1
  obtain ⟨⟨y2, st3⟩, hy2⟩ : ∃ r, iR (lst t) st2 = r := ⟨_, rfl⟩
  have E2 := Lib.hid hy2
  obtain ⟨⟨y3, st4⟩, hy3⟩ : ∃ r, lR (lst t) (membersR (lst t)) st3 = r := ⟨_, rfl⟩
  have E3 := Lib.hid hy3
  obtain ⟨⟨y4, st5⟩, hy4⟩ : ∃ r, lR (lst t) (assetsR (lst t)) st4 = r := ⟨_, rfl⟩
  have E4 := Lib.hid hy4
  obtain ⟨⟨y5, st6⟩, hy5⟩ : ∃ r, lR (lst t) (pricesR (lst t)) st5 = r := ⟨_, rfl⟩
  have E5 := Lib.hid hy5
  obtain ⟨⟨y6, st7⟩, hy6⟩ : ∃ r, lR (lst t) (basketsR (lst t)) st6 = r := ⟨_, rfl⟩
  have E6 := Lib.hid hy6
  obtain ⟨⟨y7, st8⟩, hy7⟩ : ∃ r, lR (lst t) (balancesR (lst t)) st7 = r := ⟨_, rfl⟩
  have E7 := Lib.hid hy7
  obtain ⟨⟨y8, st9⟩, hy8⟩ : ∃ r, lR (lst t) (quotesR (lst t)) st8 = r := ⟨_, rfl⟩
  have E8 := Lib.hid hy8
  obtain ⟨⟨y9, st10⟩, hy9⟩ : ∃ r, lR (lst t) (tradesR (lst t)) st9 = r := ⟨_, rfl⟩
  have E9 := Lib.hid hy9
  obtain ⟨⟨y10, st11⟩, hy10⟩ : ∃ r, lR (lst t) (coversR (lst t)) st10 = r := ⟨_, rfl⟩
  have E10 := Lib.hid hy10
  obtain ⟨⟨y11, st12⟩, hy11⟩ : ∃ r, lR (lst t) (linksR (lst t)) st11 = r := ⟨_, rfl⟩
  have E11 := Lib.hid hy11
  obtain ⟨⟨y12, st13⟩, hy12⟩ : ∃ r, lR (lst t) (linksR (lst t)) st12 = r := ⟨_, rfl⟩
  have E12 := Lib.hid hy12
  have hp : viewR (lst t) st1 = (⟨y1, y2, y3, y4, y5, y6, y7, y8, y9, y10, y11, y12⟩, st13) := mapR_eq _ (andR_eq hy1 (andR_eq hy2 (andR_eq hy3 (andR_eq hy4 (andR_eq hy5 (andR_eq hy6 (andR_eq hy7 (andR_eq hy8 (andR_eq hy9 (andR_eq hy10 (andR_eq hy11 hy12)))))))))))
  rw [hp] at hv
  clear hp
  obtain ⟨rfl, rfl⟩ := Prod.mk.inj hv
  have HZE := Lib.hid hz
  have bz : (stZ.e == 0) = true := by simpa using hzz
  have HM := Lib.hid (And.intro hs (And.intro hm (And.intro hts (And.intro ht hs2))))
  have HZ1 := Lib.hid (show st1.at' ≤ t.size by omega)
  clear hv hm hts hz hzz hs2 h01 hz1 hy1 hy2 hy3 hy4 hy5 hy6 hy7 hy8 hy9 hy10 hy11 hy12
  go_enter Try.func9, Try.ntmps9
  go_upto_region 1 with (fail)
  obtain ⟨C, hC⟩ : ∃ C, w.heap.size = C := ⟨_, rfl⟩
  have HB0 := Lib.hid (show Below C w (w.alloc (.cells #[.int .i64 0, .slice none 0 0, .slice none 0 0, .slice none 0 0, .slice none 0 0, .slice none 0 0, .slice none 0 0, .slice none 0 0, .int .i64 0, .slice none 0 0, .slice none 0 0, .slice none 0 0] 45)) from hC ▸ below_alloc (Below.refl _ _) _)
  have HC0 := Lib.hid (show (w.alloc (.cells #[.int .i64 0, .slice none 0 0, .slice none 0 0, .slice none 0 0, .slice none 0 0, .slice none 0 0, .slice none 0 0, .slice none 0 0, .int .i64 0, .slice none 0 0, .slice none 0 0, .slice none 0 0] 45)).heap[C]? = some (.cells #[.int .i64 0, .slice none 0 0, .slice none 0 0, .slice none 0 0, .slice none 0 0, .slice none 0 0, .slice none 0 0, .slice none 0 0, .int .i64 0, .slice none 0 0, .slice none 0 0, .slice none 0 0] 45 (0, 0)) from hC ▸ (Go.MapKept.heap_alloc w _).1)
  have HZ0 := Lib.hid (show (w.alloc (.cells #[.int .i64 0, .slice none 0 0, .slice none 0 0, .slice none 0 0, .slice none 0 0, .slice none 0 0, .slice none 0 0, .slice none 0 0, .int .i64 0, .slice none 0 0, .slice none 0 0, .slice none 0 0] 45)).heap.size = C + 1 from by rw [← hC]; simp)
  rw [hC]
  generalize w.alloc (.cells #[.int .i64 0, .slice none 0 0, .slice none 0 0, .slice none 0 0, .slice none 0 0, .slice none 0 0, .slice none 0 0, .slice none 0 0, .int .i64 0, .slice none 0 0, .slice none 0 0, .slice none 0 0] 45) = W0 at HB0 HC0 HZ0 ⊢
  have HCC := Lib.hid hC
  clear hC
  go_cut [10, 11] (fun v10 v11 wx => ∃ m : Nat, v10 = .int .i64 m ∧ v11 = .int .i64 0 ∧ Hid (wx = W0 ∧ min s.size 8 = m))
  case first =>
    by_cases hs8 : 8 < s.size
    · have hs9 : (8 : Int) < (s.size : Int) := by omega
      go_wp2_with (fail)
      go_meet
      exact ⟨8, rfl, rfl, ⟨rfl, by omega⟩⟩
    · have hs9 : (s.size : Int) ≤ 8 := by omega
      go_wp2_with (fail)
      go_meet
      exact ⟨s.size, rfl, rfl, ⟨rfl, by omega⟩⟩
  case rest =>
    obtain ⟨m, rfl, rfl, HM8⟩ := hcut
    obtain ⟨hw0, hm8⟩ := HM8.out
    subst hw0
    clear HM8
    have HM8 := Lib.hid hm8
    clear hm8
    go_wp2_with (fail)
    have hm8 : m = 8 := by have := HM8.out; have := HM.out.1; omega
    subst hm8
    clear ht
    go_loopg [11] (8 + 1) (fun kq v11 w' => ∃ (k d : Nat), v11 = .int .i64 k ∧ w' = wc.drewN d ∧ Hid (kq + k = 8 + 1 ∧ k ≤ 8))
    case atStart => exact ⟨0, 0, rfl, rfl, ⟨rfl, Nat.zero_le _⟩⟩
    case round =>
      obtain ⟨k, d, rfl, rfl, HI⟩ := hrel
      by_cases hkm0 : k < 8
      · have hk : k < s.size := by have := HM.out.1; omega
        have hk8 : k < ({ data := #[108, 111, 109, 98, 97, 114, 100, 49] } : ByteArray).size := hkm0
        have hq := mark_same hk hk8 (HM.out.2.1 k hkm0)
        have hkq : (k : Int) < (s.size : Int) := by omega
        have hkm : (k : Int) < 8 := by omega
        go_wp2_with (fail)
        go_quiet (fail)
        go_wp2_with (fail)
        go_roundg (8 - k)
        case measure => have := HI.out.1; omega
        case rel => exact ⟨k + 1, _, rfl, rfl, ⟨by have := HI.out.1; omega, hkm0⟩⟩
      · have q1 : ((k : Int) < 8) = False := eq_false (by omega)
        have hs2 : (8 : Int) ≤ (s.size : Int) := by omega
        have hs3 : ((s.size : Int) < 8) = False := eq_false (by omega)
        have HCB := Lib.hid (And.intro (show Below C w (wc.drewN d) from pw_below_drewN HB0.out d) (show (wc.drewN d).heap[C]? = some (.cells #[.int .i64 0, .slice none 0 0, .slice none 0 0, .slice none 0 0, .slice none 0 0, .slice none 0 0, .slice none 0 0, .slice none 0 0, .int .i64 0, .slice none 0 0, .slice none 0 0, .slice none 0 0] 45 (0, 0)) from HC0.out))
        have HCZ := Lib.hid (show (wc.drewN d).heap.size = C + 1 from HZ0.out)
        clear hkm0
        go_upto_region 10 with (go_at_call 23; rw [HM.out.2.2.2.1]; refine newreader_any.mono ?_; rintro e w1 ⟨q, rfl, HQ⟩; have kq1 := HQ.out.2.2.1)
        obtain ⟨hws1, hws2, hws3, hws4⟩ := mk_ws HQ.out.2.1 HQ.out.2.2.1
        rw [H01.out] at hws1
        have hqC : q = C + 1 := HQ.out.1.symm.trans HCZ.out
        have hwsC := (hws4.block C (by omega)).trans ((HQ.out.2.2.2.block C (by omega)).trans HCB.out.2)
        have hwsB : Below C w (w1.alloc (.cells #[.pointer (some ⟨q, 0, none⟩)] 101)) := HCB.out.1.trans ((HQ.out.2.2.2.mono (by omega)).trans (hws4.mono (by omega)))
        try rw [HQ.out.2.2.1]
        obtain ⟨g, hg⟩ : ∃ g, q + 1 = g := ⟨_, rfl⟩
        rw [hg] at hws2 ⊢
        generalize w1.alloc (.cells #[.pointer (some ⟨q, 0, none⟩)] 101) = ws at hws1 hws2 hws3 hwsC hwsB ⊢
        have HB := Lib.hid (show BX ws g q ∧ q < g ∧ q < ws.heap.size from ⟨hws2, by omega, by omega⟩)
        have HWS := Lib.hid (show Below C w ws ∧ ws.heap[C]? = some (.cells #[.int .i64 0, .slice none 0 0, .slice none 0 0, .slice none 0 0, .slice none 0 0, .slice none 0 0, .slice none 0 0, .slice none 0 0, .int .i64 0, .slice none 0 0, .slice none 0 0, .slice none 0 0] 45 (0, 0)) ∧ C ≠ q ∧ C < ws.heap.size ∧ C ≤ q ∧ g ≠ C from ⟨hwsB, hwsC, by omega, by omega, by omega, by omega⟩)
        have PP := Lib.hid (DP.start hws1 HM.out.2.2.1 HZ1.out)
        have hSD : ws.drew.cell? ⟨g, 0, none⟩ = some (.pointer (some ⟨q, 0, none⟩)) := hws2.cell
        have HSA := Lib.hid (show ∀ (w' : World) (o : Obj), w'.cell? ⟨g, 0, none⟩ = some (.pointer (some ⟨q, 0, none⟩)) → (w'.alloc o).cell? ⟨g, 0, none⟩ = some (.pointer (some ⟨q, 0, none⟩)) from fun w' o h0 => ((Below.refl w'.heap.size w').alloc (Nat.le_refl _) o |>.cell (World.block_lt_of_cell? w' _ h0)).trans h0)
        have HSD := Lib.hid (show ∀ o : Obj, (ws.alloc o).drew.cell? ⟨g, 0, none⟩ = some (.pointer (some ⟨q, 0, none⟩)) from fun o => HSA.out ws o hws2.cell)
        have PD := Lib.hid (fun cs T => ((DP.start0 hws1 HM.out.2.2.1 HZ1.out).alloc HB.out.2.2 cs T).drew)
        clear hws1 hws2 hws3 hws4 hqC hwsC hwsB hg kq1
        go_cut [7] (fun v7 wx => ∃ G, v7 = .pointer (some ⟨G, 0, none⟩) ∧ Hid (DS ws wx q G t st3 #[.int .i64 y1, .slice none 0 0, .slice none 0 0, .slice none 0 0, .slice none 0 0, .slice none 0 0, .slice none 0 0, .slice none 0 0, .int .i64 y2, .slice none 0 0, .slice none 0 0, .slice none 0 0] 45))
        case first =>
          go_region_held3 (fun w' => w'.cell? ⟨g, 0, none⟩ = some (.pointer (some ⟨q, 0, none⟩)))
            (first | with_reducible assumption | with_reducible exact HSD.out _ | with_reducible exact HSA.out _ _ (by with_reducible assumption) | ((repeat (with_reducible refine cell_off (by with_reducible assumption) ?_)); with_reducible assumption))
            (first
              | (go_at_call 24; refine (DS.int PL.out E2.out).mono ?_; rintro e wv ⟨rfl, PL⟩; have kx := PL.out.bx HB.out.1 HB.out.2.1; have hGg := PL.out.away HB.out.1.lt; have zz0 : (_ : Option Value) = some (.int .i64 0) := PL.out.cell 0; have ff0 := PL.out.frz 0; have zz1 : (_ : Option Value) = some (.slice none 0 0) := PL.out.cell 1; have ff1 := PL.out.frz 1; have zz2 : (_ : Option Value) = some (.slice none 0 0) := PL.out.cell 2; have ff2 := PL.out.frz 2; have zz3 : (_ : Option Value) = some (.slice none 0 0) := PL.out.cell 3; have ff3 := PL.out.frz 3; have zz4 : (_ : Option Value) = some (.slice none 0 0) := PL.out.cell 4; have ff4 := PL.out.frz 4; have zz5 : (_ : Option Value) = some (.slice none 0 0) := PL.out.cell 5; have ff5 := PL.out.frz 5; have zz6 : (_ : Option Value) = some (.slice none 0 0) := PL.out.cell 6; have ff6 := PL.out.frz 6; have zz7 : (_ : Option Value) = some (.slice none 0 0) := PL.out.cell 7; have ff7 := PL.out.frz 7; have zz8 : (_ : Option Value) = some (.int .i64 0) := PL.out.cell 8; have ff8 := PL.out.frz 8; have zz9 : (_ : Option Value) = some (.slice none 0 0) := PL.out.cell 9; have ff9 := PL.out.frz 9; have zz10 : (_ : Option Value) = some (.slice none 0 0) := PL.out.cell 10; have ff10 := PL.out.frz 10; have zz11 : (_ : Option Value) = some (.slice none 0 0) := PL.out.cell 11; have ff11 := PL.out.frz 11)
              | (go_at_call 24; refine (DS.int (PP.out.alloc HB.out.2.2 _ _) E2.out).mono ?_; rintro e wv ⟨rfl, PL⟩; have kx := PL.out.bx HB.out.1 HB.out.2.1; have hGg := PL.out.away HB.out.1.lt; have zz0 : (_ : Option Value) = some (.int .i64 0) := PL.out.cell 0; have ff0 := PL.out.frz 0; have zz1 : (_ : Option Value) = some (.slice none 0 0) := PL.out.cell 1; have ff1 := PL.out.frz 1; have zz2 : (_ : Option Value) = some (.slice none 0 0) := PL.out.cell 2; have ff2 := PL.out.frz 2; have zz3 : (_ : Option Value) = some (.slice none 0 0) := PL.out.cell 3; have ff3 := PL.out.frz 3; have zz4 : (_ : Option Value) = some (.slice none 0 0) := PL.out.cell 4; have ff4 := PL.out.frz 4; have zz5 : (_ : Option Value) = some (.slice none 0 0) := PL.out.cell 5; have ff5 := PL.out.frz 5; have zz6 : (_ : Option Value) = some (.slice none 0 0) := PL.out.cell 6; have ff6 := PL.out.frz 6; have zz7 : (_ : Option Value) = some (.slice none 0 0) := PL.out.cell 7; have ff7 := PL.out.frz 7; have zz8 : (_ : Option Value) = some (.int .i64 0) := PL.out.cell 8; have ff8 := PL.out.frz 8; have zz9 : (_ : Option Value) = some (.slice none 0 0) := PL.out.cell 9; have ff9 := PL.out.frz 9; have zz10 : (_ : Option Value) = some (.slice none 0 0) := PL.out.cell 10; have ff10 := PL.out.frz 10; have zz11 : (_ : Option Value) = some (.slice none 0 0) := PL.out.cell 11; have ff11 := PL.out.frz 11)
              | (go_at_call 24; refine (DP.int PP.out E2.out).mono ?_; rintro e wv ⟨rfl, PP⟩; have kx := PP.out.bx HB.out.1 HB.out.2.1)
              | (go_at_call 24; refine (DS.int PL.out E1.out).mono ?_; rintro e wv ⟨rfl, PL⟩; have kx := PL.out.bx HB.out.1 HB.out.2.1)
              | (go_at_call 24; refine (DS.int (PD.out _ _) E1.out).mono ?_; rintro e wv ⟨rfl, PL⟩; have kx := PL.out.bx HB.out.1 HB.out.2.1)
              | (go_at_call 24; refine (DS.int (PP.out.alloc HB.out.2.2 _ _) E1.out).mono ?_; rintro e wv ⟨rfl, PL⟩; have kx := PL.out.bx HB.out.1 HB.out.2.1)
              | (go_at_call 24; refine (DP.int PP.out E1.out).mono ?_; rintro e wv ⟨rfl, PP⟩; have kx := PP.out.bx HB.out.1 HB.out.2.1))
          all_goals (go_wp2_with (fail); go_meet; first | exact ⟨_, rfl, PL.out.fill [.int .i64 y1, .slice none 0 0, .slice none 0 0, .slice none 0 0, .slice none 0 0, .slice none 0 0, .slice none 0 0, .slice none 0 0, .int .i64 y2, .slice none 0 0, .slice none 0 0, .slice none 0 0] rfl⟩ | exact ⟨_, rfl, PP.out.alloc HB.out.2.2 _ _⟩)
        case rest =>
          obtain ⟨G, rfl, HD⟩ := hcut
          have kx := HD.out.bx HB.out.1 HB.out.2.1
          have hgG := HD.out.away HB.out.1.lt
          go_wp2_with (first
            | (go_at_call 34; refine (DS.end_ (K10.out) HZE.out H10.out.2.1 (H10.out.2.1.2 _ 11 _ H10.out.2.2)).mono ?_; rintro e wz ⟨rfl, HZ⟩; have hcc := Lib.hid (HZ.out.1.keepC HWS.out.2.1 HWS.out.2.2.1); have kxz := HZ.out.1.bx HB.out.1 HB.out.2.1; have cg0 : wz.cell? ⟨G, 0, none⟩ = some (.int .i64 y1) := HZ.out.1.cell 0; have cg1 : wz.cell? ⟨G, 1, none⟩ = some (.slice A1 y3.length c1) := HZ.out.1.cell 1; have cg2 : wz.cell? ⟨G, 2, none⟩ = some (.slice A2 y4.length c2) := HZ.out.1.cell 2; have cg3 : wz.cell? ⟨G, 3, none⟩ = some (.slice A3 y5.length c3) := HZ.out.1.cell 3; have cg4 : wz.cell? ⟨G, 4, none⟩ = some (.slice A4 y6.length c4) := HZ.out.1.cell 4; have cg5 : wz.cell? ⟨G, 5, none⟩ = some (.slice A5 y7.length c5) := HZ.out.1.cell 5; have cg6 : wz.cell? ⟨G, 6, none⟩ = some (.slice A6 y8.length c6) := HZ.out.1.cell 6; have cg7 : wz.cell? ⟨G, 7, none⟩ = some (.slice A7 y9.length c7) := HZ.out.1.cell 7; have cg8 : wz.cell? ⟨G, 8, none⟩ = some (.int .i64 y2) := HZ.out.1.cell 8; have cg9 : wz.cell? ⟨G, 9, none⟩ = some (.slice A9 y10.length c9) := HZ.out.1.cell 9; have cg10 : wz.cell? ⟨G, 10, none⟩ = some (.slice A10 y11.length c10) := HZ.out.1.cell 10; have cg11 : wz.cell? ⟨G, 11, none⟩ = some (.slice A11 y12.length c11) := HZ.out.1.cell 11; have cc0 : wz.cell? ⟨C, 0, none⟩ = some (.int .i64 0) := cellsAt hcc.out 0; have fc0 := frzAt hcc.out 0; have cc1 : wz.cell? ⟨C, 1, none⟩ = some (.slice none 0 0) := cellsAt hcc.out 1; have fc1 := frzAt hcc.out 1; have cc2 : wz.cell? ⟨C, 2, none⟩ = some (.slice none 0 0) := cellsAt hcc.out 2; have fc2 := frzAt hcc.out 2; have cc3 : wz.cell? ⟨C, 3, none⟩ = some (.slice none 0 0) := cellsAt hcc.out 3; have fc3 := frzAt hcc.out 3; have cc4 : wz.cell? ⟨C, 4, none⟩ = some (.slice none 0 0) := cellsAt hcc.out 4; have fc4 := frzAt hcc.out 4; have cc5 : wz.cell? ⟨C, 5, none⟩ = some (.slice none 0 0) := cellsAt hcc.out 5; have fc5 := frzAt hcc.out 5; have cc6 : wz.cell? ⟨C, 6, none⟩ = some (.slice none 0 0) := cellsAt hcc.out 6; have fc6 := frzAt hcc.out 6; have cc7 : wz.cell? ⟨C, 7, none⟩ = some (.slice none 0 0) := cellsAt hcc.out 7; have fc7 := frzAt hcc.out 7; have cc8 : wz.cell? ⟨C, 8, none⟩ = some (.int .i64 0) := cellsAt hcc.out 8; have fc8 := frzAt hcc.out 8; have cc9 : wz.cell? ⟨C, 9, none⟩ = some (.slice none 0 0) := cellsAt hcc.out 9; have fc9 := frzAt hcc.out 9; have cc10 : wz.cell? ⟨C, 10, none⟩ = some (.slice none 0 0) := cellsAt hcc.out 10; have fc10 := frzAt hcc.out 10; have cc11 : wz.cell? ⟨C, 11, none⟩ = some (.slice none 0 0) := cellsAt hcc.out 11; have fc11 := frzAt hcc.out 11)
            | (go_at_call 33; refine (DS.list K9.out (links_any (K9.out).rd (K9.out).sz (K9.out).le) (lR_good (linksR_good (lst t))) E12.out H9.out.2.1 (H9.out.2.1.2 _ 10 _ H9.out.2.2)).mono ?_; rintro e w11 ⟨A11, c11, rfl, H10⟩; have kx10 := H10.out.1.bx HB.out.1 HB.out.2.1; have kz10 : w11.cell? ⟨G, 11, none⟩ = some (.slice none 0 0) := H10.out.1.cell 11; have kf10 := H10.out.1.frz 11; have K10 := Lib.hid (show DS ws (w11.setCell ⟨G, 11, none⟩ (.slice A11 y12.length c11)) q G t st13 #[.int .i64 y1, .slice A1 y3.length c1, .slice A2 y4.length c2, .slice A3 y5.length c3, .slice A4 y6.length c4, .slice A5 y7.length c5, .slice A6 y8.length c6, .slice A7 y9.length c7, .int .i64 y2, .slice A9 y10.length c9, .slice A10 y11.length c10, .slice A11 y12.length c11] 45 from (H10.out.1.set 11 _).to rfl))
            | (go_at_call 33; refine (DS.list K8.out (links_any (K8.out).rd (K8.out).sz (K8.out).le) (lR_good (linksR_good (lst t))) E11.out H8.out.2.1 (H8.out.2.1.2 _ 9 _ H8.out.2.2)).mono ?_; rintro e w10 ⟨A10, c10, rfl, H9⟩; have kx9 := H9.out.1.bx HB.out.1 HB.out.2.1; have kz9 : w10.cell? ⟨G, 10, none⟩ = some (.slice none 0 0) := H9.out.1.cell 10; have kf9 := H9.out.1.frz 10; have K9 := Lib.hid (show DS ws (w10.setCell ⟨G, 10, none⟩ (.slice A10 y11.length c10)) q G t st12 #[.int .i64 y1, .slice A1 y3.length c1, .slice A2 y4.length c2, .slice A3 y5.length c3, .slice A4 y6.length c4, .slice A5 y7.length c5, .slice A6 y8.length c6, .slice A7 y9.length c7, .int .i64 y2, .slice A9 y10.length c9, .slice A10 y11.length c10, .slice none 0 0] 45 from (H9.out.1.set 10 _).to rfl))
            | (go_at_call 32; refine (DS.list K7.out (covers_any (K7.out).rd (K7.out).sz (K7.out).le) (lR_good (coversR_good (lst t))) E10.out H7.out.2.1 (H7.out.2.1.2 _ 7 _ H7.out.2.2)).mono ?_; rintro e w9 ⟨A9, c9, rfl, H8⟩; have kx8 := H8.out.1.bx HB.out.1 HB.out.2.1; have kz8 : w9.cell? ⟨G, 9, none⟩ = some (.slice none 0 0) := H8.out.1.cell 9; have kf8 := H8.out.1.frz 9; have K8 := Lib.hid (show DS ws (w9.setCell ⟨G, 9, none⟩ (.slice A9 y10.length c9)) q G t st11 #[.int .i64 y1, .slice A1 y3.length c1, .slice A2 y4.length c2, .slice A3 y5.length c3, .slice A4 y6.length c4, .slice A5 y7.length c5, .slice A6 y8.length c6, .slice A7 y9.length c7, .int .i64 y2, .slice A9 y10.length c9, .slice none 0 0, .slice none 0 0] 45 from (H8.out.1.set 9 _).to rfl))
            | (go_at_call 31; refine (DS.list K6.out (trades_any (K6.out).rd (K6.out).sz (K6.out).le) (lR_good (tradesR_good (lst t))) E9.out H6.out.2.1 (H6.out.2.1.2 _ 6 _ H6.out.2.2)).mono ?_; rintro e w8 ⟨A7, c7, rfl, H7⟩; have kx7 := H7.out.1.bx HB.out.1 HB.out.2.1; have kz7 : w8.cell? ⟨G, 7, none⟩ = some (.slice none 0 0) := H7.out.1.cell 7; have kf7 := H7.out.1.frz 7; have K7 := Lib.hid (show DS ws (w8.setCell ⟨G, 7, none⟩ (.slice A7 y9.length c7)) q G t st10 #[.int .i64 y1, .slice A1 y3.length c1, .slice A2 y4.length c2, .slice A3 y5.length c3, .slice A4 y6.length c4, .slice A5 y7.length c5, .slice A6 y8.length c6, .slice A7 y9.length c7, .int .i64 y2, .slice none 0 0, .slice none 0 0, .slice none 0 0] 45 from (H7.out.1.set 7 _).to rfl))
            | (go_at_call 30; refine (DS.list K5.out (quotes_any (K5.out).rd (K5.out).sz (K5.out).le) (lR_good (quotesR_good (lst t))) E8.out H5.out.2.1 (H5.out.2.1.2 _ 5 _ H5.out.2.2)).mono ?_; rintro e w7 ⟨A6, c6, rfl, H6⟩; have kx6 := H6.out.1.bx HB.out.1 HB.out.2.1; have kz6 : w7.cell? ⟨G, 6, none⟩ = some (.slice none 0 0) := H6.out.1.cell 6; have kf6 := H6.out.1.frz 6; have K6 := Lib.hid (show DS ws (w7.setCell ⟨G, 6, none⟩ (.slice A6 y8.length c6)) q G t st9 #[.int .i64 y1, .slice A1 y3.length c1, .slice A2 y4.length c2, .slice A3 y5.length c3, .slice A4 y6.length c4, .slice A5 y7.length c5, .slice A6 y8.length c6, .slice none 0 0, .int .i64 y2, .slice none 0 0, .slice none 0 0, .slice none 0 0] 45 from (H6.out.1.set 6 _).to rfl))
            | (go_at_call 29; refine (DS.list K4.out (balances_any (K4.out).rd (K4.out).sz (K4.out).le) (lR_good (balancesR_good (lst t))) E7.out H4.out.2.1 (H4.out.2.1.2 _ 4 _ H4.out.2.2)).mono ?_; rintro e w6 ⟨A5, c5, rfl, H5⟩; have kx5 := H5.out.1.bx HB.out.1 HB.out.2.1; have kz5 : w6.cell? ⟨G, 5, none⟩ = some (.slice none 0 0) := H5.out.1.cell 5; have kf5 := H5.out.1.frz 5; have K5 := Lib.hid (show DS ws (w6.setCell ⟨G, 5, none⟩ (.slice A5 y7.length c5)) q G t st8 #[.int .i64 y1, .slice A1 y3.length c1, .slice A2 y4.length c2, .slice A3 y5.length c3, .slice A4 y6.length c4, .slice A5 y7.length c5, .slice none 0 0, .slice none 0 0, .int .i64 y2, .slice none 0 0, .slice none 0 0, .slice none 0 0] 45 from (H5.out.1.set 5 _).to rfl))
            | (go_at_call 28; refine (DS.list K3.out (baskets_any (K3.out).rd (K3.out).sz (K3.out).le) (lR_good (basketsR_good (lst t))) E6.out H3.out.2.1 (H3.out.2.1.2 _ 3 _ H3.out.2.2)).mono ?_; rintro e w5 ⟨A4, c4, rfl, H4⟩; have kx4 := H4.out.1.bx HB.out.1 HB.out.2.1; have kz4 : w5.cell? ⟨G, 4, none⟩ = some (.slice none 0 0) := H4.out.1.cell 4; have kf4 := H4.out.1.frz 4; have K4 := Lib.hid (show DS ws (w5.setCell ⟨G, 4, none⟩ (.slice A4 y6.length c4)) q G t st7 #[.int .i64 y1, .slice A1 y3.length c1, .slice A2 y4.length c2, .slice A3 y5.length c3, .slice A4 y6.length c4, .slice none 0 0, .slice none 0 0, .slice none 0 0, .int .i64 y2, .slice none 0 0, .slice none 0 0, .slice none 0 0] 45 from (H4.out.1.set 4 _).to rfl))
            | (go_at_call 27; refine (DS.list K2.out (prices_any (K2.out).rd (K2.out).sz (K2.out).le) (lR_good (pricesR_good (lst t))) E5.out H2.out.2.1 (H2.out.2.1.2 _ 2 _ H2.out.2.2)).mono ?_; rintro e w4 ⟨A3, c3, rfl, H3⟩; have kx3 := H3.out.1.bx HB.out.1 HB.out.2.1; have kz3 : w4.cell? ⟨G, 3, none⟩ = some (.slice none 0 0) := H3.out.1.cell 3; have kf3 := H3.out.1.frz 3; have K3 := Lib.hid (show DS ws (w4.setCell ⟨G, 3, none⟩ (.slice A3 y5.length c3)) q G t st6 #[.int .i64 y1, .slice A1 y3.length c1, .slice A2 y4.length c2, .slice A3 y5.length c3, .slice none 0 0, .slice none 0 0, .slice none 0 0, .slice none 0 0, .int .i64 y2, .slice none 0 0, .slice none 0 0, .slice none 0 0] 45 from (H3.out.1.set 3 _).to rfl))
            | (go_at_call 26; refine (DS.list K1.out (assets_any (K1.out).rd (K1.out).sz (K1.out).le) (lR_good (assetsR_good (lst t))) E4.out H1.out.2.1 (H1.out.2.1.2 _ 1 _ H1.out.2.2)).mono ?_; rintro e w3 ⟨A2, c2, rfl, H2⟩; have kx2 := H2.out.1.bx HB.out.1 HB.out.2.1; have kz2 : w3.cell? ⟨G, 2, none⟩ = some (.slice none 0 0) := H2.out.1.cell 2; have kf2 := H2.out.1.frz 2; have K2 := Lib.hid (show DS ws (w3.setCell ⟨G, 2, none⟩ (.slice A2 y4.length c2)) q G t st5 #[.int .i64 y1, .slice A1 y3.length c1, .slice A2 y4.length c2, .slice none 0 0, .slice none 0 0, .slice none 0 0, .slice none 0 0, .slice none 0 0, .int .i64 y2, .slice none 0 0, .slice none 0 0, .slice none 0 0] 45 from (H2.out.1.set 2 _).to rfl))
            | (go_at_call 25; refine (DS.list HD.out (members_any (HD.out).rd (HD.out).sz (HD.out).le) (lR_good (membersR_good (lst t))) E3.out (RS.nil q G) trivial).mono ?_; rintro e w2 ⟨A1, c1, rfl, H1⟩; have kx1 := H1.out.1.bx HB.out.1 HB.out.2.1; have kz1 : w2.cell? ⟨G, 1, none⟩ = some (.slice none 0 0) := H1.out.1.cell 1; have kf1 := H1.out.1.frz 1; have K1 := Lib.hid (show DS ws (w2.setCell ⟨G, 1, none⟩ (.slice A1 y3.length c1)) q G t st4 #[.int .i64 y1, .slice A1 y3.length c1, .slice none 0 0, .slice none 0 0, .slice none 0 0, .slice none 0 0, .slice none 0 0, .slice none 0 0, .int .i64 y2, .slice none 0 0, .slice none 0 0, .slice none 0 0] 45 from (H1.out.1.set 1 _).to rfl)))
          refine bodyPost_ret (results_cell3 rfl _ _ C 45 #[.int .i64 y1, .slice A1 y3.length c1, .slice A2 y4.length c2, .slice A3 y5.length c3, .slice A4 y6.length c4, .slice A5 y7.length c5, .slice A6 y8.length c6, .slice A7 y9.length c7, .int .i64 y2, .slice A9 y10.length c9, .slice A10 y11.length c10, .slice A11 y12.length c11] (0, 0) _ rfl (by exact fill_block hcc.out [.int .i64 y1, .slice A1 y3.length c1, .slice A2 y4.length c2, .slice A3 y5.length c3, .slice A4 y6.length c4, .slice A5 y7.length c5, .slice A6 y8.length c6, .slice A7 y9.length c7, .int .i64 y2, .slice A9 y10.length c9, .slice A10 y11.length c10, .slice A11 y12.length c11] rfl) Try.underlying45 rfl (by kernel_rfl)) rfl ?_
          have hrows := HZ.out.2
          obtain ⟨⟨⟨⟨⟨⟨⟨⟨⟨⟨_, r1⟩, r2⟩, r3⟩, r4⟩, r5⟩, r6⟩, r7⟩, r8⟩, r9⟩, r10⟩ := hrows
          refine ⟨A1, A2, A3, A4, A5, A6, A7, A9, A10, A11, c1, c2, c3, c4, c5, c6, c7, c9, c10, c11, rfl, ⟨?_, ?_⟩⟩
          · exact ⟨(Kd.R_reads' (fill_row HWS.out.2.2.2.1 [.int .i64 y1, .slice A1 y3.length c1, .slice A2 y4.length c2, .slice A3 y5.length c3, .slice A4 y6.length c4, .slice A5 y7.length c5, .slice A6 y8.length c6, .slice A7 y9.length c7, .int .i64 y2, .slice A9 y10.length c9, .slice A10 y11.length c10, .slice A11 y12.length c11] 0 r1)).2.2, (Kd.R_reads' (fill_row HWS.out.2.2.2.1 [.int .i64 y1, .slice A1 y3.length c1, .slice A2 y4.length c2, .slice A3 y5.length c3, .slice A4 y6.length c4, .slice A5 y7.length c5, .slice A6 y8.length c6, .slice A7 y9.length c7, .int .i64 y2, .slice A9 y10.length c9, .slice A10 y11.length c10, .slice A11 y12.length c11] 0 r2)).2.2, (Kd.R_reads' (fill_row HWS.out.2.2.2.1 [.int .i64 y1, .slice A1 y3.length c1, .slice A2 y4.length c2, .slice A3 y5.length c3, .slice A4 y6.length c4, .slice A5 y7.length c5, .slice A6 y8.length c6, .slice A7 y9.length c7, .int .i64 y2, .slice A9 y10.length c9, .slice A10 y11.length c10, .slice A11 y12.length c11] 0 r3)).2.2, (Kd.R_reads' (fill_row HWS.out.2.2.2.1 [.int .i64 y1, .slice A1 y3.length c1, .slice A2 y4.length c2, .slice A3 y5.length c3, .slice A4 y6.length c4, .slice A5 y7.length c5, .slice A6 y8.length c6, .slice A7 y9.length c7, .int .i64 y2, .slice A9 y10.length c9, .slice A10 y11.length c10, .slice A11 y12.length c11] 0 r4)).2.2, (Kd.R_reads' (fill_row HWS.out.2.2.2.1 [.int .i64 y1, .slice A1 y3.length c1, .slice A2 y4.length c2, .slice A3 y5.length c3, .slice A4 y6.length c4, .slice A5 y7.length c5, .slice A6 y8.length c6, .slice A7 y9.length c7, .int .i64 y2, .slice A9 y10.length c9, .slice A10 y11.length c10, .slice A11 y12.length c11] 0 r5)).2.2, (Kd.R_reads' (fill_row HWS.out.2.2.2.1 [.int .i64 y1, .slice A1 y3.length c1, .slice A2 y4.length c2, .slice A3 y5.length c3, .slice A4 y6.length c4, .slice A5 y7.length c5, .slice A6 y8.length c6, .slice A7 y9.length c7, .int .i64 y2, .slice A9 y10.length c9, .slice A10 y11.length c10, .slice A11 y12.length c11] 0 r6)).2.2, (Kd.R_reads' (fill_row HWS.out.2.2.2.1 [.int .i64 y1, .slice A1 y3.length c1, .slice A2 y4.length c2, .slice A3 y5.length c3, .slice A4 y6.length c4, .slice A5 y7.length c5, .slice A6 y8.length c6, .slice A7 y9.length c7, .int .i64 y2, .slice A9 y10.length c9, .slice A10 y11.length c10, .slice A11 y12.length c11] 0 r7)).2.2, (Kd.R_reads' (fill_row HWS.out.2.2.2.1 [.int .i64 y1, .slice A1 y3.length c1, .slice A2 y4.length c2, .slice A3 y5.length c3, .slice A4 y6.length c4, .slice A5 y7.length c5, .slice A6 y8.length c6, .slice A7 y9.length c7, .int .i64 y2, .slice A9 y10.length c9, .slice A10 y11.length c10, .slice A11 y12.length c11] 0 r8)).2.2, (Kd.R_reads' (fill_row HWS.out.2.2.2.1 [.int .i64 y1, .slice A1 y3.length c1, .slice A2 y4.length c2, .slice A3 y5.length c3, .slice A4 y6.length c4, .slice A5 y7.length c5, .slice A6 y8.length c6, .slice A7 y9.length c7, .int .i64 y2, .slice A9 y10.length c9, .slice A10 y11.length c10, .slice A11 y12.length c11] 0 r9)).2.2, (Kd.R_reads' (fill_row HWS.out.2.2.2.1 [.int .i64 y1, .slice A1 y3.length c1, .slice A2 y4.length c2, .slice A3 y5.length c3, .slice A4 y6.length c4, .slice A5 y7.length c5, .slice A6 y8.length c6, .slice A7 y9.length c7, .int .i64 y2, .slice A9 y10.length c9, .slice A10 y11.length c10, .slice A11 y12.length c11] 0 r10)).2.2⟩
          · rw [HCC.out]
            exact fill_below (Nat.le_refl _) [.int .i64 y1, .slice A1 y3.length c1, .slice A2 y4.length c2, .slice A3 y5.length c3, .slice A4 y6.length c4, .slice A5 y7.length c5, .slice A6 y8.length c6, .slice A7 y9.length c7, .int .i64 y2, .slice A9 y10.length c9, .slice A10 y11.length c10, .slice A11 y12.length c11] 0 (grown_below HZ.out.1.gr HWS.out.1 (Nat.le_of_lt HWS.out.2.2.2.1) HWS.out.2.2.2.2.1)
end Go.Proofs.Ythpgjeiglhdciaa.SN

/- The chapter's example. (printed by gen_awake.py) -/
namespace Go.Proofs.Ythpgjeiglhdciaa.SN
open Go Go.RowKit Go.Proofs Go.Proofs.Ythpgjeiglhdciaa.PL Go.Proofs.YthpgjeiglhdciaaW.PrintWords Go.Proofs.YthpgjeiglhdciaaW.PrintLast Go.Proofs.YthpgjeiglhdciaaW.PrintMore
def V7 : VW := ⟨7, 0, [], [], [], [], [], [], [], [], [], []⟩
def B7 : Bs := [14, 0, 0, 0, 0, 0, 0, 0, 0, 0, 0, 0]
theorem encV7 : encV V7 = B7 := by kernel_rfl
theorem viewR7 : viewR B7 ⟨0, 0⟩ = (V7, ⟨12, 0⟩) := by kernel_rfl
theorem endR7 : endR B7 ⟨12, 0⟩ = ⟨12, 0⟩ := by kernel_rfl
theorem encA7 : encA V7 = (mark ++ B7, 0) := by
  unfold encA
  rw [encV7]
  rfl
theorem O7 : VO V7 := ⟨⟨by decide, by decide⟩, ⟨by decide, by decide⟩, fun _ h => absurd h List.not_mem_nil, fun _ h => absurd h List.not_mem_nil, fun _ h => absurd h List.not_mem_nil, fun _ h => absurd h List.not_mem_nil, fun _ h => absurd h List.not_mem_nil, fun _ h => absurd h List.not_mem_nil, fun _ h => absurd h List.not_mem_nil, fun _ h => absurd h List.not_mem_nil, fun _ h => absurd h List.not_mem_nil, fun _ h => absurd h List.not_mem_nil⟩
theorem L7 (w : World) : VL w V7 none none none none none none none none none none := ⟨Kd.C_nil _ _, Kd.C_nil _ _, Kd.C_nil _ _, Kd.C_nil _ _, Kd.C_nil _ _, Kd.C_nil _ _, Kd.C_nil _ _, Kd.C_nil _ _, Kd.C_nil _ _, Kd.C_nil _ _⟩
theorem encode7 (w : World) : Calls Try.prog 8 #[.agg #[.int .i64 7, .slice none 0 0, .slice none 0 0, .slice none 0 0, .slice none 0 0, .slice none 0 0, .slice none 0 0, .slice none 0 0, .int .i64 0, .slice none 0 0, .slice none 0 0, .slice none 0 0]] w fun o w' => o = .returned (.tuple #[.string (bst (mark ++ B7)), .int .i64 0]) ∧ Below w.heap.size w w' := by
  have h := encode_any (L7 w) O7 (c1 := 0) (c2 := 0) (c3 := 0) (c4 := 0) (c5 := 0) (c6 := 0) (c7 := 0) (c9 := 0) (c10 := 0) (c11 := 0) (by rw [encV7]; decide)
  rw [encA7] at h
  exact h
theorem lst7 : lst (bst (mark ++ B7)) = mark ++ B7 := lst_bst _
theorem size7 : (bst (mark ++ B7)).size = 20 := by rw [bst_size]; rfl
theorem cut7 : (bst (mark ++ B7)).extract 8 (bst (mark ++ B7)).size = bst B7 := by
  rw [cut_bst, lst7, size7]
  rfl
theorem decode7 (w : World) : Calls Try.prog 9 #[.string (bst (mark ++ B7))] w fun o w' => ∃ (A1 A2 A3 A4 A5 A6 A7 A9 A10 A11 : Option Addr) (c1 c2 c3 c4 c5 c6 c7 c9 c10 c11 : Nat), o = .returned (.tuple #[.agg #[.int .i64 7, .slice A1 0 c1, .slice A2 0 c2, .slice A3 0 c3, .slice A4 0 c4, .slice A5 0 c5, .slice A6 0 c6, .slice A7 0 c7, .int .i64 0, .slice A9 0 c9, .slice A10 0 c10, .slice A11 0 c11], .int .i64 20, .int .i64 0]) ∧ Below w.heap.size w w' := by
  have hv : viewR (lst (bst B7)) ⟨0, 0⟩ = (V7, ⟨12, 0⟩) := by rw [lst_bst]; exact viewR7
  have hz : endR (lst (bst B7)) ⟨12, 0⟩ = ⟨12, 0⟩ := by rw [lst_bst]; exact endR7
  have h8 : 8 ≤ (bst (mark ++ B7)).size := by rw [size7]; decide
  have h9 : (bst (mark ++ B7)).size ≤ 140737488355328 := by rw [size7]; decide
  have hm : ∀ j, j < 8 → (lst (bst (mark ++ B7)))[j]? = mark[j]? := fun j hj => by rw [lst7, List.getElem?_append_left hj]
  have hzz : (⟨12, 0⟩ : St).e = 0 := rfl
  have h := decode_good (w := w) h8 h9 hm cut7 hv hz hzz
  rw [size7] at h
  refine h.mono ?_
  rintro o w' ⟨A1, A2, A3, A4, A5, A6, A7, A9, A10, A11, c1, c2, c3, c4, c5, c6, c7, c9, c10, c11, rfl, H⟩
  exact ⟨A1, A2, A3, A4, A5, A6, A7, A9, A10, A11, c1, c2, c3, c4, c5, c6, c7, c9, c10, c11, rfl, H.out.2⟩
theorem m7a : ∀ j, j < (⟨#[108, 111, 109, 98, 97, 114, 100]⟩ : ByteArray).size → (lst ⟨#[108, 111, 109, 98, 97, 114, 100]⟩)[j]? = mark[j]? := fun j hj => by
  have h : ∀ i : Fin 7, (lst ⟨#[108, 111, 109, 98, 97, 114, 100]⟩)[i.val]? = mark[i.val]? := by decide
  exact h ⟨j, hj⟩
set_option maxRecDepth 100000 in
set_option maxHeartbeats 2000000 in
theorem awake_walk (w : World) : Calls Try.prog 6 #[] w fun o w' => o = .returned (.bool true) ∧ Below w.heap.size w w' := by
  obtain ⟨S, hS⟩ : ∃ S, bst (mark ++ B7) = S := ⟨_, rfl⟩
  have hsz : S.size = 20 := by rw [← hS]; exact size7
  have he : ∀ w, Calls Try.prog 8 #[.agg #[.int .i64 7, .slice none 0 0, .slice none 0 0, .slice none 0 0, .slice none 0 0, .slice none 0 0, .slice none 0 0, .slice none 0 0, .int .i64 0, .slice none 0 0, .slice none 0 0, .slice none 0 0]] w fun o w' => o = .returned (.tuple #[.string S, .int .i64 0]) ∧ Below w.heap.size w w' := hS ▸ encode7
  have hd := decode7
  rw [hS] at hd
  have HE := Lib.hid he
  have HD := Lib.hid hd
  have HSZ := Lib.hid hsz
  have hsi : ((S.size : Nat) : Int) = 20 := by omega
  clear hS he hd
  go_enter Try.func6, Try.ntmps6
  go_wp2_with (first
    | (go_at_call 8; refine (HE.out _).mono ?_; rintro e w3 ⟨rfl, K3⟩; replace K3 := Lib.hid K3)
    | (go_at_call 9; have hk3 := K3; clear hk3; refine (HD.out _).mono ?_; rintro e w4 ⟨A1, A2, A3, A4, A5, A6, A7, A9, A10, A11, c1, c2, c3, c4, c5, c6, c7, c9, c10, c11, rfl, K4⟩; replace K4 := Lib.hid K4)
    | (go_at_call 9; have hk1 := K1; clear hk1; refine (decode_bad (s := ⟨#[76, 111, 109, 98, 97, 114, 100, 49]⟩) (i := 0) (by decide) (by decide) (fun j hj => absurd hj (Nat.not_lt_zero _)) (by decide)).mono ?_; rintro e w2 ⟨rfl, K2⟩; replace K2 := Lib.hid K2)
    | (go_at_call 9; refine (decode_short (s := ⟨#[108, 111, 109, 98, 97, 114, 100]⟩) (by decide) m7a).mono ?_; rintro e w1 ⟨rfl, K1⟩; replace K1 := Lib.hid K1))
  go_ret
  have b1 := K1.out.alloc K1.out.size (.cells #[.int .i64 0, .slice none 0 0, .slice none 0 0, .slice none 0 0, .slice none 0 0, .slice none 0 0, .slice none 0 0, .slice none 0 0, .int .i64 0, .slice none 0 0, .slice none 0 0, .slice none 0 0] 45)
  have b2 := b1.trans (K2.out.mono b1.size)
  have b3 := b2.alloc b2.size (.cells #[.int .i64 0, .slice none 0 0, .slice none 0 0, .slice none 0 0, .slice none 0 0, .slice none 0 0, .slice none 0 0, .slice none 0 0, .int .i64 0, .slice none 0 0, .slice none 0 0, .slice none 0 0] 45)
  have b4 := b3.trans (K3.out.mono b3.size)
  have b5 := b4.trans (K4.out.mono b4.size)
  exact ⟨rfl, b5.alloc b5.size _⟩
end Go.Proofs.Ythpgjeiglhdciaa.SN

/- same, at two empty views. (printed by gen_same.py) -/
namespace Go.Proofs.Ythpgjeiglhdciaa.SN
open Go Go.RowKit Go.Proofs Go.Proofs.Ythpgjeiglhdciaa.PL Go.Proofs.YthpgjeiglhdciaaW.PrintWords Go.Proofs.YthpgjeiglhdciaaW.PrintLast Go.Proofs.YthpgjeiglhdciaaW.PrintMore
theorem cell_offj {W : World} {P G i j : Nat} {v : Value} (hne : P ≠ G) : (W.setCell ⟨G, i, none⟩ v).cell? ⟨P, j, none⟩ = W.cell? ⟨P, j, none⟩ := by
  have e : (W.setCell ⟨G, i, none⟩ v).heap[P]? = W.heap[P]? := Below.heap_setCell _ _ _ _ hne
  simp only [World.cell?]
  rw [e]
theorem cell_all {P G j : Nat} (hne : P ≠ G) : ∀ (vs : List Value) (i : Nat) {W : World}, (setAll W G vs i).cell? ⟨P, j, none⟩ = W.cell? ⟨P, j, none⟩
  | [], _, _ => rfl
  | v :: r, i, W => (cell_all hne r (i + 1)).trans (cell_offj hne)
/-- The view's own block P and the answer's C stand, as they were laid. -/
structure TB0 (w W : World) (P C : Nat) : Prop where
  p : W.heap[P]? = some (.cells #[.int .i64 0, .slice none 0 0, .slice none 0 0, .slice none 0 0, .slice none 0 0, .slice none 0 0, .slice none 0 0, .slice none 0 0, .int .i64 0, .slice none 0 0, .slice none 0 0, .slice none 0 0] 45 (0, 0))
  c : W.heap[C]? = some (.cells #[.int .i64 0, .slice none 0 0, .slice none 0 0, .slice none 0 0, .slice none 0 0, .slice none 0 0, .slice none 0 0, .int .i64 0, .slice none 0 0, .slice none 0 0, .slice none 0 0] 35 (0, 0))
  b : Below P w W
  pc : P < C
  lt : C < W.heap.size
theorem TB0.up {w W W' : World} {P C : Nat} (h : TB0 w W P C) (hb : Below W.heap.size W W') : TB0 w W' P C :=
  ⟨(hb.block P (Nat.lt_trans h.pc h.lt)).trans h.p, (hb.block C h.lt).trans h.c, h.b.trans (hb.mono (Nat.le_of_lt (Nat.lt_trans h.pc h.lt))), h.pc, Nat.lt_of_lt_of_le h.lt hb.size⟩
theorem TB0.start (w : World) : TB0 w ((w.alloc (.cells #[.int .i64 0, .slice none 0 0, .slice none 0 0, .slice none 0 0, .slice none 0 0, .slice none 0 0, .slice none 0 0, .slice none 0 0, .int .i64 0, .slice none 0 0, .slice none 0 0, .slice none 0 0] 45)).alloc (.cells #[.int .i64 0, .slice none 0 0, .slice none 0 0, .slice none 0 0, .slice none 0 0, .slice none 0 0, .slice none 0 0, .int .i64 0, .slice none 0 0, .slice none 0 0, .slice none 0 0] 35)) w.heap.size (w.heap.size + 1) := by
  have h1 := (Go.MapKept.heap_alloc w (.cells #[.int .i64 0, .slice none 0 0, .slice none 0 0, .slice none 0 0, .slice none 0 0, .slice none 0 0, .slice none 0 0, .slice none 0 0, .int .i64 0, .slice none 0 0, .slice none 0 0, .slice none 0 0] 45)).1
  have h2 := (Go.MapKept.heap_alloc (w.alloc (.cells #[.int .i64 0, .slice none 0 0, .slice none 0 0, .slice none 0 0, .slice none 0 0, .slice none 0 0, .slice none 0 0, .slice none 0 0, .int .i64 0, .slice none 0 0, .slice none 0 0, .slice none 0 0] 45)) (.cells #[.int .i64 0, .slice none 0 0, .slice none 0 0, .slice none 0 0, .slice none 0 0, .slice none 0 0, .slice none 0 0, .int .i64 0, .slice none 0 0, .slice none 0 0, .slice none 0 0] 35)).1
  have hs : (w.alloc (.cells #[.int .i64 0, .slice none 0 0, .slice none 0 0, .slice none 0 0, .slice none 0 0, .slice none 0 0, .slice none 0 0, .slice none 0 0, .int .i64 0, .slice none 0 0, .slice none 0 0, .slice none 0 0] 45)).heap.size = w.heap.size + 1 := by simp
  rw [hs] at h2
  exact ⟨((below_alloc (Below.refl (w.alloc (.cells #[.int .i64 0, .slice none 0 0, .slice none 0 0, .slice none 0 0, .slice none 0 0, .slice none 0 0, .slice none 0 0, .slice none 0 0, .int .i64 0, .slice none 0 0, .slice none 0 0, .slice none 0 0] 45)).heap.size (w.alloc (.cells #[.int .i64 0, .slice none 0 0, .slice none 0 0, .slice none 0 0, .slice none 0 0, .slice none 0 0, .slice none 0 0, .slice none 0 0, .int .i64 0, .slice none 0 0, .slice none 0 0, .slice none 0 0] 45))) _).block w.heap.size (by rw [hs]; exact Nat.lt_succ_self _)).trans h1, h2, ((Below.refl w.heap.size w).alloc (Nat.le_refl _) _).alloc (by rw [hs]; exact Nat.le_succ _) _, Nat.lt_succ_self _, by simp⟩
/-- Behind the first statement: the document's view so far, at block G. -/
structure TG (w W : World) (P C G : Nat) (A : Option Addr) (c : Nat) : Prop where
  t : TB0 w W P C
  g : W.heap[G]? = some (.cells #[.int .i64 0, .slice A 0 c, .slice none 0 0, .slice none 0 0, .slice none 0 0, .slice none 0 0, .slice none 0 0, .int .i64 0, .slice none 0 0, .slice none 0 0, .slice none 0 0] 35 (0, 0))
  lt : C < G
theorem set_heap {G j : Nat} (hne : j ≠ G) : ∀ (vs : List Value) (i : Nat) {W : World}, (setAll W G vs i).heap[j]? = W.heap[j]?
  | [], _, _ => rfl
  | v :: r, i, _ => (set_heap hne r (i + 1)).trans (Below.heap_setCell _ _ _ _ hne)
theorem set_size {G : Nat} : ∀ (vs : List Value) (i : Nat) {W : World}, (setAll W G vs i).heap.size = W.heap.size
  | [], _, _ => rfl
  | v :: r, i, W => (set_size r (i + 1)).trans (by show (W.setCell ⟨G, i, none⟩ v).heap.size = W.heap.size; simp)
theorem TG.new {w w5 : World} {P C : Nat} {A : Option Addr} {c : Nat} (h : TB0 w w5 P C) : TG w (w5.alloc (.cells #[.int .i64 0, .slice A 0 c, .slice none 0 0, .slice none 0 0, .slice none 0 0, .slice none 0 0, .slice none 0 0, .int .i64 0, .slice none 0 0, .slice none 0 0, .slice none 0 0] 35)) P C w5.heap.size A c :=
  ⟨h.up (below_alloc (Below.refl _ _) _), (Go.MapKept.heap_alloc w5 _).1, h.lt⟩
theorem TG.fill {w w5 : World} {P C G : Nat} {A : Option Addr} {c : Nat} (h : TB0 w w5 P C) (hg : w5.heap[G]? = some (.cells #[.int .i64 0, .slice none 0 0, .slice none 0 0, .slice none 0 0, .slice none 0 0, .slice none 0 0, .slice none 0 0, .int .i64 0, .slice none 0 0, .slice none 0 0, .slice none 0 0] 35 (0, 0))) (hG : C < G) : TG w (setAll w5 G [.int .i64 0, .slice A 0 c, .slice none 0 0, .slice none 0 0, .slice none 0 0, .slice none 0 0, .slice none 0 0, .int .i64 0, .slice none 0 0, .slice none 0 0, .slice none 0 0] 0) P C G A c :=
  ⟨⟨(set_heap (Nat.ne_of_lt (Nat.lt_trans h.pc hG)) _ 0).trans h.p, (set_heap (Nat.ne_of_lt hG) _ 0).trans h.c, fill_below (Nat.le_of_lt (Nat.lt_trans h.pc hG)) _ 0 h.b, h.pc, by rw [set_size]; exact h.lt⟩, fill_block hg [.int .i64 0, .slice A 0 c, .slice none 0 0, .slice none 0 0, .slice none 0 0, .slice none 0 0, .slice none 0 0, .int .i64 0, .slice none 0 0, .slice none 0 0, .slice none 0 0] rfl, hG⟩
end Go.Proofs.Ythpgjeiglhdciaa.SN
