/- Part 40 of the proof's texts: what the theorem needs of them. -/
import Derived.Test.YthpgjeiglhdciaaSB38
import Derived.Test.YthpgjeiglhdciaaSB39
import Derived.Test.YthpgjeiglhdciaaSB37

set_option linter.unusedVariables false
set_option linter.unusedSimpArgs false
/- same (function 10) at two views that are the same. (printed by gen_same3.py) -/
namespace Go.Proofs.Ythpgjeiglhdciaa.SN
open Go Go.RowKit Go.Proofs Go.Proofs.Ythpgjeiglhdciaa.PL Go.Proofs.YthpgjeiglhdciaaW.PrintWords Go.Proofs.YthpgjeiglhdciaaW.PrintLast Go.Proofs.YthpgjeiglhdciaaW.PrintMore
theorem RL.below {w w' : World} {V : VR} {A1 A2 A3 A4 A5 A6 A8 A9 A10 : Option Addr} (h : RL w V A1 A2 A3 A4 A5 A6 A8 A9 A10) (hb : Below w.heap.size w w') : RL w' V A1 A2 A3 A4 A5 A6 A8 A9 A10 :=
  ⟨Kd.C_below h.members hb, Kd.C_below h.known hb, Kd.C_below h.baskets hb, Kd.C_below h.balances hb, Kd.C_below h.quotes hb, Kd.C_below h.trades hb, Kd.C_below h.covers hb, Kd.C_below h.inn hb, Kd.C_below h.outs hb⟩
theorem VL.below {w w' : World} {V : VW} {A1 A2 A3 A4 A5 A6 A7 A9 A10 A11 : Option Addr} (h : VL w V A1 A2 A3 A4 A5 A6 A7 A9 A10 A11) (hb : Below w.heap.size w w') : VL w' V A1 A2 A3 A4 A5 A6 A7 A9 A10 A11 :=
  ⟨Kd.C_below h.members hb, Kd.C_below h.assets hb, Kd.C_below h.prices hb, Kd.C_below h.baskets hb, Kd.C_below h.balances hb, Kd.C_below h.quotes hb, Kd.C_below h.trades hb, Kd.C_below h.covers hb, Kd.C_below h.inn hb, Kd.C_below h.outs hb⟩
/-- Its lists, and theirs, are short. -/
structure WR4 (V : VW) : Prop where
  top : WL4 V
  baskets : ∀ x ∈ V.baskets, x.f6.length ≤ 4096 ∧ x.f9.length ≤ 4096
  trades : ∀ x ∈ V.trades, x.f8.length ≤ 4096
  covers : ∀ x ∈ V.covers, x.f1.length ≤ 4096
theorem WR4.told {V : VW} (h : WR4 V) : RB (toldV V) := by
  obtain ⟨h1, h2, h3, h4, h5, h6, h7, h8, h9, h10⟩ := h.top
  refine ⟨⟨?_, ?_, h4, ?_, h6, h7, ?_, ?_, ?_⟩, h.baskets, h.trades, fun x hx => ?_⟩
  · show (V.members.map m55).length ≤ 4096; rw [List.length_map]; exact h1
  · show (V.assets.map (fun a => k59f V.prices a)).length ≤ 4096; rw [List.length_map]; exact h2
  · show (V.balances.map b67).length ≤ 4096; rw [List.length_map]; exact h5
  · show (V.covers.map c76).length ≤ 4096; rw [List.length_map]; exact h8
  · show (V.inn.map l79).length ≤ 4096; rw [List.length_map]; exact h9
  · show (V.outs.map l79).length ≤ 4096; rw [List.length_map]; exact h10
  · have hx2 : x ∈ V.covers.map c76 := hx
    obtain ⟨z, hz, rfl⟩ := List.mem_map.1 hx2
    exact h.covers z hz
set_option maxRecDepth 100000 in
set_option maxHeartbeats 8000000 in
theorem same10_any {w : World} {V : VW} {A1 A2 A3 A4 A5 A6 A7 A9 A10 A11 B1 B2 B3 B4 B5 B6 B7 B9 B10 B11 : Option Addr} {c1 c2 c3 c4 c5 c6 c7 c9 c10 c11 d1 d2 d3 d4 d5 d6 d7 d9 d10 d11 : Nat} (hL : VL w V A1 A2 A3 A4 A5 A6 A7 A9 A10 A11) (hM : VL w V B1 B2 B3 B4 B5 B6 B7 B9 B10 B11) (hC : VC V c1 c2 c3 c4 c5 c6 c7 c9 c10 c11) (hD : VC V d1 d2 d3 d4 d5 d6 d7 d9 d10 d11) (hB : WR4 V) :
    Calls Try.prog 10 #[.agg #[.int .i64 V.day, .slice A1 V.members.length c1, .slice A2 V.assets.length c2, .slice A3 V.prices.length c3, .slice A4 V.baskets.length c4, .slice A5 V.balances.length c5, .slice A6 V.quotes.length c6, .slice A7 V.trades.length c7, .int .i64 V.next, .slice A9 V.covers.length c9, .slice A10 V.inn.length c10, .slice A11 V.outs.length c11], .agg #[.int .i64 V.day, .slice B1 V.members.length d1, .slice B2 V.assets.length d2, .slice B3 V.prices.length d3, .slice B4 V.baskets.length d4, .slice B5 V.balances.length d5, .slice B6 V.quotes.length d6, .slice B7 V.trades.length d7, .int .i64 V.next, .slice B9 V.covers.length d9, .slice B10 V.inn.length d10, .slice B11 V.outs.length d11]] w fun o w' => o = .returned (.bool true) ∧ Below w.heap.size w w' := by
  have HL := Lib.hid hL
  have HM := Lib.hid hM
  have HT38 := Lib.hid (fun W (hb : Below w.heap.size w W) => told_any (hL.below hb) hC hB.top)
  have HU38 := Lib.hid (fun W (hb : Below w.heap.size w W) => told_any (hM.below hb) hD hB.top)
  have HS37 := Lib.hid hB.told
  have HBP := Lib.hid hB.top.prices
  clear hL hM hC hD hB
  go_enter Try.func10, Try.ntmps10
  go_upto_region 1 with (fail)
  have hts := TP.start w #[.int .i64 V.day, .slice A1 V.members.length c1, .slice A2 V.assets.length c2, .slice A3 V.prices.length c3, .slice A4 V.baskets.length c4, .slice A5 V.balances.length c5, .slice A6 V.quotes.length c6, .slice A7 V.trades.length c7, .int .i64 V.next, .slice A9 V.covers.length c9, .slice A10 V.inn.length c10, .slice A11 V.outs.length c11] #[.int .i64 V.day, .slice B1 V.members.length d1, .slice B2 V.assets.length d2, .slice B3 V.prices.length d3, .slice B4 V.baskets.length d4, .slice B5 V.balances.length d5, .slice B6 V.quotes.length d6, .slice B7 V.trades.length d7, .int .i64 V.next, .slice B9 V.covers.length d9, .slice B10 V.inn.length d10, .slice B11 V.outs.length d11] 45 45
  obtain ⟨P, hP⟩ : ∃ P, w.heap.size = P := ⟨_, rfl⟩
  obtain ⟨Q, hQ⟩ : ∃ Q, P + 1 = Q := ⟨_, rfl⟩
  rw [hP, hQ] at hts
  rw [hP, hQ]
  generalize (w.alloc (.cells #[.int .i64 V.day, .slice A1 V.members.length c1, .slice A2 V.assets.length c2, .slice A3 V.prices.length c3, .slice A4 V.baskets.length c4, .slice A5 V.balances.length c5, .slice A6 V.quotes.length c6, .slice A7 V.trades.length c7, .int .i64 V.next, .slice A9 V.covers.length c9, .slice A10 V.inn.length c10, .slice A11 V.outs.length c11] 45)).alloc (.cells #[.int .i64 V.day, .slice B1 V.members.length d1, .slice B2 V.assets.length d2, .slice B3 V.prices.length d3, .slice B4 V.baskets.length d4, .slice B5 V.balances.length d5, .slice B6 V.quotes.length d6, .slice B7 V.trades.length d7, .int .i64 V.next, .slice B9 V.covers.length d9, .slice B10 V.inn.length d10, .slice B11 V.outs.length d11] 45) = W1 at hts ⊢
  have HT1 := Lib.hid hts
  have p0_2 : W1.cell? ⟨P, 2, none⟩ = some (.slice A2 V.assets.length c2) := cellsAt hts.p 2
  have q0_2 : W1.cell? ⟨Q, 2, none⟩ = some (.slice B2 V.assets.length d2) := cellsAt hts.c 2
  have p0_3 : W1.cell? ⟨P, 3, none⟩ = some (.slice A3 V.prices.length c3) := cellsAt hts.p 3
  have q0_3 : W1.cell? ⟨Q, 3, none⟩ = some (.slice B3 V.prices.length d3) := cellsAt hts.c 3
  clear hts hP hQ
  go_wp2_with (fail)
  clear p0_2 q0_2 p0_3 q0_3
  go_loopg [5] (V.prices.length + 1) (fun kq v w' => ∃ k : Nat, v = .int .i64 k ∧ Hid (kq + k = V.prices.length + 1 ∧ k ≤ V.prices.length ∧ TP w w' P Q 45 45 #[.int .i64 V.day, .slice A1 V.members.length c1, .slice A2 V.assets.length c2, .slice A3 V.prices.length c3, .slice A4 V.baskets.length c4, .slice A5 V.balances.length c5, .slice A6 V.quotes.length c6, .slice A7 V.trades.length c7, .int .i64 V.next, .slice A9 V.covers.length c9, .slice A10 V.inn.length c10, .slice A11 V.outs.length c11] #[.int .i64 V.day, .slice B1 V.members.length d1, .slice B2 V.assets.length d2, .slice B3 V.prices.length d3, .slice B4 V.baskets.length d4, .slice B5 V.balances.length d5, .slice B6 V.quotes.length d6, .slice B7 V.trades.length d7, .int .i64 V.next, .slice B9 V.covers.length d9, .slice B10 V.inn.length d10, .slice B11 V.outs.length d11]))
  case atStart => exact ⟨0, rfl, ⟨rfl, Nat.zero_le _, HT1.out⟩⟩
  case round =>
    obtain ⟨k, rfl, HI⟩ := hrel
    have kp : wr.cell? ⟨P, 3, none⟩ = some (.slice A3 V.prices.length c3) := cellsAt HI.out.2.2.p 3
    have kq : wr.cell? ⟨Q, 3, none⟩ = some (.slice B3 V.prices.length d3) := cellsAt HI.out.2.2.c 3
    by_cases hk : k < V.prices.length
    · obtain ⟨ad, hA, x0, x1⟩ := at_T70 HL.out.prices (k : Int) (by omega) (by omega)
      obtain ⟨bd, hBd, z0, z1⟩ := at_T70 HM.out.prices (k : Int) (by omega) (by omega)
      rw [Int.toNat_natCast] at x0 x1 z0 z1
      obtain ⟨x, hx⟩ : ∃ x, rd_T70 V.prices (k : Int) = x := ⟨_, rfl⟩
      rw [hx] at x0 x1 z0 z1
      subst hA
      subst hBd
      obtain ⟨p1, q1⟩ := idx_in hk
      have HW := Lib.hid (idx_next hk (by have := HBP.out; omega))
      have HK := Lib.hid hk
      have hS0 : wr.cell? ⟨P, 3, none⟩ = some (.slice (some ad) V.prices.length c3) ∧ wr.cell? ⟨Q, 3, none⟩ = some (.slice (some bd) V.prices.length d3) ∧ wr.cell? (ad.add (k * 2)) = some (.string x.f0) ∧ wr.cell? ⟨(ad.add (k * 2)).block, (ad.add (k * 2)).off + 1, none⟩ = some (.int .i64 x.f1) ∧ wr.cell? (bd.add (k * 2)) = some (.string x.f0) ∧ wr.cell? ⟨(bd.add (k * 2)).block, (bd.add (k * 2)).off + 1, none⟩ = some (.int .i64 x.f1) := ⟨kp, kq, bel_cell HI.out.2.2.bw x0, bel_cell HI.out.2.2.bw x1, bel_cell HI.out.2.2.bw z0, bel_cell HI.out.2.2.bw z1⟩
      have hSD : wr.drew.cell? ⟨P, 3, none⟩ = some (.slice (some ad) V.prices.length c3) ∧ wr.drew.cell? ⟨Q, 3, none⟩ = some (.slice (some bd) V.prices.length d3) ∧ wr.drew.cell? (ad.add (k * 2)) = some (.string x.f0) ∧ wr.drew.cell? ⟨(ad.add (k * 2)).block, (ad.add (k * 2)).off + 1, none⟩ = some (.int .i64 x.f1) ∧ wr.drew.cell? (bd.add (k * 2)) = some (.string x.f0) ∧ wr.drew.cell? ⟨(bd.add (k * 2)).block, (bd.add (k * 2)).off + 1, none⟩ = some (.int .i64 x.f1) := hS0
      have HD := Lib.hid (HI.out.2.2.up (below_drew (Below.refl _ _)))
      clear hS0 hk hx x0 x1 z0 z1
      go_wp2_with (fail)
      go_region_held3 (fun w' => w'.cell? ⟨P, 3, none⟩ = some (.slice (some ad) V.prices.length c3) ∧ w'.cell? ⟨Q, 3, none⟩ = some (.slice (some bd) V.prices.length d3) ∧ w'.cell? (ad.add (k * 2)) = some (.string x.f0) ∧ w'.cell? ⟨(ad.add (k * 2)).block, (ad.add (k * 2)).off + 1, none⟩ = some (.int .i64 x.f1) ∧ w'.cell? (bd.add (k * 2)) = some (.string x.f0) ∧ w'.cell? ⟨(bd.add (k * 2)).block, (bd.add (k * 2)).off + 1, none⟩ = some (.int .i64 x.f1)) (first | with_reducible assumption) (fail)
      go_wp2_with (fail)
      go_roundg (V.prices.length - k)
      case measure => have := HI.out.1; have := HK.out; omega
      case rel => exact ⟨k + 1, by rw [HW.out], ⟨by have := HI.out.1; have := HK.out; omega, HK.out, HD.out⟩⟩
    · have q1 := idx_out hk
      have HD0 := Lib.hid (HI.out.2.2.up (below_drew (Below.refl _ _)))
      go_upto_region 8 with (fail)
      have kd : wr.drew.cell? ⟨P, 0, none⟩ = some (.int .i64 V.day) ∧ wr.drew.cell? ⟨P, 1, none⟩ = some (.slice A1 V.members.length c1) ∧ wr.drew.cell? ⟨P, 2, none⟩ = some (.slice A2 V.assets.length c2) ∧ wr.drew.cell? ⟨P, 3, none⟩ = some (.slice A3 V.prices.length c3) ∧ wr.drew.cell? ⟨P, 4, none⟩ = some (.slice A4 V.baskets.length c4) ∧ wr.drew.cell? ⟨P, 5, none⟩ = some (.slice A5 V.balances.length c5) ∧ wr.drew.cell? ⟨P, 6, none⟩ = some (.slice A6 V.quotes.length c6) ∧ wr.drew.cell? ⟨P, 7, none⟩ = some (.slice A7 V.trades.length c7) ∧ wr.drew.cell? ⟨P, 8, none⟩ = some (.int .i64 V.next) ∧ wr.drew.cell? ⟨P, 9, none⟩ = some (.slice A9 V.covers.length c9) ∧ wr.drew.cell? ⟨P, 10, none⟩ = some (.slice A10 V.inn.length c10) ∧ wr.drew.cell? ⟨P, 11, none⟩ = some (.slice A11 V.outs.length c11) ∧ wr.drew.cell? ⟨Q, 0, none⟩ = some (.int .i64 V.day) ∧ wr.drew.cell? ⟨Q, 1, none⟩ = some (.slice B1 V.members.length d1) ∧ wr.drew.cell? ⟨Q, 2, none⟩ = some (.slice B2 V.assets.length d2) ∧ wr.drew.cell? ⟨Q, 3, none⟩ = some (.slice B3 V.prices.length d3) ∧ wr.drew.cell? ⟨Q, 4, none⟩ = some (.slice B4 V.baskets.length d4) ∧ wr.drew.cell? ⟨Q, 5, none⟩ = some (.slice B5 V.balances.length d5) ∧ wr.drew.cell? ⟨Q, 6, none⟩ = some (.slice B6 V.quotes.length d6) ∧ wr.drew.cell? ⟨Q, 7, none⟩ = some (.slice B7 V.trades.length d7) ∧ wr.drew.cell? ⟨Q, 8, none⟩ = some (.int .i64 V.next) ∧ wr.drew.cell? ⟨Q, 9, none⟩ = some (.slice B9 V.covers.length d9) ∧ wr.drew.cell? ⟨Q, 10, none⟩ = some (.slice B10 V.inn.length d10) ∧ wr.drew.cell? ⟨Q, 11, none⟩ = some (.slice B11 V.outs.length d11) := ⟨cellsAt HD0.out.p 0, cellsAt HD0.out.p 1, cellsAt HD0.out.p 2, cellsAt HD0.out.p 3, cellsAt HD0.out.p 4, cellsAt HD0.out.p 5, cellsAt HD0.out.p 6, cellsAt HD0.out.p 7, cellsAt HD0.out.p 8, cellsAt HD0.out.p 9, cellsAt HD0.out.p 10, cellsAt HD0.out.p 11, cellsAt HD0.out.c 0, cellsAt HD0.out.c 1, cellsAt HD0.out.c 2, cellsAt HD0.out.c 3, cellsAt HD0.out.c 4, cellsAt HD0.out.c 5, cellsAt HD0.out.c 6, cellsAt HD0.out.c 7, cellsAt HD0.out.c 8, cellsAt HD0.out.c 9, cellsAt HD0.out.c 10, cellsAt HD0.out.c 11⟩
      clear hk q1 kp kq HI
      go_region_held3 (fun w' => w'.cell? ⟨P, 0, none⟩ = some (.int .i64 V.day) ∧ w'.cell? ⟨P, 1, none⟩ = some (.slice A1 V.members.length c1) ∧ w'.cell? ⟨P, 2, none⟩ = some (.slice A2 V.assets.length c2) ∧ w'.cell? ⟨P, 3, none⟩ = some (.slice A3 V.prices.length c3) ∧ w'.cell? ⟨P, 4, none⟩ = some (.slice A4 V.baskets.length c4) ∧ w'.cell? ⟨P, 5, none⟩ = some (.slice A5 V.balances.length c5) ∧ w'.cell? ⟨P, 6, none⟩ = some (.slice A6 V.quotes.length c6) ∧ w'.cell? ⟨P, 7, none⟩ = some (.slice A7 V.trades.length c7) ∧ w'.cell? ⟨P, 8, none⟩ = some (.int .i64 V.next) ∧ w'.cell? ⟨P, 9, none⟩ = some (.slice A9 V.covers.length c9) ∧ w'.cell? ⟨P, 10, none⟩ = some (.slice A10 V.inn.length c10) ∧ w'.cell? ⟨P, 11, none⟩ = some (.slice A11 V.outs.length c11) ∧ w'.cell? ⟨Q, 0, none⟩ = some (.int .i64 V.day) ∧ w'.cell? ⟨Q, 1, none⟩ = some (.slice B1 V.members.length d1) ∧ w'.cell? ⟨Q, 2, none⟩ = some (.slice B2 V.assets.length d2) ∧ w'.cell? ⟨Q, 3, none⟩ = some (.slice B3 V.prices.length d3) ∧ w'.cell? ⟨Q, 4, none⟩ = some (.slice B4 V.baskets.length d4) ∧ w'.cell? ⟨Q, 5, none⟩ = some (.slice B5 V.balances.length d5) ∧ w'.cell? ⟨Q, 6, none⟩ = some (.slice B6 V.quotes.length d6) ∧ w'.cell? ⟨Q, 7, none⟩ = some (.slice B7 V.trades.length d7) ∧ w'.cell? ⟨Q, 8, none⟩ = some (.int .i64 V.next) ∧ w'.cell? ⟨Q, 9, none⟩ = some (.slice B9 V.covers.length d9) ∧ w'.cell? ⟨Q, 10, none⟩ = some (.slice B10 V.inn.length d10) ∧ w'.cell? ⟨Q, 11, none⟩ = some (.slice B11 V.outs.length d11))
        (first | with_reducible assumption)
        (first
          | (go_at_call 37; have hk := HE2; clear hk; refine (same37_any (HR1.out.1.below HB2.out) HR2.out.1 HR1.out.2 HR2.out.2 HS37.out).mono ?_; rintro e w3 ⟨rfl, hb3⟩; have HE3 := Lib.hid (HE2.out.up hb3); have kw3 : w3.cell? ⟨P, 0, none⟩ = some (.int .i64 V.day) ∧ w3.cell? ⟨P, 1, none⟩ = some (.slice A1 V.members.length c1) ∧ w3.cell? ⟨P, 2, none⟩ = some (.slice A2 V.assets.length c2) ∧ w3.cell? ⟨P, 3, none⟩ = some (.slice A3 V.prices.length c3) ∧ w3.cell? ⟨P, 4, none⟩ = some (.slice A4 V.baskets.length c4) ∧ w3.cell? ⟨P, 5, none⟩ = some (.slice A5 V.balances.length c5) ∧ w3.cell? ⟨P, 6, none⟩ = some (.slice A6 V.quotes.length c6) ∧ w3.cell? ⟨P, 7, none⟩ = some (.slice A7 V.trades.length c7) ∧ w3.cell? ⟨P, 8, none⟩ = some (.int .i64 V.next) ∧ w3.cell? ⟨P, 9, none⟩ = some (.slice A9 V.covers.length c9) ∧ w3.cell? ⟨P, 10, none⟩ = some (.slice A10 V.inn.length c10) ∧ w3.cell? ⟨P, 11, none⟩ = some (.slice A11 V.outs.length c11) ∧ w3.cell? ⟨Q, 0, none⟩ = some (.int .i64 V.day) ∧ w3.cell? ⟨Q, 1, none⟩ = some (.slice B1 V.members.length d1) ∧ w3.cell? ⟨Q, 2, none⟩ = some (.slice B2 V.assets.length d2) ∧ w3.cell? ⟨Q, 3, none⟩ = some (.slice B3 V.prices.length d3) ∧ w3.cell? ⟨Q, 4, none⟩ = some (.slice B4 V.baskets.length d4) ∧ w3.cell? ⟨Q, 5, none⟩ = some (.slice B5 V.balances.length d5) ∧ w3.cell? ⟨Q, 6, none⟩ = some (.slice B6 V.quotes.length d6) ∧ w3.cell? ⟨Q, 7, none⟩ = some (.slice B7 V.trades.length d7) ∧ w3.cell? ⟨Q, 8, none⟩ = some (.int .i64 V.next) ∧ w3.cell? ⟨Q, 9, none⟩ = some (.slice B9 V.covers.length d9) ∧ w3.cell? ⟨Q, 10, none⟩ = some (.slice B10 V.inn.length d10) ∧ w3.cell? ⟨Q, 11, none⟩ = some (.slice B11 V.outs.length d11) := ⟨cellsAt HE3.out.p 0, cellsAt HE3.out.p 1, cellsAt HE3.out.p 2, cellsAt HE3.out.p 3, cellsAt HE3.out.p 4, cellsAt HE3.out.p 5, cellsAt HE3.out.p 6, cellsAt HE3.out.p 7, cellsAt HE3.out.p 8, cellsAt HE3.out.p 9, cellsAt HE3.out.p 10, cellsAt HE3.out.p 11, cellsAt HE3.out.c 0, cellsAt HE3.out.c 1, cellsAt HE3.out.c 2, cellsAt HE3.out.c 3, cellsAt HE3.out.c 4, cellsAt HE3.out.c 5, cellsAt HE3.out.c 6, cellsAt HE3.out.c 7, cellsAt HE3.out.c 8, cellsAt HE3.out.c 9, cellsAt HE3.out.c 10, cellsAt HE3.out.c 11⟩; clear hb3)
          | (go_at_call 38; have hk := HE1; clear hk; refine (HU38.out _ HE1.out.bw).mono ?_; rintro e w2 ⟨U1b, U2b, U4b, U8b, U9b, U10b, e1b, e2b, e4b, e8b, e9b, e10b, rfl, h2⟩; have HE2 := Lib.hid (HE1.out.up h2.out.2.2); have kw2 : w2.cell? ⟨P, 0, none⟩ = some (.int .i64 V.day) ∧ w2.cell? ⟨P, 1, none⟩ = some (.slice A1 V.members.length c1) ∧ w2.cell? ⟨P, 2, none⟩ = some (.slice A2 V.assets.length c2) ∧ w2.cell? ⟨P, 3, none⟩ = some (.slice A3 V.prices.length c3) ∧ w2.cell? ⟨P, 4, none⟩ = some (.slice A4 V.baskets.length c4) ∧ w2.cell? ⟨P, 5, none⟩ = some (.slice A5 V.balances.length c5) ∧ w2.cell? ⟨P, 6, none⟩ = some (.slice A6 V.quotes.length c6) ∧ w2.cell? ⟨P, 7, none⟩ = some (.slice A7 V.trades.length c7) ∧ w2.cell? ⟨P, 8, none⟩ = some (.int .i64 V.next) ∧ w2.cell? ⟨P, 9, none⟩ = some (.slice A9 V.covers.length c9) ∧ w2.cell? ⟨P, 10, none⟩ = some (.slice A10 V.inn.length c10) ∧ w2.cell? ⟨P, 11, none⟩ = some (.slice A11 V.outs.length c11) ∧ w2.cell? ⟨Q, 0, none⟩ = some (.int .i64 V.day) ∧ w2.cell? ⟨Q, 1, none⟩ = some (.slice B1 V.members.length d1) ∧ w2.cell? ⟨Q, 2, none⟩ = some (.slice B2 V.assets.length d2) ∧ w2.cell? ⟨Q, 3, none⟩ = some (.slice B3 V.prices.length d3) ∧ w2.cell? ⟨Q, 4, none⟩ = some (.slice B4 V.baskets.length d4) ∧ w2.cell? ⟨Q, 5, none⟩ = some (.slice B5 V.balances.length d5) ∧ w2.cell? ⟨Q, 6, none⟩ = some (.slice B6 V.quotes.length d6) ∧ w2.cell? ⟨Q, 7, none⟩ = some (.slice B7 V.trades.length d7) ∧ w2.cell? ⟨Q, 8, none⟩ = some (.int .i64 V.next) ∧ w2.cell? ⟨Q, 9, none⟩ = some (.slice B9 V.covers.length d9) ∧ w2.cell? ⟨Q, 10, none⟩ = some (.slice B10 V.inn.length d10) ∧ w2.cell? ⟨Q, 11, none⟩ = some (.slice B11 V.outs.length d11) := ⟨cellsAt HE2.out.p 0, cellsAt HE2.out.p 1, cellsAt HE2.out.p 2, cellsAt HE2.out.p 3, cellsAt HE2.out.p 4, cellsAt HE2.out.p 5, cellsAt HE2.out.p 6, cellsAt HE2.out.p 7, cellsAt HE2.out.p 8, cellsAt HE2.out.p 9, cellsAt HE2.out.p 10, cellsAt HE2.out.p 11, cellsAt HE2.out.c 0, cellsAt HE2.out.c 1, cellsAt HE2.out.c 2, cellsAt HE2.out.c 3, cellsAt HE2.out.c 4, cellsAt HE2.out.c 5, cellsAt HE2.out.c 6, cellsAt HE2.out.c 7, cellsAt HE2.out.c 8, cellsAt HE2.out.c 9, cellsAt HE2.out.c 10, cellsAt HE2.out.c 11⟩; have HR2 := Lib.hid (And.intro h2.out.1 h2.out.2.1); have HB2 := Lib.hid h2.out.2.2; clear h2)
          | (go_at_call 38; refine (HT38.out _ HD0.out.bw).mono ?_; rintro e w1 ⟨U1a, U2a, U4a, U8a, U9a, U10a, e1a, e2a, e4a, e8a, e9a, e10a, rfl, h1⟩; have HE1 := Lib.hid (HD0.out.up h1.out.2.2); have kw1 : w1.cell? ⟨P, 0, none⟩ = some (.int .i64 V.day) ∧ w1.cell? ⟨P, 1, none⟩ = some (.slice A1 V.members.length c1) ∧ w1.cell? ⟨P, 2, none⟩ = some (.slice A2 V.assets.length c2) ∧ w1.cell? ⟨P, 3, none⟩ = some (.slice A3 V.prices.length c3) ∧ w1.cell? ⟨P, 4, none⟩ = some (.slice A4 V.baskets.length c4) ∧ w1.cell? ⟨P, 5, none⟩ = some (.slice A5 V.balances.length c5) ∧ w1.cell? ⟨P, 6, none⟩ = some (.slice A6 V.quotes.length c6) ∧ w1.cell? ⟨P, 7, none⟩ = some (.slice A7 V.trades.length c7) ∧ w1.cell? ⟨P, 8, none⟩ = some (.int .i64 V.next) ∧ w1.cell? ⟨P, 9, none⟩ = some (.slice A9 V.covers.length c9) ∧ w1.cell? ⟨P, 10, none⟩ = some (.slice A10 V.inn.length c10) ∧ w1.cell? ⟨P, 11, none⟩ = some (.slice A11 V.outs.length c11) ∧ w1.cell? ⟨Q, 0, none⟩ = some (.int .i64 V.day) ∧ w1.cell? ⟨Q, 1, none⟩ = some (.slice B1 V.members.length d1) ∧ w1.cell? ⟨Q, 2, none⟩ = some (.slice B2 V.assets.length d2) ∧ w1.cell? ⟨Q, 3, none⟩ = some (.slice B3 V.prices.length d3) ∧ w1.cell? ⟨Q, 4, none⟩ = some (.slice B4 V.baskets.length d4) ∧ w1.cell? ⟨Q, 5, none⟩ = some (.slice B5 V.balances.length d5) ∧ w1.cell? ⟨Q, 6, none⟩ = some (.slice B6 V.quotes.length d6) ∧ w1.cell? ⟨Q, 7, none⟩ = some (.slice B7 V.trades.length d7) ∧ w1.cell? ⟨Q, 8, none⟩ = some (.int .i64 V.next) ∧ w1.cell? ⟨Q, 9, none⟩ = some (.slice B9 V.covers.length d9) ∧ w1.cell? ⟨Q, 10, none⟩ = some (.slice B10 V.inn.length d10) ∧ w1.cell? ⟨Q, 11, none⟩ = some (.slice B11 V.outs.length d11) := ⟨cellsAt HE1.out.p 0, cellsAt HE1.out.p 1, cellsAt HE1.out.p 2, cellsAt HE1.out.p 3, cellsAt HE1.out.p 4, cellsAt HE1.out.p 5, cellsAt HE1.out.p 6, cellsAt HE1.out.p 7, cellsAt HE1.out.p 8, cellsAt HE1.out.p 9, cellsAt HE1.out.p 10, cellsAt HE1.out.p 11, cellsAt HE1.out.c 0, cellsAt HE1.out.c 1, cellsAt HE1.out.c 2, cellsAt HE1.out.c 3, cellsAt HE1.out.c 4, cellsAt HE1.out.c 5, cellsAt HE1.out.c 6, cellsAt HE1.out.c 7, cellsAt HE1.out.c 8, cellsAt HE1.out.c 9, cellsAt HE1.out.c 10, cellsAt HE1.out.c 11⟩; have HR1 := Lib.hid (And.intro h1.out.1 h1.out.2.1); clear h1))
      all_goals
        go_wp2_with (fail)
        go_ret
        exact ⟨rfl, HE3.out.bw⟩
end Go.Proofs.Ythpgjeiglhdciaa.SN

/- How long is what is written of a view whose lists and texts are short. -/
namespace Go.Proofs.Ythpgjeiglhdciaa.SN
open Go Go.RowKit Go.Proofs Go.Proofs.Ythpgjeiglhdciaa.PL Go.Proofs.YthpgjeiglhdciaaW.PrintWords Go.Proofs.YthpgjeiglhdciaaW.PrintLast Go.Proofs.YthpgjeiglhdciaaW.PrintMore
theorem encH_len : ∀ (k n : Nat), n < 128 ^ (k + 1) → (encH n).length ≤ k + 1
  | 0, n, h => by rw [encH_small (by simpa using h)]; exact Nat.le_refl _
  | k + 1, n, h => by
    by_cases hn : n < 128
    · rw [encH_small hn]
      show 1 ≤ _
      omega
    · have e := encH_step (n := n / 128) (c := n % 128) (by omega) (Nat.mod_lt _ (by omega))
      have e2 : n / 128 * 128 + n % 128 = n := by omega
      rw [e2] at e
      rw [e, List.length_append]
      have h2 : n / 128 < 128 ^ (k + 1) := by
        rw [Nat.pow_succ] at h
        exact (Nat.div_lt_iff_lt_mul (by omega)).2 h
      have := encH_len k (n / 128) h2
      show _ + 1 ≤ _
      omega
theorem encU_len {n : Nat} (h : n < 18446744073709551616) : (encU n).length ≤ 10 := by
  unfold encU
  split
  · show 1 ≤ 10
    omega
  · rw [List.length_append]
    have := encH_len 8 (n / 128) (by show n / 128 < 9223372036854775808; omega)
    show _ + 1 ≤ 10
    omega
theorem encI_len {n : Int} (h : I64 n) : (encI n).length ≤ 10 := by
  refine encU_len ?_
  unfold zig
  unfold I64 at h
  split <;> omega
theorem encT_len {t : ByteArray} (h : tx t) : (encT (lst t)).length ≤ 170 := by
  have h1 : (lst t).length ≤ 160 := h
  unfold encT
  rw [List.length_append]
  have := encU_len (n := (lst t).length) (by omega)
  omega
theorem flat_len {α : Type} {e : α → Bs} {b : Nat} : ∀ {l : List α}, (∀ x ∈ l, (e x).length ≤ b) → ((l.map e).flatten).length ≤ l.length * b
  | [], _ => by simp
  | x :: r, h => by
    rw [List.map_cons, List.flatten_cons, List.length_append, List.length_cons, Nat.add_mul, Nat.one_mul]
    have h1 := h x List.mem_cons_self
    have h2 := flat_len (e := e) (l := r) (fun y hy => h y (List.mem_cons_of_mem _ hy))
    omega
theorem encLs_len {α : Type} {e : α → Bs} {b : Nat} {l : List α} (hn : l.length ≤ 4096) (h : ∀ x ∈ l, (e x).length ≤ b) : (encL e l).length ≤ 10 + 4096 * b := by
  unfold encL
  rw [List.length_append]
  have h1 := encU_len (n := l.length) (by omega)
  have h2 := flat_len h
  have h3 := Nat.mul_le_mul_right b hn
  omega
theorem view_len {V : VW} (h : VO V) (hs : VS V) : (encV V).length + 20 ≤ 140737488355328 := by
  have l1 : (encL membersE V.members).length ≤ 10 + 4096 * 201 := encLs_len hs.members.1 (fun x hx => by
    obtain ⟨a, b, c⟩ := h.members x hx
    have := encI_len a; have := encI_len b; have := encI_len c; have := encT_len (hs.members.2 x hx)
    have : (encB x.f4).length = 1 := rfl
    simp only [membersE, List.length_append]; omega)
  have l2 : (encL assetsE V.assets).length ≤ 10 + 4096 * 370 := encLs_len hs.assets.1 (fun x hx => by
    obtain ⟨a, b, c⟩ := h.assets x hx
    have := encI_len a; have := encI_len b; have := encI_len c; have := encT_len (hs.assets.2 x hx).1; have := encT_len (hs.assets.2 x hx).2
    simp only [assetsE, List.length_append]; omega)
  have l3 : (encL pricesE V.prices).length ≤ 10 + 4096 * 180 := encLs_len hs.prices.1 (fun x hx => by
    have := encI_len (h.prices x hx); have := encT_len (hs.prices.2 x hx)
    simp only [pricesE, List.length_append]; omega)
  have l4 : (encL basketsE V.baskets).length ≤ 10 + 4096 * (240 + (10 + 4096 * 30) + (10 + 4096 * 10)) := encLs_len hs.baskets.1 (fun x hx => by
    obtain ⟨⟨a, b, c, d, e, f, g⟩, hc, hi⟩ := h.baskets x hx
    have := encI_len a; have := encI_len b; have := encI_len c; have := encI_len d; have := encI_len e; have := encI_len f; have := encI_len g; have := encT_len (hs.baskets.2 x hx).1
    have k1 : (encL cutE x.f6).length ≤ 10 + 4096 * 30 := encLs_len (hs.baskets.2 x hx).2.1 (fun y hy => by
      obtain ⟨a, b, c⟩ := hc y hy
      have := encI_len a; have := encI_len b; have := encI_len c
      simp only [cutE, List.length_append]; omega)
    have k2 : (encL encI x.f9).length ≤ 10 + 4096 * 10 := encLs_len (hs.baskets.2 x hx).2.2 (fun y hy => encI_len (hi y hy))
    simp only [basketsE, List.length_append]; omega)
  have l5 : (encL balancesE V.balances).length ≤ 10 + 4096 * 200 := encLs_len hs.balances.1 (fun x hx => by
    obtain ⟨a, b, c⟩ := h.balances x hx
    have := encI_len a; have := encI_len b; have := encI_len c; have := encT_len (hs.balances.2 x hx)
    simp only [balancesE, List.length_append]; omega)
  have l6 : (encL quotesE V.quotes).length ≤ 10 + 4096 * 80 := encLs_len hs.quotes (fun x hx => by
    obtain ⟨a, b, c, d, e, f, g, i⟩ := h.quotes x hx
    have := encI_len a; have := encI_len b; have := encI_len c; have := encI_len d; have := encI_len e; have := encI_len f; have := encI_len g; have := encI_len i
    simp only [quotesE, List.length_append]; omega)
  have l7 : (encL tradesE V.trades).length ≤ 10 + 4096 * (91 + (10 + 4096 * 20)) := encLs_len hs.trades.1 (fun x hx => by
    obtain ⟨⟨a, b, c, d, e, f, g, i, j⟩, hr⟩ := h.trades x hx
    have := encI_len a; have := encI_len b; have := encI_len c; have := encI_len d; have := encI_len e; have := encI_len f; have := encI_len g; have := encI_len i; have := encI_len j
    have : (encB x.f10).length = 1 := rfl
    have k1 : (encL resetE x.f8).length ≤ 10 + 4096 * 20 := encLs_len (hs.trades.2 x hx) (fun y hy => by
      obtain ⟨a, b⟩ := hr y hy
      have := encI_len a; have := encI_len b
      simp only [resetE, List.length_append]; omega)
    simp only [tradesE, List.length_append]; omega)
  have l8 : (encL coversE V.covers).length ≤ 10 + 4096 * (10 + (10 + 4096 * 180)) := encLs_len hs.covers.1 (fun x hx => by
    obtain ⟨a, hr⟩ := h.covers x hx
    have := encI_len a
    have k1 : (encL lotE x.f1).length ≤ 10 + 4096 * 180 := encLs_len (hs.covers.2 x hx).1 (fun y hy => by
      have := encI_len (hr y hy); have := encT_len ((hs.covers.2 x hx).2 y hy)
      simp only [lotE, List.length_append]; omega)
    simp only [coversE, List.length_append]; omega)
  have l9 : (encL linksE V.inn).length ≤ 10 + 4096 * 200 := encLs_len hs.inn.1 (fun x hx => by
    obtain ⟨a, b, c⟩ := h.inn x hx
    have := encI_len a; have := encI_len b; have := encI_len c; have := encT_len (hs.inn.2 x hx)
    simp only [linksE, List.length_append]; omega)
  have l10 : (encL linksE V.outs).length ≤ 10 + 4096 * 200 := encLs_len hs.outs.1 (fun x hx => by
    obtain ⟨a, b, c⟩ := h.outs x hx
    have := encI_len a; have := encI_len b; have := encI_len c; have := encT_len (hs.outs.2 x hx)
    simp only [linksE, List.length_append]; omega)
  have i1 := encI_len h.day
  have i2 := encI_len h.next
  simp only [encV, enL, List.map_cons, List.map_nil, List.flatten_cons, List.flatten_nil, List.length_append, List.length_nil]
  omega
end Go.Proofs.Ythpgjeiglhdciaa.SN
