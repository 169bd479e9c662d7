/- Part 42 of the proof's texts: what the theorem needs of them. -/
import Derived.Test.YthpgjeiglhdciaaSB37
import Derived.Deep.RegionHeld3

set_option linter.unusedVariables false
set_option linter.unusedSimpArgs false
/- The program's view of the document's (function 7). (printed by gen_view.py) -/
namespace Go.Proofs.Ythpgjeiglhdciaa.SN
open Go Go.RowKit Go.Proofs Go.Proofs.Ythpgjeiglhdciaa.PL Go.Proofs.YthpgjeiglhdciaaW.PrintWords Go.Proofs.YthpgjeiglhdciaaW.PrintLast Go.Proofs.YthpgjeiglhdciaaW.PrintMore
attribute [local go_sem] id_eq
set_option maxRecDepth 100000 in
set_option maxHeartbeats 8000000 in
theorem of_any {w : World} {V : VR} {A1 A2 A3 A4 A5 A6 A8 A9_ A10_ : Option Addr} {c1 c2 c3 c4 c5 c6 c8 c9_ c10_ : Nat} (hL : RL w V A1 A2 A3 A4 A5 A6 A8 A9_ A10_) (hB : VB V) :
    Calls Try.prog 7 #[.agg #[.int .i64 V.day, .slice A1 V.members.length c1, .slice A2 V.known.length c2, .slice A3 V.baskets.length c3, .slice A4 V.balances.length c4, .slice A5 V.quotes.length c5, .slice A6 V.trades.length c6, .int .i64 V.next, .slice A8 V.covers.length c8, .slice A9_ V.inn.length c9_, .slice A10_ V.outs.length c10_]] w fun o w' => ∃ (B1 B2 B3 B5 B9 B10 B11 : Option Addr) (d1 d2 d3 d5 d9 d10 d11 : Nat), o = .returned (.agg #[.int .i64 V.day, .slice B1 (ofV V).members.length d1, .slice B2 (ofV V).assets.length d2, .slice B3 (ofV V).prices.length d3, .slice A3 V.baskets.length c3, .slice B5 (ofV V).balances.length d5, .slice A5 V.quotes.length c5, .slice A6 V.trades.length c6, .int .i64 V.next, .slice B9 (ofV V).covers.length d9, .slice B10 (ofV V).inn.length d10, .slice B11 (ofV V).outs.length d11]) ∧ Hid (VL w' (ofV V) B1 B2 B3 A3 B5 A5 A6 B9 B10 B11 ∧ ((ofV V).members.length ≤ d1 ∧ (ofV V).assets.length ≤ d2 ∧ (ofV V).prices.length ≤ d3 ∧ (ofV V).balances.length ≤ d5 ∧ (ofV V).covers.length ≤ d9 ∧ (ofV V).inn.length ≤ d10 ∧ (ofV V).outs.length ≤ d11) ∧ Below w.heap.size w w') := by
  have HL := Lib.hid hL
  have HB := Lib.hid hB
  clear hL hB
  go_enter Try.func7, Try.ntmps7
  go_upto_region 2 with (fail)
  have hts := TV.start w #[.int .i64 V.day, .slice A1 V.members.length c1, .slice A2 V.known.length c2, .slice A3 V.baskets.length c3, .slice A4 V.balances.length c4, .slice A5 V.quotes.length c5, .slice A6 V.trades.length c6, .int .i64 V.next, .slice A8 V.covers.length c8, .slice A9_ V.inn.length c9_, .slice A10_ V.outs.length c10_] #[.int .i64 0, .slice none 0 0, .slice none 0 0, .slice none 0 0, .slice none 0 0, .slice none 0 0, .slice none 0 0, .slice none 0 0, .int .i64 0, .slice none 0 0, .slice none 0 0, .slice none 0 0] #[.int .i64 V.day, .slice none 0 0, .slice none 0 0, .slice none 0 0, .slice A3 V.baskets.length c3, .slice none 0 0, .slice A5 V.quotes.length c5, .slice A6 V.trades.length c6, .int .i64 V.next, .slice none 0 0, .slice none 0 0, .slice none 0 0] 35 45
  obtain ⟨P, hP⟩ : ∃ P, w.heap.size = P := ⟨_, rfl⟩
  obtain ⟨C, hC⟩ : ∃ C, P + 1 = C := ⟨_, rfl⟩
  obtain ⟨G, hG⟩ : ∃ G, C + 1 = G := ⟨_, rfl⟩
  rw [hP, hC, show P + 2 = G by omega] at hts
  rw [hP]
  try rw [hC]
  try rw [hG]
  generalize ((w.alloc (.cells #[.int .i64 V.day, .slice A1 V.members.length c1, .slice A2 V.known.length c2, .slice A3 V.baskets.length c3, .slice A4 V.balances.length c4, .slice A5 V.quotes.length c5, .slice A6 V.trades.length c6, .int .i64 V.next, .slice A8 V.covers.length c8, .slice A9_ V.inn.length c9_, .slice A10_ V.outs.length c10_] 35)).alloc (.cells #[.int .i64 0, .slice none 0 0, .slice none 0 0, .slice none 0 0, .slice none 0 0, .slice none 0 0, .slice none 0 0, .slice none 0 0, .int .i64 0, .slice none 0 0, .slice none 0 0, .slice none 0 0] 45)).alloc (.cells #[.int .i64 V.day, .slice none 0 0, .slice none 0 0, .slice none 0 0, .slice A3 V.baskets.length c3, .slice none 0 0, .slice A5 V.quotes.length c5, .slice A6 V.trades.length c6, .int .i64 V.next, .slice none 0 0, .slice none 0 0, .slice none 0 0] 45) = W0 at hts ⊢
  have HT0 := Lib.hid hts
  have HS0 := Lib.hid (And.intro (FS.nil G) (show (fun _ : World => True) W0 from trivial))
  have HPP := Lib.hid hP
  clear hts hP hC hG
  go_wp2_with (fail)
  go_loopg [4] (V.members.length + 1) (fun kq v w' => ∃ (k : Nat) (d1 : Nat) (B1 : Option Addr), v = .int .i64 k ∧ Hid (kq + k = V.members.length + 1 ∧ k ≤ V.members.length ∧ LS k68 68 w W0 w' P C G 35 45 #[.int .i64 V.day, .slice A1 V.members.length c1, .slice A2 V.known.length c2, .slice A3 V.baskets.length c3, .slice A4 V.balances.length c4, .slice A5 V.quotes.length c5, .slice A6 V.trades.length c6, .int .i64 V.next, .slice A8 V.covers.length c8, .slice A9_ V.inn.length c9_, .slice A10_ V.outs.length c10_] #[.int .i64 0, .slice none 0 0, .slice none 0 0, .slice none 0 0, .slice none 0 0, .slice none 0 0, .slice none 0 0, .slice none 0 0, .int .i64 0, .slice none 0 0, .slice none 0 0, .slice none 0 0] #[.int .i64 V.day, .slice B1 k d1, .slice none 0 0, .slice none 0 0, .slice A3 V.baskets.length c3, .slice none 0 0, .slice A5 V.quotes.length c5, .slice A6 V.trades.length c6, .int .i64 V.next, .slice none 0 0, .slice none 0 0, .slice none 0 0] (.slice B1 k d1) ((V.members.take k).map m68)))
  case atStart => exact ⟨0, 0, none, rfl, ⟨rfl, Nat.zero_le _, LS.start HT0.out⟩⟩
  case round =>
    obtain ⟨k, d1, B1, rfl, HI⟩ := hrel
    have kp1 : wr.cell? ⟨P, 1, none⟩ = some (.slice A1 V.members.length c1) := HI.out.2.2.t.cellP 1
    by_cases hk : k < V.members.length
    · obtain ⟨ad, hA, x0, x1, x2, x3, x4⟩ := at_T55 HL.out.members (k : Int) (by omega) (by omega)
      rw [Int.toNat_natCast] at x0 x1 x2 x3 x4
      obtain ⟨x, hx⟩ : ∃ x, rd_T55 V.members (k : Int) = x := ⟨_, rfl⟩
      rw [hx] at x0 x1 x2 x3 x4
      obtain ⟨hx1, hm⟩ := getD_some (z := z55) (x := x) hk (by rw [← hx]; unfold rd_T55; rw [Int.toNat_natCast])
      subst hA
      obtain ⟨p1, q1⟩ := idx_in hk
      have HW := Lib.hid (idx_next hk (by have := HB.out.members; omega))
      have HK := Lib.hid hk
      have HX := Lib.hid hx1
      have HE := Lib.hid (And.intro x0 (And.intro x1 (And.intro x2 (And.intro x3 x4))))
      have HU1 := Lib.hid (show (((V.members.take k).map m68).length + 1) * 48 ≤ 140737488355328 by rw [map_len _ (Nat.le_of_lt hk)]; have := HB.out.members; omega)
      clear hk hx1 hm hx
      have x0_ : True := trivial
      have y0 := bel_cell HI.out.2.2.t.bw x0; have y1 := bel_cell HI.out.2.2.t.bw x1; have y2 := bel_cell HI.out.2.2.t.bw x2; have y3 := bel_cell HI.out.2.2.t.bw x3; have y4 := bel_cell HI.out.2.2.t.bw x4; go_upto_region 6 with (fail)
      obtain ⟨WL, hWL⟩ : ∃ W, wr.alloc (.cells #[.int .i64 x.f0, .string x.f1, .int .i64 x.f2, .int .i64 x.f3, .bool x.f4] 55) = W := ⟨_, rfl⟩
      obtain ⟨L, hL⟩ : ∃ L, wr.heap.size = L := ⟨_, rfl⟩
      have hbl : Below wr.heap.size wr WL := hWL ▸ below_alloc (Below.refl _ _) _
      have hhl : WL.heap[L]? = some (.cells #[.int .i64 x.f0, .string x.f1, .int .i64 x.f2, .int .i64 x.f3, .bool x.f4] 55 (0, 0)) := hWL ▸ hL ▸ (Go.MapKept.heap_alloc wr _).1
      rw [hWL, hL]
      have HQ := Lib.hid (HI.out.2.2.below hbl)
      have e0 : WL.cell? ⟨L, 0, none⟩ = some (.int .i64 x.f0) := cellsAt hhl 0
      have e1 : WL.cell? ⟨L, 1, none⟩ = some (.string x.f1) := cellsAt hhl 1
      have e2 : WL.cell? ⟨L, 2, none⟩ = some (.int .i64 x.f2) := cellsAt hhl 2
      have e3 : WL.cell? ⟨L, 3, none⟩ = some (.int .i64 x.f3) := cellsAt hhl 3
      have e4 : WL.cell? ⟨L, 4, none⟩ = some (.bool x.f4) := cellsAt hhl 4
      have HH := Lib.hid (And.intro hhl hbl)
      have HLG := Lib.hid (show G < L from hL ▸ HI.out.2.2.t.lt)
      clear hWL hL hbl hhl kp1 y0 y1 y2 y3 y4 x0 x1 x2 x3 x4
      have kG : WL.cell? ⟨G, 1, none⟩ = some (.slice B1 k d1) := HQ.out.t.cellG 1
      go_wp2_with (at_builtin; refine Kd.R_append k68 (w0 := WL) (W := WL) W0.heap.size (by rfl) (.tmp 40) (.tmp 52) 38 68 (.agg #[(.int .i64 0), (.string ⟨#[]⟩), (.int .i64 0), (.int .i64 0), (.bool false)]) 48 rfl Try.underlying38 info68 rfl (by decide) (by decide) (.slice B1 k d1) ((V.members.take k).map m68) ⟨x.f0, x.f1, x.f2, x.f3, x.f4⟩ [.int .i64 x.f0, .string x.f1, .int .i64 x.f2, .int .i64 x.f3, .bool x.f4] (fun k => k ≠ G) (fun _ => False) rfl rfl (k68_mkM _ _ _ _) (fun _ h => h.elim) HQ.out.fresh HQ.out.r (Below.refl _ _) HQ.out.le HU1.out ?_; intro v1 wz ho hb hg5 hat; obtain ⟨A9, c9, rfl, h5⟩ := HQ.out.app_ (map_len _ (Nat.le_of_lt HK.out)) ho hg5; have H5 := Lib.hid h5; have fz := H5.out.t.frz 1; have cz : wz.cell? ⟨G, 1, none⟩ = some (.slice B1 k d1) := H5.out.t.cellG 1; clear ho hb hg5 hat h5)
      go_roundg (V.members.length - k)
      case measure => have := HI.out.1; have := HK.out; omega
      case rel =>
        have h9 := H5.out.set 1 (.slice A9 (k + 1) c9)
        rw [show (V.members.take k).map m68 ++ [⟨x.f0, x.f1, x.f2, x.f3, x.f4⟩] = (V.members.take (k + 1)).map m68 from (map_next m68 HX.out).symm] at h9
        exact ⟨k + 1, c9, A9, by rw [HW.out], ⟨by have := HI.out.1; have := HK.out; omega, HK.out, h9.to rfl⟩⟩
    · have q1 := idx_out hk
      obtain rfl : k = V.members.length := by have := HI.out.2.1; omega
      have hl := HI.out.2.2
      rw [List.take_length] at hl
      have HT1 := Lib.hid hl.t
      have HS1 := Lib.hid (And.intro (FS.snoc (d := k68) (e := 68) (b := W0.heap.size) (v := (.slice B1 V.members.length d1)) (xs := (V.members.map m68)) HS0.out.1) (And.intro (HS0.out.1 _ _ hl.gr HS0.out.2) hl.r))
      go_wp2_with (fail)
      clear hk hl HI q1 kp1 HS0
      rename World => W1
      go_loopg [6] (V.known.length + 1) (fun kq v w' => ∃ (k : Nat) (d2 : Nat) (d3 : Nat) (B2 : Option Addr) (B3 : Option Addr), v = .int .i64 k ∧ Hid (kq + k = V.known.length + 1 ∧ k ≤ V.known.length ∧ LS k57 57 w W1 w' P C G 35 45 #[.int .i64 V.day, .slice A1 V.members.length c1, .slice A2 V.known.length c2, .slice A3 V.baskets.length c3, .slice A4 V.balances.length c4, .slice A5 V.quotes.length c5, .slice A6 V.trades.length c6, .int .i64 V.next, .slice A8 V.covers.length c8, .slice A9_ V.inn.length c9_, .slice A10_ V.outs.length c10_] #[.int .i64 0, .slice none 0 0, .slice none 0 0, .slice none 0 0, .slice none 0 0, .slice none 0 0, .slice none 0 0, .slice none 0 0, .int .i64 0, .slice none 0 0, .slice none 0 0, .slice none 0 0] #[.int .i64 V.day, .slice B1 V.members.length d1, .slice B2 k d2, .slice B3 k d3, .slice A3 V.baskets.length c3, .slice none 0 0, .slice A5 V.quotes.length c5, .slice A6 V.trades.length c6, .int .i64 V.next, .slice none 0 0, .slice none 0 0, .slice none 0 0] (.slice B2 k d2) ((V.known.take k).map a57) ∧ k70.R 70 w' W1.heap.size (fun k => k ≠ G) (.slice B3 k d3) ((V.known.take k).map p70)))
      case atStart => exact ⟨0, 0, 0, none, none, rfl, ⟨rfl, Nat.zero_le _, LS.start HT1.out, Kd.R_nil _ _ _ _ _⟩⟩
      case round =>
        obtain ⟨k, d2, d3, B2, B3, rfl, HI⟩ := hrel
        have kp1 : wr.cell? ⟨P, 2, none⟩ = some (.slice A2 V.known.length c2) := HI.out.2.2.1.t.cellP 2
        by_cases hk : k < V.known.length
        · obtain ⟨ad, hA, x0, x1, x2, x3, x4, x5⟩ := at_T59 HL.out.known (k : Int) (by omega) (by omega)
          rw [Int.toNat_natCast] at x0 x1 x2 x3 x4 x5
          obtain ⟨x, hx⟩ : ∃ x, rd_T59 V.known (k : Int) = x := ⟨_, rfl⟩
          rw [hx] at x0 x1 x2 x3 x4 x5
          obtain ⟨hx1, hm⟩ := getD_some (z := z59) (x := x) hk (by rw [← hx]; unfold rd_T59; rw [Int.toNat_natCast])
          subst hA
          obtain ⟨p1, q1⟩ := idx_in hk
          have HW := Lib.hid (idx_next hk (by have := HB.out.known; omega))
          have HK := Lib.hid hk
          have HX := Lib.hid hx1
          have HE := Lib.hid (And.intro x0 (And.intro x1 (And.intro x2 (And.intro x3 (And.intro x4 x5)))))
          have HU2 := Lib.hid (show (((V.known.take k).map a57).length + 1) * 56 ≤ 140737488355328 by rw [map_len _ (Nat.le_of_lt hk)]; have := HB.out.known; omega)
          have HU3 := Lib.hid (show (((V.known.take k).map p70).length + 1) * 24 ≤ 140737488355328 by rw [map_len _ (Nat.le_of_lt hk)]; have := HB.out.known; omega)
          clear hk hx1 hm hx
          have HQ := Lib.hid HI.out.2.2.1
          have HSX := Lib.hid (show ∀ (w' : World) (g5 : Array Value), TV w w' P C G 35 45 #[.int .i64 V.day, .slice A1 V.members.length c1, .slice (some ad) V.known.length c2, .slice A3 V.baskets.length c3, .slice A4 V.balances.length c4, .slice A5 V.quotes.length c5, .slice A6 V.trades.length c6, .int .i64 V.next, .slice A8 V.covers.length c8, .slice A9_ V.inn.length c9_, .slice A10_ V.outs.length c10_] #[.int .i64 0, .slice none 0 0, .slice none 0 0, .slice none 0 0, .slice none 0 0, .slice none 0 0, .slice none 0 0, .slice none 0 0, .int .i64 0, .slice none 0 0, .slice none 0 0, .slice none 0 0] g5 → (w'.cell? ⟨P, 2, none⟩ = some (.slice (some ad) V.known.length c2) ∧ w'.cell? (ad.add (k * 6)) = some (.string x.f0.f0) ∧ w'.cell? ⟨(ad.add (k * 6)).block, (ad.add (k * 6)).off + 1, none⟩ = some (.int .i64 x.f0.f1) ∧ w'.cell? ⟨(ad.add (k * 6)).block, (ad.add (k * 6)).off + 2, none⟩ = some (.int .i64 x.f0.f2) ∧ w'.cell? ⟨(ad.add (k * 6)).block, (ad.add (k * 6)).off + 3, none⟩ = some (.int .i64 x.f0.f3) ∧ w'.cell? ⟨(ad.add (k * 6)).block, (ad.add (k * 6)).off + 4, none⟩ = some (.string x.f0.f4) ∧ w'.cell? ⟨(ad.add (k * 6)).block, (ad.add (k * 6)).off + 5, none⟩ = some (.int .i64 x.f1)) from fun w' g5 t => ⟨t.cellP 2, bel_cell t.bw HE.out.1, bel_cell t.bw HE.out.2.1, bel_cell t.bw HE.out.2.2.1, bel_cell t.bw HE.out.2.2.2.1, bel_cell t.bw HE.out.2.2.2.2.1, bel_cell t.bw HE.out.2.2.2.2.2⟩)
          have HSA := Lib.hid (show ∀ (w' : World) (o : Obj), (w'.cell? ⟨P, 2, none⟩ = some (.slice (some ad) V.known.length c2) ∧ w'.cell? (ad.add (k * 6)) = some (.string x.f0.f0) ∧ w'.cell? ⟨(ad.add (k * 6)).block, (ad.add (k * 6)).off + 1, none⟩ = some (.int .i64 x.f0.f1) ∧ w'.cell? ⟨(ad.add (k * 6)).block, (ad.add (k * 6)).off + 2, none⟩ = some (.int .i64 x.f0.f2) ∧ w'.cell? ⟨(ad.add (k * 6)).block, (ad.add (k * 6)).off + 3, none⟩ = some (.int .i64 x.f0.f3) ∧ w'.cell? ⟨(ad.add (k * 6)).block, (ad.add (k * 6)).off + 4, none⟩ = some (.string x.f0.f4) ∧ w'.cell? ⟨(ad.add (k * 6)).block, (ad.add (k * 6)).off + 5, none⟩ = some (.int .i64 x.f1)) → ((w'.alloc o).cell? ⟨P, 2, none⟩ = some (.slice (some ad) V.known.length c2) ∧ (w'.alloc o).cell? (ad.add (k * 6)) = some (.string x.f0.f0) ∧ (w'.alloc o).cell? ⟨(ad.add (k * 6)).block, (ad.add (k * 6)).off + 1, none⟩ = some (.int .i64 x.f0.f1) ∧ (w'.alloc o).cell? ⟨(ad.add (k * 6)).block, (ad.add (k * 6)).off + 2, none⟩ = some (.int .i64 x.f0.f2) ∧ (w'.alloc o).cell? ⟨(ad.add (k * 6)).block, (ad.add (k * 6)).off + 3, none⟩ = some (.int .i64 x.f0.f3) ∧ (w'.alloc o).cell? ⟨(ad.add (k * 6)).block, (ad.add (k * 6)).off + 4, none⟩ = some (.string x.f0.f4) ∧ (w'.alloc o).cell? ⟨(ad.add (k * 6)).block, (ad.add (k * 6)).off + 5, none⟩ = some (.int .i64 x.f1)) from fun w' o h => ⟨al_cell h.1 o, al_cell h.2.1 o, al_cell h.2.2.1 o, al_cell h.2.2.2.1 o, al_cell h.2.2.2.2.1 o, al_cell h.2.2.2.2.2.1 o, al_cell h.2.2.2.2.2.2 o⟩)
          have hbd : Below wr.heap.size wr wr.drew := below_drew (Below.refl _ _)
          have HD := Lib.hid (HQ.out.below hbd)
          have hSD : wr.drew.cell? ⟨P, 2, none⟩ = some (.slice (some ad) V.known.length c2) ∧ wr.drew.cell? (ad.add (k * 6)) = some (.string x.f0.f0) ∧ wr.drew.cell? ⟨(ad.add (k * 6)).block, (ad.add (k * 6)).off + 1, none⟩ = some (.int .i64 x.f0.f1) ∧ wr.drew.cell? ⟨(ad.add (k * 6)).block, (ad.add (k * 6)).off + 2, none⟩ = some (.int .i64 x.f0.f2) ∧ wr.drew.cell? ⟨(ad.add (k * 6)).block, (ad.add (k * 6)).off + 3, none⟩ = some (.int .i64 x.f0.f3) ∧ wr.drew.cell? ⟨(ad.add (k * 6)).block, (ad.add (k * 6)).off + 4, none⟩ = some (.string x.f0.f4) ∧ wr.drew.cell? ⟨(ad.add (k * 6)).block, (ad.add (k * 6)).off + 5, none⟩ = some (.int .i64 x.f1) := HSX.out _ _ HD.out.t
          have hG : wr.drew.cell? ⟨G, 2, none⟩ = some (.slice B2 k d2) := HD.out.t.cellG 2
          have hGA : ∀ o : Obj, (wr.drew.alloc o).cell? ⟨G, 2, none⟩ = some (.slice B2 k d2) := fun o => al_cell hG o
          have HSD := Lib.hid (show ∀ o : Obj, ((wr.alloc o).drew.cell? ⟨P, 2, none⟩ = some (.slice (some ad) V.known.length c2) ∧ (wr.alloc o).drew.cell? (ad.add (k * 6)) = some (.string x.f0.f0) ∧ (wr.alloc o).drew.cell? ⟨(ad.add (k * 6)).block, (ad.add (k * 6)).off + 1, none⟩ = some (.int .i64 x.f0.f1) ∧ (wr.alloc o).drew.cell? ⟨(ad.add (k * 6)).block, (ad.add (k * 6)).off + 2, none⟩ = some (.int .i64 x.f0.f2) ∧ (wr.alloc o).drew.cell? ⟨(ad.add (k * 6)).block, (ad.add (k * 6)).off + 3, none⟩ = some (.int .i64 x.f0.f3) ∧ (wr.alloc o).drew.cell? ⟨(ad.add (k * 6)).block, (ad.add (k * 6)).off + 4, none⟩ = some (.string x.f0.f4) ∧ (wr.alloc o).drew.cell? ⟨(ad.add (k * 6)).block, (ad.add (k * 6)).off + 5, none⟩ = some (.int .i64 x.f1)) from fun o => HSA.out _ o (HSX.out _ _ HQ.out.t))
          have hGB : ∀ o : Obj, (wr.alloc o).drew.cell? ⟨G, 2, none⟩ = some (.slice B2 k d2) := fun o => al_cell (W := wr) hG o
          have k0 := bel_cell HI.out.2.2.1.t.bw x0
          go_upto_region 10 with (fail)
          go_cut [] (fun wx => ∃ (c9 : Nat) (A9 : Option Addr), Hid (LS k57 57 w W1 wx P C G 35 45 #[.int .i64 V.day, .slice A1 V.members.length c1, .slice (some ad) V.known.length c2, .slice A3 V.baskets.length c3, .slice A4 V.balances.length c4, .slice A5 V.quotes.length c5, .slice A6 V.trades.length c6, .int .i64 V.next, .slice A8 V.covers.length c8, .slice A9_ V.inn.length c9_, .slice A10_ V.outs.length c10_] #[.int .i64 0, .slice none 0 0, .slice none 0 0, .slice none 0 0, .slice none 0 0, .slice none 0 0, .slice none 0 0, .slice none 0 0, .int .i64 0, .slice none 0 0, .slice none 0 0, .slice none 0 0] #[.int .i64 V.day, .slice B1 V.members.length d1, .slice A9 (k + 1) c9, .slice B3 k d3, .slice A3 V.baskets.length c3, .slice none 0 0, .slice A5 V.quotes.length c5, .slice A6 V.trades.length c6, .int .i64 V.next, .slice none 0 0, .slice none 0 0, .slice none 0 0] (.slice A9 (k + 1) c9) (((V.known.take k).map a57) ++ [⟨x.f0.f0, x.f0.f1, x.f0.f2, x.f0.f3, x.f0.f4⟩]) ∧ k70.R 70 wx W1.heap.size (fun k => k ≠ G) (.slice B3 k d3) ((V.known.take k).map p70)))
          case first =>
            conv => arg 2; arg 2; arg 1; arg 2; arg 1; arg 2; change id _
            go_region_held3 (fun w' => w'.cell? ⟨P, 2, none⟩ = some (.slice (some ad) V.known.length c2) ∧ w'.cell? (ad.add (k * 6)) = some (.string x.f0.f0) ∧ w'.cell? ⟨(ad.add (k * 6)).block, (ad.add (k * 6)).off + 1, none⟩ = some (.int .i64 x.f0.f1) ∧ w'.cell? ⟨(ad.add (k * 6)).block, (ad.add (k * 6)).off + 2, none⟩ = some (.int .i64 x.f0.f2) ∧ w'.cell? ⟨(ad.add (k * 6)).block, (ad.add (k * 6)).off + 3, none⟩ = some (.int .i64 x.f0.f3) ∧ w'.cell? ⟨(ad.add (k * 6)).block, (ad.add (k * 6)).off + 4, none⟩ = some (.string x.f0.f4) ∧ w'.cell? ⟨(ad.add (k * 6)).block, (ad.add (k * 6)).off + 5, none⟩ = some (.int .i64 x.f1))
              (first | with_reducible assumption | with_reducible exact HSD.out _ | with_reducible exact HSA.out _ _ (by with_reducible assumption) | exact (HSX.out _ _ (H5.out.t.set _ _)))
              (first | (refine Kd.R_append_step k57 (w0 := wr.drew) (W := wr.drew) W1.heap.size (by rfl) (.tmp 63) (.tmp 70) 39 57 (.agg #[(.string ⟨#[]⟩), (.int .i64 0), (.int .i64 0), (.int .i64 0), (.string ⟨#[]⟩)]) 56 rfl Try.underlying39 info57 rfl (by decide) (by decide) (.slice B2 k d2) ((V.known.take k).map a57) ⟨x.f0.f0, x.f0.f1, x.f0.f2, x.f0.f3, x.f0.f4⟩ [.string x.f0.f0, .int .i64 x.f0.f1, .int .i64 x.f0.f2, .int .i64 x.f0.f3, .string x.f0.f4] (fun k => k ≠ G) (fun _ => False) rfl rfl (k57_mkM _ _ _ _) (fun _ h => h.elim) HD.out.fresh HD.out.r (Below.refl _ _) HD.out.le HU2.out ?_; intro v1 wz ho hb hg5 hat; obtain ⟨A9, c9, rfl, h5⟩ := HD.out.app_ (map_len _ (Nat.le_of_lt HK.out)) ho hg5; have H5 := Lib.hid h5; have HO := Lib.hid (other_app (below_R (HI.out.2.2.2) hbd) HD.out.r hg5 (by decide)); have kk := HSX.out _ _ H5.out.t; have fz := H5.out.t.frz 2; have cz : wz.cell? ⟨G, 2, none⟩ = some (.slice B2 k d2) := H5.out.t.cellG 2; clear ho hb hg5 hat h5))
            all_goals (go_wp2_with (fail); go_meet; exact ⟨c9, A9, ⟨(H5.out.set 2 (.slice A9 (k + 1) c9)).to rfl, Kd.R_far HO.out (p := ⟨G, 2, none⟩) (fun k hk => hk) (.slice A9 (k + 1) c9)⟩⟩)
          case rest =>
            obtain ⟨c7z, A7z, HCC⟩ := hcut
            have HR := Lib.hid HCC.out.1.r
            have HQb := Lib.hid (show LS k70 70 w W1 wc P C G 35 45 #[.int .i64 V.day, .slice A1 V.members.length c1, .slice (some ad) V.known.length c2, .slice A3 V.baskets.length c3, .slice A4 V.balances.length c4, .slice A5 V.quotes.length c5, .slice A6 V.trades.length c6, .int .i64 V.next, .slice A8 V.covers.length c8, .slice A9_ V.inn.length c9_, .slice A10_ V.outs.length c10_] #[.int .i64 0, .slice none 0 0, .slice none 0 0, .slice none 0 0, .slice none 0 0, .slice none 0 0, .slice none 0 0, .slice none 0 0, .int .i64 0, .slice none 0 0, .slice none 0 0, .slice none 0 0] #[.int .i64 V.day, .slice B1 V.members.length d1, .slice A7z (k + 1) c7z, .slice B3 k d3, .slice A3 V.baskets.length c3, .slice none 0 0, .slice A5 V.quotes.length c5, .slice A6 V.trades.length c6, .int .i64 V.next, .slice none 0 0, .slice none 0 0, .slice none 0 0] (.slice B3 k d3) ((V.known.take k).map p70) from ⟨HCC.out.1.t, HCC.out.1.gr, HCC.out.2, HCC.out.1.lt⟩)
            have k9 : wc.cell? ⟨P, 2, none⟩ = some (.slice (some ad) V.known.length c2) := HQb.out.t.cellP 2
            clear hSD hG hGA hGB kp1 hbd
            have hbdb : Below wc.heap.size wc wc.drew := below_drew (Below.refl _ _)
            have HDb := Lib.hid (HQb.out.below hbdb)
            have hSDb : wc.drew.cell? ⟨P, 2, none⟩ = some (.slice (some ad) V.known.length c2) ∧ wc.drew.cell? (ad.add (k * 6)) = some (.string x.f0.f0) ∧ wc.drew.cell? ⟨(ad.add (k * 6)).block, (ad.add (k * 6)).off + 1, none⟩ = some (.int .i64 x.f0.f1) ∧ wc.drew.cell? ⟨(ad.add (k * 6)).block, (ad.add (k * 6)).off + 2, none⟩ = some (.int .i64 x.f0.f2) ∧ wc.drew.cell? ⟨(ad.add (k * 6)).block, (ad.add (k * 6)).off + 3, none⟩ = some (.int .i64 x.f0.f3) ∧ wc.drew.cell? ⟨(ad.add (k * 6)).block, (ad.add (k * 6)).off + 4, none⟩ = some (.string x.f0.f4) ∧ wc.drew.cell? ⟨(ad.add (k * 6)).block, (ad.add (k * 6)).off + 5, none⟩ = some (.int .i64 x.f1) := HSX.out _ _ HDb.out.t
            have hGb : wc.drew.cell? ⟨G, 3, none⟩ = some (.slice B3 k d3) := HDb.out.t.cellG 3
            have hGAb : ∀ o : Obj, (wc.drew.alloc o).cell? ⟨G, 3, none⟩ = some (.slice B3 k d3) := fun o => al_cell hGb o
            have HSDb := Lib.hid (show ∀ o : Obj, ((wc.alloc o).drew.cell? ⟨P, 2, none⟩ = some (.slice (some ad) V.known.length c2) ∧ (wc.alloc o).drew.cell? (ad.add (k * 6)) = some (.string x.f0.f0) ∧ (wc.alloc o).drew.cell? ⟨(ad.add (k * 6)).block, (ad.add (k * 6)).off + 1, none⟩ = some (.int .i64 x.f0.f1) ∧ (wc.alloc o).drew.cell? ⟨(ad.add (k * 6)).block, (ad.add (k * 6)).off + 2, none⟩ = some (.int .i64 x.f0.f2) ∧ (wc.alloc o).drew.cell? ⟨(ad.add (k * 6)).block, (ad.add (k * 6)).off + 3, none⟩ = some (.int .i64 x.f0.f3) ∧ (wc.alloc o).drew.cell? ⟨(ad.add (k * 6)).block, (ad.add (k * 6)).off + 4, none⟩ = some (.string x.f0.f4) ∧ (wc.alloc o).drew.cell? ⟨(ad.add (k * 6)).block, (ad.add (k * 6)).off + 5, none⟩ = some (.int .i64 x.f1)) from fun o => HSA.out _ o (HSX.out _ _ HQb.out.t))
            have hGBb : ∀ o : Obj, (wc.alloc o).drew.cell? ⟨G, 3, none⟩ = some (.slice B3 k d3) := fun o => al_cell (W := wc) hGb o
            go_wp2_with (fail)
            conv => arg 2; arg 2; arg 1; arg 2; arg 1; arg 2; change id _
            go_region_held3 (fun w' => w'.cell? ⟨P, 2, none⟩ = some (.slice (some ad) V.known.length c2) ∧ w'.cell? (ad.add (k * 6)) = some (.string x.f0.f0) ∧ w'.cell? ⟨(ad.add (k * 6)).block, (ad.add (k * 6)).off + 1, none⟩ = some (.int .i64 x.f0.f1) ∧ w'.cell? ⟨(ad.add (k * 6)).block, (ad.add (k * 6)).off + 2, none⟩ = some (.int .i64 x.f0.f2) ∧ w'.cell? ⟨(ad.add (k * 6)).block, (ad.add (k * 6)).off + 3, none⟩ = some (.int .i64 x.f0.f3) ∧ w'.cell? ⟨(ad.add (k * 6)).block, (ad.add (k * 6)).off + 4, none⟩ = some (.string x.f0.f4) ∧ w'.cell? ⟨(ad.add (k * 6)).block, (ad.add (k * 6)).off + 5, none⟩ = some (.int .i64 x.f1))
              (first | with_reducible assumption | with_reducible exact HSDb.out _ | with_reducible exact HSA.out _ _ (by with_reducible assumption) | exact (HSX.out _ _ (H5b.out.t.set _ _)))
              (first | (refine Kd.R_append_step k70 (w0 := wc.drew) (W := wc.drew) W1.heap.size (by rfl) (.tmp 74) (.tmp 89) 40 70 (.agg #[(.string ⟨#[]⟩), (.int .i64 0)]) 24 rfl Try.underlying40 info70 rfl (by decide) (by decide) (.slice B3 k d3) ((V.known.take k).map p70) ⟨x.f0.f0, x.f1⟩ [.string x.f0.f0, .int .i64 x.f1] (fun k => k ≠ G) (fun _ => False) rfl rfl (k70_mkM _ _ _ _) (fun _ h => h.elim) HDb.out.fresh HDb.out.r (Below.refl _ _) HDb.out.le HU3.out ?_; intro v1 wzb ho hb hg5 hat; obtain ⟨A9, c9, rfl, h5⟩ := HDb.out.app_ (map_len _ (Nat.le_of_lt HK.out)) ho hg5; have H5b := Lib.hid h5; have HOb := Lib.hid (other_app (below_R HR.out hbdb) HDb.out.r hg5 (by decide)); have kkb := HSX.out _ _ H5b.out.t; have fz := H5b.out.t.frz 3; have cz : wzb.cell? ⟨G, 3, none⟩ = some (.slice B3 k d3) := H5b.out.t.cellG 3; clear ho hb hg5 hat h5))
            all_goals
              go_wp2_with (fail)
              go_roundg (V.known.length - k)
              case measure => have := HI.out.1; have := HK.out; omega
              case rel =>
                have h9 := H5b.out.set 3 (.slice A9 (k + 1) c9)
                have r9 := Kd.R_far HOb.out (p := ⟨G, 3, none⟩) (fun k hk => hk) (.slice A9 (k + 1) c9)
                rw [show (V.known.take k).map p70 ++ [⟨x.f0.f0, x.f1⟩] = (V.known.take (k + 1)).map p70 from (map_next p70 HX.out).symm] at h9
                rw [show (V.known.take k).map a57 ++ [⟨x.f0.f0, x.f0.f1, x.f0.f2, x.f0.f3, x.f0.f4⟩] = (V.known.take (k + 1)).map a57 from (map_next a57 HX.out).symm] at r9
                exact ⟨k + 1, _, c9, _, A9, by rw [HW.out], ⟨by have := HI.out.1; have := HK.out; omega, HK.out, ⟨h9.t.to rfl, h9.gr, r9, h9.lt⟩, h9.r⟩⟩
        · have q1 := idx_out hk
          obtain rfl : k = V.known.length := by have := HI.out.2.1; omega
          have hl := HI.out.2.2.1
          rw [List.take_length] at hl
          have HT2 := Lib.hid hl.t
          have hs0 := (And.intro (FS.snoc (d := k57) (e := 57) (b := W1.heap.size) (v := (.slice B2 V.known.length d2)) (xs := (V.known.map a57)) HS1.out.1) (And.intro (HS1.out.1 _ _ hl.gr HS1.out.2) hl.r))
          have hr2 := HI.out.2.2.2
          rw [List.take_length] at hr2
          have HS2 := Lib.hid (And.intro (FS.snoc (d := k70) (e := 70) (b := W1.heap.size) (v := (.slice B3 V.known.length d3)) (xs := V.known.map p70) hs0.1) (And.intro hs0.2 hr2))
          clear hs0 hr2
          go_wp2_with (fail)
          clear hk hl HI q1 kp1 HS1
          rename World => W2
          go_loopg [7] (V.balances.length + 1) (fun kq v w' => ∃ (k : Nat) (d5 : Nat) (B5 : Option Addr), v = .int .i64 k ∧ Hid (kq + k = V.balances.length + 1 ∧ k ≤ V.balances.length ∧ LS k73 73 w W2 w' P C G 35 45 #[.int .i64 V.day, .slice A1 V.members.length c1, .slice A2 V.known.length c2, .slice A3 V.baskets.length c3, .slice A4 V.balances.length c4, .slice A5 V.quotes.length c5, .slice A6 V.trades.length c6, .int .i64 V.next, .slice A8 V.covers.length c8, .slice A9_ V.inn.length c9_, .slice A10_ V.outs.length c10_] #[.int .i64 0, .slice none 0 0, .slice none 0 0, .slice none 0 0, .slice none 0 0, .slice none 0 0, .slice none 0 0, .slice none 0 0, .int .i64 0, .slice none 0 0, .slice none 0 0, .slice none 0 0] #[.int .i64 V.day, .slice B1 V.members.length d1, .slice B2 V.known.length d2, .slice B3 V.known.length d3, .slice A3 V.baskets.length c3, .slice B5 k d5, .slice A5 V.quotes.length c5, .slice A6 V.trades.length c6, .int .i64 V.next, .slice none 0 0, .slice none 0 0, .slice none 0 0] (.slice B5 k d5) ((V.balances.take k).map b73)))
          case atStart => exact ⟨0, 0, none, rfl, ⟨rfl, Nat.zero_le _, LS.start HT2.out⟩⟩
          case round =>
            obtain ⟨k, d5, B5, rfl, HI⟩ := hrel
            have kp1 : wr.cell? ⟨P, 4, none⟩ = some (.slice A4 V.balances.length c4) := HI.out.2.2.t.cellP 4
            by_cases hk : k < V.balances.length
            · obtain ⟨ad, hA, x0, x1, x2, x3⟩ := at_T67 HL.out.balances (k : Int) (by omega) (by omega)
              rw [Int.toNat_natCast] at x0 x1 x2 x3
              obtain ⟨x, hx⟩ : ∃ x, rd_T67 V.balances (k : Int) = x := ⟨_, rfl⟩
              rw [hx] at x0 x1 x2 x3
              obtain ⟨hx1, hm⟩ := getD_some (z := z67) (x := x) hk (by rw [← hx]; unfold rd_T67; rw [Int.toNat_natCast])
              subst hA
              obtain ⟨p1, q1⟩ := idx_in hk
              have HW := Lib.hid (idx_next hk (by have := HB.out.balances; omega))
              have HK := Lib.hid hk
              have HX := Lib.hid hx1
              have HE := Lib.hid (And.intro x0 (And.intro x1 (And.intro x2 x3)))
              have HU5 := Lib.hid (show (((V.balances.take k).map b73).length + 1) * 40 ≤ 140737488355328 by rw [map_len _ (Nat.le_of_lt hk)]; have := HB.out.balances; omega)
              clear hk hx1 hm hx
              have x0_ : True := trivial
              have y0 := bel_cell HI.out.2.2.t.bw x0; have y1 := bel_cell HI.out.2.2.t.bw x1; have y2 := bel_cell HI.out.2.2.t.bw x2; have y3 := bel_cell HI.out.2.2.t.bw x3; go_upto_region 16 with (fail)
              obtain ⟨WL, hWL⟩ : ∃ W, wr.alloc (.cells #[.int .i64 x.f0.f0, .int .i64 x.f0.f1, .string x.f0.f2] 65) = W := ⟨_, rfl⟩
              obtain ⟨L, hL⟩ : ∃ L, wr.heap.size = L := ⟨_, rfl⟩
              have hbl : Below wr.heap.size wr WL := hWL ▸ below_alloc (Below.refl _ _) _
              have hhl : WL.heap[L]? = some (.cells #[.int .i64 x.f0.f0, .int .i64 x.f0.f1, .string x.f0.f2] 65 (0, 0)) := hWL ▸ hL ▸ (Go.MapKept.heap_alloc wr _).1
              rw [hWL, hL]
              have HQ := Lib.hid (HI.out.2.2.below hbl)
              have e0 : WL.cell? ⟨L, 0, none⟩ = some (.int .i64 x.f0.f0) := cellsAt hhl 0
              have e1 : WL.cell? ⟨L, 1, none⟩ = some (.int .i64 x.f0.f1) := cellsAt hhl 1
              have e2 : WL.cell? ⟨L, 2, none⟩ = some (.string x.f0.f2) := cellsAt hhl 2
              have HH := Lib.hid (And.intro hhl hbl)
              have HLG := Lib.hid (show G < L from hL ▸ HI.out.2.2.t.lt)
              clear hWL hL hbl hhl kp1 y0 y1 y2 y3 x0 x1 x2 x3
              have HSX := Lib.hid (show ∀ (w' : World) (g5 : Array Value), TV w w' P C G 35 45 #[.int .i64 V.day, .slice A1 V.members.length c1, .slice A2 V.known.length c2, .slice A3 V.baskets.length c3, .slice (some ad) V.balances.length c4, .slice A5 V.quotes.length c5, .slice A6 V.trades.length c6, .int .i64 V.next, .slice A8 V.covers.length c8, .slice A9_ V.inn.length c9_, .slice A10_ V.outs.length c10_] #[.int .i64 0, .slice none 0 0, .slice none 0 0, .slice none 0 0, .slice none 0 0, .slice none 0 0, .slice none 0 0, .slice none 0 0, .int .i64 0, .slice none 0 0, .slice none 0 0, .slice none 0 0] g5 → w'.heap[L]? = some (.cells #[.int .i64 x.f0.f0, .int .i64 x.f0.f1, .string x.f0.f2] 65 (0, 0)) → (w'.cell? ⟨P, 4, none⟩ = some (.slice (some ad) V.balances.length c4) ∧ w'.cell? ⟨(ad.add (k * 4)).block, (ad.add (k * 4)).off + 3, none⟩ = some (.int .i64 x.f1) ∧ w'.cell? ⟨L, 0, none⟩ = some (.int .i64 x.f0.f0) ∧ w'.cell? ⟨L, 1, none⟩ = some (.int .i64 x.f0.f1) ∧ w'.cell? ⟨L, 2, none⟩ = some (.string x.f0.f2)) from fun w' g5 t hl => ⟨t.cellP 4, bel_cell t.bw HE.out.2.2.2, cellsAt hl 0, cellsAt hl 1, cellsAt hl 2⟩)
              have HSA := Lib.hid (show ∀ (w' : World) (o : Obj), (w'.cell? ⟨P, 4, none⟩ = some (.slice (some ad) V.balances.length c4) ∧ w'.cell? ⟨(ad.add (k * 4)).block, (ad.add (k * 4)).off + 3, none⟩ = some (.int .i64 x.f1) ∧ w'.cell? ⟨L, 0, none⟩ = some (.int .i64 x.f0.f0) ∧ w'.cell? ⟨L, 1, none⟩ = some (.int .i64 x.f0.f1) ∧ w'.cell? ⟨L, 2, none⟩ = some (.string x.f0.f2)) → ((w'.alloc o).cell? ⟨P, 4, none⟩ = some (.slice (some ad) V.balances.length c4) ∧ (w'.alloc o).cell? ⟨(ad.add (k * 4)).block, (ad.add (k * 4)).off + 3, none⟩ = some (.int .i64 x.f1) ∧ (w'.alloc o).cell? ⟨L, 0, none⟩ = some (.int .i64 x.f0.f0) ∧ (w'.alloc o).cell? ⟨L, 1, none⟩ = some (.int .i64 x.f0.f1) ∧ (w'.alloc o).cell? ⟨L, 2, none⟩ = some (.string x.f0.f2)) from fun w' o h => ⟨al_cell h.1 o, al_cell h.2.1 o, al_cell h.2.2.1 o, al_cell h.2.2.2.1 o, al_cell h.2.2.2.2 o⟩)
              have hbd : Below WL.heap.size WL WL.drew := below_drew (Below.refl _ _)
              have HD := Lib.hid (HQ.out.below hbd)
              have hSD : WL.drew.cell? ⟨P, 4, none⟩ = some (.slice (some ad) V.balances.length c4) ∧ WL.drew.cell? ⟨(ad.add (k * 4)).block, (ad.add (k * 4)).off + 3, none⟩ = some (.int .i64 x.f1) ∧ WL.drew.cell? ⟨L, 0, none⟩ = some (.int .i64 x.f0.f0) ∧ WL.drew.cell? ⟨L, 1, none⟩ = some (.int .i64 x.f0.f1) ∧ WL.drew.cell? ⟨L, 2, none⟩ = some (.string x.f0.f2) := HSX.out _ _ HD.out.t HH.out.1
              have hG : WL.drew.cell? ⟨G, 5, none⟩ = some (.slice B5 k d5) := HD.out.t.cellG 5
              have hGA : ∀ o : Obj, (WL.drew.alloc o).cell? ⟨G, 5, none⟩ = some (.slice B5 k d5) := fun o => al_cell hG o
              have HSD := Lib.hid (show ∀ o : Obj, ((WL.alloc o).drew.cell? ⟨P, 4, none⟩ = some (.slice (some ad) V.balances.length c4) ∧ (WL.alloc o).drew.cell? ⟨(ad.add (k * 4)).block, (ad.add (k * 4)).off + 3, none⟩ = some (.int .i64 x.f1) ∧ (WL.alloc o).drew.cell? ⟨L, 0, none⟩ = some (.int .i64 x.f0.f0) ∧ (WL.alloc o).drew.cell? ⟨L, 1, none⟩ = some (.int .i64 x.f0.f1) ∧ (WL.alloc o).drew.cell? ⟨L, 2, none⟩ = some (.string x.f0.f2)) from fun o => HSA.out _ o (HSX.out _ _ HQ.out.t HH.out.1))
              have hGB : ∀ o : Obj, (WL.alloc o).drew.cell? ⟨G, 5, none⟩ = some (.slice B5 k d5) := fun o => al_cell (W := WL) hG o
              go_wp2_with (fail)
              conv => arg 2; arg 2; arg 1; arg 2; arg 1; arg 2; change id _
              go_region_held3 (fun w' => w'.cell? ⟨P, 4, none⟩ = some (.slice (some ad) V.balances.length c4) ∧ w'.cell? ⟨(ad.add (k * 4)).block, (ad.add (k * 4)).off + 3, none⟩ = some (.int .i64 x.f1) ∧ w'.cell? ⟨L, 0, none⟩ = some (.int .i64 x.f0.f0) ∧ w'.cell? ⟨L, 1, none⟩ = some (.int .i64 x.f0.f1) ∧ w'.cell? ⟨L, 2, none⟩ = some (.string x.f0.f2))
                (first | with_reducible assumption | with_reducible exact HSD.out _ | with_reducible exact HSA.out _ _ (by with_reducible assumption) | exact (HSX.out _ _ (H5.out.t.set _ _) ((Below.heap_setCell _ _ _ _ (Nat.ne_of_gt HLG.out)).trans HZ.out)))
                (first | (refine Kd.R_append_step k73 (w0 := WL.drew) (W := WL.drew) W2.heap.size (by rfl) (.tmp 106) (.tmp 121) 41 73 (.agg #[(.int .i64 0), (.int .i64 0), (.string ⟨#[]⟩), (.int .i64 0)]) 40 rfl Try.underlying41 info73 rfl (by decide) (by decide) (.slice B5 k d5) ((V.balances.take k).map b73) ⟨⟨x.f0.f0, x.f0.f1, x.f0.f2⟩, x.f1⟩ [.int .i64 x.f0.f0, .int .i64 x.f0.f1, .string x.f0.f2, .int .i64 x.f1] (fun k => k ≠ G) (fun _ => False) rfl rfl (k73_mkM _ _ _ _) (fun _ h => h.elim) HD.out.fresh HD.out.r (Below.refl _ _) HD.out.le HU5.out ?_; intro v1 wz ho hb hg5 hat; obtain ⟨A9, c9, rfl, h5⟩ := HD.out.app_ (map_len _ (Nat.le_of_lt HK.out)) ho hg5; have H5 := Lib.hid h5; have hhz := (hg5.block L (Array.getElem?_eq_some_iff.1 HH.out.1).1 (Kd.R_ne HD.out.r HH.out.1 (by decide))).trans HH.out.1; have kk := HSX.out _ _ H5.out.t hhz; have HZ := Lib.hid hhz; clear hhz; have fz := H5.out.t.frz 5; have cz : wz.cell? ⟨G, 5, none⟩ = some (.slice B5 k d5) := H5.out.t.cellG 5; clear ho hb hg5 hat h5))
              all_goals
                go_wp2_with (fail)
                go_roundg (V.balances.length - k)
                case measure => have := HI.out.1; have := HK.out; omega
                case rel =>
                  have h9 := H5.out.set 5 (.slice A9 (k + 1) c9)
                  rw [show (V.balances.take k).map b73 ++ [⟨⟨x.f0.f0, x.f0.f1, x.f0.f2⟩, x.f1⟩] = (V.balances.take (k + 1)).map b73 from (map_next b73 HX.out).symm] at h9
                  exact ⟨k + 1, c9, A9, by rw [HW.out], ⟨by have := HI.out.1; have := HK.out; omega, HK.out, h9.to rfl⟩⟩
            · have q1 := idx_out hk
              obtain rfl : k = V.balances.length := by have := HI.out.2.1; omega
              have hl := HI.out.2.2
              rw [List.take_length] at hl
              have HT3 := Lib.hid hl.t
              have HS3 := Lib.hid (And.intro (FS.snoc (d := k73) (e := 73) (b := W2.heap.size) (v := (.slice B5 V.balances.length d5)) (xs := (V.balances.map b73)) HS2.out.1) (And.intro (HS2.out.1 _ _ hl.gr HS2.out.2) hl.r))
              go_wp2_with (fail)
              clear hk hl HI q1 kp1 HS2
              rename World => W3
              go_loopg [9] (V.covers.length + 1) (fun kq v w' => ∃ (k : Nat) (d9 : Nat) (B9 : Option Addr) (ys : List (Int × Option Addr × Nat × Nat)), v = .int .i64 k ∧ Hid (kq + k = V.covers.length + 1 ∧ k ≤ V.covers.length ∧ LS kF 77 w W3 w' P C G 35 45 #[.int .i64 V.day, .slice A1 V.members.length c1, .slice A2 V.known.length c2, .slice A3 V.baskets.length c3, .slice A4 V.balances.length c4, .slice A5 V.quotes.length c5, .slice A6 V.trades.length c6, .int .i64 V.next, .slice A8 V.covers.length c8, .slice A9_ V.inn.length c9_, .slice A10_ V.outs.length c10_] #[.int .i64 0, .slice none 0 0, .slice none 0 0, .slice none 0 0, .slice none 0 0, .slice none 0 0, .slice none 0 0, .slice none 0 0, .int .i64 0, .slice none 0 0, .slice none 0 0, .slice none 0 0] #[.int .i64 V.day, .slice B1 V.members.length d1, .slice B2 V.known.length d2, .slice B3 V.known.length d3, .slice A3 V.baskets.length c3, .slice B5 V.balances.length d5, .slice A5 V.quotes.length c5, .slice A6 V.trades.length c6, .int .i64 V.next, .slice B9 k d9, .slice none 0 0, .slice none 0 0] (.slice B9 k d9) ys ∧ Fl w ((V.covers.take k).map (fun z => (z.f0, z.f1))) ys))
              case atStart => exact ⟨0, 0, none, [], rfl, ⟨rfl, Nat.zero_le _, LS.start HT3.out, Fl.nil w⟩⟩
              case round =>
                obtain ⟨k, d9, B9, ys, rfl, HI⟩ := hrel
                have kp1 : wr.cell? ⟨P, 8, none⟩ = some (.slice A8 V.covers.length c8) := HI.out.2.2.1.t.cellP 8
                by_cases hk : k < V.covers.length
                · obtain ⟨ad, Ax, cx, hA, x0, x1, hcx, hCx⟩ := at_T76 HL.out.covers (k : Int) (by omega) (by omega)
                  rw [Int.toNat_natCast] at x0 x1
                  obtain ⟨x, hx⟩ : ∃ x, rd_T76 V.covers (k : Int) = x := ⟨_, rfl⟩
                  rw [hx] at x0 x1 hcx hCx
                  obtain ⟨hx1, hm⟩ := getD_some (z := z76) (x := x) hk (by rw [← hx]; unfold rd_T76; rw [Int.toNat_natCast])
                  subst hA
                  obtain ⟨p1, q1⟩ := idx_in hk
                  have HW := Lib.hid (idx_next hk (by have := HB.out.covers; omega))
                  have HK := Lib.hid hk
                  have HX := Lib.hid hx1
                  have HE := Lib.hid (And.intro x0 x1)
                  have HN := Lib.hid (And.intro hcx hCx)
                  have HU9 := Lib.hid (show (ys.length + 1) * 32 ≤ 140737488355328 by rw [← HI.out.2.2.2.1, map_len _ (Nat.le_of_lt hk)]; have := HB.out.covers; omega)
                  clear hk hx1 hm hx
                  have HQ := Lib.hid HI.out.2.2.1
                  have HSX := Lib.hid (show ∀ (w' : World) (g5 : Array Value), TV w w' P C G 35 45 #[.int .i64 V.day, .slice A1 V.members.length c1, .slice A2 V.known.length c2, .slice A3 V.baskets.length c3, .slice A4 V.balances.length c4, .slice A5 V.quotes.length c5, .slice A6 V.trades.length c6, .int .i64 V.next, .slice (some ad) V.covers.length c8, .slice A9_ V.inn.length c9_, .slice A10_ V.outs.length c10_] #[.int .i64 0, .slice none 0 0, .slice none 0 0, .slice none 0 0, .slice none 0 0, .slice none 0 0, .slice none 0 0, .slice none 0 0, .int .i64 0, .slice none 0 0, .slice none 0 0, .slice none 0 0] g5 → (w'.cell? ⟨P, 8, none⟩ = some (.slice (some ad) V.covers.length c8) ∧ w'.cell? (ad.add (k * 2)) = some (.int .i64 x.f0) ∧ w'.cell? ⟨(ad.add (k * 2)).block, (ad.add (k * 2)).off + 1, none⟩ = some (.slice Ax x.f1.length cx)) from fun w' g5 t => ⟨t.cellP 8, bel_cell t.bw HE.out.1, bel_cell t.bw HE.out.2⟩)
                  have HSA := Lib.hid (show ∀ (w' : World) (o : Obj), (w'.cell? ⟨P, 8, none⟩ = some (.slice (some ad) V.covers.length c8) ∧ w'.cell? (ad.add (k * 2)) = some (.int .i64 x.f0) ∧ w'.cell? ⟨(ad.add (k * 2)).block, (ad.add (k * 2)).off + 1, none⟩ = some (.slice Ax x.f1.length cx)) → ((w'.alloc o).cell? ⟨P, 8, none⟩ = some (.slice (some ad) V.covers.length c8) ∧ (w'.alloc o).cell? (ad.add (k * 2)) = some (.int .i64 x.f0) ∧ (w'.alloc o).cell? ⟨(ad.add (k * 2)).block, (ad.add (k * 2)).off + 1, none⟩ = some (.slice Ax x.f1.length cx)) from fun w' o h => ⟨al_cell h.1 o, al_cell h.2.1 o, al_cell h.2.2 o⟩)
                  have hbd : Below wr.heap.size wr wr.drew := below_drew (Below.refl _ _)
                  have HD := Lib.hid (HQ.out.below hbd)
                  have hSD : wr.drew.cell? ⟨P, 8, none⟩ = some (.slice (some ad) V.covers.length c8) ∧ wr.drew.cell? (ad.add (k * 2)) = some (.int .i64 x.f0) ∧ wr.drew.cell? ⟨(ad.add (k * 2)).block, (ad.add (k * 2)).off + 1, none⟩ = some (.slice Ax x.f1.length cx) := HSX.out _ _ HD.out.t
                  have hG : wr.drew.cell? ⟨G, 9, none⟩ = some (.slice B9 k d9) := HD.out.t.cellG 9
                  have hGA : ∀ o : Obj, (wr.drew.alloc o).cell? ⟨G, 9, none⟩ = some (.slice B9 k d9) := fun o => al_cell hG o
                  have HSD := Lib.hid (show ∀ o : Obj, ((wr.alloc o).drew.cell? ⟨P, 8, none⟩ = some (.slice (some ad) V.covers.length c8) ∧ (wr.alloc o).drew.cell? (ad.add (k * 2)) = some (.int .i64 x.f0) ∧ (wr.alloc o).drew.cell? ⟨(ad.add (k * 2)).block, (ad.add (k * 2)).off + 1, none⟩ = some (.slice Ax x.f1.length cx)) from fun o => HSA.out _ o (HSX.out _ _ HQ.out.t))
                  have hGB : ∀ o : Obj, (wr.alloc o).drew.cell? ⟨G, 9, none⟩ = some (.slice B9 k d9) := fun o => al_cell (W := wr) hG o
                  have k0 := bel_cell HI.out.2.2.1.t.bw x0
                  go_wp2_with (fail)
                  conv => arg 2; arg 2; arg 1; arg 2; arg 1; arg 2; change id _
                  go_region_held3 (fun w' => w'.cell? ⟨P, 8, none⟩ = some (.slice (some ad) V.covers.length c8) ∧ w'.cell? (ad.add (k * 2)) = some (.int .i64 x.f0) ∧ w'.cell? ⟨(ad.add (k * 2)).block, (ad.add (k * 2)).off + 1, none⟩ = some (.slice Ax x.f1.length cx))
                    (first | with_reducible assumption | with_reducible exact HSD.out _ | with_reducible exact HSA.out _ _ (by with_reducible assumption) | exact (HSX.out _ _ (H5.out.t.set _ _)))
                    (first | (refine Kd.R_append_step kF (w0 := wr.drew) (W := wr.drew) W3.heap.size (by rfl) (.tmp 132) (.tmp 146) 42 77 (.agg #[(.int .i64 0), (.slice none 0 0)]) 32 rfl Try.underlying42 info77 rfl (by decide) (by decide) (.slice B9 k d9) ys (x.f0, Ax, x.f1.length, cx) [.int .i64 x.f0, .slice Ax x.f1.length cx] (fun k => k ≠ G) (fun _ => False) rfl rfl (kF_mkM _ _ _ _ _ _ _) (fun _ h => h.elim) HD.out.fresh HD.out.r (Below.refl _ _) HD.out.le HU9.out ?_; intro v1 wz ho hb hg5 hat; obtain ⟨A9, c9, rfl, h5⟩ := HD.out.app_ (by rw [← HI.out.2.2.2.1]; exact map_len _ (Nat.le_of_lt HK.out)) ho hg5; have H5 := Lib.hid h5; have kk := HSX.out _ _ H5.out.t; have fz := H5.out.t.frz 9; have cz : wz.cell? ⟨G, 9, none⟩ = some (.slice B9 k d9) := H5.out.t.cellG 9; clear ho hb hg5 hat h5))
                  all_goals
                    go_wp2_with (fail)
                    go_roundg (V.covers.length - k)
                    case measure => have := HI.out.1; have := HK.out; omega
                    case rel =>
                      have h9 := H5.out.set 9 (.slice A9 (k + 1) c9)
                      refine ⟨k + 1, c9, A9, _, by rw [HW.out], ⟨by have := HI.out.1; have := HK.out; omega, HK.out, h9.to rfl, ?_⟩⟩
                      rw [map_next _ HX.out]
                      exact Fl.snoc HI.out.2.2.2 x.f0 x.f1 HN.out.1 HN.out.2
                · have q1 := idx_out hk
                  obtain rfl : k = V.covers.length := by have := HI.out.2.1; omega
                  have hl := HI.out.2.2.1
                  have HT4 := Lib.hid hl.t
                  have HS4 := Lib.hid (And.intro (FS.snoc (d := kF) (e := 77) (b := W3.heap.size) (v := (.slice B9 V.covers.length d9)) (xs := ys) HS3.out.1) (And.intro (HS3.out.1 _ _ hl.gr HS3.out.2) hl.r))
                  have hfl := HI.out.2.2.2
                  rw [List.take_length] at hfl
                  have HFL := Lib.hid hfl
                  clear hfl
                  go_wp2_with (fail)
                  clear hk hl HI q1 kp1 HS3
                  rename World => W4
                  go_loopg [10] (V.inn.length + 1) (fun kq v w' => ∃ (k : Nat) (d10 : Nat) (B10 : Option Addr), v = .int .i64 k ∧ Hid (kq + k = V.inn.length + 1 ∧ k ≤ V.inn.length ∧ LS k80 80 w W4 w' P C G 35 45 #[.int .i64 V.day, .slice A1 V.members.length c1, .slice A2 V.known.length c2, .slice A3 V.baskets.length c3, .slice A4 V.balances.length c4, .slice A5 V.quotes.length c5, .slice A6 V.trades.length c6, .int .i64 V.next, .slice A8 V.covers.length c8, .slice A9_ V.inn.length c9_, .slice A10_ V.outs.length c10_] #[.int .i64 0, .slice none 0 0, .slice none 0 0, .slice none 0 0, .slice none 0 0, .slice none 0 0, .slice none 0 0, .slice none 0 0, .int .i64 0, .slice none 0 0, .slice none 0 0, .slice none 0 0] #[.int .i64 V.day, .slice B1 V.members.length d1, .slice B2 V.known.length d2, .slice B3 V.known.length d3, .slice A3 V.baskets.length c3, .slice B5 V.balances.length d5, .slice A5 V.quotes.length c5, .slice A6 V.trades.length c6, .int .i64 V.next, .slice B9 V.covers.length d9, .slice B10 k d10, .slice none 0 0] (.slice B10 k d10) ((V.inn.take k).map l80)))
                  case atStart => exact ⟨0, 0, none, rfl, ⟨rfl, Nat.zero_le _, LS.start HT4.out⟩⟩
                  case round =>
                    obtain ⟨k, d10, B10, rfl, HI⟩ := hrel
                    have kp1 : wr.cell? ⟨P, 9, none⟩ = some (.slice A9_ V.inn.length c9_) := HI.out.2.2.t.cellP 9
                    by_cases hk : k < V.inn.length
                    · obtain ⟨ad, hA, x0, x1, x2, x3⟩ := at_T79 HL.out.inn (k : Int) (by omega) (by omega)
                      rw [Int.toNat_natCast] at x0 x1 x2 x3
                      obtain ⟨x, hx⟩ : ∃ x, rd_T79 V.inn (k : Int) = x := ⟨_, rfl⟩
                      rw [hx] at x0 x1 x2 x3
                      obtain ⟨hx1, hm⟩ := getD_some (z := z79) (x := x) hk (by rw [← hx]; unfold rd_T79; rw [Int.toNat_natCast])
                      subst hA
                      obtain ⟨p1, q1⟩ := idx_in hk
                      have HW := Lib.hid (idx_next hk (by have := HB.out.inn; omega))
                      have HK := Lib.hid hk
                      have HX := Lib.hid hx1
                      have HE := Lib.hid (And.intro x0 (And.intro x1 (And.intro x2 x3)))
                      have HU10 := Lib.hid (show (((V.inn.take k).map l80).length + 1) * 40 ≤ 140737488355328 by rw [map_len _ (Nat.le_of_lt hk)]; have := HB.out.inn; omega)
                      clear hk hx1 hm hx
                      have x0_ : True := trivial
                      have y0 := bel_cell HI.out.2.2.t.bw x0; have y1 := bel_cell HI.out.2.2.t.bw x1; have y2 := bel_cell HI.out.2.2.t.bw x2; have y3 := bel_cell HI.out.2.2.t.bw x3; go_upto_region 25 with (fail)
                      obtain ⟨WL, hWL⟩ : ∃ W, wr.alloc (.cells #[.int .i64 x.f0, .int .i64 x.f1, .string x.f2, .int .i64 x.f3] 79) = W := ⟨_, rfl⟩
                      obtain ⟨L, hL⟩ : ∃ L, wr.heap.size = L := ⟨_, rfl⟩
                      have hbl : Below wr.heap.size wr WL := hWL ▸ below_alloc (Below.refl _ _) _
                      have hhl : WL.heap[L]? = some (.cells #[.int .i64 x.f0, .int .i64 x.f1, .string x.f2, .int .i64 x.f3] 79 (0, 0)) := hWL ▸ hL ▸ (Go.MapKept.heap_alloc wr _).1
                      rw [hWL, hL]
                      have HQ := Lib.hid (HI.out.2.2.below hbl)
                      have e0 : WL.cell? ⟨L, 0, none⟩ = some (.int .i64 x.f0) := cellsAt hhl 0
                      have e1 : WL.cell? ⟨L, 1, none⟩ = some (.int .i64 x.f1) := cellsAt hhl 1
                      have e2 : WL.cell? ⟨L, 2, none⟩ = some (.string x.f2) := cellsAt hhl 2
                      have e3 : WL.cell? ⟨L, 3, none⟩ = some (.int .i64 x.f3) := cellsAt hhl 3
                      have HH := Lib.hid (And.intro hhl hbl)
                      have HLG := Lib.hid (show G < L from hL ▸ HI.out.2.2.t.lt)
                      clear hWL hL hbl hhl kp1 y0 y1 y2 y3 x0 x1 x2 x3
                      have kG : WL.cell? ⟨G, 10, none⟩ = some (.slice B10 k d10) := HQ.out.t.cellG 10
                      go_wp2_with (at_builtin; refine Kd.R_append k80 (w0 := WL) (W := WL) W4.heap.size (by rfl) (.tmp 164) (.tmp 174) 43 80 (.agg #[(.int .i64 0), (.int .i64 0), (.string ⟨#[]⟩), (.int .i64 0)]) 40 rfl Try.underlying43 info80 rfl (by decide) (by decide) (.slice B10 k d10) ((V.inn.take k).map l80) ⟨x.f0, x.f1, x.f2, x.f3⟩ [.int .i64 x.f0, .int .i64 x.f1, .string x.f2, .int .i64 x.f3] (fun k => k ≠ G) (fun _ => False) rfl rfl (k80_mkM _ _ _ _) (fun _ h => h.elim) HQ.out.fresh HQ.out.r (Below.refl _ _) HQ.out.le HU10.out ?_; intro v1 wz ho hb hg5 hat; obtain ⟨A9, c9, rfl, h5⟩ := HQ.out.app_ (map_len _ (Nat.le_of_lt HK.out)) ho hg5; have H5 := Lib.hid h5; have fz := H5.out.t.frz 10; have cz : wz.cell? ⟨G, 10, none⟩ = some (.slice B10 k d10) := H5.out.t.cellG 10; clear ho hb hg5 hat h5)
                      go_roundg (V.inn.length - k)
                      case measure => have := HI.out.1; have := HK.out; omega
                      case rel =>
                        have h9 := H5.out.set 10 (.slice A9 (k + 1) c9)
                        rw [show (V.inn.take k).map l80 ++ [⟨x.f0, x.f1, x.f2, x.f3⟩] = (V.inn.take (k + 1)).map l80 from (map_next l80 HX.out).symm] at h9
                        exact ⟨k + 1, c9, A9, by rw [HW.out], ⟨by have := HI.out.1; have := HK.out; omega, HK.out, h9.to rfl⟩⟩
                    · have q1 := idx_out hk
                      obtain rfl : k = V.inn.length := by have := HI.out.2.1; omega
                      have hl := HI.out.2.2
                      rw [List.take_length] at hl
                      have HT5 := Lib.hid hl.t
                      have HS5 := Lib.hid (And.intro (FS.snoc (d := k80) (e := 80) (b := W4.heap.size) (v := (.slice B10 V.inn.length d10)) (xs := (V.inn.map l80)) HS4.out.1) (And.intro (HS4.out.1 _ _ hl.gr HS4.out.2) hl.r))
                      go_wp2_with (fail)
                      clear hk hl HI q1 kp1 HS4
                      rename World => W5
                      go_loopg [12] (V.outs.length + 1) (fun kq v w' => ∃ (k : Nat) (d11 : Nat) (B11 : Option Addr), v = .int .i64 k ∧ Hid (kq + k = V.outs.length + 1 ∧ k ≤ V.outs.length ∧ LS k80 80 w W5 w' P C G 35 45 #[.int .i64 V.day, .slice A1 V.members.length c1, .slice A2 V.known.length c2, .slice A3 V.baskets.length c3, .slice A4 V.balances.length c4, .slice A5 V.quotes.length c5, .slice A6 V.trades.length c6, .int .i64 V.next, .slice A8 V.covers.length c8, .slice A9_ V.inn.length c9_, .slice A10_ V.outs.length c10_] #[.int .i64 0, .slice none 0 0, .slice none 0 0, .slice none 0 0, .slice none 0 0, .slice none 0 0, .slice none 0 0, .slice none 0 0, .int .i64 0, .slice none 0 0, .slice none 0 0, .slice none 0 0] #[.int .i64 V.day, .slice B1 V.members.length d1, .slice B2 V.known.length d2, .slice B3 V.known.length d3, .slice A3 V.baskets.length c3, .slice B5 V.balances.length d5, .slice A5 V.quotes.length c5, .slice A6 V.trades.length c6, .int .i64 V.next, .slice B9 V.covers.length d9, .slice B10 V.inn.length d10, .slice B11 k d11] (.slice B11 k d11) ((V.outs.take k).map l80)))
                      case atStart => exact ⟨0, 0, none, rfl, ⟨rfl, Nat.zero_le _, LS.start HT5.out⟩⟩
                      case round =>
                        obtain ⟨k, d11, B11, rfl, HI⟩ := hrel
                        have kp1 : wr.cell? ⟨P, 10, none⟩ = some (.slice A10_ V.outs.length c10_) := HI.out.2.2.t.cellP 10
                        by_cases hk : k < V.outs.length
                        · obtain ⟨ad, hA, x0, x1, x2, x3⟩ := at_T79 HL.out.outs (k : Int) (by omega) (by omega)
                          rw [Int.toNat_natCast] at x0 x1 x2 x3
                          obtain ⟨x, hx⟩ : ∃ x, rd_T79 V.outs (k : Int) = x := ⟨_, rfl⟩
                          rw [hx] at x0 x1 x2 x3
                          obtain ⟨hx1, hm⟩ := getD_some (z := z79) (x := x) hk (by rw [← hx]; unfold rd_T79; rw [Int.toNat_natCast])
                          subst hA
                          obtain ⟨p1, q1⟩ := idx_in hk
                          have HW := Lib.hid (idx_next hk (by have := HB.out.outs; omega))
                          have HK := Lib.hid hk
                          have HX := Lib.hid hx1
                          have HE := Lib.hid (And.intro x0 (And.intro x1 (And.intro x2 x3)))
                          have HU11 := Lib.hid (show (((V.outs.take k).map l80).length + 1) * 40 ≤ 140737488355328 by rw [map_len _ (Nat.le_of_lt hk)]; have := HB.out.outs; omega)
                          clear hk hx1 hm hx
                          have x0_ : True := trivial
                          have y0 := bel_cell HI.out.2.2.t.bw x0; have y1 := bel_cell HI.out.2.2.t.bw x1; have y2 := bel_cell HI.out.2.2.t.bw x2; have y3 := bel_cell HI.out.2.2.t.bw x3; go_upto_region 30 with (fail)
                          obtain ⟨WL, hWL⟩ : ∃ W, wr.alloc (.cells #[.int .i64 x.f0, .int .i64 x.f1, .string x.f2, .int .i64 x.f3] 79) = W := ⟨_, rfl⟩
                          obtain ⟨L, hL⟩ : ∃ L, wr.heap.size = L := ⟨_, rfl⟩
                          have hbl : Below wr.heap.size wr WL := hWL ▸ below_alloc (Below.refl _ _) _
                          have hhl : WL.heap[L]? = some (.cells #[.int .i64 x.f0, .int .i64 x.f1, .string x.f2, .int .i64 x.f3] 79 (0, 0)) := hWL ▸ hL ▸ (Go.MapKept.heap_alloc wr _).1
                          rw [hWL, hL]
                          have HQ := Lib.hid (HI.out.2.2.below hbl)
                          have e0 : WL.cell? ⟨L, 0, none⟩ = some (.int .i64 x.f0) := cellsAt hhl 0
                          have e1 : WL.cell? ⟨L, 1, none⟩ = some (.int .i64 x.f1) := cellsAt hhl 1
                          have e2 : WL.cell? ⟨L, 2, none⟩ = some (.string x.f2) := cellsAt hhl 2
                          have e3 : WL.cell? ⟨L, 3, none⟩ = some (.int .i64 x.f3) := cellsAt hhl 3
                          have HH := Lib.hid (And.intro hhl hbl)
                          have HLG := Lib.hid (show G < L from hL ▸ HI.out.2.2.t.lt)
                          clear hWL hL hbl hhl kp1 y0 y1 y2 y3 x0 x1 x2 x3
                          have kG : WL.cell? ⟨G, 11, none⟩ = some (.slice B11 k d11) := HQ.out.t.cellG 11
                          go_wp2_with (at_builtin; refine Kd.R_append k80 (w0 := WL) (W := WL) W5.heap.size (by rfl) (.tmp 192) (.tmp 202) 43 80 (.agg #[(.int .i64 0), (.int .i64 0), (.string ⟨#[]⟩), (.int .i64 0)]) 40 rfl Try.underlying43 info80 rfl (by decide) (by decide) (.slice B11 k d11) ((V.outs.take k).map l80) ⟨x.f0, x.f1, x.f2, x.f3⟩ [.int .i64 x.f0, .int .i64 x.f1, .string x.f2, .int .i64 x.f3] (fun k => k ≠ G) (fun _ => False) rfl rfl (k80_mkM _ _ _ _) (fun _ h => h.elim) HQ.out.fresh HQ.out.r (Below.refl _ _) HQ.out.le HU11.out ?_; intro v1 wz ho hb hg5 hat; obtain ⟨A9, c9, rfl, h5⟩ := HQ.out.app_ (map_len _ (Nat.le_of_lt HK.out)) ho hg5; have H5 := Lib.hid h5; have fz := H5.out.t.frz 11; have cz : wz.cell? ⟨G, 11, none⟩ = some (.slice B11 k d11) := H5.out.t.cellG 11; clear ho hb hg5 hat h5)
                          go_roundg (V.outs.length - k)
                          case measure => have := HI.out.1; have := HK.out; omega
                          case rel =>
                            have h9 := H5.out.set 11 (.slice A9 (k + 1) c9)
                            rw [show (V.outs.take k).map l80 ++ [⟨x.f0, x.f1, x.f2, x.f3⟩] = (V.outs.take (k + 1)).map l80 from (map_next l80 HX.out).symm] at h9
                            exact ⟨k + 1, c9, A9, by rw [HW.out], ⟨by have := HI.out.1; have := HK.out; omega, HK.out, h9.to rfl⟩⟩
                        · have q1 := idx_out hk
                          obtain rfl : k = V.outs.length := by have := HI.out.2.1; omega
                          have hl := HI.out.2.2
                          rw [List.take_length] at hl
                          have HT6 := Lib.hid hl.t
                          have HS6 := Lib.hid (And.intro (FS.snoc (d := k80) (e := 80) (b := W5.heap.size) (v := (.slice B11 V.outs.length d11)) (xs := (V.outs.map l80)) HS5.out.1) (And.intro (HS5.out.1 _ _ hl.gr HS5.out.2) hl.r))
                          have kg0 : wr.cell? ⟨G, 0, none⟩ = some (.int .i64 V.day) := hl.t.cellG 0
                          have kc0 : wr.cell? ⟨C, 0, none⟩ = some (.int .i64 0) := cellsAt hl.t.c 0
                          have fc0 := hl.t.frzC 0
                          have kg1 : wr.cell? ⟨G, 1, none⟩ = some (.slice B1 V.members.length d1) := hl.t.cellG 1
                          have kc1 : wr.cell? ⟨C, 1, none⟩ = some (.slice none 0 0) := cellsAt hl.t.c 1
                          have fc1 := hl.t.frzC 1
                          have kg2 : wr.cell? ⟨G, 2, none⟩ = some (.slice B2 V.known.length d2) := hl.t.cellG 2
                          have kc2 : wr.cell? ⟨C, 2, none⟩ = some (.slice none 0 0) := cellsAt hl.t.c 2
                          have fc2 := hl.t.frzC 2
                          have kg3 : wr.cell? ⟨G, 3, none⟩ = some (.slice B3 V.known.length d3) := hl.t.cellG 3
                          have kc3 : wr.cell? ⟨C, 3, none⟩ = some (.slice none 0 0) := cellsAt hl.t.c 3
                          have fc3 := hl.t.frzC 3
                          have kg4 : wr.cell? ⟨G, 4, none⟩ = some (.slice A3 V.baskets.length c3) := hl.t.cellG 4
                          have kc4 : wr.cell? ⟨C, 4, none⟩ = some (.slice none 0 0) := cellsAt hl.t.c 4
                          have fc4 := hl.t.frzC 4
                          have kg5 : wr.cell? ⟨G, 5, none⟩ = some (.slice B5 V.balances.length d5) := hl.t.cellG 5
                          have kc5 : wr.cell? ⟨C, 5, none⟩ = some (.slice none 0 0) := cellsAt hl.t.c 5
                          have fc5 := hl.t.frzC 5
                          have kg6 : wr.cell? ⟨G, 6, none⟩ = some (.slice A5 V.quotes.length c5) := hl.t.cellG 6
                          have kc6 : wr.cell? ⟨C, 6, none⟩ = some (.slice none 0 0) := cellsAt hl.t.c 6
                          have fc6 := hl.t.frzC 6
                          have kg7 : wr.cell? ⟨G, 7, none⟩ = some (.slice A6 V.trades.length c6) := hl.t.cellG 7
                          have kc7 : wr.cell? ⟨C, 7, none⟩ = some (.slice none 0 0) := cellsAt hl.t.c 7
                          have fc7 := hl.t.frzC 7
                          have kg8 : wr.cell? ⟨G, 8, none⟩ = some (.int .i64 V.next) := hl.t.cellG 8
                          have kc8 : wr.cell? ⟨C, 8, none⟩ = some (.int .i64 0) := cellsAt hl.t.c 8
                          have fc8 := hl.t.frzC 8
                          have kg9 : wr.cell? ⟨G, 9, none⟩ = some (.slice B9 V.covers.length d9) := hl.t.cellG 9
                          have kc9 : wr.cell? ⟨C, 9, none⟩ = some (.slice none 0 0) := cellsAt hl.t.c 9
                          have fc9 := hl.t.frzC 9
                          have kg10 : wr.cell? ⟨G, 10, none⟩ = some (.slice B10 V.inn.length d10) := hl.t.cellG 10
                          have kc10 : wr.cell? ⟨C, 10, none⟩ = some (.slice none 0 0) := cellsAt hl.t.c 10
                          have fc10 := hl.t.frzC 10
                          have kg11 : wr.cell? ⟨G, 11, none⟩ = some (.slice B11 V.outs.length d11) := hl.t.cellG 11
                          have kc11 : wr.cell? ⟨C, 11, none⟩ = some (.slice none 0 0) := cellsAt hl.t.c 11
                          have fc11 := hl.t.frzC 11
                          go_wp2_with (fail)
                          clear hk hl HI q1 kp1 HS5
                          rename World => W6
                          refine bodyPost_ret (results_cell_row rfl _ _ C 45 #[.int .i64 V.day, .slice B1 V.members.length d1, .slice B2 V.known.length d2, .slice B3 V.known.length d3, .slice A3 V.baskets.length c3, .slice B5 V.balances.length d5, .slice A5 V.quotes.length c5, .slice A6 V.trades.length c6, .int .i64 V.next, .slice B9 V.covers.length d9, .slice B10 V.inn.length d10, .slice B11 V.outs.length d11] (0, 0) _ rfl (by exact fill_block HT6.out.c [.int .i64 V.day, .slice B1 V.members.length d1, .slice B2 V.known.length d2, .slice B3 V.known.length d3, .slice A3 V.baskets.length c3, .slice B5 V.balances.length d5, .slice A5 V.quotes.length c5, .slice A6 V.trades.length c6, .int .i64 V.next, .slice B9 V.covers.length d9, .slice B10 V.inn.length d10, .slice B11 V.outs.length d11] rfl) Try.underlying45 rfl (by kernel_rfl)) rfl ?_
                          obtain ⟨⟨⟨⟨⟨⟨⟨_, r1⟩, r2⟩, r3⟩, r5⟩, r9⟩, r10⟩, r11⟩ := HS6.out.2
                          have hbw := fill_below (C := C) (by have := HT6.out.pc; have := HT6.out.sz; omega) [.int .i64 V.day, .slice B1 V.members.length d1, .slice B2 V.known.length d2, .slice B3 V.known.length d3, .slice A3 V.baskets.length c3, .slice B5 V.balances.length d5, .slice A5 V.quotes.length c5, .slice A6 V.trades.length c6, .int .i64 V.next, .slice B9 V.covers.length d9, .slice B10 V.inn.length d10, .slice B11 V.outs.length d11] 0 HT6.out.bw
                          have q1 := Kd.R_reads' (fill_row (C := C) (by have := HT0.out.lt; have := HT0.out.cg; omega) [.int .i64 V.day, .slice B1 V.members.length d1, .slice B2 V.known.length d2, .slice B3 V.known.length d3, .slice A3 V.baskets.length c3, .slice B5 V.balances.length d5, .slice A5 V.quotes.length c5, .slice A6 V.trades.length c6, .int .i64 V.next, .slice B9 V.covers.length d9, .slice B10 V.inn.length d10, .slice B11 V.outs.length d11] 0 r1)
                          have q2 := Kd.R_reads' (fill_row (C := C) (by have := HT1.out.lt; have := HT1.out.cg; omega) [.int .i64 V.day, .slice B1 V.members.length d1, .slice B2 V.known.length d2, .slice B3 V.known.length d3, .slice A3 V.baskets.length c3, .slice B5 V.balances.length d5, .slice A5 V.quotes.length c5, .slice A6 V.trades.length c6, .int .i64 V.next, .slice B9 V.covers.length d9, .slice B10 V.inn.length d10, .slice B11 V.outs.length d11] 0 r2)
                          have q3 := Kd.R_reads' (fill_row (C := C) (by have := HT1.out.lt; have := HT1.out.cg; omega) [.int .i64 V.day, .slice B1 V.members.length d1, .slice B2 V.known.length d2, .slice B3 V.known.length d3, .slice A3 V.baskets.length c3, .slice B5 V.balances.length d5, .slice A5 V.quotes.length c5, .slice A6 V.trades.length c6, .int .i64 V.next, .slice B9 V.covers.length d9, .slice B10 V.inn.length d10, .slice B11 V.outs.length d11] 0 r3)
                          have q5 := Kd.R_reads' (fill_row (C := C) (by have := HT2.out.lt; have := HT2.out.cg; omega) [.int .i64 V.day, .slice B1 V.members.length d1, .slice B2 V.known.length d2, .slice B3 V.known.length d3, .slice A3 V.baskets.length c3, .slice B5 V.balances.length d5, .slice A5 V.quotes.length c5, .slice A6 V.trades.length c6, .int .i64 V.next, .slice B9 V.covers.length d9, .slice B10 V.inn.length d10, .slice B11 V.outs.length d11] 0 r5)
                          have q9 := Kd.R_reads' (fill_row (C := C) (by have := HT3.out.lt; have := HT3.out.cg; omega) [.int .i64 V.day, .slice B1 V.members.length d1, .slice B2 V.known.length d2, .slice B3 V.known.length d3, .slice A3 V.baskets.length c3, .slice B5 V.balances.length d5, .slice A5 V.quotes.length c5, .slice A6 V.trades.length c6, .int .i64 V.next, .slice B9 V.covers.length d9, .slice B10 V.inn.length d10, .slice B11 V.outs.length d11] 0 r9)
                          have q10 := Kd.R_reads' (fill_row (C := C) (by have := HT4.out.lt; have := HT4.out.cg; omega) [.int .i64 V.day, .slice B1 V.members.length d1, .slice B2 V.known.length d2, .slice B3 V.known.length d3, .slice A3 V.baskets.length c3, .slice B5 V.balances.length d5, .slice A5 V.quotes.length c5, .slice A6 V.trades.length c6, .int .i64 V.next, .slice B9 V.covers.length d9, .slice B10 V.inn.length d10, .slice B11 V.outs.length d11] 0 r10)
                          have q11 := Kd.R_reads' (fill_row (C := C) (by have := HT5.out.lt; have := HT5.out.cg; omega) [.int .i64 V.day, .slice B1 V.members.length d1, .slice B2 V.known.length d2, .slice B3 V.known.length d3, .slice A3 V.baskets.length c3, .slice B5 V.balances.length d5, .slice A5 V.quotes.length c5, .slice A6 V.trades.length c6, .int .i64 V.next, .slice B9 V.covers.length d9, .slice B10 V.inn.length d10, .slice B11 V.outs.length d11] 0 r11)
                          refine ⟨B1, B2, B3, B5, B9, B10, B11, d1, d2, d3, d5, d9, d10, d11, ?_, ⟨⟨q1.2.2, q2.2.2, q3.2.2, Kd.C_below HL.out.baskets hbw, q5.2.2, Kd.C_below HL.out.quotes hbw, Kd.C_below HL.out.trades hbw, Fl.c77 (zs := V.covers.map c77) (by rw [List.map_map]; exact HFL.out) hbw q9.2.2, q10.2.2, q11.2.2⟩, ⟨q1.1 ▸ q1.2.1, q2.1 ▸ q2.2.1, q3.1 ▸ q3.2.1, q5.1 ▸ q5.2.1, (by show (V.covers.map c77).length ≤ d9; rw [List.length_map]; exact q9.2.1), q10.1 ▸ q10.2.1, q11.1 ▸ q11.2.1⟩, hbw⟩⟩
                          simp only [ofV, List.length_map]
end Go.Proofs.Ythpgjeiglhdciaa.SN
