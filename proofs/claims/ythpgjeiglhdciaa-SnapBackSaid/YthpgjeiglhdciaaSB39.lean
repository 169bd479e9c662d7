/- Part 39 of the proof's texts: what the theorem needs of them. -/
import Derived.Test.YthpgjeiglhdciaaSB37
import Derived.Deep.RegionHeld3
import Derived.Lib.SlicesS

set_option linter.unusedVariables false
set_option linter.unusedSimpArgs false
/- The document's view of the program's (function 38). (printed by gen_view.py) -/
namespace Go.Proofs.Ythpgjeiglhdciaa.SN
open Go Go.RowKit Go.Proofs Go.Proofs.Ythpgjeiglhdciaa.PL Go.Proofs.YthpgjeiglhdciaaW.PrintWords Go.Proofs.YthpgjeiglhdciaaW.PrintLast Go.Proofs.YthpgjeiglhdciaaW.PrintMore
attribute [local go_sem] id_eq
set_option maxRecDepth 100000 in
set_option maxHeartbeats 8000000 in
theorem told_any {w : World} {V : VW} {A1_ A2_ A3_ A4_ A5_ A6_ A7_ A9_ A10_ A11_ : Option Addr} {c1_ c2_ c3_ c4_ c5_ c6_ c7_ c9_ c10_ c11_ : Nat} (hL : VL w V A1_ A2_ A3_ A4_ A5_ A6_ A7_ A9_ A10_ A11_) (hC0 : VC V c1_ c2_ c3_ c4_ c5_ c6_ c7_ c9_ c10_ c11_) (hB : WL4 V) :
    Calls Try.prog 38 #[.agg #[.int .i64 V.day, .slice A1_ V.members.length c1_, .slice A2_ V.assets.length c2_, .slice A3_ V.prices.length c3_, .slice A4_ V.baskets.length c4_, .slice A5_ V.balances.length c5_, .slice A6_ V.quotes.length c6_, .slice A7_ V.trades.length c7_, .int .i64 V.next, .slice A9_ V.covers.length c9_, .slice A10_ V.inn.length c10_, .slice A11_ V.outs.length c11_]] w fun o w' => ∃ (B1 B2 B4 B8 B9 B10 : Option Addr) (d1 d2 d4 d8 d9 d10 : Nat), o = .returned (.agg #[.int .i64 V.day, .slice B1 (toldV V).members.length d1, .slice B2 (toldV V).known.length d2, .slice A4_ V.baskets.length c4_, .slice B4 (toldV V).balances.length d4, .slice A6_ V.quotes.length c6_, .slice A7_ V.trades.length c7_, .int .i64 V.next, .slice B8 (toldV V).covers.length d8, .slice B9 (toldV V).inn.length d9, .slice B10 (toldV V).outs.length d10]) ∧ Hid (RL w' (toldV V) B1 B2 A4_ B4 A6_ A7_ B8 B9 B10 ∧ RC (toldV V) d1 d2 c4_ d4 c6_ c7_ d8 d9 d10 ∧ Below w.heap.size w w') := by
  have HL := Lib.hid hL
  have HB := Lib.hid hB
  have HC := Lib.hid hC0
  clear hL hB hC0
  go_enter Try.func38, Try.ntmps38
  go_upto_region 1 with (fail)
  have hts := TP.start w #[.int .i64 V.day, .slice A1_ V.members.length c1_, .slice A2_ V.assets.length c2_, .slice A3_ V.prices.length c3_, .slice A4_ V.baskets.length c4_, .slice A5_ V.balances.length c5_, .slice A6_ V.quotes.length c6_, .slice A7_ V.trades.length c7_, .int .i64 V.next, .slice A9_ V.covers.length c9_, .slice A10_ V.inn.length c10_, .slice A11_ V.outs.length c11_] #[.int .i64 0, .slice none 0 0, .slice none 0 0, .slice none 0 0, .slice none 0 0, .slice none 0 0, .slice none 0 0, .int .i64 0, .slice none 0 0, .slice none 0 0, .slice none 0 0] 45 35
  obtain ⟨P, hP⟩ : ∃ P, w.heap.size = P := ⟨_, rfl⟩
  obtain ⟨C, hC⟩ : ∃ C, P + 1 = C := ⟨_, rfl⟩
  rw [hP, hC] at hts
  rw [hP]
  try rw [hC]
  generalize (w.alloc (.cells #[.int .i64 V.day, .slice A1_ V.members.length c1_, .slice A2_ V.assets.length c2_, .slice A3_ V.prices.length c3_, .slice A4_ V.baskets.length c4_, .slice A5_ V.balances.length c5_, .slice A6_ V.quotes.length c6_, .slice A7_ V.trades.length c7_, .int .i64 V.next, .slice A9_ V.covers.length c9_, .slice A10_ V.inn.length c10_, .slice A11_ V.outs.length c11_] 45)).alloc (.cells #[.int .i64 0, .slice none 0 0, .slice none 0 0, .slice none 0 0, .slice none 0 0, .slice none 0 0, .slice none 0 0, .int .i64 0, .slice none 0 0, .slice none 0 0, .slice none 0 0] 35) = W9 at hts ⊢
  have HTP := Lib.hid hts
  have hSD : W9.drew.cell? ⟨P, 0, none⟩ = some (.int .i64 V.day) ∧ W9.drew.cell? ⟨P, 1, none⟩ = some (.slice A1_ V.members.length c1_) ∧ W9.drew.cell? ⟨P, 4, none⟩ = some (.slice A4_ V.baskets.length c4_) ∧ W9.drew.cell? ⟨P, 6, none⟩ = some (.slice A6_ V.quotes.length c6_) ∧ W9.drew.cell? ⟨P, 7, none⟩ = some (.slice A7_ V.trades.length c7_) ∧ W9.drew.cell? ⟨P, 8, none⟩ = some (.int .i64 V.next) := ⟨cellsAt (show W9.drew.heap[P]? = _ from HTP.out.p) 0, cellsAt (show W9.drew.heap[P]? = _ from HTP.out.p) 1, cellsAt (show W9.drew.heap[P]? = _ from HTP.out.p) 4, cellsAt (show W9.drew.heap[P]? = _ from HTP.out.p) 6, cellsAt (show W9.drew.heap[P]? = _ from HTP.out.p) 7, cellsAt (show W9.drew.heap[P]? = _ from HTP.out.p) 8⟩
  have HSA := Lib.hid (show ∀ (w' : World) (x : Obj), (w'.cell? ⟨P, 0, none⟩ = some (.int .i64 V.day) ∧ w'.cell? ⟨P, 1, none⟩ = some (.slice A1_ V.members.length c1_) ∧ w'.cell? ⟨P, 4, none⟩ = some (.slice A4_ V.baskets.length c4_) ∧ w'.cell? ⟨P, 6, none⟩ = some (.slice A6_ V.quotes.length c6_) ∧ w'.cell? ⟨P, 7, none⟩ = some (.slice A7_ V.trades.length c7_) ∧ w'.cell? ⟨P, 8, none⟩ = some (.int .i64 V.next)) → ((w'.alloc x).cell? ⟨P, 0, none⟩ = some (.int .i64 V.day) ∧ (w'.alloc x).cell? ⟨P, 1, none⟩ = some (.slice A1_ V.members.length c1_) ∧ (w'.alloc x).cell? ⟨P, 4, none⟩ = some (.slice A4_ V.baskets.length c4_) ∧ (w'.alloc x).cell? ⟨P, 6, none⟩ = some (.slice A6_ V.quotes.length c6_) ∧ (w'.alloc x).cell? ⟨P, 7, none⟩ = some (.slice A7_ V.trades.length c7_) ∧ (w'.alloc x).cell? ⟨P, 8, none⟩ = some (.int .i64 V.next)) from fun w' x h => ⟨al_cell h.1 x, al_cell h.2.1 x, al_cell h.2.2.1 x, al_cell h.2.2.2.1 x, al_cell h.2.2.2.2.1 x, al_cell h.2.2.2.2.2 x⟩)
  have HSD := Lib.hid (show ∀ x : Obj, ((W9.alloc x).drew.cell? ⟨P, 0, none⟩ = some (.int .i64 V.day) ∧ (W9.alloc x).drew.cell? ⟨P, 1, none⟩ = some (.slice A1_ V.members.length c1_) ∧ (W9.alloc x).drew.cell? ⟨P, 4, none⟩ = some (.slice A4_ V.baskets.length c4_) ∧ (W9.alloc x).drew.cell? ⟨P, 6, none⟩ = some (.slice A6_ V.quotes.length c6_) ∧ (W9.alloc x).drew.cell? ⟨P, 7, none⟩ = some (.slice A7_ V.trades.length c7_) ∧ (W9.alloc x).drew.cell? ⟨P, 8, none⟩ = some (.int .i64 V.next)) from fun x => HSA.out W9 x hSD)
  have HC57 := Lib.hid (fun W (hb : Below w.heap.size w W) => lombardlaw30_Told.calls (V.members.length + 1) A1_ c1_ V.members (V.members.map m55) W (Kd.C_below HL.out.members hb) HC.out.members (told57 _ HB.out.members))
  clear hts hP hC
  go_cut [3] (fun v3 wx => ∃ (G d1 : Nat) (B1 : Option Addr), v3 = .pointer (some ⟨G, 0, none⟩) ∧ Hid (TV w wx P C G 45 35 #[.int .i64 V.day, .slice A1_ V.members.length c1_, .slice A2_ V.assets.length c2_, .slice A3_ V.prices.length c3_, .slice A4_ V.baskets.length c4_, .slice A5_ V.balances.length c5_, .slice A6_ V.quotes.length c6_, .slice A7_ V.trades.length c7_, .int .i64 V.next, .slice A9_ V.covers.length c9_, .slice A10_ V.inn.length c10_, .slice A11_ V.outs.length c11_] #[.int .i64 0, .slice none 0 0, .slice none 0 0, .slice none 0 0, .slice none 0 0, .slice none 0 0, .slice none 0 0, .int .i64 0, .slice none 0 0, .slice none 0 0, .slice none 0 0] #[.int .i64 V.day, .slice B1 V.members.length d1, .slice none 0 0, .slice A4_ V.baskets.length c4_, .slice none 0 0, .slice A6_ V.quotes.length c6_, .slice A7_ V.trades.length c7_, .int .i64 V.next, .slice none 0 0, .slice none 0 0, .slice none 0 0] ∧ k55.R 55 wx W9.heap.size (fun k => k ≠ G) (.slice B1 V.members.length d1) (V.members.map m55)))
  case first =>
    go_region_held3 (fun w' => w'.cell? ⟨P, 0, none⟩ = some (.int .i64 V.day) ∧ w'.cell? ⟨P, 1, none⟩ = some (.slice A1_ V.members.length c1_) ∧ w'.cell? ⟨P, 4, none⟩ = some (.slice A4_ V.baskets.length c4_) ∧ w'.cell? ⟨P, 6, none⟩ = some (.slice A6_ V.quotes.length c6_) ∧ w'.cell? ⟨P, 7, none⟩ = some (.slice A7_ V.trades.length c7_) ∧ w'.cell? ⟨P, 8, none⟩ = some (.int .i64 V.next))
      (first | with_reducible assumption | with_reducible exact HSA.out _ _ (by with_reducible assumption) | with_reducible exact HSD.out _ | exact six_set' (by with_reducible assumption) [.int .i64 V.day, .slice A9 V.members.length c9, .slice none 0 0, .slice A4_ V.baskets.length c4_, .slice none 0 0, .slice A6_ V.quotes.length c6_, .slice A7_ V.trades.length c7_, .int .i64 V.next, .slice none 0 0, .slice none 0 0, .slice none 0 0] (by with_reducible assumption))
      (first
        | (go_at_call 57; have hk0 : True := trivial; refine (HC57.out _ (HTP.out.up (below_drew (Below.refl _ _))).bw).mono ?_; rintro e w5 ⟨v0, rfl, hr5, hb5⟩; obtain ⟨A9, c9, hv0⟩ := Kd.R_slice hr5; rw [List.length_map] at hv0; subst hv0; have HT5 := Lib.hid ((HTP.out.up (below_drew (Below.refl _ _))).up hb5); have ht5 := HT5.out; have k5 : w5.cell? ⟨P, 0, none⟩ = some (.int .i64 V.day) ∧ w5.cell? ⟨P, 1, none⟩ = some (.slice A1_ V.members.length c1_) ∧ w5.cell? ⟨P, 4, none⟩ = some (.slice A4_ V.baskets.length c4_) ∧ w5.cell? ⟨P, 6, none⟩ = some (.slice A6_ V.quotes.length c6_) ∧ w5.cell? ⟨P, 7, none⟩ = some (.slice A7_ V.trades.length c7_) ∧ w5.cell? ⟨P, 8, none⟩ = some (.int .i64 V.next) := ⟨cellsAt ht5.p 0, cellsAt ht5.p 1, cellsAt ht5.p 4, cellsAt ht5.p 6, cellsAt ht5.p 7, cellsAt ht5.p 8⟩; have HR5 := Lib.hid hr5; clear hr5 hb5)
        | (go_at_call 57; refine (HC57.out _ ((HTP.out.up (below_alloc (Below.refl _ _) _)).up (below_drew (Below.refl _ _))).bw).mono ?_; rintro e w5 ⟨v0, rfl, hr5, hb5⟩; obtain ⟨A9, c9, hv0⟩ := Kd.R_slice hr5; rw [List.length_map] at hv0; subst hv0; have HT5 := Lib.hid (((HTP.out.up (below_alloc (Below.refl _ _) _)).up (below_drew (Below.refl _ _))).up hb5); have ht5 := HT5.out; have k5 : w5.cell? ⟨P, 0, none⟩ = some (.int .i64 V.day) ∧ w5.cell? ⟨P, 1, none⟩ = some (.slice A1_ V.members.length c1_) ∧ w5.cell? ⟨P, 4, none⟩ = some (.slice A4_ V.baskets.length c4_) ∧ w5.cell? ⟨P, 6, none⟩ = some (.slice A6_ V.quotes.length c6_) ∧ w5.cell? ⟨P, 7, none⟩ = some (.slice A7_ V.trades.length c7_) ∧ w5.cell? ⟨P, 8, none⟩ = some (.int .i64 V.next) := ⟨cellsAt ht5.p 0, cellsAt ht5.p 1, cellsAt ht5.p 4, cellsAt ht5.p 6, cellsAt ht5.p 7, cellsAt ht5.p 8⟩; have HR5 := Lib.hid hr5; have HG5 := Lib.hid (kept_alloc (W := W9) hb5); have hPG : P ≠ W9.heap.size := Nat.ne_of_lt (Nat.lt_trans HTP.out.pc HTP.out.lt); have gg0 : w5.cell? ⟨W9.heap.size, 0, none⟩ = some (.int .i64 0) := cellsAt HG5.out 0; have gf0 := frzAt HG5.out 0; have gg1 : w5.cell? ⟨W9.heap.size, 1, none⟩ = some (.slice none 0 0) := cellsAt HG5.out 1; have gf1 := frzAt HG5.out 1; have gg2 : w5.cell? ⟨W9.heap.size, 2, none⟩ = some (.slice none 0 0) := cellsAt HG5.out 2; have gf2 := frzAt HG5.out 2; have gg3 : w5.cell? ⟨W9.heap.size, 3, none⟩ = some (.slice none 0 0) := cellsAt HG5.out 3; have gf3 := frzAt HG5.out 3; have gg4 : w5.cell? ⟨W9.heap.size, 4, none⟩ = some (.slice none 0 0) := cellsAt HG5.out 4; have gf4 := frzAt HG5.out 4; have gg5 : w5.cell? ⟨W9.heap.size, 5, none⟩ = some (.slice none 0 0) := cellsAt HG5.out 5; have gf5 := frzAt HG5.out 5; have gg6 : w5.cell? ⟨W9.heap.size, 6, none⟩ = some (.slice none 0 0) := cellsAt HG5.out 6; have gf6 := frzAt HG5.out 6; have gg7 : w5.cell? ⟨W9.heap.size, 7, none⟩ = some (.int .i64 0) := cellsAt HG5.out 7; have gf7 := frzAt HG5.out 7; have gg8 : w5.cell? ⟨W9.heap.size, 8, none⟩ = some (.slice none 0 0) := cellsAt HG5.out 8; have gf8 := frzAt HG5.out 8; have gg9 : w5.cell? ⟨W9.heap.size, 9, none⟩ = some (.slice none 0 0) := cellsAt HG5.out 9; have gf9 := frzAt HG5.out 9; have gg10 : w5.cell? ⟨W9.heap.size, 10, none⟩ = some (.slice none 0 0) := cellsAt HG5.out 10; have gf10 := frzAt HG5.out 10; clear hr5 hb5))
    all_goals (go_wp2_with (fail); go_meet; first | (have h0 := HT5.out.fill HG5.out HTP.out.lt [.int .i64 V.day, .slice A9 V.members.length c9, .slice none 0 0, .slice A4_ V.baskets.length c4_, .slice none 0 0, .slice A6_ V.quotes.length c6_, .slice A7_ V.trades.length c7_, .int .i64 V.next, .slice none 0 0, .slice none 0 0, .slice none 0 0] rfl; have h1 := row_first HR5.out [.int .i64 V.day, .slice A9 V.members.length c9, .slice none 0 0, .slice A4_ V.baskets.length c4_, .slice none 0 0, .slice A6_ V.quotes.length c6_, .slice A7_ V.trades.length c7_, .int .i64 V.next, .slice none 0 0, .slice none 0 0, .slice none 0 0]; simp only [setAll, Nat.zero_add, Nat.reduceAdd] at h0 h1; exact ⟨W9.heap.size, c9, A9, rfl, ⟨h0, h1⟩⟩) | exact ⟨w5.heap.size, c9, A9, rfl, ⟨HT5.out.new _, row_behind HR5.out _⟩⟩)
  case rest =>
    obtain ⟨G, d1, B1, rfl, H⟩ := hcut
    have HT0 := Lib.hid H.out.1
    have HS0 := Lib.hid (And.intro (FS.snoc (d := k55) (e := 55) (b := W9.heap.size) (v := .slice B1 V.members.length d1) (xs := V.members.map m55) (FS.nil G)) (And.intro (show (fun _ : World => True) wc from trivial) H.out.2))
    have HCW := Lib.hid HTP.out.lt
    clear H hSD HSA HSD HC57
    rename World => W0
    go_wp2_with (fail)
    go_loopg [4] (V.assets.length + 1) (fun kq v w' => ∃ (k : Nat) (d2 : Nat) (B2 : Option Addr), v = .int .i64 k ∧ Hid (kq + k = V.assets.length + 1 ∧ k ≤ V.assets.length ∧ LS k59 59 w W0 w' P C G 45 35 #[.int .i64 V.day, .slice A1_ V.members.length c1_, .slice A2_ V.assets.length c2_, .slice A3_ V.prices.length c3_, .slice A4_ V.baskets.length c4_, .slice A5_ V.balances.length c5_, .slice A6_ V.quotes.length c6_, .slice A7_ V.trades.length c7_, .int .i64 V.next, .slice A9_ V.covers.length c9_, .slice A10_ V.inn.length c10_, .slice A11_ V.outs.length c11_] #[.int .i64 0, .slice none 0 0, .slice none 0 0, .slice none 0 0, .slice none 0 0, .slice none 0 0, .slice none 0 0, .int .i64 0, .slice none 0 0, .slice none 0 0, .slice none 0 0] #[.int .i64 V.day, .slice B1 V.members.length d1, .slice B2 k d2, .slice A4_ V.baskets.length c4_, .slice none 0 0, .slice A6_ V.quotes.length c6_, .slice A7_ V.trades.length c7_, .int .i64 V.next, .slice none 0 0, .slice none 0 0, .slice none 0 0] (.slice B2 k d2) ((V.assets.take k).map (fun a => k59f V.prices a))))
    case atStart => exact ⟨0, 0, none, rfl, ⟨rfl, Nat.zero_le _, LS.start HT0.out⟩⟩
    case round =>
      obtain ⟨k, d2, B2, rfl, HI⟩ := hrel
      have kp1 : wr.cell? ⟨P, 2, none⟩ = some (.slice A2_ V.assets.length c2_) := HI.out.2.2.t.cellP 2
      by_cases hk : k < V.assets.length
      · obtain ⟨ad, hA, x0, x1, x2, x3, x4⟩ := at_T57 HL.out.assets (k : Int) (by omega) (by omega)
        rw [Int.toNat_natCast] at x0 x1 x2 x3 x4
        obtain ⟨x, hx⟩ : ∃ x, rd_T57 V.assets (k : Int) = x := ⟨_, rfl⟩
        rw [hx] at x0 x1 x2 x3 x4
        obtain ⟨hx1, hm⟩ := getD_some (z := z57) (x := x) hk (by rw [← hx]; unfold rd_T57; rw [Int.toNat_natCast])
        subst hA
        obtain ⟨p1, q1⟩ := idx_in hk
        have HW := Lib.hid (idx_next hk (by have := HB.out.assets; omega))
        have HK := Lib.hid hk
        have HX := Lib.hid hx1
        have HU2 := Lib.hid (show (((V.assets.take k).map (fun a => k59f V.prices a)).length + 1) * 64 ≤ 140737488355328 by rw [map_len _ (Nat.le_of_lt hk)]; have := HB.out.assets; omega)
        clear hk hx1 hm hx
        have y0 := bel_cell HI.out.2.2.t.bw x0
        have y1 := bel_cell HI.out.2.2.t.bw x1
        have y2 := bel_cell HI.out.2.2.t.bw x2
        have y3 := bel_cell HI.out.2.2.t.bw x3
        have y4 := bel_cell HI.out.2.2.t.bw x4
        go_upto_region 6 with (fail)
        obtain ⟨L, hL⟩ : ∃ L, wr.heap.size = L := ⟨_, rfl⟩
        obtain ⟨WL, hWL⟩ : ∃ W, wr.alloc (.cells #[.string x.f0, .int .i64 x.f1, .int .i64 x.f2, .int .i64 x.f3, .string x.f4, .int .i64 0] 59) = W := ⟨_, rfl⟩
        have hbl : Below L wr WL := hL ▸ hWL ▸ below_alloc (Below.refl _ _) _
        have hhl : WL.heap[L]? = some (.cells #[.string x.f0, .int .i64 x.f1, .int .i64 x.f2, .int .i64 x.f3, .string x.f4, .int .i64 0] 59 (0, 0)) := hWL ▸ hL ▸ (Go.MapKept.heap_alloc wr _).1
        rw [hWL, hL]
        have HLL := Lib.hid (And.intro hL (And.intro hbl hhl))
        clear hWL hL hbl hhl kp1 p1 q1 x0 x1 x2 x3 x4 y0 y1 y2 y3 y4
        go_wp2_with (fail)
        obtain ⟨wo, hwo⟩ : ∃ W, wr = W := ⟨_, rfl⟩
        obtain ⟨go, hgo⟩ : ∃ g, gk = g := ⟨_, rfl⟩
        go_loopg [6] (V.prices.length + 1) (fun jq v w' => ∃ (j : Nat), v = .int .i64 j ∧ Hid (jq + j = V.prices.length + 1 ∧ j ≤ V.prices.length ∧ Below L wo w' ∧ w'.heap[L]? = some (.cells #[.string x.f0, .int .i64 x.f1, .int .i64 x.f2, .int .i64 x.f3, .string x.f4, .int .i64 (prc (V.prices.take j) x.f0)] 59 (0, 0))))
        case atStart => exact ⟨0, rfl, ⟨rfl, Nat.zero_le _, hwo ▸ HLL.out.2.1, HLL.out.2.2⟩⟩
        case round =>
          obtain ⟨j, rfl, HJ⟩ := hrel
          have HQ := Lib.hid (HI.out.2.2.below (by have h := HJ.out.2.2.1; rw [← hwo, ← HLL.out.1] at h; exact h))
          have kp3 : wr.cell? ⟨P, 3, none⟩ = some (.slice A3_ V.prices.length c3_) := HQ.out.t.cellP 3
          have e0 : wr.cell? ⟨L, 0, none⟩ = some (.string x.f0) := cellsAt HJ.out.2.2.2 0
          have e1 : wr.cell? ⟨L, 1, none⟩ = some (.int .i64 x.f1) := cellsAt HJ.out.2.2.2 1
          have e2 : wr.cell? ⟨L, 2, none⟩ = some (.int .i64 x.f2) := cellsAt HJ.out.2.2.2 2
          have e3 : wr.cell? ⟨L, 3, none⟩ = some (.int .i64 x.f3) := cellsAt HJ.out.2.2.2 3
          have e4 : wr.cell? ⟨L, 4, none⟩ = some (.string x.f4) := cellsAt HJ.out.2.2.2 4
          have e5 : wr.cell? ⟨L, 5, none⟩ = some (.int .i64 (prc (V.prices.take j) x.f0)) := cellsAt HJ.out.2.2.2 5
          have f5 : wr.frozen? ⟨L, 5, none⟩ = false := frzAt HJ.out.2.2.2 5
          by_cases hj : j < V.prices.length
          · obtain ⟨ad, hA, x0, x1⟩ := at_T70 HL.out.prices (j : Int) (by omega) (by omega)
            rw [Int.toNat_natCast] at x0 x1
            obtain ⟨z, hz⟩ : ∃ z, rd_T70 V.prices (j : Int) = z := ⟨_, rfl⟩
            rw [hz] at x0 x1
            obtain ⟨hz1, hm⟩ := getD_some (z := z70) (x := z) hj (by rw [← hz]; unfold rd_T70; rw [Int.toNat_natCast])
            subst hA
            obtain ⟨p1, q1⟩ := idx_in hj
            have HV := Lib.hid (idx_next hj (by have := HB.out.prices; omega))
            have HKJ := Lib.hid hj
            have HP := Lib.hid (prc_next (s := x.f0) hz1)
            have y0 := bel_cell HQ.out.t.bw x0
            have y1 := bel_cell HQ.out.t.bw x1
            have hSD : wr.drew.cell? ⟨P, 3, none⟩ = some (.slice (some ad) V.prices.length c3_) ∧ wr.drew.cell? (ad.add (j * 2)) = some (.string z.f0) ∧ wr.drew.cell? ⟨L, 0, none⟩ = some (.string x.f0) := ⟨kp3, y0, e0⟩
            clear hj hz1 hm hz x0 x1
            by_cases hs : z.f0 = x.f0
            · have b1 : (z.f0.toList == x.f0.toList) = true := (Go.Lib.bytes_beq_iff _ _).2 hs
              have HSS := Lib.hid hs
              clear hs
              go_wp2_with (fail)
              go_region_held3 (fun w' => w'.cell? ⟨P, 3, none⟩ = some (.slice (some ad) V.prices.length c3_) ∧ w'.cell? (ad.add (j * 2)) = some (.string z.f0) ∧ w'.cell? ⟨L, 0, none⟩ = some (.string x.f0)) (first | with_reducible assumption) (fail)
              go_wp2_with (fail)
              go_roundg (V.prices.length - j)
              case measure => have := HJ.out.1; have := HKJ.out; omega
              case rel =>
                exact ⟨j + 1, by rw [HV.out], ⟨by have := HJ.out.1; have := HKJ.out; omega, HKJ.out, (below_drew HJ.out.2.2.1).setCell (p := ⟨L, 5, none⟩) (Nat.le_refl _) _, by rw [HP.out, if_pos HSS.out]; exact set_mod (W := wr.drew) HJ.out.2.2.2⟩⟩
            · have b1 : (z.f0.toList == x.f0.toList) = false := (Go.Lib.bytes_beq_false_iff _ _).2 hs
              have HSS := Lib.hid hs
              clear hs
              go_wp2_with (fail)
              go_region_held3 (fun w' => w'.cell? ⟨P, 3, none⟩ = some (.slice (some ad) V.prices.length c3_) ∧ w'.cell? (ad.add (j * 2)) = some (.string z.f0) ∧ w'.cell? ⟨L, 0, none⟩ = some (.string x.f0)) (first | with_reducible assumption) (fail)
              go_wp2_with (fail)
              go_roundg (V.prices.length - j)
              case measure => have := HJ.out.1; have := HKJ.out; omega
              case rel =>
                exact ⟨j + 1, by rw [HV.out], ⟨by have := HJ.out.1; have := HKJ.out; omega, HKJ.out, below_drew HJ.out.2.2.1, by rw [HP.out, if_neg HSS.out]; exact HJ.out.2.2.2⟩⟩
          · have q1 := idx_out hj
            obtain rfl : j = V.prices.length := by have := HJ.out.2.1; omega
            rw [List.take_length] at e5
            have kG : wr.cell? ⟨G, 2, none⟩ = some (.slice B2 k d2) := HQ.out.t.cellG 2
            clear hj
            go_wp2_with (at_builtin; refine Kd.R_append k59 (w0 := wr) (W := wr) W0.heap.size (by rfl) (.tmp 65) (.tmp 67) 23 59 (.agg #[(.string ⟨#[]⟩), (.int .i64 0), (.int .i64 0), (.int .i64 0), (.string ⟨#[]⟩), (.int .i64 0)]) 64 rfl Try.underlying23 info59 rfl (by decide) (by decide) (.slice B2 k d2) ((V.assets.take k).map (fun a => k59f V.prices a)) ⟨⟨x.f0, x.f1, x.f2, x.f3, x.f4⟩, prc V.prices x.f0⟩ [.string x.f0, .int .i64 x.f1, .int .i64 x.f2, .int .i64 x.f3, .string x.f4, .int .i64 (prc V.prices x.f0)] (fun k => k ≠ G) (fun _ => False) rfl rfl (k59_mkM _ _ _ _) (fun _ h => h.elim) HQ.out.fresh HQ.out.r (Below.refl _ _) HQ.out.le HU2.out ?_; intro v1 wz ho hb hg5 hat; obtain ⟨A9, c9, rfl, h5⟩ := HQ.out.app_ (map_len _ (Nat.le_of_lt HK.out)) ho hg5; have H5 := Lib.hid h5; have fz := H5.out.t.frz 2; have cz : wz.cell? ⟨G, 2, none⟩ = some (.slice B2 k d2) := H5.out.t.cellG 2; clear ho hb hg5 hat h5)
            go_roundg (V.assets.length - k)
            case measure => have := HI.out.1; have := HK.out; omega
            case rel =>
              have h9 := H5.out.set 2 (.slice A9 (k + 1) c9)
              rw [show ((V.assets.take k).map (fun a => k59f V.prices a)) ++ [⟨⟨x.f0, x.f1, x.f2, x.f3, x.f4⟩, prc V.prices x.f0⟩] = (V.assets.take (k + 1)).map (fun a => k59f V.prices a) from (map_next (fun a => k59f V.prices a) HX.out).symm] at h9
              exact ⟨k + 1, c9, A9, by rw [HW.out], ⟨by have := HI.out.1; have := HK.out; omega, HK.out, h9.to rfl⟩⟩
      · have q1 := idx_out hk
        obtain rfl : k = V.assets.length := by have := HI.out.2.1; omega
        have hl := HI.out.2.2
        rw [List.take_length] at hl
        have HT1 := Lib.hid hl.t
        have HS1 := Lib.hid (And.intro (FS.snoc (d := k59) (e := 59) (b := W0.heap.size) (v := .slice B2 V.assets.length d2) (xs := V.assets.map (fun a => k59f V.prices a)) HS0.out.1) (And.intro (HS0.out.1 _ _ hl.gr HS0.out.2) hl.r))
        go_wp2_with (fail)
        clear hk hl HI q1 kp1 HS0
        rename World => W1
        go_loopg [7] (V.balances.length + 1) (fun kq v w' => ∃ (k : Nat) (d4 : Nat) (B4 : Option Addr), v = .int .i64 k ∧ Hid (kq + k = V.balances.length + 1 ∧ k ≤ V.balances.length ∧ LS k67 67 w W1 w' P C G 45 35 #[.int .i64 V.day, .slice A1_ V.members.length c1_, .slice A2_ V.assets.length c2_, .slice A3_ V.prices.length c3_, .slice A4_ V.baskets.length c4_, .slice A5_ V.balances.length c5_, .slice A6_ V.quotes.length c6_, .slice A7_ V.trades.length c7_, .int .i64 V.next, .slice A9_ V.covers.length c9_, .slice A10_ V.inn.length c10_, .slice A11_ V.outs.length c11_] #[.int .i64 0, .slice none 0 0, .slice none 0 0, .slice none 0 0, .slice none 0 0, .slice none 0 0, .slice none 0 0, .int .i64 0, .slice none 0 0, .slice none 0 0, .slice none 0 0] #[.int .i64 V.day, .slice B1 V.members.length d1, .slice B2 V.assets.length d2, .slice A4_ V.baskets.length c4_, .slice B4 k d4, .slice A6_ V.quotes.length c6_, .slice A7_ V.trades.length c7_, .int .i64 V.next, .slice none 0 0, .slice none 0 0, .slice none 0 0] (.slice B4 k d4) ((V.balances.take k).map b67)))
        case atStart => exact ⟨0, 0, none, rfl, ⟨rfl, Nat.zero_le _, LS.start HT1.out⟩⟩
        case round =>
          obtain ⟨k, d4, B4, rfl, HI⟩ := hrel
          have kp1 : wr.cell? ⟨P, 5, none⟩ = some (.slice A5_ V.balances.length c5_) := HI.out.2.2.t.cellP 5
          by_cases hk : k < V.balances.length
          · obtain ⟨ad, hA, x0, x1, x2, x3⟩ := at_T73 HL.out.balances (k : Int) (by omega) (by omega)
            rw [Int.toNat_natCast] at x0 x1 x2 x3
            obtain ⟨x, hx⟩ : ∃ x, rd_T73 V.balances (k : Int) = x := ⟨_, rfl⟩
            rw [hx] at x0 x1 x2 x3
            obtain ⟨hx1, hm⟩ := getD_some (z := z73) (x := x) hk (by rw [← hx]; unfold rd_T73; rw [Int.toNat_natCast])
            subst hA
            obtain ⟨p1, q1⟩ := idx_in hk
            have HW := Lib.hid (idx_next hk (by have := HB.out.balances; omega))
            have HK := Lib.hid hk
            have HX := Lib.hid hx1
            have HE := Lib.hid (And.intro x0 (And.intro x1 (And.intro x2 x3)))
            have HU4 := Lib.hid (show (((V.balances.take k).map b67).length + 1) * 40 ≤ 140737488355328 by rw [map_len _ (Nat.le_of_lt hk)]; have := HB.out.balances; omega)
            clear hk hx1 hm hx
            have x0_ : True := trivial
            have y0 := bel_cell HI.out.2.2.t.bw x0; have y1 := bel_cell HI.out.2.2.t.bw x1; have y2 := bel_cell HI.out.2.2.t.bw x2; have y3 := bel_cell HI.out.2.2.t.bw x3; go_upto_region 16 with (fail)
            obtain ⟨WL, hWL⟩ : ∃ W, wr.alloc (.cells #[.int .i64 x.f0.f0, .int .i64 x.f0.f1, .string x.f0.f2] 71) = W := ⟨_, rfl⟩
            obtain ⟨L, hL⟩ : ∃ L, wr.heap.size = L := ⟨_, rfl⟩
            have hbl : Below wr.heap.size wr WL := hWL ▸ below_alloc (Below.refl _ _) _
            have hhl : WL.heap[L]? = some (.cells #[.int .i64 x.f0.f0, .int .i64 x.f0.f1, .string x.f0.f2] 71 (0, 0)) := hWL ▸ hL ▸ (Go.MapKept.heap_alloc wr _).1
            rw [hWL, hL]
            have HQ := Lib.hid (HI.out.2.2.below hbl)
            have e0 : WL.cell? ⟨L, 0, none⟩ = some (.int .i64 x.f0.f0) := cellsAt hhl 0
            have e1 : WL.cell? ⟨L, 1, none⟩ = some (.int .i64 x.f0.f1) := cellsAt hhl 1
            have e2 : WL.cell? ⟨L, 2, none⟩ = some (.string x.f0.f2) := cellsAt hhl 2
            have HH := Lib.hid (And.intro hhl hbl)
            have HLG := Lib.hid (show G < L from hL ▸ HI.out.2.2.t.lt)
            clear hWL hL hbl hhl kp1 y0 y1 y2 y3 x0 x1 x2 x3
            have HSX := Lib.hid (show ∀ (w' : World) (g5 : Array Value), TV w w' P C G 45 35 #[.int .i64 V.day, .slice A1_ V.members.length c1_, .slice A2_ V.assets.length c2_, .slice A3_ V.prices.length c3_, .slice A4_ V.baskets.length c4_, .slice (some ad) V.balances.length c5_, .slice A6_ V.quotes.length c6_, .slice A7_ V.trades.length c7_, .int .i64 V.next, .slice A9_ V.covers.length c9_, .slice A10_ V.inn.length c10_, .slice A11_ V.outs.length c11_] #[.int .i64 0, .slice none 0 0, .slice none 0 0, .slice none 0 0, .slice none 0 0, .slice none 0 0, .slice none 0 0, .int .i64 0, .slice none 0 0, .slice none 0 0, .slice none 0 0] g5 → w'.heap[L]? = some (.cells #[.int .i64 x.f0.f0, .int .i64 x.f0.f1, .string x.f0.f2] 71 (0, 0)) → (w'.cell? ⟨P, 5, none⟩ = some (.slice (some ad) V.balances.length c5_) ∧ w'.cell? ⟨(ad.add (k * 4)).block, (ad.add (k * 4)).off + 3, none⟩ = some (.int .i64 x.f1) ∧ w'.cell? ⟨L, 0, none⟩ = some (.int .i64 x.f0.f0) ∧ w'.cell? ⟨L, 1, none⟩ = some (.int .i64 x.f0.f1) ∧ w'.cell? ⟨L, 2, none⟩ = some (.string x.f0.f2)) from fun w' g5 t hl => ⟨t.cellP 5, bel_cell t.bw HE.out.2.2.2, cellsAt hl 0, cellsAt hl 1, cellsAt hl 2⟩)
            have HSA := Lib.hid (show ∀ (w' : World) (o : Obj), (w'.cell? ⟨P, 5, none⟩ = some (.slice (some ad) V.balances.length c5_) ∧ w'.cell? ⟨(ad.add (k * 4)).block, (ad.add (k * 4)).off + 3, none⟩ = some (.int .i64 x.f1) ∧ w'.cell? ⟨L, 0, none⟩ = some (.int .i64 x.f0.f0) ∧ w'.cell? ⟨L, 1, none⟩ = some (.int .i64 x.f0.f1) ∧ w'.cell? ⟨L, 2, none⟩ = some (.string x.f0.f2)) → ((w'.alloc o).cell? ⟨P, 5, none⟩ = some (.slice (some ad) V.balances.length c5_) ∧ (w'.alloc o).cell? ⟨(ad.add (k * 4)).block, (ad.add (k * 4)).off + 3, none⟩ = some (.int .i64 x.f1) ∧ (w'.alloc o).cell? ⟨L, 0, none⟩ = some (.int .i64 x.f0.f0) ∧ (w'.alloc o).cell? ⟨L, 1, none⟩ = some (.int .i64 x.f0.f1) ∧ (w'.alloc o).cell? ⟨L, 2, none⟩ = some (.string x.f0.f2)) from fun w' o h => ⟨al_cell h.1 o, al_cell h.2.1 o, al_cell h.2.2.1 o, al_cell h.2.2.2.1 o, al_cell h.2.2.2.2 o⟩)
            have hbd : Below WL.heap.size WL WL.drew := below_drew (Below.refl _ _)
            have HD := Lib.hid (HQ.out.below hbd)
            have hSD : WL.drew.cell? ⟨P, 5, none⟩ = some (.slice (some ad) V.balances.length c5_) ∧ WL.drew.cell? ⟨(ad.add (k * 4)).block, (ad.add (k * 4)).off + 3, none⟩ = some (.int .i64 x.f1) ∧ WL.drew.cell? ⟨L, 0, none⟩ = some (.int .i64 x.f0.f0) ∧ WL.drew.cell? ⟨L, 1, none⟩ = some (.int .i64 x.f0.f1) ∧ WL.drew.cell? ⟨L, 2, none⟩ = some (.string x.f0.f2) := HSX.out _ _ HD.out.t HH.out.1
            have hG : WL.drew.cell? ⟨G, 4, none⟩ = some (.slice B4 k d4) := HD.out.t.cellG 4
            have hGA : ∀ o : Obj, (WL.drew.alloc o).cell? ⟨G, 4, none⟩ = some (.slice B4 k d4) := fun o => al_cell hG o
            have HSD := Lib.hid (show ∀ o : Obj, ((WL.alloc o).drew.cell? ⟨P, 5, none⟩ = some (.slice (some ad) V.balances.length c5_) ∧ (WL.alloc o).drew.cell? ⟨(ad.add (k * 4)).block, (ad.add (k * 4)).off + 3, none⟩ = some (.int .i64 x.f1) ∧ (WL.alloc o).drew.cell? ⟨L, 0, none⟩ = some (.int .i64 x.f0.f0) ∧ (WL.alloc o).drew.cell? ⟨L, 1, none⟩ = some (.int .i64 x.f0.f1) ∧ (WL.alloc o).drew.cell? ⟨L, 2, none⟩ = some (.string x.f0.f2)) from fun o => HSA.out _ o (HSX.out _ _ HQ.out.t HH.out.1))
            have hGB : ∀ o : Obj, (WL.alloc o).drew.cell? ⟨G, 4, none⟩ = some (.slice B4 k d4) := fun o => al_cell (W := WL) hG o
            go_wp2_with (fail)
            conv => arg 2; arg 2; arg 1; arg 2; arg 1; arg 2; change id _
            go_region_held3 (fun w' => w'.cell? ⟨P, 5, none⟩ = some (.slice (some ad) V.balances.length c5_) ∧ w'.cell? ⟨(ad.add (k * 4)).block, (ad.add (k * 4)).off + 3, none⟩ = some (.int .i64 x.f1) ∧ w'.cell? ⟨L, 0, none⟩ = some (.int .i64 x.f0.f0) ∧ w'.cell? ⟨L, 1, none⟩ = some (.int .i64 x.f0.f1) ∧ w'.cell? ⟨L, 2, none⟩ = some (.string x.f0.f2))
              (first | with_reducible assumption | with_reducible exact HSD.out _ | with_reducible exact HSA.out _ _ (by with_reducible assumption) | exact (HSX.out _ _ (H5.out.t.set _ _) ((Below.heap_setCell _ _ _ _ (Nat.ne_of_gt HLG.out)).trans HZ.out)))
              (first | (refine Kd.R_append_step k67 (w0 := WL.drew) (W := WL.drew) W1.heap.size (by rfl) (.tmp 84) (.tmp 99) 25 67 (.agg #[(.int .i64 0), (.int .i64 0), (.string ⟨#[]⟩), (.int .i64 0)]) 40 rfl Try.underlying25 info67 rfl (by decide) (by decide) (.slice B4 k d4) ((V.balances.take k).map b67) ⟨⟨x.f0.f0, x.f0.f1, x.f0.f2⟩, x.f1⟩ [.int .i64 x.f0.f0, .int .i64 x.f0.f1, .string x.f0.f2, .int .i64 x.f1] (fun k => k ≠ G) (fun _ => False) rfl rfl (k67_mkM _ _ _ _) (fun _ h => h.elim) HD.out.fresh HD.out.r (Below.refl _ _) HD.out.le HU4.out ?_; intro v1 wz ho hb hg5 hat; obtain ⟨A9, c9, rfl, h5⟩ := HD.out.app_ (map_len _ (Nat.le_of_lt HK.out)) ho hg5; have H5 := Lib.hid h5; have hhz := (hg5.block L (Array.getElem?_eq_some_iff.1 HH.out.1).1 (Kd.R_ne HD.out.r HH.out.1 (by decide))).trans HH.out.1; have kk := HSX.out _ _ H5.out.t hhz; have HZ := Lib.hid hhz; clear hhz; have fz := H5.out.t.frz 4; have cz : wz.cell? ⟨G, 4, none⟩ = some (.slice B4 k d4) := H5.out.t.cellG 4; clear ho hb hg5 hat h5))
            all_goals
              go_wp2_with (fail)
              go_roundg (V.balances.length - k)
              case measure => have := HI.out.1; have := HK.out; omega
              case rel =>
                have h9 := H5.out.set 4 (.slice A9 (k + 1) c9)
                rw [show (V.balances.take k).map b67 ++ [⟨⟨x.f0.f0, x.f0.f1, x.f0.f2⟩, x.f1⟩] = (V.balances.take (k + 1)).map b67 from (map_next b67 HX.out).symm] at h9
                exact ⟨k + 1, c9, A9, by rw [HW.out], ⟨by have := HI.out.1; have := HK.out; omega, HK.out, h9.to rfl⟩⟩
          · have q1 := idx_out hk
            obtain rfl : k = V.balances.length := by have := HI.out.2.1; omega
            have hl := HI.out.2.2
            rw [List.take_length] at hl
            have HT2 := Lib.hid hl.t
            have HS2 := Lib.hid (And.intro (FS.snoc (d := k67) (e := 67) (b := W1.heap.size) (v := (.slice B4 V.balances.length d4)) (xs := (V.balances.map b67)) HS1.out.1) (And.intro (HS1.out.1 _ _ hl.gr HS1.out.2) hl.r))
            go_wp2_with (fail)
            clear hk hl HI q1 kp1 HS1
            rename World => W2
            go_loopg [9] (V.covers.length + 1) (fun kq v w' => ∃ (k : Nat) (d8 : Nat) (B8 : Option Addr) (ys : List (Int × Option Addr × Nat × Nat)), v = .int .i64 k ∧ Hid (kq + k = V.covers.length + 1 ∧ k ≤ V.covers.length ∧ LS kF 76 w W2 w' P C G 45 35 #[.int .i64 V.day, .slice A1_ V.members.length c1_, .slice A2_ V.assets.length c2_, .slice A3_ V.prices.length c3_, .slice A4_ V.baskets.length c4_, .slice A5_ V.balances.length c5_, .slice A6_ V.quotes.length c6_, .slice A7_ V.trades.length c7_, .int .i64 V.next, .slice A9_ V.covers.length c9_, .slice A10_ V.inn.length c10_, .slice A11_ V.outs.length c11_] #[.int .i64 0, .slice none 0 0, .slice none 0 0, .slice none 0 0, .slice none 0 0, .slice none 0 0, .slice none 0 0, .int .i64 0, .slice none 0 0, .slice none 0 0, .slice none 0 0] #[.int .i64 V.day, .slice B1 V.members.length d1, .slice B2 V.assets.length d2, .slice A4_ V.baskets.length c4_, .slice B4 V.balances.length d4, .slice A6_ V.quotes.length c6_, .slice A7_ V.trades.length c7_, .int .i64 V.next, .slice B8 k d8, .slice none 0 0, .slice none 0 0] (.slice B8 k d8) ys ∧ Fl w ((V.covers.take k).map (fun z => (z.f0, z.f1))) ys))
            case atStart => exact ⟨0, 0, none, [], rfl, ⟨rfl, Nat.zero_le _, LS.start HT2.out, Fl.nil w⟩⟩
            case round =>
              obtain ⟨k, d8, B8, ys, rfl, HI⟩ := hrel
              have kp1 : wr.cell? ⟨P, 9, none⟩ = some (.slice A9_ V.covers.length c9_) := HI.out.2.2.1.t.cellP 9
              by_cases hk : k < V.covers.length
              · obtain ⟨ad, Ax, cx, hA, x0, x1, hcx, hCx⟩ := at_T77 HL.out.covers (k : Int) (by omega) (by omega)
                rw [Int.toNat_natCast] at x0 x1
                obtain ⟨x, hx⟩ : ∃ x, rd_T77 V.covers (k : Int) = x := ⟨_, rfl⟩
                rw [hx] at x0 x1 hcx hCx
                obtain ⟨hx1, hm⟩ := getD_some (z := z77) (x := x) hk (by rw [← hx]; unfold rd_T77; rw [Int.toNat_natCast])
                subst hA
                obtain ⟨p1, q1⟩ := idx_in hk
                have HW := Lib.hid (idx_next hk (by have := HB.out.covers; omega))
                have HK := Lib.hid hk
                have HX := Lib.hid hx1
                have HE := Lib.hid (And.intro x0 x1)
                have HN := Lib.hid (And.intro hcx hCx)
                have HU8 := Lib.hid (show (ys.length + 1) * 32 ≤ 140737488355328 by rw [← HI.out.2.2.2.1, map_len _ (Nat.le_of_lt hk)]; have := HB.out.covers; omega)
                clear hk hx1 hm hx
                have HQ := Lib.hid HI.out.2.2.1
                have HSX := Lib.hid (show ∀ (w' : World) (g5 : Array Value), TV w w' P C G 45 35 #[.int .i64 V.day, .slice A1_ V.members.length c1_, .slice A2_ V.assets.length c2_, .slice A3_ V.prices.length c3_, .slice A4_ V.baskets.length c4_, .slice A5_ V.balances.length c5_, .slice A6_ V.quotes.length c6_, .slice A7_ V.trades.length c7_, .int .i64 V.next, .slice (some ad) V.covers.length c9_, .slice A10_ V.inn.length c10_, .slice A11_ V.outs.length c11_] #[.int .i64 0, .slice none 0 0, .slice none 0 0, .slice none 0 0, .slice none 0 0, .slice none 0 0, .slice none 0 0, .int .i64 0, .slice none 0 0, .slice none 0 0, .slice none 0 0] g5 → (w'.cell? ⟨P, 9, none⟩ = some (.slice (some ad) V.covers.length c9_) ∧ w'.cell? (ad.add (k * 2)) = some (.int .i64 x.f0) ∧ w'.cell? ⟨(ad.add (k * 2)).block, (ad.add (k * 2)).off + 1, none⟩ = some (.slice Ax x.f1.length cx)) from fun w' g5 t => ⟨t.cellP 9, bel_cell t.bw HE.out.1, bel_cell t.bw HE.out.2⟩)
                have HSA := Lib.hid (show ∀ (w' : World) (o : Obj), (w'.cell? ⟨P, 9, none⟩ = some (.slice (some ad) V.covers.length c9_) ∧ w'.cell? (ad.add (k * 2)) = some (.int .i64 x.f0) ∧ w'.cell? ⟨(ad.add (k * 2)).block, (ad.add (k * 2)).off + 1, none⟩ = some (.slice Ax x.f1.length cx)) → ((w'.alloc o).cell? ⟨P, 9, none⟩ = some (.slice (some ad) V.covers.length c9_) ∧ (w'.alloc o).cell? (ad.add (k * 2)) = some (.int .i64 x.f0) ∧ (w'.alloc o).cell? ⟨(ad.add (k * 2)).block, (ad.add (k * 2)).off + 1, none⟩ = some (.slice Ax x.f1.length cx)) from fun w' o h => ⟨al_cell h.1 o, al_cell h.2.1 o, al_cell h.2.2 o⟩)
                have hbd : Below wr.heap.size wr wr.drew := below_drew (Below.refl _ _)
                have HD := Lib.hid (HQ.out.below hbd)
                have hSD : wr.drew.cell? ⟨P, 9, none⟩ = some (.slice (some ad) V.covers.length c9_) ∧ wr.drew.cell? (ad.add (k * 2)) = some (.int .i64 x.f0) ∧ wr.drew.cell? ⟨(ad.add (k * 2)).block, (ad.add (k * 2)).off + 1, none⟩ = some (.slice Ax x.f1.length cx) := HSX.out _ _ HD.out.t
                have hG : wr.drew.cell? ⟨G, 8, none⟩ = some (.slice B8 k d8) := HD.out.t.cellG 8
                have hGA : ∀ o : Obj, (wr.drew.alloc o).cell? ⟨G, 8, none⟩ = some (.slice B8 k d8) := fun o => al_cell hG o
                have HSD := Lib.hid (show ∀ o : Obj, ((wr.alloc o).drew.cell? ⟨P, 9, none⟩ = some (.slice (some ad) V.covers.length c9_) ∧ (wr.alloc o).drew.cell? (ad.add (k * 2)) = some (.int .i64 x.f0) ∧ (wr.alloc o).drew.cell? ⟨(ad.add (k * 2)).block, (ad.add (k * 2)).off + 1, none⟩ = some (.slice Ax x.f1.length cx)) from fun o => HSA.out _ o (HSX.out _ _ HQ.out.t))
                have hGB : ∀ o : Obj, (wr.alloc o).drew.cell? ⟨G, 8, none⟩ = some (.slice B8 k d8) := fun o => al_cell (W := wr) hG o
                have k0 := bel_cell HI.out.2.2.1.t.bw x0
                go_wp2_with (fail)
                conv => arg 2; arg 2; arg 1; arg 2; arg 1; arg 2; change id _
                go_region_held3 (fun w' => w'.cell? ⟨P, 9, none⟩ = some (.slice (some ad) V.covers.length c9_) ∧ w'.cell? (ad.add (k * 2)) = some (.int .i64 x.f0) ∧ w'.cell? ⟨(ad.add (k * 2)).block, (ad.add (k * 2)).off + 1, none⟩ = some (.slice Ax x.f1.length cx))
                  (first | with_reducible assumption | with_reducible exact HSD.out _ | with_reducible exact HSA.out _ _ (by with_reducible assumption) | exact (HSX.out _ _ (H5.out.t.set _ _)))
                  (first | (refine Kd.R_append_step kF (w0 := wr.drew) (W := wr.drew) W2.heap.size (by rfl) (.tmp 110) (.tmp 124) 30 76 (.agg #[(.int .i64 0), (.slice none 0 0)]) 32 rfl Try.underlying30 info76 rfl (by decide) (by decide) (.slice B8 k d8) ys (x.f0, Ax, x.f1.length, cx) [.int .i64 x.f0, .slice Ax x.f1.length cx] (fun k => k ≠ G) (fun _ => False) rfl rfl (kF_mkM _ _ _ _ _ _ _) (fun _ h => h.elim) HD.out.fresh HD.out.r (Below.refl _ _) HD.out.le HU8.out ?_; intro v1 wz ho hb hg5 hat; obtain ⟨A9, c9, rfl, h5⟩ := HD.out.app_ (by rw [← HI.out.2.2.2.1]; exact map_len _ (Nat.le_of_lt HK.out)) ho hg5; have H5 := Lib.hid h5; have kk := HSX.out _ _ H5.out.t; have fz := H5.out.t.frz 8; have cz : wz.cell? ⟨G, 8, none⟩ = some (.slice B8 k d8) := H5.out.t.cellG 8; clear ho hb hg5 hat h5))
                all_goals
                  go_wp2_with (fail)
                  go_roundg (V.covers.length - k)
                  case measure => have := HI.out.1; have := HK.out; omega
                  case rel =>
                    have h9 := H5.out.set 8 (.slice A9 (k + 1) c9)
                    refine ⟨k + 1, c9, A9, _, by rw [HW.out], ⟨by have := HI.out.1; have := HK.out; omega, HK.out, h9.to rfl, ?_⟩⟩
                    rw [map_next _ HX.out]
                    exact Fl.snoc HI.out.2.2.2 x.f0 x.f1 HN.out.1 HN.out.2
              · have q1 := idx_out hk
                obtain rfl : k = V.covers.length := by have := HI.out.2.1; omega
                have hl := HI.out.2.2.1
                have HT3 := Lib.hid hl.t
                have HS3 := Lib.hid (And.intro (FS.snoc (d := kF) (e := 76) (b := W2.heap.size) (v := (.slice B8 V.covers.length d8)) (xs := ys) HS2.out.1) (And.intro (HS2.out.1 _ _ hl.gr HS2.out.2) hl.r))
                have hfl := HI.out.2.2.2
                rw [List.take_length] at hfl
                have HFL := Lib.hid hfl
                clear hfl
                go_wp2_with (fail)
                clear hk hl HI q1 kp1 HS2
                rename World => W3
                go_loopg [10] (V.inn.length + 1) (fun kq v w' => ∃ (k : Nat) (d9 : Nat) (B9 : Option Addr), v = .int .i64 k ∧ Hid (kq + k = V.inn.length + 1 ∧ k ≤ V.inn.length ∧ LS k79 79 w W3 w' P C G 45 35 #[.int .i64 V.day, .slice A1_ V.members.length c1_, .slice A2_ V.assets.length c2_, .slice A3_ V.prices.length c3_, .slice A4_ V.baskets.length c4_, .slice A5_ V.balances.length c5_, .slice A6_ V.quotes.length c6_, .slice A7_ V.trades.length c7_, .int .i64 V.next, .slice A9_ V.covers.length c9_, .slice A10_ V.inn.length c10_, .slice A11_ V.outs.length c11_] #[.int .i64 0, .slice none 0 0, .slice none 0 0, .slice none 0 0, .slice none 0 0, .slice none 0 0, .slice none 0 0, .int .i64 0, .slice none 0 0, .slice none 0 0, .slice none 0 0] #[.int .i64 V.day, .slice B1 V.members.length d1, .slice B2 V.assets.length d2, .slice A4_ V.baskets.length c4_, .slice B4 V.balances.length d4, .slice A6_ V.quotes.length c6_, .slice A7_ V.trades.length c7_, .int .i64 V.next, .slice B8 V.covers.length d8, .slice B9 k d9, .slice none 0 0] (.slice B9 k d9) ((V.inn.take k).map l79)))
                case atStart => exact ⟨0, 0, none, rfl, ⟨rfl, Nat.zero_le _, LS.start HT3.out⟩⟩
                case round =>
                  obtain ⟨k, d9, B9, rfl, HI⟩ := hrel
                  have kp1 : wr.cell? ⟨P, 10, none⟩ = some (.slice A10_ V.inn.length c10_) := HI.out.2.2.t.cellP 10
                  by_cases hk : k < V.inn.length
                  · obtain ⟨ad, hA, x0, x1, x2, x3⟩ := at_T80 HL.out.inn (k : Int) (by omega) (by omega)
                    rw [Int.toNat_natCast] at x0 x1 x2 x3
                    obtain ⟨x, hx⟩ : ∃ x, rd_T80 V.inn (k : Int) = x := ⟨_, rfl⟩
                    rw [hx] at x0 x1 x2 x3
                    obtain ⟨hx1, hm⟩ := getD_some (z := z80) (x := x) hk (by rw [← hx]; unfold rd_T80; rw [Int.toNat_natCast])
                    subst hA
                    obtain ⟨p1, q1⟩ := idx_in hk
                    have HW := Lib.hid (idx_next hk (by have := HB.out.inn; omega))
                    have HK := Lib.hid hk
                    have HX := Lib.hid hx1
                    have HE := Lib.hid (And.intro x0 (And.intro x1 (And.intro x2 x3)))
                    have HU9 := Lib.hid (show (((V.inn.take k).map l79).length + 1) * 40 ≤ 140737488355328 by rw [map_len _ (Nat.le_of_lt hk)]; have := HB.out.inn; omega)
                    clear hk hx1 hm hx
                    have HQ := Lib.hid HI.out.2.2
                    have HSX := Lib.hid (show ∀ (w' : World) (g5 : Array Value), TV w w' P C G 45 35 #[.int .i64 V.day, .slice A1_ V.members.length c1_, .slice A2_ V.assets.length c2_, .slice A3_ V.prices.length c3_, .slice A4_ V.baskets.length c4_, .slice A5_ V.balances.length c5_, .slice A6_ V.quotes.length c6_, .slice A7_ V.trades.length c7_, .int .i64 V.next, .slice A9_ V.covers.length c9_, .slice (some ad) V.inn.length c10_, .slice A11_ V.outs.length c11_] #[.int .i64 0, .slice none 0 0, .slice none 0 0, .slice none 0 0, .slice none 0 0, .slice none 0 0, .slice none 0 0, .int .i64 0, .slice none 0 0, .slice none 0 0, .slice none 0 0] g5 → (w'.cell? ⟨P, 10, none⟩ = some (.slice (some ad) V.inn.length c10_) ∧ w'.cell? (ad.add (k * 4)) = some (.int .i64 x.f0) ∧ w'.cell? ⟨(ad.add (k * 4)).block, (ad.add (k * 4)).off + 1, none⟩ = some (.int .i64 x.f1) ∧ w'.cell? ⟨(ad.add (k * 4)).block, (ad.add (k * 4)).off + 2, none⟩ = some (.string x.f2) ∧ w'.cell? ⟨(ad.add (k * 4)).block, (ad.add (k * 4)).off + 3, none⟩ = some (.int .i64 x.f3)) from fun w' g5 t => ⟨t.cellP 10, bel_cell t.bw HE.out.1, bel_cell t.bw HE.out.2.1, bel_cell t.bw HE.out.2.2.1, bel_cell t.bw HE.out.2.2.2⟩)
                    have HSA := Lib.hid (show ∀ (w' : World) (o : Obj), (w'.cell? ⟨P, 10, none⟩ = some (.slice (some ad) V.inn.length c10_) ∧ w'.cell? (ad.add (k * 4)) = some (.int .i64 x.f0) ∧ w'.cell? ⟨(ad.add (k * 4)).block, (ad.add (k * 4)).off + 1, none⟩ = some (.int .i64 x.f1) ∧ w'.cell? ⟨(ad.add (k * 4)).block, (ad.add (k * 4)).off + 2, none⟩ = some (.string x.f2) ∧ w'.cell? ⟨(ad.add (k * 4)).block, (ad.add (k * 4)).off + 3, none⟩ = some (.int .i64 x.f3)) → ((w'.alloc o).cell? ⟨P, 10, none⟩ = some (.slice (some ad) V.inn.length c10_) ∧ (w'.alloc o).cell? (ad.add (k * 4)) = some (.int .i64 x.f0) ∧ (w'.alloc o).cell? ⟨(ad.add (k * 4)).block, (ad.add (k * 4)).off + 1, none⟩ = some (.int .i64 x.f1) ∧ (w'.alloc o).cell? ⟨(ad.add (k * 4)).block, (ad.add (k * 4)).off + 2, none⟩ = some (.string x.f2) ∧ (w'.alloc o).cell? ⟨(ad.add (k * 4)).block, (ad.add (k * 4)).off + 3, none⟩ = some (.int .i64 x.f3)) from fun w' o h => ⟨al_cell h.1 o, al_cell h.2.1 o, al_cell h.2.2.1 o, al_cell h.2.2.2.1 o, al_cell h.2.2.2.2 o⟩)
                    have hbd : Below wr.heap.size wr wr.drew := below_drew (Below.refl _ _)
                    have HD := Lib.hid (HQ.out.below hbd)
                    have hSD : wr.drew.cell? ⟨P, 10, none⟩ = some (.slice (some ad) V.inn.length c10_) ∧ wr.drew.cell? (ad.add (k * 4)) = some (.int .i64 x.f0) ∧ wr.drew.cell? ⟨(ad.add (k * 4)).block, (ad.add (k * 4)).off + 1, none⟩ = some (.int .i64 x.f1) ∧ wr.drew.cell? ⟨(ad.add (k * 4)).block, (ad.add (k * 4)).off + 2, none⟩ = some (.string x.f2) ∧ wr.drew.cell? ⟨(ad.add (k * 4)).block, (ad.add (k * 4)).off + 3, none⟩ = some (.int .i64 x.f3) := HSX.out _ _ HD.out.t
                    have hG : wr.drew.cell? ⟨G, 9, none⟩ = some (.slice B9 k d9) := HD.out.t.cellG 9
                    have hGA : ∀ o : Obj, (wr.drew.alloc o).cell? ⟨G, 9, none⟩ = some (.slice B9 k d9) := fun o => al_cell hG o
                    have HSD := Lib.hid (show ∀ o : Obj, ((wr.alloc o).drew.cell? ⟨P, 10, none⟩ = some (.slice (some ad) V.inn.length c10_) ∧ (wr.alloc o).drew.cell? (ad.add (k * 4)) = some (.int .i64 x.f0) ∧ (wr.alloc o).drew.cell? ⟨(ad.add (k * 4)).block, (ad.add (k * 4)).off + 1, none⟩ = some (.int .i64 x.f1) ∧ (wr.alloc o).drew.cell? ⟨(ad.add (k * 4)).block, (ad.add (k * 4)).off + 2, none⟩ = some (.string x.f2) ∧ (wr.alloc o).drew.cell? ⟨(ad.add (k * 4)).block, (ad.add (k * 4)).off + 3, none⟩ = some (.int .i64 x.f3)) from fun o => HSA.out _ o (HSX.out _ _ HQ.out.t))
                    have hGB : ∀ o : Obj, (wr.alloc o).drew.cell? ⟨G, 9, none⟩ = some (.slice B9 k d9) := fun o => al_cell (W := wr) hG o
                    have k0 := bel_cell HI.out.2.2.t.bw x0
                    go_wp2_with (fail)
                    conv => arg 2; arg 2; arg 1; arg 2; arg 2; arg 1; arg 2; change id _
                    go_region_held3 (fun w' => w'.cell? ⟨P, 10, none⟩ = some (.slice (some ad) V.inn.length c10_) ∧ w'.cell? (ad.add (k * 4)) = some (.int .i64 x.f0) ∧ w'.cell? ⟨(ad.add (k * 4)).block, (ad.add (k * 4)).off + 1, none⟩ = some (.int .i64 x.f1) ∧ w'.cell? ⟨(ad.add (k * 4)).block, (ad.add (k * 4)).off + 2, none⟩ = some (.string x.f2) ∧ w'.cell? ⟨(ad.add (k * 4)).block, (ad.add (k * 4)).off + 3, none⟩ = some (.int .i64 x.f3))
                      (first | with_reducible assumption | with_reducible exact HSD.out _ | with_reducible exact HSA.out _ _ (by with_reducible assumption) | exact (HSX.out _ _ (H5.out.t.set _ _)))
                      (first | (refine Kd.R_append_step k79 (w0 := wr.drew) (W := wr.drew) W3.heap.size (by rfl) (.tmp 136) (.tmp 162) 31 79 (.agg #[(.int .i64 0), (.int .i64 0), (.string ⟨#[]⟩), (.int .i64 0)]) 40 rfl Try.underlying31 info79 rfl (by decide) (by decide) (.slice B9 k d9) ((V.inn.take k).map l79) ⟨x.f0, x.f1, x.f2, x.f3⟩ [.int .i64 x.f0, .int .i64 x.f1, .string x.f2, .int .i64 x.f3] (fun k => k ≠ G) (fun _ => False) rfl rfl (k79_mkM _ _ _ _) (fun _ h => h.elim) HD.out.fresh HD.out.r (Below.refl _ _) HD.out.le HU9.out ?_; intro v1 wz ho hb hg5 hat; obtain ⟨A9, c9, rfl, h5⟩ := HD.out.app_ (map_len _ (Nat.le_of_lt HK.out)) ho hg5; have H5 := Lib.hid h5; have kk := HSX.out _ _ H5.out.t; have fz := H5.out.t.frz 9; have cz : wz.cell? ⟨G, 9, none⟩ = some (.slice B9 k d9) := H5.out.t.cellG 9; clear ho hb hg5 hat h5))
                    all_goals
                      go_wp2_with (fail)
                      go_roundg (V.inn.length - k)
                      case measure => have := HI.out.1; have := HK.out; omega
                      case rel =>
                        have h9 := H5.out.set 9 (.slice A9 (k + 1) c9)
                        rw [show (V.inn.take k).map l79 ++ [⟨x.f0, x.f1, x.f2, x.f3⟩] = (V.inn.take (k + 1)).map l79 from (map_next l79 HX.out).symm] at h9
                        exact ⟨k + 1, c9, A9, by rw [HW.out], ⟨by have := HI.out.1; have := HK.out; omega, HK.out, h9.to rfl⟩⟩
                  · have q1 := idx_out hk
                    obtain rfl : k = V.inn.length := by have := HI.out.2.1; omega
                    have hl := HI.out.2.2
                    rw [List.take_length] at hl
                    have HT4 := Lib.hid hl.t
                    have HS4 := Lib.hid (And.intro (FS.snoc (d := k79) (e := 79) (b := W3.heap.size) (v := (.slice B9 V.inn.length d9)) (xs := (V.inn.map l79)) HS3.out.1) (And.intro (HS3.out.1 _ _ hl.gr HS3.out.2) hl.r))
                    go_wp2_with (fail)
                    clear hk hl HI q1 kp1 HS3
                    rename World => W4
                    go_loopg [11] (V.outs.length + 1) (fun kq v w' => ∃ (k : Nat) (d10 : Nat) (B10 : Option Addr), v = .int .i64 k ∧ Hid (kq + k = V.outs.length + 1 ∧ k ≤ V.outs.length ∧ LS k79 79 w W4 w' P C G 45 35 #[.int .i64 V.day, .slice A1_ V.members.length c1_, .slice A2_ V.assets.length c2_, .slice A3_ V.prices.length c3_, .slice A4_ V.baskets.length c4_, .slice A5_ V.balances.length c5_, .slice A6_ V.quotes.length c6_, .slice A7_ V.trades.length c7_, .int .i64 V.next, .slice A9_ V.covers.length c9_, .slice A10_ V.inn.length c10_, .slice A11_ V.outs.length c11_] #[.int .i64 0, .slice none 0 0, .slice none 0 0, .slice none 0 0, .slice none 0 0, .slice none 0 0, .slice none 0 0, .int .i64 0, .slice none 0 0, .slice none 0 0, .slice none 0 0] #[.int .i64 V.day, .slice B1 V.members.length d1, .slice B2 V.assets.length d2, .slice A4_ V.baskets.length c4_, .slice B4 V.balances.length d4, .slice A6_ V.quotes.length c6_, .slice A7_ V.trades.length c7_, .int .i64 V.next, .slice B8 V.covers.length d8, .slice B9 V.inn.length d9, .slice B10 k d10] (.slice B10 k d10) ((V.outs.take k).map l79)))
                    case atStart => exact ⟨0, 0, none, rfl, ⟨rfl, Nat.zero_le _, LS.start HT4.out⟩⟩
                    case round =>
                      obtain ⟨k, d10, B10, rfl, HI⟩ := hrel
                      have kp1 : wr.cell? ⟨P, 11, none⟩ = some (.slice A11_ V.outs.length c11_) := HI.out.2.2.t.cellP 11
                      by_cases hk : k < V.outs.length
                      · obtain ⟨ad, hA, x0, x1, x2, x3⟩ := at_T80 HL.out.outs (k : Int) (by omega) (by omega)
                        rw [Int.toNat_natCast] at x0 x1 x2 x3
                        obtain ⟨x, hx⟩ : ∃ x, rd_T80 V.outs (k : Int) = x := ⟨_, rfl⟩
                        rw [hx] at x0 x1 x2 x3
                        obtain ⟨hx1, hm⟩ := getD_some (z := z80) (x := x) hk (by rw [← hx]; unfold rd_T80; rw [Int.toNat_natCast])
                        subst hA
                        obtain ⟨p1, q1⟩ := idx_in hk
                        have HW := Lib.hid (idx_next hk (by have := HB.out.outs; omega))
                        have HK := Lib.hid hk
                        have HX := Lib.hid hx1
                        have HE := Lib.hid (And.intro x0 (And.intro x1 (And.intro x2 x3)))
                        have HU10 := Lib.hid (show (((V.outs.take k).map l79).length + 1) * 40 ≤ 140737488355328 by rw [map_len _ (Nat.le_of_lt hk)]; have := HB.out.outs; omega)
                        clear hk hx1 hm hx
                        have HQ := Lib.hid HI.out.2.2
                        have HSX := Lib.hid (show ∀ (w' : World) (g5 : Array Value), TV w w' P C G 45 35 #[.int .i64 V.day, .slice A1_ V.members.length c1_, .slice A2_ V.assets.length c2_, .slice A3_ V.prices.length c3_, .slice A4_ V.baskets.length c4_, .slice A5_ V.balances.length c5_, .slice A6_ V.quotes.length c6_, .slice A7_ V.trades.length c7_, .int .i64 V.next, .slice A9_ V.covers.length c9_, .slice A10_ V.inn.length c10_, .slice (some ad) V.outs.length c11_] #[.int .i64 0, .slice none 0 0, .slice none 0 0, .slice none 0 0, .slice none 0 0, .slice none 0 0, .slice none 0 0, .int .i64 0, .slice none 0 0, .slice none 0 0, .slice none 0 0] g5 → (w'.cell? ⟨P, 11, none⟩ = some (.slice (some ad) V.outs.length c11_) ∧ w'.cell? (ad.add (k * 4)) = some (.int .i64 x.f0) ∧ w'.cell? ⟨(ad.add (k * 4)).block, (ad.add (k * 4)).off + 1, none⟩ = some (.int .i64 x.f1) ∧ w'.cell? ⟨(ad.add (k * 4)).block, (ad.add (k * 4)).off + 2, none⟩ = some (.string x.f2) ∧ w'.cell? ⟨(ad.add (k * 4)).block, (ad.add (k * 4)).off + 3, none⟩ = some (.int .i64 x.f3)) from fun w' g5 t => ⟨t.cellP 11, bel_cell t.bw HE.out.1, bel_cell t.bw HE.out.2.1, bel_cell t.bw HE.out.2.2.1, bel_cell t.bw HE.out.2.2.2⟩)
                        have HSA := Lib.hid (show ∀ (w' : World) (o : Obj), (w'.cell? ⟨P, 11, none⟩ = some (.slice (some ad) V.outs.length c11_) ∧ w'.cell? (ad.add (k * 4)) = some (.int .i64 x.f0) ∧ w'.cell? ⟨(ad.add (k * 4)).block, (ad.add (k * 4)).off + 1, none⟩ = some (.int .i64 x.f1) ∧ w'.cell? ⟨(ad.add (k * 4)).block, (ad.add (k * 4)).off + 2, none⟩ = some (.string x.f2) ∧ w'.cell? ⟨(ad.add (k * 4)).block, (ad.add (k * 4)).off + 3, none⟩ = some (.int .i64 x.f3)) → ((w'.alloc o).cell? ⟨P, 11, none⟩ = some (.slice (some ad) V.outs.length c11_) ∧ (w'.alloc o).cell? (ad.add (k * 4)) = some (.int .i64 x.f0) ∧ (w'.alloc o).cell? ⟨(ad.add (k * 4)).block, (ad.add (k * 4)).off + 1, none⟩ = some (.int .i64 x.f1) ∧ (w'.alloc o).cell? ⟨(ad.add (k * 4)).block, (ad.add (k * 4)).off + 2, none⟩ = some (.string x.f2) ∧ (w'.alloc o).cell? ⟨(ad.add (k * 4)).block, (ad.add (k * 4)).off + 3, none⟩ = some (.int .i64 x.f3)) from fun w' o h => ⟨al_cell h.1 o, al_cell h.2.1 o, al_cell h.2.2.1 o, al_cell h.2.2.2.1 o, al_cell h.2.2.2.2 o⟩)
                        have hbd : Below wr.heap.size wr wr.drew := below_drew (Below.refl _ _)
                        have HD := Lib.hid (HQ.out.below hbd)
                        have hSD : wr.drew.cell? ⟨P, 11, none⟩ = some (.slice (some ad) V.outs.length c11_) ∧ wr.drew.cell? (ad.add (k * 4)) = some (.int .i64 x.f0) ∧ wr.drew.cell? ⟨(ad.add (k * 4)).block, (ad.add (k * 4)).off + 1, none⟩ = some (.int .i64 x.f1) ∧ wr.drew.cell? ⟨(ad.add (k * 4)).block, (ad.add (k * 4)).off + 2, none⟩ = some (.string x.f2) ∧ wr.drew.cell? ⟨(ad.add (k * 4)).block, (ad.add (k * 4)).off + 3, none⟩ = some (.int .i64 x.f3) := HSX.out _ _ HD.out.t
                        have hG : wr.drew.cell? ⟨G, 10, none⟩ = some (.slice B10 k d10) := HD.out.t.cellG 10
                        have hGA : ∀ o : Obj, (wr.drew.alloc o).cell? ⟨G, 10, none⟩ = some (.slice B10 k d10) := fun o => al_cell hG o
                        have HSD := Lib.hid (show ∀ o : Obj, ((wr.alloc o).drew.cell? ⟨P, 11, none⟩ = some (.slice (some ad) V.outs.length c11_) ∧ (wr.alloc o).drew.cell? (ad.add (k * 4)) = some (.int .i64 x.f0) ∧ (wr.alloc o).drew.cell? ⟨(ad.add (k * 4)).block, (ad.add (k * 4)).off + 1, none⟩ = some (.int .i64 x.f1) ∧ (wr.alloc o).drew.cell? ⟨(ad.add (k * 4)).block, (ad.add (k * 4)).off + 2, none⟩ = some (.string x.f2) ∧ (wr.alloc o).drew.cell? ⟨(ad.add (k * 4)).block, (ad.add (k * 4)).off + 3, none⟩ = some (.int .i64 x.f3)) from fun o => HSA.out _ o (HSX.out _ _ HQ.out.t))
                        have hGB : ∀ o : Obj, (wr.alloc o).drew.cell? ⟨G, 10, none⟩ = some (.slice B10 k d10) := fun o => al_cell (W := wr) hG o
                        have k0 := bel_cell HI.out.2.2.t.bw x0
                        go_wp2_with (fail)
                        conv => arg 2; arg 2; arg 1; arg 2; arg 2; arg 1; arg 2; change id _
                        go_region_held3 (fun w' => w'.cell? ⟨P, 11, none⟩ = some (.slice (some ad) V.outs.length c11_) ∧ w'.cell? (ad.add (k * 4)) = some (.int .i64 x.f0) ∧ w'.cell? ⟨(ad.add (k * 4)).block, (ad.add (k * 4)).off + 1, none⟩ = some (.int .i64 x.f1) ∧ w'.cell? ⟨(ad.add (k * 4)).block, (ad.add (k * 4)).off + 2, none⟩ = some (.string x.f2) ∧ w'.cell? ⟨(ad.add (k * 4)).block, (ad.add (k * 4)).off + 3, none⟩ = some (.int .i64 x.f3))
                          (first | with_reducible assumption | with_reducible exact HSD.out _ | with_reducible exact HSA.out _ _ (by with_reducible assumption) | exact (HSX.out _ _ (H5.out.t.set _ _)))
                          (first | (refine Kd.R_append_step k79 (w0 := wr.drew) (W := wr.drew) W4.heap.size (by rfl) (.tmp 175) (.tmp 201) 31 79 (.agg #[(.int .i64 0), (.int .i64 0), (.string ⟨#[]⟩), (.int .i64 0)]) 40 rfl Try.underlying31 info79 rfl (by decide) (by decide) (.slice B10 k d10) ((V.outs.take k).map l79) ⟨x.f0, x.f1, x.f2, x.f3⟩ [.int .i64 x.f0, .int .i64 x.f1, .string x.f2, .int .i64 x.f3] (fun k => k ≠ G) (fun _ => False) rfl rfl (k79_mkM _ _ _ _) (fun _ h => h.elim) HD.out.fresh HD.out.r (Below.refl _ _) HD.out.le HU10.out ?_; intro v1 wz ho hb hg5 hat; obtain ⟨A9, c9, rfl, h5⟩ := HD.out.app_ (map_len _ (Nat.le_of_lt HK.out)) ho hg5; have H5 := Lib.hid h5; have kk := HSX.out _ _ H5.out.t; have fz := H5.out.t.frz 10; have cz : wz.cell? ⟨G, 10, none⟩ = some (.slice B10 k d10) := H5.out.t.cellG 10; clear ho hb hg5 hat h5))
                        all_goals
                          go_wp2_with (fail)
                          go_roundg (V.outs.length - k)
                          case measure => have := HI.out.1; have := HK.out; omega
                          case rel =>
                            have h9 := H5.out.set 10 (.slice A9 (k + 1) c9)
                            rw [show (V.outs.take k).map l79 ++ [⟨x.f0, x.f1, x.f2, x.f3⟩] = (V.outs.take (k + 1)).map l79 from (map_next l79 HX.out).symm] at h9
                            exact ⟨k + 1, c9, A9, by rw [HW.out], ⟨by have := HI.out.1; have := HK.out; omega, HK.out, h9.to rfl⟩⟩
                      · have q1 := idx_out hk
                        obtain rfl : k = V.outs.length := by have := HI.out.2.1; omega
                        have hl := HI.out.2.2
                        rw [List.take_length] at hl
                        have HT5 := Lib.hid hl.t
                        have HS5 := Lib.hid (And.intro (FS.snoc (d := k79) (e := 79) (b := W4.heap.size) (v := (.slice B10 V.outs.length d10)) (xs := (V.outs.map l79)) HS4.out.1) (And.intro (HS4.out.1 _ _ hl.gr HS4.out.2) hl.r))
                        have kg0 : wr.cell? ⟨G, 0, none⟩ = some (.int .i64 V.day) := hl.t.cellG 0
                        have kc0 : wr.cell? ⟨C, 0, none⟩ = some (.int .i64 0) := cellsAt hl.t.c 0
                        have fc0 := hl.t.frzC 0
                        have kg1 : wr.cell? ⟨G, 1, none⟩ = some (.slice B1 V.members.length d1) := hl.t.cellG 1
                        have kc1 : wr.cell? ⟨C, 1, none⟩ = some (.slice none 0 0) := cellsAt hl.t.c 1
                        have fc1 := hl.t.frzC 1
                        have kg2 : wr.cell? ⟨G, 2, none⟩ = some (.slice B2 V.assets.length d2) := hl.t.cellG 2
                        have kc2 : wr.cell? ⟨C, 2, none⟩ = some (.slice none 0 0) := cellsAt hl.t.c 2
                        have fc2 := hl.t.frzC 2
                        have kg3 : wr.cell? ⟨G, 3, none⟩ = some (.slice A4_ V.baskets.length c4_) := hl.t.cellG 3
                        have kc3 : wr.cell? ⟨C, 3, none⟩ = some (.slice none 0 0) := cellsAt hl.t.c 3
                        have fc3 := hl.t.frzC 3
                        have kg4 : wr.cell? ⟨G, 4, none⟩ = some (.slice B4 V.balances.length d4) := hl.t.cellG 4
                        have kc4 : wr.cell? ⟨C, 4, none⟩ = some (.slice none 0 0) := cellsAt hl.t.c 4
                        have fc4 := hl.t.frzC 4
                        have kg5 : wr.cell? ⟨G, 5, none⟩ = some (.slice A6_ V.quotes.length c6_) := hl.t.cellG 5
                        have kc5 : wr.cell? ⟨C, 5, none⟩ = some (.slice none 0 0) := cellsAt hl.t.c 5
                        have fc5 := hl.t.frzC 5
                        have kg6 : wr.cell? ⟨G, 6, none⟩ = some (.slice A7_ V.trades.length c7_) := hl.t.cellG 6
                        have kc6 : wr.cell? ⟨C, 6, none⟩ = some (.slice none 0 0) := cellsAt hl.t.c 6
                        have fc6 := hl.t.frzC 6
                        have kg7 : wr.cell? ⟨G, 7, none⟩ = some (.int .i64 V.next) := hl.t.cellG 7
                        have kc7 : wr.cell? ⟨C, 7, none⟩ = some (.int .i64 0) := cellsAt hl.t.c 7
                        have fc7 := hl.t.frzC 7
                        have kg8 : wr.cell? ⟨G, 8, none⟩ = some (.slice B8 V.covers.length d8) := hl.t.cellG 8
                        have kc8 : wr.cell? ⟨C, 8, none⟩ = some (.slice none 0 0) := cellsAt hl.t.c 8
                        have fc8 := hl.t.frzC 8
                        have kg9 : wr.cell? ⟨G, 9, none⟩ = some (.slice B9 V.inn.length d9) := hl.t.cellG 9
                        have kc9 : wr.cell? ⟨C, 9, none⟩ = some (.slice none 0 0) := cellsAt hl.t.c 9
                        have fc9 := hl.t.frzC 9
                        have kg10 : wr.cell? ⟨G, 10, none⟩ = some (.slice B10 V.outs.length d10) := hl.t.cellG 10
                        have kc10 : wr.cell? ⟨C, 10, none⟩ = some (.slice none 0 0) := cellsAt hl.t.c 10
                        have fc10 := hl.t.frzC 10
                        go_wp2_with (fail)
                        clear hk hl HI q1 kp1 HS4
                        rename World => W5
                        refine bodyPost_ret (results_cell_row rfl _ _ C 35 #[.int .i64 V.day, .slice B1 V.members.length d1, .slice B2 V.assets.length d2, .slice A4_ V.baskets.length c4_, .slice B4 V.balances.length d4, .slice A6_ V.quotes.length c6_, .slice A7_ V.trades.length c7_, .int .i64 V.next, .slice B8 V.covers.length d8, .slice B9 V.inn.length d9, .slice B10 V.outs.length d10] (0, 0) _ rfl (by exact fill_block HT5.out.c [.int .i64 V.day, .slice B1 V.members.length d1, .slice B2 V.assets.length d2, .slice A4_ V.baskets.length c4_, .slice B4 V.balances.length d4, .slice A6_ V.quotes.length c6_, .slice A7_ V.trades.length c7_, .int .i64 V.next, .slice B8 V.covers.length d8, .slice B9 V.inn.length d9, .slice B10 V.outs.length d10] rfl) Try.underlying35 rfl (by kernel_rfl)) rfl ?_
                        obtain ⟨⟨⟨⟨⟨⟨_, r1⟩, r2⟩, r4⟩, r8⟩, r9⟩, r10⟩ := HS5.out.2
                        have hbw := fill_below (C := C) (by have := HT5.out.pc; have := HT5.out.sz; omega) [.int .i64 V.day, .slice B1 V.members.length d1, .slice B2 V.assets.length d2, .slice A4_ V.baskets.length c4_, .slice B4 V.balances.length d4, .slice A6_ V.quotes.length c6_, .slice A7_ V.trades.length c7_, .int .i64 V.next, .slice B8 V.covers.length d8, .slice B9 V.inn.length d9, .slice B10 V.outs.length d10] 0 HT5.out.bw
                        have q1 := Kd.R_reads' (fill_row (C := C) HCW.out [.int .i64 V.day, .slice B1 V.members.length d1, .slice B2 V.assets.length d2, .slice A4_ V.baskets.length c4_, .slice B4 V.balances.length d4, .slice A6_ V.quotes.length c6_, .slice A7_ V.trades.length c7_, .int .i64 V.next, .slice B8 V.covers.length d8, .slice B9 V.inn.length d9, .slice B10 V.outs.length d10] 0 r1)
                        have q2 := Kd.R_reads' (fill_row (C := C) (by have := HT0.out.lt; have := HT0.out.cg; omega) [.int .i64 V.day, .slice B1 V.members.length d1, .slice B2 V.assets.length d2, .slice A4_ V.baskets.length c4_, .slice B4 V.balances.length d4, .slice A6_ V.quotes.length c6_, .slice A7_ V.trades.length c7_, .int .i64 V.next, .slice B8 V.covers.length d8, .slice B9 V.inn.length d9, .slice B10 V.outs.length d10] 0 r2)
                        have q4 := Kd.R_reads' (fill_row (C := C) (by have := HT1.out.lt; have := HT1.out.cg; omega) [.int .i64 V.day, .slice B1 V.members.length d1, .slice B2 V.assets.length d2, .slice A4_ V.baskets.length c4_, .slice B4 V.balances.length d4, .slice A6_ V.quotes.length c6_, .slice A7_ V.trades.length c7_, .int .i64 V.next, .slice B8 V.covers.length d8, .slice B9 V.inn.length d9, .slice B10 V.outs.length d10] 0 r4)
                        have q8 := Kd.R_reads' (fill_row (C := C) (by have := HT2.out.lt; have := HT2.out.cg; omega) [.int .i64 V.day, .slice B1 V.members.length d1, .slice B2 V.assets.length d2, .slice A4_ V.baskets.length c4_, .slice B4 V.balances.length d4, .slice A6_ V.quotes.length c6_, .slice A7_ V.trades.length c7_, .int .i64 V.next, .slice B8 V.covers.length d8, .slice B9 V.inn.length d9, .slice B10 V.outs.length d10] 0 r8)
                        have q9 := Kd.R_reads' (fill_row (C := C) (by have := HT3.out.lt; have := HT3.out.cg; omega) [.int .i64 V.day, .slice B1 V.members.length d1, .slice B2 V.assets.length d2, .slice A4_ V.baskets.length c4_, .slice B4 V.balances.length d4, .slice A6_ V.quotes.length c6_, .slice A7_ V.trades.length c7_, .int .i64 V.next, .slice B8 V.covers.length d8, .slice B9 V.inn.length d9, .slice B10 V.outs.length d10] 0 r9)
                        have q10 := Kd.R_reads' (fill_row (C := C) (by have := HT4.out.lt; have := HT4.out.cg; omega) [.int .i64 V.day, .slice B1 V.members.length d1, .slice B2 V.assets.length d2, .slice A4_ V.baskets.length c4_, .slice B4 V.balances.length d4, .slice A6_ V.quotes.length c6_, .slice A7_ V.trades.length c7_, .int .i64 V.next, .slice B8 V.covers.length d8, .slice B9 V.inn.length d9, .slice B10 V.outs.length d10] 0 r10)
                        refine ⟨B1, B2, B4, B8, B9, B10, d1, d2, d4, d8, d9, d10, ?_, ⟨⟨q1.2.2, q2.2.2, Kd.C_below HL.out.baskets hbw, q4.2.2, Kd.C_below HL.out.quotes hbw, Kd.C_below HL.out.trades hbw, Fl.c76 (zs := V.covers.map c76) (by rw [List.map_map]; exact HFL.out) hbw q8.2.2, q9.2.2, q10.2.2⟩, ⟨q1.1 ▸ q1.2.1, q2.1 ▸ q2.2.1, HC.out.baskets, q4.1 ▸ q4.2.1, HC.out.quotes, HC.out.trades, (by show (V.covers.map c76).length ≤ d8; rw [List.length_map]; exact q8.2.1), q9.1 ▸ q9.2.1, q10.1 ▸ q10.2.1⟩, hbw⟩⟩
                        simp only [toldV, List.length_map]
end Go.Proofs.Ythpgjeiglhdciaa.SN
