/- Part 32 of the proof's texts: what the theorem needs of them. -/
import Derived.Test.YthpgjeiglhdciaaSB31
import Derived.Test.YthpgjeiglhdciaaSB30
import Derived.Deep.DeepCutAuto

set_option linter.unusedVariables false
set_option linter.unusedSimpArgs false
/- The encoder: covers. (printed by gen_enc_nest.py) -/
namespace Go.Proofs.Ythpgjeiglhdciaa.SN
open Go Go.RowKit Go.Proofs Go.Proofs.Ythpgjeiglhdciaa.PL Go.Proofs.YthpgjeiglhdciaaW.PrintWords Go.Proofs.YthpgjeiglhdciaaW.PrintLast Go.Proofs.YthpgjeiglhdciaaW.PrintMore
set_option maxRecDepth 100000 in
set_option maxHeartbeats 2000000 in
theorem wcovers_any {w0 w : World} {q c : Nat} {A : Option Addr} {xs : List S77} {l : Bs} (h : WR w w0.heap.size 86 q l) (hB : Below w0.heap.size w0 w) (hC : k77.C w0 A xs.length xs) (hR : ∀ x ∈ xs, coversO x) (hl : l.length + (encL coversE xs).length + 20 ≤ 140737488355328) :
    Calls Try.prog 20 #[.pointer (some ⟨q, 0, none⟩), .slice A xs.length c] w fun o w' => o = .returned (.tuple #[]) ∧ Hid (WR w' w0.heap.size 86 q (l ++ encL coversE xs) ∧ WB w0.heap.size q w w') := by
  have hmx0 := Kd.C_max hC
  have hEL : encL coversE xs = encU xs.length ++ enL coversE xs := rfl
  have hl2 : (l ++ encU xs.length).length + (enL coversE xs).length + 20 ≤ 140737488355328 := by rw [hEL, List.length_append] at hl; rw [List.length_append]; omega
  have HU := Lib.hid (count_any' h (n := xs.length) (by omega) (by omega))
  have HC := Lib.hid (And.intro hC (And.intro hR (And.intro hl2 (And.intro hEL (And.intro hmx0 hB)))))
  clear h hC hR hl hmx0 hEL hl2 hB
  go_enter Try.func20, Try.ntmps20
  go_wp2_with (go_at_call 40; refine HU.out.mono ?_; rintro e w1 ⟨rfl, H1⟩)
  go_loopg [14] (xs.length + 1) (fun kq v8 w' => ∃ k : Nat, v8 = .int .i64 k ∧ Hid (kq + k = xs.length + 1 ∧ k ≤ xs.length ∧ WR w' w0.heap.size 86 q (l ++ encU xs.length ++ enL coversE (xs.take k)) ∧ WB w0.heap.size q w w'))
  case atStart => exact ⟨0, rfl, ⟨rfl, Nat.zero_le _, by rw [show enL coversE (xs.take 0) = [] from rfl, List.append_nil]; exact H1.out.1, H1.out.2⟩⟩
  case round =>
    rename World => ws
    rename Nat => gs
    obtain ⟨k, rfl, HI⟩ := hrel
    by_cases hk : k < xs.length
    · obtain ⟨ad, A1, c1, hA, x0, x1, l1, g1⟩ := at_T77 HC.out.1 (k : Int) (by omega) (by omega)
      rw [Int.toNat_natCast] at x0 x1
      obtain ⟨x, hx⟩ : ∃ x, rd_T77 xs (k : Int) = x := ⟨_, rfl⟩
      rw [hx] at x0 x1 l1 g1
      obtain ⟨hx1, hm⟩ := getD_some (z := z77) (x := x) hk (by rw [← hx]; unfold rd_T77; rw [Int.toNat_natCast])
      subst hA
      have HBW := Lib.hid (HC.out.2.2.2.2.2.trans HI.out.2.2.2.bl)
      replace x0 := cell_up HBW.out x0
      replace x1 := cell_up HBW.out x1
      obtain ⟨p1, q1⟩ := idx_in hk
      have HW := Lib.hid (idx_next hk HC.out.2.2.2.2.1)
      have HX := Lib.hid (And.intro hx1 (And.intro hk (HC.out.2.1 x hm)))
      obtain ⟨L, hL⟩ : ∃ L, l ++ encU xs.length ++ enL coversE (xs.take k) = L := ⟨_, rfl⟩
      have hwr := HI.out.2.2.1
      rw [hL] at hwr
      have HS := Lib.hid (ES.start hwr #[.int .i64 x.f0, .slice A1 x.f1.length c1] 77 (by decide))
      have hb : L.length + (coversE x).length + 20 ≤ 140737488355328 := by
        have h1 := enL_le coversE hx1
        have h2 := HC.out.2.2.1
        rw [← hL, List.length_append]
        omega
      simp only [coversE, encL_len, List.length_append] at hb
      have HGL := Lib.hid (And.intro g1 (And.intro l1 (show x.f1.length ≤ 9223372036854775807 from Kd.C_max g1)))
      have B1 := Lib.hid (show (L).length + 20 ≤ 140737488355328 by (try simp only [enL, List.map_cons, List.map_nil, List.flatten_cons, List.flatten_nil, List.length_append, List.length_nil]); omega)
      have BC := Lib.hid (show (L ++ encI x.f0).length + 20 ≤ 140737488355328 by (try simp only [enL, List.map_cons, List.map_nil, List.flatten_cons, List.flatten_nil, List.length_append, List.length_nil]); omega)
      have BI := Lib.hid (show (L ++ encI x.f0 ++ encU x.f1.length).length + (enL lotE x.f1).length + 20 ≤ 140737488355328 by simp only [enL, List.map_cons, List.map_nil, List.flatten_cons, List.flatten_nil, List.length_append, List.length_nil] at hb ⊢; omega)
      have HE := Lib.hid (show L ++ encI x.f0 ++ encU x.f1.length ++ enL lotE x.f1 = l ++ encU xs.length ++ enL coversE (xs.take (k + 1)) by rw [enL_step coversE hx1, ← hL]; simp only [coversE, encL, enL, List.map_cons, List.map_nil, List.flatten_cons, List.flatten_nil, List.append_assoc, List.append_nil])
      have a0S_0 : (ws.alloc (.cells #[.int .i64 x.f0, .slice A1 x.f1.length c1] 77)).cell? ⟨ws.heap.size, 0, none⟩ = some (.int .i64 x.f0) := HS.out.cell 0
      clear hx1 hm hk hx hb hwr hL l1 g1
      go_wp2_with (fail)
      generalize ws.alloc (.cells #[.int .i64 x.f0, .slice A1 x.f1.length c1] 77) = W0 at HS a0S_0 ⊢
      go_still_tail 5, (by kernel_rfl)
      show wpList _ _ _ _ _ (World.drew _)
      go_wp2_with (first
        | (go_at_call 40; refine (ES.count S1.out HGL.out.2.2 BC.out).mono ?_; rintro e wc ⟨rfl, SC⟩; have aC : wc.cell? ⟨ws.heap.size, 1, none⟩ = some (.slice A1 x.f1.length c1) := SC.out.cell 1)
        | (go_at_call 39; refine (ES.int HS.out HX.out.2.2.1 B1.out).mono ?_; rintro e w2 ⟨rfl, S1⟩; have aS1_1 : w2.cell? ⟨ws.heap.size, 1, none⟩ = some (.slice A1 x.f1.length c1) := S1.out.cell 1))
      go_loopg [32] (x.f1.length + 1) (fun kq v8 w' => ∃ j : Nat, v8 = .int .i64 j ∧ Hid (kq + j = x.f1.length + 1 ∧ j ≤ x.f1.length ∧ ES ws w' w0.heap.size q ws.heap.size #[.int .i64 x.f0, .slice A1 x.f1.length c1] 77 (L ++ encI x.f0 ++ encU x.f1.length ++ enL lotE (x.f1.take j))))
      case atStart => exact ⟨0, rfl, ⟨rfl, Nat.zero_le _, by rw [show enL lotE (x.f1.take 0) = [] from rfl, List.append_nil]; exact SC.out⟩⟩
      case round =>
        obtain ⟨j, rfl, HJ⟩ := hrel
        by_cases hj : j < x.f1.length
        · obtain ⟨bd, hA, y0, y1⟩ := at_T119 (Kd.C_below HGL.out.1 (HBW.out.trans HJ.out.2.2.wb.bl)) (j : Int) (by omega) (by omega)
          rw [Int.toNat_natCast] at y0 y1
          obtain ⟨y, hy⟩ : ∃ y, rd_T119 x.f1 (j : Int) = y := ⟨_, rfl⟩
          rw [hy] at y0 y1
          obtain ⟨hy1, hm2⟩ := getD_some (z := z119) (x := y) hj (by rw [← hy]; unfold rd_T119; rw [Int.toNat_natCast])
          subst hA
          obtain ⟨p2, q2⟩ := idx_in hj
          have HW2 := Lib.hid (idx_next hj HGL.out.2.2)
          have HY := Lib.hid (And.intro hy1 (And.intro hj (HX.out.2.2.2 y hm2)))
          obtain ⟨M, hM⟩ : ∃ M, L ++ encI x.f0 ++ encU x.f1.length ++ enL lotE (x.f1.take j) = M := ⟨_, rfl⟩
          have hes := HJ.out.2.2
          rw [hM] at hes
          have HES := Lib.hid hes
          have HS2 := Lib.hid (ES.start hes.wr #[.string y.f0, .int .i64 y.f1] 119 (by decide))
          have hb2 : M.length + (lotE y).length + 20 ≤ 140737488355328 := by
            have h1 := enL_le lotE hy1
            have h2 := BI.out
            rw [← hM, List.length_append]
            omega
          simp only [lotE, List.length_append] at hb2
          have D1 := Lib.hid (show (M).length + (encT (lst y.f0)).length + 20 ≤ 140737488355328 by (try simp only [enL, List.map_cons, List.map_nil, List.flatten_cons, List.flatten_nil, List.length_append, List.length_nil]); omega)
          have D2 := Lib.hid (show (M ++ encT (lst y.f0)).length + 20 ≤ 140737488355328 by (try simp only [enL, List.map_cons, List.map_nil, List.flatten_cons, List.flatten_nil, List.length_append, List.length_nil]); omega)
          have HE2 := Lib.hid (show M ++ encT (lst y.f0) ++ encI y.f1 = L ++ encI x.f0 ++ encU x.f1.length ++ enL lotE (x.f1.take (j + 1)) by rw [enL_step lotE hy1, ← List.append_assoc, hM]; simp only [lotE, enL, List.map_cons, List.map_nil, List.flatten_cons, List.flatten_nil, List.append_assoc, List.append_nil])
          have a0R_0 : (wr.alloc (.cells #[.string y.f0, .int .i64 y.f1] 119)).cell? ⟨wr.heap.size, 0, none⟩ = some (.string y.f0) := HS2.out.cell 0
          clear hy1 hm2 hj hy hb2 hes hM
          go_wp2_with (fail)
          generalize wr.alloc (.cells #[.string y.f0, .int .i64 y.f1] 119) = W1 at HS2 a0R_0 ⊢
          go_still_tail 5, (by kernel_rfl)
          show wpList _ _ _ _ _ (World.drew _)
          go_wp2_with (go_at_call 41; refine (ES.text HS2.out D1.out).mono ?_; rintro e v2 ⟨rfl, R1⟩; have aR1_1 : v2.cell? ⟨wr.heap.size, 1, none⟩ = some (.int .i64 y.f1) := R1.out.cell 1)
          go_still_tail 5, (by kernel_rfl)
          show wpList _ _ _ _ _ (World.drew _)
          go_wp2_with (go_at_call 39; refine (ES.int R1.out HY.out.2.2 D2.out).mono ?_; rintro e v3 ⟨rfl, R2⟩)
          go_roundg (x.f1.length - j)
          case measure => have := HJ.out.1; have := HY.out.2.1; omega
          case rel =>
            refine ⟨j + 1, by rw [HW2.out], ⟨by have := HJ.out.1; have := HY.out.2.1; omega, HY.out.2.1, ?_⟩⟩
            have h := HES.out.next R2.out.wr R2.out.wb
            rw [HE2.out] at h
            exact h
        · have q2 := idx_out hj
          have hsx := HJ.out.2.2
          rw [enL_all lotE (Nat.le_of_not_lt hj)] at hsx
          have SX := Lib.hid hsx
          clear hj hsx
          go_wp2_with (fail)
          go_roundg (xs.length - k)
          case measure => have := HI.out.1; have := HX.out.2.1; omega
          case rel =>
            exact ⟨k + 1, by rw [HW.out], ⟨by have := HI.out.1; have := HX.out.2.1; omega, HX.out.2.1, HE.out ▸ SX.out.wr, HI.out.2.2.2.trans SX.out.wb⟩⟩
    · have q1 := idx_out hk
      have HK := Lib.hid hk
      clear hk
      go_wp2_with (fail)
      go_end0
      refine ⟨rfl, ⟨?_, HI.out.2.2.2⟩⟩
      have h1 := HI.out.2.2.1
      rw [enL_all coversE (Nat.le_of_not_lt HK.out), List.append_assoc, ← HC.out.2.2.2.1] at h1
      exact h1
end Go.Proofs.Ythpgjeiglhdciaa.SN

/- The encoder: baskets. (printed by gen_enc_nest.py) -/
namespace Go.Proofs.Ythpgjeiglhdciaa.SN
open Go Go.RowKit Go.Proofs Go.Proofs.Ythpgjeiglhdciaa.PL Go.Proofs.YthpgjeiglhdciaaW.PrintWords Go.Proofs.YthpgjeiglhdciaaW.PrintLast Go.Proofs.YthpgjeiglhdciaaW.PrintMore
set_option maxRecDepth 100000 in
set_option maxHeartbeats 2000000 in
theorem wbaskets_any {w0 w : World} {q c : Nat} {A : Option Addr} {xs : List S63} {l : Bs} (h : WR w w0.heap.size 86 q l) (hB : Below w0.heap.size w0 w) (hC : k63.C w0 A xs.length xs) (hR : ∀ x ∈ xs, basketsO x) (hl : l.length + (encL basketsE xs).length + 20 ≤ 140737488355328) :
    Calls Try.prog 16 #[.pointer (some ⟨q, 0, none⟩), .slice A xs.length c] w fun o w' => o = .returned (.tuple #[]) ∧ Hid (WR w' w0.heap.size 86 q (l ++ encL basketsE xs) ∧ WB w0.heap.size q w w') := by
  have hmx0 := Kd.C_max hC
  have hEL : encL basketsE xs = encU xs.length ++ enL basketsE xs := rfl
  have hl2 : (l ++ encU xs.length).length + (enL basketsE xs).length + 20 ≤ 140737488355328 := by rw [hEL, List.length_append] at hl; rw [List.length_append]; omega
  have HU := Lib.hid (count_any' h (n := xs.length) (by omega) (by omega))
  have HC := Lib.hid (And.intro hC (And.intro hR (And.intro hl2 (And.intro hEL (And.intro hmx0 hB)))))
  clear h hC hR hl hmx0 hEL hl2 hB
  go_enter Try.func16, Try.ntmps16
  go_wp2_with (go_at_call 40; refine HU.out.mono ?_; rintro e w1 ⟨rfl, H1⟩)
  go_loopg [14] (xs.length + 1) (fun kq v8 w' => ∃ k : Nat, v8 = .int .i64 k ∧ Hid (kq + k = xs.length + 1 ∧ k ≤ xs.length ∧ WR w' w0.heap.size 86 q (l ++ encU xs.length ++ enL basketsE (xs.take k)) ∧ WB w0.heap.size q w w'))
  case atStart => exact ⟨0, rfl, ⟨rfl, Nat.zero_le _, by rw [show enL basketsE (xs.take 0) = [] from rfl, List.append_nil]; exact H1.out.1, H1.out.2⟩⟩
  case round =>
    rename World => ws
    rename Nat => gs
    obtain ⟨k, rfl, HI⟩ := hrel
    by_cases hk : k < xs.length
    · obtain ⟨ad, A6, c6, A9, c9, hA, x0, x1, x2, x3, x4, x5, x6, x7, x8, x9, l6, g6, l9, g9⟩ := at_T63 HC.out.1 (k : Int) (by omega) (by omega)
      rw [Int.toNat_natCast] at x0 x1 x2 x3 x4 x5 x6 x7 x8 x9
      obtain ⟨x, hx⟩ : ∃ x, rd_T63 xs (k : Int) = x := ⟨_, rfl⟩
      rw [hx] at x0 x1 x2 x3 x4 x5 x6 x7 x8 x9 l6 g6 l9 g9
      obtain ⟨hx1, hm⟩ := getD_some (z := z63) (x := x) hk (by rw [← hx]; unfold rd_T63; rw [Int.toNat_natCast])
      subst hA
      have HBW := Lib.hid (HC.out.2.2.2.2.2.trans HI.out.2.2.2.bl)
      replace x0 := cell_up HBW.out x0
      replace x1 := cell_up HBW.out x1
      replace x2 := cell_up HBW.out x2
      replace x3 := cell_up HBW.out x3
      replace x4 := cell_up HBW.out x4
      replace x5 := cell_up HBW.out x5
      replace x6 := cell_up HBW.out x6
      replace x7 := cell_up HBW.out x7
      replace x8 := cell_up HBW.out x8
      replace x9 := cell_up HBW.out x9
      obtain ⟨p1, q1⟩ := idx_in hk
      have HW := Lib.hid (idx_next hk HC.out.2.2.2.2.1)
      have HX := Lib.hid (And.intro hx1 (And.intro hk (HC.out.2.1 x hm)))
      obtain ⟨L, hL⟩ : ∃ L, l ++ encU xs.length ++ enL basketsE (xs.take k) = L := ⟨_, rfl⟩
      have hwr := HI.out.2.2.1
      rw [hL] at hwr
      have HS := Lib.hid (ES.start hwr #[.int .i64 x.f0, .int .i64 x.f1, .string x.f2, .int .i64 x.f3, .int .i64 x.f4, .int .i64 x.f5, .slice A6 x.f6.length c6, .int .i64 x.f7, .int .i64 x.f8, .slice A9 x.f9.length c9] 63 (by decide))
      have hb : L.length + (basketsE x).length + 20 ≤ 140737488355328 := by
        have h1 := enL_le basketsE hx1
        have h2 := HC.out.2.2.1
        rw [← hL, List.length_append]
        omega
      simp only [basketsE, encL_len, List.length_append] at hb
      have HGL := Lib.hid (And.intro g6 (And.intro l6 (show x.f6.length ≤ 9223372036854775807 from Kd.C_max g6)))
      have HG9 := Lib.hid (show ReadsInt w0 .i64 A9 x.f9.length x.f9 from readsInt_of.2 (Kd.reads_of_C g9))
      have B1 := Lib.hid (show (L).length + (enL encI [x.f0, x.f1, x.f3, x.f4, x.f5, x.f7, x.f8]).length + 20 ≤ 140737488355328 by (try simp only [enL, List.map_cons, List.map_nil, List.flatten_cons, List.flatten_nil, List.length_append, List.length_nil]); omega)
      have B2 := Lib.hid (show (L ++ enL encI [x.f0, x.f1, x.f3, x.f4, x.f5, x.f7, x.f8]).length + (encT (lst x.f2)).length + 20 ≤ 140737488355328 by (try simp only [enL, List.map_cons, List.map_nil, List.flatten_cons, List.flatten_nil, List.length_append, List.length_nil]); omega)
      have BC := Lib.hid (show (L ++ enL encI [x.f0, x.f1, x.f3, x.f4, x.f5, x.f7, x.f8] ++ encT (lst x.f2)).length + 20 ≤ 140737488355328 by (try simp only [enL, List.map_cons, List.map_nil, List.flatten_cons, List.flatten_nil, List.length_append, List.length_nil]); omega)
      have BI := Lib.hid (show (L ++ enL encI [x.f0, x.f1, x.f3, x.f4, x.f5, x.f7, x.f8] ++ encT (lst x.f2) ++ encU x.f6.length).length + (enL cutE x.f6).length + 20 ≤ 140737488355328 by simp only [enL, List.map_cons, List.map_nil, List.flatten_cons, List.flatten_nil, List.length_append, List.length_nil] at hb ⊢; omega)
      have BA := Lib.hid (show (L ++ enL encI [x.f0, x.f1, x.f3, x.f4, x.f5, x.f7, x.f8] ++ encT (lst x.f2) ++ encU x.f6.length ++ enL cutE x.f6).length + (encL encI x.f9).length + 20 ≤ 140737488355328 by simp only [encL_len, enL, List.map_cons, List.map_nil, List.flatten_cons, List.flatten_nil, List.length_append, List.length_nil] at hb ⊢; omega)
      have HE := Lib.hid (show L ++ enL encI [x.f0, x.f1, x.f3, x.f4, x.f5, x.f7, x.f8] ++ encT (lst x.f2) ++ encU x.f6.length ++ enL cutE x.f6 ++ encL encI x.f9 = l ++ encU xs.length ++ enL basketsE (xs.take (k + 1)) by rw [enL_step basketsE hx1, ← hL]; simp only [basketsE, encL, enL, List.map_cons, List.map_nil, List.flatten_cons, List.flatten_nil, List.append_assoc, List.append_nil])
      clear hx1 hm hk hx hb hwr hL l6 g6 l9 g9
      go_wp2_with (go_at_call 12; refine (ES.ints HS.out (by simp) [x.f0, x.f1, x.f3, x.f4, x.f5, x.f7, x.f8] (i64_cons HX.out.2.2.1.1 (i64_cons HX.out.2.2.1.2.1 (i64_cons HX.out.2.2.1.2.2.1 (i64_cons HX.out.2.2.1.2.2.2.1 (i64_cons HX.out.2.2.1.2.2.2.2.1 (i64_cons HX.out.2.2.1.2.2.2.2.2.1 (i64_cons HX.out.2.2.1.2.2.2.2.2.2 i64_nil))))))) (by simp) B1.out).mono ?_; rintro e w2 ⟨rfl, S1⟩; have aS1_2 : w2.cell? ⟨ws.heap.size, 2, none⟩ = some (.string x.f2) := S1.out.cell 2)
      go_still_tail 5, (by kernel_rfl)
      show wpList _ _ _ _ _ (World.drew _)
      go_wp2_with (first
        | (go_at_call 40; refine (ES.count S2.out HGL.out.2.2 BC.out).mono ?_; rintro e wc ⟨rfl, SC⟩; have aC : wc.cell? ⟨ws.heap.size, 6, none⟩ = some (.slice A6 x.f6.length c6) := SC.out.cell 6)
        | (go_at_call 41; refine (ES.text S1.out B2.out).mono ?_; rintro e w3 ⟨rfl, S2⟩; have aS2_6 : w3.cell? ⟨ws.heap.size, 6, none⟩ = some (.slice A6 x.f6.length c6) := S2.out.cell 6))
      go_loopg [49] (x.f6.length + 1) (fun kq v8 w' => ∃ j : Nat, v8 = .int .i64 j ∧ Hid (kq + j = x.f6.length + 1 ∧ j ≤ x.f6.length ∧ ES ws w' w0.heap.size q ws.heap.size #[.int .i64 x.f0, .int .i64 x.f1, .string x.f2, .int .i64 x.f3, .int .i64 x.f4, .int .i64 x.f5, .slice A6 x.f6.length c6, .int .i64 x.f7, .int .i64 x.f8, .slice A9 x.f9.length c9] 63 (L ++ enL encI [x.f0, x.f1, x.f3, x.f4, x.f5, x.f7, x.f8] ++ encT (lst x.f2) ++ encU x.f6.length ++ enL cutE (x.f6.take j))))
      case atStart => exact ⟨0, rfl, ⟨rfl, Nat.zero_le _, by rw [show enL cutE (x.f6.take 0) = [] from rfl, List.append_nil]; exact SC.out⟩⟩
      case round =>
        obtain ⟨j, rfl, HJ⟩ := hrel
        by_cases hj : j < x.f6.length
        · obtain ⟨bd, hA, y0, y1, y2⟩ := at_T124 (Kd.C_below HGL.out.1 (HBW.out.trans HJ.out.2.2.wb.bl)) (j : Int) (by omega) (by omega)
          rw [Int.toNat_natCast] at y0 y1 y2
          obtain ⟨y, hy⟩ : ∃ y, rd_T124 x.f6 (j : Int) = y := ⟨_, rfl⟩
          rw [hy] at y0 y1 y2
          obtain ⟨hy1, hm2⟩ := getD_some (z := z124) (x := y) hj (by rw [← hy]; unfold rd_T124; rw [Int.toNat_natCast])
          subst hA
          obtain ⟨p2, q2⟩ := idx_in hj
          have HW2 := Lib.hid (idx_next hj HGL.out.2.2)
          have HY := Lib.hid (And.intro hy1 (And.intro hj (HX.out.2.2.2.1 y hm2)))
          obtain ⟨M, hM⟩ : ∃ M, L ++ enL encI [x.f0, x.f1, x.f3, x.f4, x.f5, x.f7, x.f8] ++ encT (lst x.f2) ++ encU x.f6.length ++ enL cutE (x.f6.take j) = M := ⟨_, rfl⟩
          have hes := HJ.out.2.2
          rw [hM] at hes
          have HES := Lib.hid hes
          have HS2 := Lib.hid (ES.start hes.wr #[.int .i64 y.f0, .int .i64 y.f1, .int .i64 y.f2] 124 (by decide))
          have hb2 : M.length + (cutE y).length + 20 ≤ 140737488355328 := by
            have h1 := enL_le cutE hy1
            have h2 := BI.out
            rw [← hM, List.length_append]
            omega
          simp only [cutE, List.length_append] at hb2
          have D1 := Lib.hid (show (M).length + (enL encI [y.f0, y.f1, y.f2]).length + 20 ≤ 140737488355328 by (try simp only [enL, List.map_cons, List.map_nil, List.flatten_cons, List.flatten_nil, List.length_append, List.length_nil]); omega)
          have HE2 := Lib.hid (show M ++ enL encI [y.f0, y.f1, y.f2] = L ++ enL encI [x.f0, x.f1, x.f3, x.f4, x.f5, x.f7, x.f8] ++ encT (lst x.f2) ++ encU x.f6.length ++ enL cutE (x.f6.take (j + 1)) by rw [enL_step cutE hy1, ← List.append_assoc, hM]; simp only [cutE, enL, List.map_cons, List.map_nil, List.flatten_cons, List.flatten_nil, List.append_assoc, List.append_nil])
          clear hy1 hm2 hj hy hb2 hes hM
          go_wp2_with (go_at_call 12; refine (ES.ints HS2.out (by simp) [y.f0, y.f1, y.f2] (i64_cons HY.out.2.2.1 (i64_cons HY.out.2.2.2.1 (i64_cons HY.out.2.2.2.2 i64_nil))) (by simp) D1.out).mono ?_; rintro e v2 ⟨rfl, R1⟩)
          go_roundg (x.f6.length - j)
          case measure => have := HJ.out.1; have := HY.out.2.1; omega
          case rel =>
            refine ⟨j + 1, by rw [HW2.out], ⟨by have := HJ.out.1; have := HY.out.2.1; omega, HY.out.2.1, ?_⟩⟩
            have h := HES.out.next R1.out.wr R1.out.wb
            rw [HE2.out] at h
            exact h
        · have q2 := idx_out hj
          have hsx := HJ.out.2.2
          rw [enL_all cutE (Nat.le_of_not_lt hj)] at hsx
          have SX := Lib.hid hsx
          have aX : wr.cell? ⟨ws.heap.size, 9, none⟩ = some (.slice A9 x.f9.length c9) := hsx.cell 9
          clear hj hsx
          go_wp2_with (fail)
          go_still_tail 5, (by kernel_rfl)
          show wpList _ _ _ _ _ (World.drew _)
          go_wp2_with (go_at_call 43; refine (ES.Ints SX.out rfl HBW.out HG9.out HX.out.2.2.2.2 BA.out).mono ?_; rintro e wz ⟨rfl, SZ⟩)
          go_roundg (xs.length - k)
          case measure => have := HI.out.1; have := HX.out.2.1; omega
          case rel =>
            exact ⟨k + 1, by rw [HW.out], ⟨by have := HI.out.1; have := HX.out.2.1; omega, HX.out.2.1, HE.out ▸ SZ.out.wr, HI.out.2.2.2.trans SZ.out.wb⟩⟩
    · have q1 := idx_out hk
      have HK := Lib.hid hk
      clear hk
      go_wp2_with (fail)
      go_end0
      refine ⟨rfl, ⟨?_, HI.out.2.2.2⟩⟩
      have h1 := HI.out.2.2.1
      rw [enL_all basketsE (Nat.le_of_not_lt HK.out), List.append_assoc, ← HC.out.2.2.2.1] at h1
      exact h1
end Go.Proofs.Ythpgjeiglhdciaa.SN

/- Encode. (printed by gen_encode.py) -/
namespace Go.Proofs.Ythpgjeiglhdciaa.SN
open Go Go.RowKit Go.Proofs Go.Proofs.Ythpgjeiglhdciaa.PL Go.Proofs.YthpgjeiglhdciaaW.PrintWords Go.Proofs.YthpgjeiglhdciaaW.PrintLast Go.Proofs.YthpgjeiglhdciaaW.PrintMore
/-- All that a book knows. -/
structure VW where
  day : Int
  next : Int
  members : List S68
  assets : List S57
  prices : List S70
  baskets : List S63
  balances : List S73
  quotes : List S127
  trades : List S117
  covers : List S77
  inn : List S80
  outs : List S80
/-- A view, as it is written. -/
def encV (V : VW) : Bs := enL encI [V.day, V.next] ++ (encL membersE V.members ++ (encL assetsE V.assets ++ (encL pricesE V.prices ++ (encL basketsE V.baskets ++ (encL balancesE V.balances ++ (encL quotesE V.quotes ++ (encL tradesE V.trades ++ (encL coversE V.covers ++ (encL linksE V.inn ++ (encL linksE V.outs))))))))))
/-- Its numbers are of 64 bits. -/
structure VO (V : VW) : Prop where
  day : I64 V.day
  next : I64 V.next
  members : ∀ x ∈ V.members, membersO x
  assets : ∀ x ∈ V.assets, assetsO x
  prices : ∀ x ∈ V.prices, pricesO x
  baskets : ∀ x ∈ V.baskets, basketsO x
  balances : ∀ x ∈ V.balances, balancesO x
  quotes : ∀ x ∈ V.quotes, quotesO x
  trades : ∀ x ∈ V.trades, tradesO x
  covers : ∀ x ∈ V.covers, coversO x
  inn : ∀ x ∈ V.inn, linksO x
  outs : ∀ x ∈ V.outs, linksO x
/-- A view lies in memory: its twelve cells. -/
structure VL (w : World) (V : VW) (A1 A2 A3 A4 A5 A6 A7 A9 A10 A11 : Option Addr) : Prop where
  members : k68.C w A1 V.members.length V.members
  assets : k57.C w A2 V.assets.length V.assets
  prices : k70.C w A3 V.prices.length V.prices
  baskets : k63.C w A4 V.baskets.length V.baskets
  balances : k73.C w A5 V.balances.length V.balances
  quotes : k127.C w A6 V.quotes.length V.quotes
  trades : k117.C w A7 V.trades.length V.trades
  covers : k77.C w A9 V.covers.length V.covers
  inn : k80.C w A10 V.inn.length V.inn
  outs : k80.C w A11 V.outs.length V.outs
theorem ES.call {ws W : World} {b q G fn : Nat} {cs : Array Value} {T : Nat} {L L' : Bs} {vs : Array Value} (h : ES ws W b q G cs T L) (hc : Calls Try.prog fn vs W fun o w' => o = .returned (.tuple #[]) ∧ Hid (WR w' b 86 q L' ∧ WB b q W w')) : Calls Try.prog fn vs W fun o w' => o = .returned (.tuple #[]) ∧ Hid (ES ws w' b q G cs T L') := by
  refine hc.mono ?_
  rintro o w' ⟨rfl, H⟩
  exact ⟨rfl, h.next H.out.1 H.out.2⟩
theorem enc_start (w : World) (cs : Array Value) : ES ((w.alloc (.cells cs 45)).alloc (.cells #[.slice none 0 0] 86)) ((w.alloc (.cells cs 45)).alloc (.cells #[.slice none 0 0] 86)) w.heap.size (w.heap.size + 1) w.heap.size cs 45 [] ∧ Below w.heap.size w ((w.alloc (.cells cs 45)).alloc (.cells #[.slice none 0 0] 86)) := by
  have h1 := (Go.MapKept.heap_alloc w (.cells cs 45)).1
  have h2 := (Go.MapKept.heap_alloc (w.alloc (.cells cs 45)) (.cells #[.slice none 0 0] 86)).1
  have hs : (w.alloc (.cells cs 45)).heap.size = w.heap.size + 1 := by simp
  rw [hs] at h2
  have h3 : ((w.alloc (.cells cs 45)).alloc (.cells #[.slice none 0 0] 86)).heap[w.heap.size]? = some (.cells cs 45 (0, 0)) := ((below_alloc (Below.refl (w.alloc (.cells cs 45)).heap.size (w.alloc (.cells cs 45))) _).block w.heap.size (by rw [hs]; exact Nat.lt_succ_self _)).trans h1
  refine ⟨⟨⟨Nat.le_succ _, _, h2, Kd.R_nil _ _ _ _ _⟩, WB.refl _ _ _, h3, by omega, by decide⟩, ?_⟩
  exact ((Below.refl w.heap.size w).alloc (Nat.le_refl _) _).alloc (by rw [hs]; exact Nat.le_succ _) _
/-- What the bytes begin with. -/
def mark : Bs := [108, 111, 109, 98, 97, 114, 100, 49]
/-- What Encode answers: a text, a fault. -/
def encA (V : VW) : Bs × Int := if 524288 < (mark ++ encV V).length then ([], 2) else (mark ++ encV V, 0)
theorem bst_size (l : Bs) : (bst l).size = l.length := by
  show l.toArray.size = _
  simp
theorem size_yes {L : Bs} (h : 524288 < (mark ++ L).length) (hb : L.length ≤ 140737488355328) : (9223372036854775807 < 8 + (bst L).size) = False ∧ ((524288 : Int) < 8 + ((bst L).size : Int)) = True ∧ ((8 + ((bst L).size : Int)) > 524288) = True := by
  rw [bst_size]
  rw [List.length_append] at h
  have e : mark.length = 8 := rfl
  exact ⟨eq_false (by omega), eq_true (by omega), eq_true (by omega)⟩
theorem size_no {L : Bs} (h : ¬ 524288 < (mark ++ L).length) : (9223372036854775807 < 8 + (bst L).size) = False ∧ ((524288 : Int) < 8 + ((bst L).size : Int)) = False ∧ ((8 + ((bst L).size : Int)) > 524288) = False := by
  rw [bst_size]
  rw [List.length_append] at h
  have e : mark.length = 8 := rfl
  exact ⟨eq_false (by omega), eq_false (by omega), eq_false (by omega)⟩
set_option maxRecDepth 100000 in
set_option maxHeartbeats 2000000 in
theorem encode_any {w : World} {V : VW} {A1 A2 A3 A4 A5 A6 A7 A9 A10 A11 : Option Addr} {c1 c2 c3 c4 c5 c6 c7 c9 c10 c11 : Nat} (hL : VL w V A1 A2 A3 A4 A5 A6 A7 A9 A10 A11) (hO : VO V) (hb : (encV V).length + 20 ≤ 140737488355328) :
    Calls Try.prog 8 #[.agg #[.int .i64 V.day, .slice A1 V.members.length c1, .slice A2 V.assets.length c2, .slice A3 V.prices.length c3, .slice A4 V.baskets.length c4, .slice A5 V.balances.length c5, .slice A6 V.quotes.length c6, .slice A7 V.trades.length c7, .int .i64 V.next, .slice A9 V.covers.length c9, .slice A10 V.inn.length c10, .slice A11 V.outs.length c11]] w fun o w' => o = .returned (.tuple #[.string (bst (encA V).1), .int .i64 (encA V).2]) ∧ Below w.heap.size w w' := by
  simp only [encV, List.length_append] at hb
  obtain ⟨hes, hbe⟩ := enc_start w #[.int .i64 V.day, .slice A1 V.members.length c1, .slice A2 V.assets.length c2, .slice A3 V.prices.length c3, .slice A4 V.baskets.length c4, .slice A5 V.balances.length c5, .slice A6 V.quotes.length c6, .slice A7 V.trades.length c7, .int .i64 V.next, .slice A9 V.covers.length c9, .slice A10 V.inn.length c10, .slice A11 V.outs.length c11]
  have HS := Lib.hid hes
  have HBE := Lib.hid hbe
  have HL := Lib.hid hL
  have HO := Lib.hid hO
  have B0 := Lib.hid (show (([] : Bs)).length + (enL encI [V.day, V.next]).length + 20 ≤ 140737488355328 by simp only [List.length_append, List.length_nil]; omega)
  have B1 := Lib.hid (show (([] : Bs) ++ enL encI [V.day, V.next]).length + (encL membersE V.members).length + 20 ≤ 140737488355328 by simp only [List.length_append, List.length_nil]; omega)
  have B2 := Lib.hid (show (([] : Bs) ++ enL encI [V.day, V.next] ++ encL membersE V.members).length + (encL assetsE V.assets).length + 20 ≤ 140737488355328 by simp only [List.length_append, List.length_nil]; omega)
  have B3 := Lib.hid (show (([] : Bs) ++ enL encI [V.day, V.next] ++ encL membersE V.members ++ encL assetsE V.assets).length + (encL pricesE V.prices).length + 20 ≤ 140737488355328 by simp only [List.length_append, List.length_nil]; omega)
  have B4 := Lib.hid (show (([] : Bs) ++ enL encI [V.day, V.next] ++ encL membersE V.members ++ encL assetsE V.assets ++ encL pricesE V.prices).length + (encL basketsE V.baskets).length + 20 ≤ 140737488355328 by simp only [List.length_append, List.length_nil]; omega)
  have B5 := Lib.hid (show (([] : Bs) ++ enL encI [V.day, V.next] ++ encL membersE V.members ++ encL assetsE V.assets ++ encL pricesE V.prices ++ encL basketsE V.baskets).length + (encL balancesE V.balances).length + 20 ≤ 140737488355328 by simp only [List.length_append, List.length_nil]; omega)
  have B6 := Lib.hid (show (([] : Bs) ++ enL encI [V.day, V.next] ++ encL membersE V.members ++ encL assetsE V.assets ++ encL pricesE V.prices ++ encL basketsE V.baskets ++ encL balancesE V.balances).length + (encL quotesE V.quotes).length + 20 ≤ 140737488355328 by simp only [List.length_append, List.length_nil]; omega)
  have B7 := Lib.hid (show (([] : Bs) ++ enL encI [V.day, V.next] ++ encL membersE V.members ++ encL assetsE V.assets ++ encL pricesE V.prices ++ encL basketsE V.baskets ++ encL balancesE V.balances ++ encL quotesE V.quotes).length + (encL tradesE V.trades).length + 20 ≤ 140737488355328 by simp only [List.length_append, List.length_nil]; omega)
  have B8 := Lib.hid (show (([] : Bs) ++ enL encI [V.day, V.next] ++ encL membersE V.members ++ encL assetsE V.assets ++ encL pricesE V.prices ++ encL basketsE V.baskets ++ encL balancesE V.balances ++ encL quotesE V.quotes ++ encL tradesE V.trades).length + (encL coversE V.covers).length + 20 ≤ 140737488355328 by simp only [List.length_append, List.length_nil]; omega)
  have B9 := Lib.hid (show (([] : Bs) ++ enL encI [V.day, V.next] ++ encL membersE V.members ++ encL assetsE V.assets ++ encL pricesE V.prices ++ encL basketsE V.baskets ++ encL balancesE V.balances ++ encL quotesE V.quotes ++ encL tradesE V.trades ++ encL coversE V.covers).length + (encL linksE V.inn).length + 20 ≤ 140737488355328 by simp only [List.length_append, List.length_nil]; omega)
  have B10 := Lib.hid (show (([] : Bs) ++ enL encI [V.day, V.next] ++ encL membersE V.members ++ encL assetsE V.assets ++ encL pricesE V.prices ++ encL basketsE V.baskets ++ encL balancesE V.balances ++ encL quotesE V.quotes ++ encL tradesE V.trades ++ encL coversE V.covers ++ encL linksE V.inn).length + (encL linksE V.outs).length + 20 ≤ 140737488355328 by simp only [List.length_append, List.length_nil]; omega)
  have HV := Lib.hid (show ([] : Bs) ++ enL encI [V.day, V.next] ++ encL membersE V.members ++ encL assetsE V.assets ++ encL pricesE V.prices ++ encL basketsE V.baskets ++ encL balancesE V.balances ++ encL quotesE V.quotes ++ encL tradesE V.trades ++ encL coversE V.covers ++ encL linksE V.inn ++ encL linksE V.outs = encV V by simp only [encV, List.nil_append, List.append_assoc])
  have BZ := Lib.hid (show (encV V).length ≤ 140737488355328 by simp only [encV, List.length_append]; omega)
  clear hL hO hb hes hbe
  by_cases hz : 524288 < (mark ++ encV V).length
  · have HA := Lib.hid (show encA V = ([], 2) from if_pos hz)
    obtain ⟨k1, k2, k3⟩ := size_yes hz BZ.out
    clear hz
    go_enter Try.func8, Try.ntmps8
    go_wp2_with (first
      | (go_at_call 22; refine (bytes_any HF.out.wr).mono ?_; rintro e wz ⟨rfl, rfl⟩)
      | (go_at_call 21; refine (ES.call S10.out (wlinks_any S10.out.wr (HBE.out.trans S10.out.wb.bl) HL.out.outs HO.out.outs B10.out)).mono ?_; rintro e w11 ⟨rfl, S11⟩; have HF := Lib.hid (HV.out ▸ S11.out))
      | (go_at_call 21; refine (ES.call S9.out (wlinks_any S9.out.wr (HBE.out.trans S9.out.wb.bl) HL.out.inn HO.out.inn B9.out)).mono ?_; rintro e w10 ⟨rfl, S10⟩; have aS10_11 : w10.cell? ⟨w.heap.size, 11, none⟩ = some (.slice A11 V.outs.length c11) := S10.out.cell 11)
      | (go_at_call 20; refine (ES.call S8.out (wcovers_any S8.out.wr (HBE.out.trans S8.out.wb.bl) HL.out.covers HO.out.covers B8.out)).mono ?_; rintro e w9 ⟨rfl, S9⟩; have aS9_10 : w9.cell? ⟨w.heap.size, 10, none⟩ = some (.slice A10 V.inn.length c10) := S9.out.cell 10)
      | (go_at_call 19; refine (ES.call S7.out (wtrades_any S7.out.wr (HBE.out.trans S7.out.wb.bl) HL.out.trades HO.out.trades B7.out)).mono ?_; rintro e w8 ⟨rfl, S8⟩; have aS8_9 : w8.cell? ⟨w.heap.size, 9, none⟩ = some (.slice A9 V.covers.length c9) := S8.out.cell 9)
      | (go_at_call 18; refine (ES.call S6.out (wquotes_any S6.out.wr (HBE.out.trans S6.out.wb.bl) HL.out.quotes HO.out.quotes B6.out)).mono ?_; rintro e w7 ⟨rfl, S7⟩; have aS7_7 : w7.cell? ⟨w.heap.size, 7, none⟩ = some (.slice A7 V.trades.length c7) := S7.out.cell 7)
      | (go_at_call 17; refine (ES.call S5.out (wbalances_any S5.out.wr (HBE.out.trans S5.out.wb.bl) HL.out.balances HO.out.balances B5.out)).mono ?_; rintro e w6 ⟨rfl, S6⟩; have aS6_6 : w6.cell? ⟨w.heap.size, 6, none⟩ = some (.slice A6 V.quotes.length c6) := S6.out.cell 6)
      | (go_at_call 16; refine (ES.call S4.out (wbaskets_any S4.out.wr (HBE.out.trans S4.out.wb.bl) HL.out.baskets HO.out.baskets B4.out)).mono ?_; rintro e w5 ⟨rfl, S5⟩; have aS5_5 : w5.cell? ⟨w.heap.size, 5, none⟩ = some (.slice A5 V.balances.length c5) := S5.out.cell 5)
      | (go_at_call 15; refine (ES.call S3.out (wprices_any S3.out.wr (HBE.out.trans S3.out.wb.bl) HL.out.prices HO.out.prices B3.out)).mono ?_; rintro e w4 ⟨rfl, S4⟩; have aS4_4 : w4.cell? ⟨w.heap.size, 4, none⟩ = some (.slice A4 V.baskets.length c4) := S4.out.cell 4)
      | (go_at_call 14; refine (ES.call S2.out (wassets_any S2.out.wr (HBE.out.trans S2.out.wb.bl) HL.out.assets HO.out.assets B2.out)).mono ?_; rintro e w3 ⟨rfl, S3⟩; have aS3_3 : w3.cell? ⟨w.heap.size, 3, none⟩ = some (.slice A3 V.prices.length c3) := S3.out.cell 3)
      | (go_at_call 13; refine (ES.call S1.out (wmembers_any S1.out.wr (HBE.out.trans S1.out.wb.bl) HL.out.members HO.out.members B1.out)).mono ?_; rintro e w2 ⟨rfl, S2⟩; have aS2_2 : w2.cell? ⟨w.heap.size, 2, none⟩ = some (.slice A2 V.assets.length c2) := S2.out.cell 2)
      | (go_at_call 12; refine (ES.ints HS.out (by simp) [V.day, V.next] (i64_cons HO.out.day (i64_cons HO.out.next i64_nil)) (by simp) B0.out).mono ?_; rintro e w1 ⟨rfl, S1⟩; have aS1_1 : w1.cell? ⟨w.heap.size, 1, none⟩ = some (.slice A1 V.members.length c1) := S1.out.cell 1))
    go_ret2
    rw [HA.out]
    exact ⟨rfl, HBE.out.trans HF.out.wb.bl⟩
  · have HA := Lib.hid (show encA V = (mark ++ encV V, 0) from if_neg hz)
    obtain ⟨k1, k2, k3⟩ := size_no hz
    clear hz
    go_enter Try.func8, Try.ntmps8
    go_wp2_with (first
      | (go_at_call 22; refine (bytes_any HF.out.wr).mono ?_; rintro e wz ⟨rfl, rfl⟩)
      | (go_at_call 21; refine (ES.call S10.out (wlinks_any S10.out.wr (HBE.out.trans S10.out.wb.bl) HL.out.outs HO.out.outs B10.out)).mono ?_; rintro e w11 ⟨rfl, S11⟩; have HF := Lib.hid (HV.out ▸ S11.out))
      | (go_at_call 21; refine (ES.call S9.out (wlinks_any S9.out.wr (HBE.out.trans S9.out.wb.bl) HL.out.inn HO.out.inn B9.out)).mono ?_; rintro e w10 ⟨rfl, S10⟩; have aS10_11 : w10.cell? ⟨w.heap.size, 11, none⟩ = some (.slice A11 V.outs.length c11) := S10.out.cell 11)
      | (go_at_call 20; refine (ES.call S8.out (wcovers_any S8.out.wr (HBE.out.trans S8.out.wb.bl) HL.out.covers HO.out.covers B8.out)).mono ?_; rintro e w9 ⟨rfl, S9⟩; have aS9_10 : w9.cell? ⟨w.heap.size, 10, none⟩ = some (.slice A10 V.inn.length c10) := S9.out.cell 10)
      | (go_at_call 19; refine (ES.call S7.out (wtrades_any S7.out.wr (HBE.out.trans S7.out.wb.bl) HL.out.trades HO.out.trades B7.out)).mono ?_; rintro e w8 ⟨rfl, S8⟩; have aS8_9 : w8.cell? ⟨w.heap.size, 9, none⟩ = some (.slice A9 V.covers.length c9) := S8.out.cell 9)
      | (go_at_call 18; refine (ES.call S6.out (wquotes_any S6.out.wr (HBE.out.trans S6.out.wb.bl) HL.out.quotes HO.out.quotes B6.out)).mono ?_; rintro e w7 ⟨rfl, S7⟩; have aS7_7 : w7.cell? ⟨w.heap.size, 7, none⟩ = some (.slice A7 V.trades.length c7) := S7.out.cell 7)
      | (go_at_call 17; refine (ES.call S5.out (wbalances_any S5.out.wr (HBE.out.trans S5.out.wb.bl) HL.out.balances HO.out.balances B5.out)).mono ?_; rintro e w6 ⟨rfl, S6⟩; have aS6_6 : w6.cell? ⟨w.heap.size, 6, none⟩ = some (.slice A6 V.quotes.length c6) := S6.out.cell 6)
      | (go_at_call 16; refine (ES.call S4.out (wbaskets_any S4.out.wr (HBE.out.trans S4.out.wb.bl) HL.out.baskets HO.out.baskets B4.out)).mono ?_; rintro e w5 ⟨rfl, S5⟩; have aS5_5 : w5.cell? ⟨w.heap.size, 5, none⟩ = some (.slice A5 V.balances.length c5) := S5.out.cell 5)
      | (go_at_call 15; refine (ES.call S3.out (wprices_any S3.out.wr (HBE.out.trans S3.out.wb.bl) HL.out.prices HO.out.prices B3.out)).mono ?_; rintro e w4 ⟨rfl, S4⟩; have aS4_4 : w4.cell? ⟨w.heap.size, 4, none⟩ = some (.slice A4 V.baskets.length c4) := S4.out.cell 4)
      | (go_at_call 14; refine (ES.call S2.out (wassets_any S2.out.wr (HBE.out.trans S2.out.wb.bl) HL.out.assets HO.out.assets B2.out)).mono ?_; rintro e w3 ⟨rfl, S3⟩; have aS3_3 : w3.cell? ⟨w.heap.size, 3, none⟩ = some (.slice A3 V.prices.length c3) := S3.out.cell 3)
      | (go_at_call 13; refine (ES.call S1.out (wmembers_any S1.out.wr (HBE.out.trans S1.out.wb.bl) HL.out.members HO.out.members B1.out)).mono ?_; rintro e w2 ⟨rfl, S2⟩; have aS2_2 : w2.cell? ⟨w.heap.size, 2, none⟩ = some (.slice A2 V.assets.length c2) := S2.out.cell 2)
      | (go_at_call 12; refine (ES.ints HS.out (by simp) [V.day, V.next] (i64_cons HO.out.day (i64_cons HO.out.next i64_nil)) (by simp) B0.out).mono ?_; rintro e w1 ⟨rfl, S1⟩; have aS1_1 : w1.cell? ⟨w.heap.size, 1, none⟩ = some (.slice A1 V.members.length c1) := S1.out.cell 1))
    go_ret2
    rw [HA.out]
    exact ⟨rfl, HBE.out.trans HF.out.wb.bl⟩
end Go.Proofs.Ythpgjeiglhdciaa.SN

/- The decoder: an element in a block of its own: the state ahead of the block, and behind. -/
namespace Go.Proofs.Ythpgjeiglhdciaa.SN
open Go Go.RowKit Go.Proofs Go.Proofs.Ythpgjeiglhdciaa.PL Go.Proofs.YthpgjeiglhdciaaW.PrintWords Go.Proofs.YthpgjeiglhdciaaW.PrintLast Go.Proofs.YthpgjeiglhdciaaW.PrintMore
theorem bool_le {s : ByteArray} {st : St} (ha : st.at' ≤ s.size) : (bR (lst s) st).2.at' ≤ s.size := by
  have h := ((bR_good (lst s)).fwd st (by rw [lst_len]; exact ha)).2
  rw [lst_len] at h
  exact h
theorem count_le {s : ByteArray} {st : St} (ha : st.at' ≤ s.size) : (cR (lst s) 4096 st).2.at' ≤ s.size := by
  have h := ((cR_good (lst s) 4096).fwd st (by rw [lst_len]; exact ha)).2
  rw [lst_len] at h
  exact h
/-- The round so far: no block of its own yet. -/
structure DP (wr W : World) (q : Nat) (s : ByteArray) (st : St) : Prop where
  rd : RD W q s st
  gr : wr.grownBy W (some q)
  sz : s.size ≤ 140737488355328
  le : st.at' ≤ s.size
/-- The round so far: the element's block is G. -/
structure DS (wr W : World) (q G : Nat) (s : ByteArray) (st : St) (cs : Array Value) (T : Nat) : Prop where
  rd : RD W q s st
  gr : wr.grownBy W (some q)
  sz : s.size ≤ 140737488355328
  le : st.at' ≤ s.size
  lo : W.heap[G]? = some (.cells cs T (0, 0))
  hi : wr.heap.size ≤ G
  lt : q < wr.heap.size
theorem grown_alloc {w W : World} {q : Nat} (h : w.grownBy W (some q)) (o : Obj) : w.grownBy (W.alloc o) (some q) := by
  have h1 : W.grownBy (W.alloc o) none := ⟨rfl, rfl, rfl, by simp, fun j hj _ => (below_alloc (Below.refl W.heap.size W) o).block j hj⟩
  exact grown_then h (h1.but (some q))
theorem DP.start {wr : World} {q : Nat} {s : ByteArray} {st : St} (h : RD wr q s st) (hs : s.size ≤ 140737488355328) (hl : st.at' ≤ s.size) : DP wr wr.drew q s st :=
  ⟨h, (show wr.grownBy wr.drew none from ⟨rfl, rfl, rfl, by simp, fun j hj _ => rfl⟩).but (some q), hs, hl⟩
theorem DP.start0 {wr : World} {q : Nat} {s : ByteArray} {st : St} (h : RD wr q s st) (hs : s.size ≤ 140737488355328) (hl : st.at' ≤ s.size) : DP wr wr q s st :=
  ⟨h, (show wr.grownBy wr none from ⟨rfl, rfl, rfl, Nat.le_refl _, fun j hj _ => rfl⟩).but (some q), hs, hl⟩
theorem DP.alloc {wr W : World} {q : Nat} {s : ByteArray} {st : St} (h : DP wr W q s st) (hq : q < wr.heap.size) (cs : Array Value) (T : Nat) : DS wr (W.alloc (.cells cs T)) q W.heap.size s st cs T :=
  ⟨((below_alloc (Below.refl W.heap.size W) _).block q h.rd.lt).trans h.rd, grown_alloc h.gr _, h.sz, h.le, (Go.MapKept.heap_alloc W _).1, h.gr.size, hq⟩
theorem DS.drew {wr W : World} {q G : Nat} {s : ByteArray} {st : St} {cs : Array Value} {T : Nat} (h : DS wr W q G s st cs T) : DS wr W.drew q G s st cs T :=
  ⟨h.rd, grown_then h.gr ((show W.grownBy W.drew none from ⟨rfl, rfl, rfl, by simp, fun j hj _ => rfl⟩).but (some q)), h.sz, h.le, h.lo, h.hi, h.lt⟩
theorem DS.ne {wr W : World} {q G : Nat} {s : ByteArray} {st : St} {cs : Array Value} {T : Nat} (h : DS wr W q G s st cs T) : G ≠ q := by
  have h1 := h.hi
  have h2 := h.lt
  omega
theorem DS.set {wr W : World} {q G : Nat} {s : ByteArray} {st : St} {cs : Array Value} {T : Nat} (h : DS wr W q G s st cs T) (i : Nat) (v : Value) : DS wr (W.setCell ⟨G, i, none⟩ v) q G s st (cs.setIfInBounds i v) T := by
  have hne := h.ne
  refine ⟨(Below.heap_setCell _ _ _ _ (fun e => hne e.symm)).trans h.rd, ?_, h.sz, h.le, set_mod h.lo, h.hi, h.lt⟩
  exact h.gr.andThen (grown_set W G i v) (fun j hj => by injection hj with hj; exact .inl (hj ▸ h.hi))
theorem DS.step {wr W w' : World} {q G : Nat} {s : ByteArray} {st st' : St} {cs : Array Value} {T : Nat} (h : DS wr W q G s st cs T) (h1 : RD w' q s st') (h2 : W.grownBy w' (some q)) (h3 : st'.at' ≤ s.size) : DS wr w' q G s st' cs T := by
  have hne := h.ne
  exact ⟨h1, grown_then h.gr h2, h.sz, h3, (h2.block G (Array.getElem?_eq_some_iff.1 h.lo).1 (fun e => by injection e with e; exact hne e)).trans h.lo, h.hi, h.lt⟩
/-- Cells, set one behind the other. -/
def setAll (W : World) (G : Nat) : List Value → Nat → World
  | [], _ => W
  | v :: r, i => setAll (W.setCell ⟨G, i, none⟩ v) G r (i + 1)
def setArr (cs : Array Value) : List Value → Nat → Array Value
  | [], _ => cs
  | v :: r, i => setArr (cs.setIfInBounds i v) r (i + 1)
theorem DS.setAll {wr : World} {q G : Nat} {s : ByteArray} {st : St} {T : Nat} : ∀ (vs : List Value) (i : Nat) {W : World} {cs : Array Value}, DS wr W q G s st cs T → DS wr (setAll W G vs i) q G s st (setArr cs vs i) T
  | [], _, _, _, h => h
  | v :: r, i, _, _, h => DS.setAll r (i + 1) (h.set i v)
theorem setArr_list : ∀ (vs : List Value) (i : Nat) (cs : Array Value), i + vs.length = cs.size → (setArr cs vs i).toList = cs.toList.take i ++ vs
  | [], i, cs, h => by
    have h1 : i = cs.toList.length := by simpa using h
    show cs.toList = _
    rw [h1, List.take_length, List.append_nil]
  | v :: r, i, cs, h => by
    have h1 : i < cs.toList.length := by
      have h2 : i + (r.length + 1) = cs.size := h
      simp only [Array.length_toList]
      omega
    have h3 := setArr_list r (i + 1) (cs.setIfInBounds i v) (by
      have h2 : i + (r.length + 1) = cs.size := h
      simp only [Array.size_setIfInBounds]
      omega)
    show (setArr (cs.setIfInBounds i v) r (i + 1)).toList = _
    rw [h3, Array.toList_setIfInBounds, List.set_eq_take_append_cons_drop, if_pos h1]
    have e : (cs.toList.take i ++ v :: cs.toList.drop (i + 1)).take (i + 1) = cs.toList.take i ++ [v] := by
      rw [List.take_append, List.take_of_length_le (by simp; omega), List.length_take, Nat.min_eq_left (by omega)]
      have e2 : i + 1 - i = 1 := by omega
      rw [e2]
      rfl
    rw [e, List.append_assoc]
    rfl
theorem DS.fill {wr W : World} {q G : Nat} {s : ByteArray} {st : St} {cs : Array Value} {T : Nat} (h : DS wr W q G s st cs T) (vs : List Value) (hv : vs.length = cs.size) : DS wr (SN.setAll W G vs 0) q G s st vs.toArray T := by
  have h1 := DS.setAll vs 0 h
  have e : setArr cs vs 0 = vs.toArray := by
    apply Array.toList_inj.1
    rw [setArr_list vs 0 cs (by omega)]
    rfl
  rw [e] at h1
  exact h1
theorem DS.cell {wr W : World} {q G : Nat} {s : ByteArray} {st : St} {cs : Array Value} {T : Nat} (h : DS wr W q G s st cs T) (i : Nat) : W.cell? ⟨G, i, none⟩ = cs[i]? := cellsAt h.lo i
theorem DS.frz {wr W : World} {q G : Nat} {s : ByteArray} {st : St} {cs : Array Value} {T : Nat} (h : DS wr W q G s st cs T) (i : Nat) : W.frozen? ⟨G, i, none⟩ = false := by simp [World.frozen?, h.lo]
theorem DS.bx {wr W : World} {q G g : Nat} {s : ByteArray} {st : St} {cs : Array Value} {T : Nat} (h : DS wr W q G s st cs T) (hb : BX wr g q) (hq : q < g) : W.cell? ⟨g, 0, none⟩ = some (.pointer (some ⟨q, 0, none⟩)) := (hb.grown h.gr hq).cell
theorem DP.bx {wr W : World} {q g : Nat} {s : ByteArray} {st : St} (h : DP wr W q s st) (hb : BX wr g q) (hq : q < g) : W.cell? ⟨g, 0, none⟩ = some (.pointer (some ⟨q, 0, none⟩)) := (hb.grown h.gr hq).cell
theorem DS.away {wr W : World} {q G g : Nat} {s : ByteArray} {st : St} {cs : Array Value} {T : Nat} (h : DS wr W q G s st cs T) (hg : g < wr.heap.size) : g ≠ G := by
  have h1 := h.hi
  omega
theorem cell_off {W : World} {g G i : Nat} {v u : Value} (hne : g ≠ G) (h : W.cell? ⟨g, 0, none⟩ = some u) : (W.setCell ⟨G, i, none⟩ v).cell? ⟨g, 0, none⟩ = some u := by
  have e : (W.setCell ⟨G, i, none⟩ v).heap[g]? = W.heap[g]? := Below.heap_setCell _ _ _ _ hne
  simp only [World.cell?] at h ⊢
  rw [e]
  exact h
theorem DS.to {wr W : World} {q G : Nat} {s : ByteArray} {st : St} {cs cs' : Array Value} {T : Nat} (h : DS wr W q G s st cs T) (e : cs = cs') : DS wr W q G s st cs' T := e ▸ h
theorem DP.int {wr W : World} {q : Nat} {s : ByteArray} {st st' : St} {y : Int} (h : DP wr W q s st) (he : iR (lst s) st = (y, st')) :
    Calls Try.prog 24 #[.pointer (some ⟨q, 0, none⟩)] W fun o w' => o = .returned (.int .i64 y) ∧ Hid (DP wr w' q s st') := by
  have hl := int_le h.le
  have hc := int_any h.rd h.sz h.le
  rw [he] at hl hc
  refine hc.mono ?_
  rintro o w' ⟨rfl, H⟩
  exact ⟨rfl, ⟨H.out.1, grown_then h.gr H.out.2, h.sz, hl⟩⟩
theorem DS.int {wr W : World} {q G : Nat} {s : ByteArray} {st st' : St} {cs : Array Value} {T : Nat} {y : Int} (h : DS wr W q G s st cs T) (he : iR (lst s) st = (y, st')) :
    Calls Try.prog 24 #[.pointer (some ⟨q, 0, none⟩)] W fun o w' => o = .returned (.int .i64 y) ∧ Hid (DS wr w' q G s st' cs T) := by
  have hl := int_le h.le
  have hc := int_any h.rd h.sz h.le
  rw [he] at hl hc
  refine hc.mono ?_
  rintro o w' ⟨rfl, H⟩
  exact ⟨rfl, h.step H.out.1 H.out.2 hl⟩
theorem DP.bool {wr W : World} {q : Nat} {s : ByteArray} {st st' : St} {y : Bool} (h : DP wr W q s st) (he : bR (lst s) st = (y, st')) :
    Calls Try.prog 47 #[.pointer (some ⟨q, 0, none⟩)] W fun o w' => o = .returned (.bool y) ∧ Hid (DP wr w' q s st') := by
  have hl := bool_le h.le
  have hc := bool_any h.rd h.sz h.le
  rw [he] at hl hc
  refine hc.mono ?_
  rintro o w' ⟨rfl, H⟩
  exact ⟨rfl, ⟨H.out.1, grown_then h.gr H.out.2, h.sz, hl⟩⟩
theorem DS.bool {wr W : World} {q G : Nat} {s : ByteArray} {st st' : St} {cs : Array Value} {T : Nat} {y : Bool} (h : DS wr W q G s st cs T) (he : bR (lst s) st = (y, st')) :
    Calls Try.prog 47 #[.pointer (some ⟨q, 0, none⟩)] W fun o w' => o = .returned (.bool y) ∧ Hid (DS wr w' q G s st' cs T) := by
  have hl := bool_le h.le
  have hc := bool_any h.rd h.sz h.le
  rw [he] at hl hc
  refine hc.mono ?_
  rintro o w' ⟨rfl, H⟩
  exact ⟨rfl, h.step H.out.1 H.out.2 hl⟩
theorem DP.text {wr W : World} {q : Nat} {s : ByteArray} {st st' : St} {y : Bs} (h : DP wr W q s st) (he : tR (lst s) 160 st = (y, st')) :
    Calls Try.prog 46 #[.pointer (some ⟨q, 0, none⟩), .int .i64 160] W fun o w' => o = .returned (.string (bst y)) ∧ Hid (DP wr w' q s st') := by
  have hl := text_le h.le
  have hc := text_any h.rd h.sz h.le
  rw [he] at hl hc
  refine hc.mono ?_
  rintro o w' ⟨rfl, H⟩
  exact ⟨rfl, ⟨H.out.1, grown_then h.gr H.out.2, h.sz, hl⟩⟩
theorem DS.text {wr W : World} {q G : Nat} {s : ByteArray} {st st' : St} {cs : Array Value} {T : Nat} {y : Bs} (h : DS wr W q G s st cs T) (he : tR (lst s) 160 st = (y, st')) :
    Calls Try.prog 46 #[.pointer (some ⟨q, 0, none⟩), .int .i64 160] W fun o w' => o = .returned (.string (bst y)) ∧ Hid (DS wr w' q G s st' cs T) := by
  have hl := text_le h.le
  have hc := text_any h.rd h.sz h.le
  rw [he] at hl hc
  refine hc.mono ?_
  rintro o w' ⟨rfl, H⟩
  exact ⟨rfl, h.step H.out.1 H.out.2 hl⟩
theorem DP.count {wr W : World} {q : Nat} {s : ByteArray} {st st' : St} {y : Nat} (h : DP wr W q s st) (he : cR (lst s) 4096 st = (y, st')) :
    Calls Try.prog 45 #[.pointer (some ⟨q, 0, none⟩), .int .i64 4096] W fun o w' => o = .returned (.int .i64 (y : Nat)) ∧ Hid (DP wr w' q s st') := by
  have hl := count_le h.le
  have hc := count_any h.rd h.sz h.le
  rw [he] at hl hc
  refine hc.mono ?_
  rintro o w' ⟨rfl, H⟩
  exact ⟨rfl, ⟨H.out.1, grown_then h.gr H.out.2, h.sz, hl⟩⟩
theorem DS.count {wr W : World} {q G : Nat} {s : ByteArray} {st st' : St} {cs : Array Value} {T : Nat} {y : Nat} (h : DS wr W q G s st cs T) (he : cR (lst s) 4096 st = (y, st')) :
    Calls Try.prog 45 #[.pointer (some ⟨q, 0, none⟩), .int .i64 4096] W fun o w' => o = .returned (.int .i64 (y : Nat)) ∧ Hid (DS wr w' q G s st' cs T) := by
  have hl := count_le h.le
  have hc := count_any h.rd h.sz h.le
  rw [he] at hl hc
  refine hc.mono ?_
  rintro o w' ⟨rfl, H⟩
  exact ⟨rfl, h.step H.out.1 H.out.2 hl⟩
end Go.Proofs.Ythpgjeiglhdciaa.SN
