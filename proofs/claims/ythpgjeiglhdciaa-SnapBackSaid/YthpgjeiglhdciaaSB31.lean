/- Part 31 of the proof's texts: what the theorem needs of them. -/
import Derived.Test.YthpgjeiglhdciaaSB30

set_option linter.unusedVariables false
set_option linter.unusedSimpArgs false
/- The encoder: members, assets, prices. (printed by gen_enc.py) -/
namespace Go.Proofs.Ythpgjeiglhdciaa.SN
open Go Go.RowKit Go.Proofs Go.Proofs.Ythpgjeiglhdciaa.PL Go.Proofs.YthpgjeiglhdciaaW.PrintWords Go.Proofs.YthpgjeiglhdciaaW.PrintLast Go.Proofs.YthpgjeiglhdciaaW.PrintMore
set_option maxRecDepth 100000 in
set_option maxHeartbeats 1000000 in
theorem wmembers_any {w0 w : World} {q c : Nat} {A : Option Addr} {xs : List S68} {l : Bs} (h : WR w w0.heap.size 86 q l) (hB : Below w0.heap.size w0 w) (hC : k68.C w0 A xs.length xs) (hR : ∀ x ∈ xs, membersO x) (hl : l.length + (encL membersE xs).length + 20 ≤ 140737488355328) :
    Calls Try.prog 13 #[.pointer (some ⟨q, 0, none⟩), .slice A xs.length c] w fun o w' => o = .returned (.tuple #[]) ∧ Hid (WR w' w0.heap.size 86 q (l ++ encL membersE xs) ∧ WB w0.heap.size q w w') := by
  have hmx0 := Kd.C_max hC
  have hEL : encL membersE xs = encU xs.length ++ enL membersE xs := rfl
  have hl2 : (l ++ encU xs.length).length + (enL membersE xs).length + 20 ≤ 140737488355328 := by rw [hEL, List.length_append] at hl; rw [List.length_append]; omega
  have HU := Lib.hid (count_any' h (n := xs.length) (by omega) (by omega))
  have HC := Lib.hid (And.intro hC (And.intro hR (And.intro hl2 (And.intro hEL (And.intro hmx0 hB)))))
  clear h hC hR hl hmx0 hEL hl2 hB
  go_enter Try.func13, Try.ntmps13
  go_wp2_with (go_at_call 40; refine HU.out.mono ?_; rintro e w1 ⟨rfl, H1⟩)
  go_loopg [12] (xs.length + 1) (fun kq v8 w' => ∃ k : Nat, v8 = .int .i64 k ∧ Hid (kq + k = xs.length + 1 ∧ k ≤ xs.length ∧ WR w' w0.heap.size 86 q (l ++ encU xs.length ++ enL membersE (xs.take k)) ∧ WB w0.heap.size q w w'))
  case atStart => exact ⟨0, rfl, ⟨rfl, Nat.zero_le _, by rw [show enL membersE (xs.take 0) = [] from rfl, List.append_nil]; exact H1.out.1, H1.out.2⟩⟩
  case round =>
    obtain ⟨k, rfl, HI⟩ := hrel
    by_cases hk : k < xs.length
    · obtain ⟨ad, hA, x0, x1, x2, x3, x4⟩ := at_T68 (Kd.C_below HC.out.1 (HC.out.2.2.2.2.2.trans HI.out.2.2.2.bl)) (k : Int) (by omega) (by omega)
      rw [Int.toNat_natCast] at x0 x1 x2 x3 x4
      obtain ⟨x, hx⟩ : ∃ x, rd_T68 xs (k : Int) = x := ⟨_, rfl⟩
      rw [hx] at x0 x1 x2 x3 x4
      obtain ⟨hx1, hm⟩ := getD_some (z := z68) (x := x) hk (by rw [← hx]; unfold rd_T68; rw [Int.toNat_natCast])
      subst hA
      obtain ⟨p1, q1⟩ := idx_in hk
      have HW := Lib.hid (idx_next hk HC.out.2.2.2.2.1)
      have HX := Lib.hid (And.intro hx1 (And.intro hk (HC.out.2.1 x hm)))
      obtain ⟨L, hL⟩ : ∃ L, l ++ encU xs.length ++ enL membersE (xs.take k) = L := ⟨_, rfl⟩
      have hwr := HI.out.2.2.1
      rw [hL] at hwr
      have HS := Lib.hid (ES.start hwr #[.int .i64 x.f0, .string x.f1, .int .i64 x.f2, .int .i64 x.f3, .bool x.f4] 68 (by decide))
      have hb : L.length + (membersE x).length + 20 ≤ 140737488355328 := by
        have h1 := enL_le membersE hx1
        have h2 := HC.out.2.2.1
        rw [← hL, List.length_append]
        omega
      simp only [membersE, List.length_append] at hb
      have B1 := Lib.hid (show (L).length + (enL encI [x.f0, x.f2, x.f3]).length + 20 ≤ 140737488355328 by (try simp only [enL, List.map_cons, List.map_nil, List.flatten_cons, List.flatten_nil, List.length_append, List.length_nil]); omega)
      have B2 := Lib.hid (show (L ++ enL encI [x.f0, x.f2, x.f3]).length + (encT (lst x.f1)).length + 20 ≤ 140737488355328 by (try simp only [enL, List.map_cons, List.map_nil, List.flatten_cons, List.flatten_nil, List.length_append, List.length_nil]); omega)
      have B3 := Lib.hid (show (L ++ enL encI [x.f0, x.f2, x.f3] ++ encT (lst x.f1)).length + 20 ≤ 140737488355328 by (try simp only [enL, List.map_cons, List.map_nil, List.flatten_cons, List.flatten_nil, List.length_append, List.length_nil]); omega)
      have HE := Lib.hid (show L ++ enL encI [x.f0, x.f2, x.f3] ++ encT (lst x.f1) ++ encB x.f4 = l ++ encU xs.length ++ enL membersE (xs.take (k + 1)) by rw [enL_step membersE hx1, ← hL]; simp only [membersE, enL, List.map_cons, List.map_nil, List.flatten_cons, List.flatten_nil, List.append_assoc, List.append_nil])
      clear hx1 hm hk hx hb hwr hL
      go_wp2_with (go_at_call 12; refine (ES.ints HS.out (by simp) [x.f0, x.f2, x.f3] (i64_cons HX.out.2.2.1 (i64_cons HX.out.2.2.2.1 (i64_cons HX.out.2.2.2.2 i64_nil))) (by simp) B1.out).mono ?_; rintro e w2 ⟨rfl, S1⟩; have a1_1 : w2.cell? ⟨wr.heap.size, 1, none⟩ = some (.string x.f1) := S1.out.cell 1)
      go_still_tail 5, (by kernel_rfl)
      show wpList _ _ _ _ _ (World.drew _)
      go_wp2_with (go_at_call 41; refine (ES.text S1.out B2.out).mono ?_; rintro e w3 ⟨rfl, S2⟩; have a2_4 : w3.cell? ⟨wr.heap.size, 4, none⟩ = some (.bool x.f4) := S2.out.cell 4)
      go_still_tail 5, (by kernel_rfl)
      show wpList _ _ _ _ _ (World.drew _)
      go_wp2_with (go_at_call 42; refine (ES.bool S2.out B3.out).mono ?_; rintro e w4 ⟨rfl, S3⟩)
      go_roundg (xs.length - k)
      case measure => have := HI.out.1; have := HX.out.2.1; omega
      case rel =>
        exact ⟨k + 1, by rw [HW.out], ⟨by have := HI.out.1; have := HX.out.2.1; omega, HX.out.2.1, HE.out ▸ S3.out.wr, HI.out.2.2.2.trans S3.out.wb⟩⟩
    · have q1 := idx_out hk
      have HK := Lib.hid hk
      clear hk
      go_wp2_with (fail)
      go_end0
      refine ⟨rfl, ⟨?_, HI.out.2.2.2⟩⟩
      have h1 := HI.out.2.2.1
      rw [enL_all membersE (Nat.le_of_not_lt HK.out), List.append_assoc, ← HC.out.2.2.2.1] at h1
      exact h1
set_option maxRecDepth 100000 in
set_option maxHeartbeats 1000000 in
theorem wassets_any {w0 w : World} {q c : Nat} {A : Option Addr} {xs : List S57} {l : Bs} (h : WR w w0.heap.size 86 q l) (hB : Below w0.heap.size w0 w) (hC : k57.C w0 A xs.length xs) (hR : ∀ x ∈ xs, assetsO x) (hl : l.length + (encL assetsE xs).length + 20 ≤ 140737488355328) :
    Calls Try.prog 14 #[.pointer (some ⟨q, 0, none⟩), .slice A xs.length c] w fun o w' => o = .returned (.tuple #[]) ∧ Hid (WR w' w0.heap.size 86 q (l ++ encL assetsE xs) ∧ WB w0.heap.size q w w') := by
  have hmx0 := Kd.C_max hC
  have hEL : encL assetsE xs = encU xs.length ++ enL assetsE xs := rfl
  have hl2 : (l ++ encU xs.length).length + (enL assetsE xs).length + 20 ≤ 140737488355328 := by rw [hEL, List.length_append] at hl; rw [List.length_append]; omega
  have HU := Lib.hid (count_any' h (n := xs.length) (by omega) (by omega))
  have HC := Lib.hid (And.intro hC (And.intro hR (And.intro hl2 (And.intro hEL (And.intro hmx0 hB)))))
  clear h hC hR hl hmx0 hEL hl2 hB
  go_enter Try.func14, Try.ntmps14
  go_wp2_with (go_at_call 40; refine HU.out.mono ?_; rintro e w1 ⟨rfl, H1⟩)
  go_loopg [12] (xs.length + 1) (fun kq v8 w' => ∃ k : Nat, v8 = .int .i64 k ∧ Hid (kq + k = xs.length + 1 ∧ k ≤ xs.length ∧ WR w' w0.heap.size 86 q (l ++ encU xs.length ++ enL assetsE (xs.take k)) ∧ WB w0.heap.size q w w'))
  case atStart => exact ⟨0, rfl, ⟨rfl, Nat.zero_le _, by rw [show enL assetsE (xs.take 0) = [] from rfl, List.append_nil]; exact H1.out.1, H1.out.2⟩⟩
  case round =>
    obtain ⟨k, rfl, HI⟩ := hrel
    by_cases hk : k < xs.length
    · obtain ⟨ad, hA, x0, x1, x2, x3, x4⟩ := at_T57 (Kd.C_below HC.out.1 (HC.out.2.2.2.2.2.trans HI.out.2.2.2.bl)) (k : Int) (by omega) (by omega)
      rw [Int.toNat_natCast] at x0 x1 x2 x3 x4
      obtain ⟨x, hx⟩ : ∃ x, rd_T57 xs (k : Int) = x := ⟨_, rfl⟩
      rw [hx] at x0 x1 x2 x3 x4
      obtain ⟨hx1, hm⟩ := getD_some (z := z57) (x := x) hk (by rw [← hx]; unfold rd_T57; rw [Int.toNat_natCast])
      subst hA
      obtain ⟨p1, q1⟩ := idx_in hk
      have HW := Lib.hid (idx_next hk HC.out.2.2.2.2.1)
      have HX := Lib.hid (And.intro hx1 (And.intro hk (HC.out.2.1 x hm)))
      obtain ⟨L, hL⟩ : ∃ L, l ++ encU xs.length ++ enL assetsE (xs.take k) = L := ⟨_, rfl⟩
      have hwr := HI.out.2.2.1
      rw [hL] at hwr
      have HS := Lib.hid (ES.start hwr #[.string x.f0, .int .i64 x.f1, .int .i64 x.f2, .int .i64 x.f3, .string x.f4] 57 (by decide))
      have hb : L.length + (assetsE x).length + 20 ≤ 140737488355328 := by
        have h1 := enL_le assetsE hx1
        have h2 := HC.out.2.2.1
        rw [← hL, List.length_append]
        omega
      simp only [assetsE, List.length_append] at hb
      have B1 := Lib.hid (show (L).length + (encT (lst x.f0)).length + 20 ≤ 140737488355328 by (try simp only [enL, List.map_cons, List.map_nil, List.flatten_cons, List.flatten_nil, List.length_append, List.length_nil]); omega)
      have B2 := Lib.hid (show (L ++ encT (lst x.f0)).length + (enL encI [x.f1, x.f2, x.f3]).length + 20 ≤ 140737488355328 by (try simp only [enL, List.map_cons, List.map_nil, List.flatten_cons, List.flatten_nil, List.length_append, List.length_nil]); omega)
      have B3 := Lib.hid (show (L ++ encT (lst x.f0) ++ enL encI [x.f1, x.f2, x.f3]).length + (encT (lst x.f4)).length + 20 ≤ 140737488355328 by (try simp only [enL, List.map_cons, List.map_nil, List.flatten_cons, List.flatten_nil, List.length_append, List.length_nil]); omega)
      have HE := Lib.hid (show L ++ encT (lst x.f0) ++ enL encI [x.f1, x.f2, x.f3] ++ encT (lst x.f4) = l ++ encU xs.length ++ enL assetsE (xs.take (k + 1)) by rw [enL_step assetsE hx1, ← hL]; simp only [assetsE, enL, List.map_cons, List.map_nil, List.flatten_cons, List.flatten_nil, List.append_assoc, List.append_nil])
      have a0_0 : (wr.alloc (.cells #[.string x.f0, .int .i64 x.f1, .int .i64 x.f2, .int .i64 x.f3, .string x.f4] 57)).cell? ⟨wr.heap.size, 0, none⟩ = some (.string x.f0) := HS.out.cell 0
      clear hx1 hm hk hx hb hwr hL
      go_wp2_with (fail)
      generalize wr.alloc (.cells #[.string x.f0, .int .i64 x.f1, .int .i64 x.f2, .int .i64 x.f3, .string x.f4] 57) = W0 at HS a0_0 ⊢
      go_still_tail 5, (by kernel_rfl)
      show wpList _ _ _ _ _ (World.drew _)
      go_wp2_with (go_at_call 41; refine (ES.text HS.out B1.out).mono ?_; rintro e w2 ⟨rfl, S1⟩; have a1_1 : w2.cell? ⟨wr.heap.size, 1, none⟩ = some (.int .i64 x.f1) := S1.out.cell 1; have a1_2 : w2.cell? ⟨wr.heap.size, 2, none⟩ = some (.int .i64 x.f2) := S1.out.cell 2; have a1_3 : w2.cell? ⟨wr.heap.size, 3, none⟩ = some (.int .i64 x.f3) := S1.out.cell 3)
      go_wp2_with (go_at_call 12; refine (ES.ints S1.out rfl [x.f1, x.f2, x.f3] (i64_cons HX.out.2.2.1 (i64_cons HX.out.2.2.2.1 (i64_cons HX.out.2.2.2.2 i64_nil))) (by simp) B2.out).mono ?_; rintro e w3 ⟨rfl, S2⟩; have a2_4 : w3.cell? ⟨wr.heap.size, 4, none⟩ = some (.string x.f4) := S2.out.cell 4)
      go_still_tail 5, (by kernel_rfl)
      show wpList _ _ _ _ _ (World.drew _)
      go_wp2_with (go_at_call 41; refine (ES.text S2.out B3.out).mono ?_; rintro e w4 ⟨rfl, S3⟩)
      go_roundg (xs.length - k)
      case measure => have := HI.out.1; have := HX.out.2.1; omega
      case rel =>
        exact ⟨k + 1, by rw [HW.out], ⟨by have := HI.out.1; have := HX.out.2.1; omega, HX.out.2.1, HE.out ▸ S3.out.wr, HI.out.2.2.2.trans S3.out.wb⟩⟩
    · have q1 := idx_out hk
      have HK := Lib.hid hk
      clear hk
      go_wp2_with (fail)
      go_end0
      refine ⟨rfl, ⟨?_, HI.out.2.2.2⟩⟩
      have h1 := HI.out.2.2.1
      rw [enL_all assetsE (Nat.le_of_not_lt HK.out), List.append_assoc, ← HC.out.2.2.2.1] at h1
      exact h1
set_option maxRecDepth 100000 in
set_option maxHeartbeats 1000000 in
theorem wprices_any {w0 w : World} {q c : Nat} {A : Option Addr} {xs : List S70} {l : Bs} (h : WR w w0.heap.size 86 q l) (hB : Below w0.heap.size w0 w) (hC : k70.C w0 A xs.length xs) (hR : ∀ x ∈ xs, pricesO x) (hl : l.length + (encL pricesE xs).length + 20 ≤ 140737488355328) :
    Calls Try.prog 15 #[.pointer (some ⟨q, 0, none⟩), .slice A xs.length c] w fun o w' => o = .returned (.tuple #[]) ∧ Hid (WR w' w0.heap.size 86 q (l ++ encL pricesE xs) ∧ WB w0.heap.size q w w') := by
  have hmx0 := Kd.C_max hC
  have hEL : encL pricesE xs = encU xs.length ++ enL pricesE xs := rfl
  have hl2 : (l ++ encU xs.length).length + (enL pricesE xs).length + 20 ≤ 140737488355328 := by rw [hEL, List.length_append] at hl; rw [List.length_append]; omega
  have HU := Lib.hid (count_any' h (n := xs.length) (by omega) (by omega))
  have HC := Lib.hid (And.intro hC (And.intro hR (And.intro hl2 (And.intro hEL (And.intro hmx0 hB)))))
  clear h hC hR hl hmx0 hEL hl2 hB
  go_enter Try.func15, Try.ntmps15
  go_wp2_with (go_at_call 40; refine HU.out.mono ?_; rintro e w1 ⟨rfl, H1⟩)
  go_loopg [12] (xs.length + 1) (fun kq v8 w' => ∃ k : Nat, v8 = .int .i64 k ∧ Hid (kq + k = xs.length + 1 ∧ k ≤ xs.length ∧ WR w' w0.heap.size 86 q (l ++ encU xs.length ++ enL pricesE (xs.take k)) ∧ WB w0.heap.size q w w'))
  case atStart => exact ⟨0, rfl, ⟨rfl, Nat.zero_le _, by rw [show enL pricesE (xs.take 0) = [] from rfl, List.append_nil]; exact H1.out.1, H1.out.2⟩⟩
  case round =>
    obtain ⟨k, rfl, HI⟩ := hrel
    by_cases hk : k < xs.length
    · obtain ⟨ad, hA, x0, x1⟩ := at_T70 (Kd.C_below HC.out.1 (HC.out.2.2.2.2.2.trans HI.out.2.2.2.bl)) (k : Int) (by omega) (by omega)
      rw [Int.toNat_natCast] at x0 x1
      obtain ⟨x, hx⟩ : ∃ x, rd_T70 xs (k : Int) = x := ⟨_, rfl⟩
      rw [hx] at x0 x1
      obtain ⟨hx1, hm⟩ := getD_some (z := z70) (x := x) hk (by rw [← hx]; unfold rd_T70; rw [Int.toNat_natCast])
      subst hA
      obtain ⟨p1, q1⟩ := idx_in hk
      have HW := Lib.hid (idx_next hk HC.out.2.2.2.2.1)
      have HX := Lib.hid (And.intro hx1 (And.intro hk (HC.out.2.1 x hm)))
      obtain ⟨L, hL⟩ : ∃ L, l ++ encU xs.length ++ enL pricesE (xs.take k) = L := ⟨_, rfl⟩
      have hwr := HI.out.2.2.1
      rw [hL] at hwr
      have HS := Lib.hid (ES.start hwr #[.string x.f0, .int .i64 x.f1] 70 (by decide))
      have hb : L.length + (pricesE x).length + 20 ≤ 140737488355328 := by
        have h1 := enL_le pricesE hx1
        have h2 := HC.out.2.2.1
        rw [← hL, List.length_append]
        omega
      simp only [pricesE, List.length_append] at hb
      have B1 := Lib.hid (show (L).length + (encT (lst x.f0)).length + 20 ≤ 140737488355328 by (try simp only [enL, List.map_cons, List.map_nil, List.flatten_cons, List.flatten_nil, List.length_append, List.length_nil]); omega)
      have B2 := Lib.hid (show (L ++ encT (lst x.f0)).length + 20 ≤ 140737488355328 by (try simp only [enL, List.map_cons, List.map_nil, List.flatten_cons, List.flatten_nil, List.length_append, List.length_nil]); omega)
      have HE := Lib.hid (show L ++ encT (lst x.f0) ++ encI x.f1 = l ++ encU xs.length ++ enL pricesE (xs.take (k + 1)) by rw [enL_step pricesE hx1, ← hL]; simp only [pricesE, enL, List.map_cons, List.map_nil, List.flatten_cons, List.flatten_nil, List.append_assoc, List.append_nil])
      have a0_0 : (wr.alloc (.cells #[.string x.f0, .int .i64 x.f1] 70)).cell? ⟨wr.heap.size, 0, none⟩ = some (.string x.f0) := HS.out.cell 0
      clear hx1 hm hk hx hb hwr hL
      go_wp2_with (fail)
      generalize wr.alloc (.cells #[.string x.f0, .int .i64 x.f1] 70) = W0 at HS a0_0 ⊢
      go_still_tail 5, (by kernel_rfl)
      show wpList _ _ _ _ _ (World.drew _)
      go_wp2_with (go_at_call 41; refine (ES.text HS.out B1.out).mono ?_; rintro e w2 ⟨rfl, S1⟩; have a1_1 : w2.cell? ⟨wr.heap.size, 1, none⟩ = some (.int .i64 x.f1) := S1.out.cell 1)
      go_still_tail 5, (by kernel_rfl)
      show wpList _ _ _ _ _ (World.drew _)
      go_wp2_with (go_at_call 39; refine (ES.int S1.out HX.out.2.2 B2.out).mono ?_; rintro e w3 ⟨rfl, S2⟩)
      go_roundg (xs.length - k)
      case measure => have := HI.out.1; have := HX.out.2.1; omega
      case rel =>
        exact ⟨k + 1, by rw [HW.out], ⟨by have := HI.out.1; have := HX.out.2.1; omega, HX.out.2.1, HE.out ▸ S2.out.wr, HI.out.2.2.2.trans S2.out.wb⟩⟩
    · have q1 := idx_out hk
      have HK := Lib.hid hk
      clear hk
      go_wp2_with (fail)
      go_end0
      refine ⟨rfl, ⟨?_, HI.out.2.2.2⟩⟩
      have h1 := HI.out.2.2.1
      rw [enL_all pricesE (Nat.le_of_not_lt HK.out), List.append_assoc, ← HC.out.2.2.2.1] at h1
      exact h1
end Go.Proofs.Ythpgjeiglhdciaa.SN

/- The encoder: balances, quotes, links. (printed by gen_enc.py) -/
namespace Go.Proofs.Ythpgjeiglhdciaa.SN
open Go Go.RowKit Go.Proofs Go.Proofs.Ythpgjeiglhdciaa.PL Go.Proofs.YthpgjeiglhdciaaW.PrintWords Go.Proofs.YthpgjeiglhdciaaW.PrintLast Go.Proofs.YthpgjeiglhdciaaW.PrintMore
set_option maxRecDepth 100000 in
set_option maxHeartbeats 1000000 in
theorem wbalances_any {w0 w : World} {q c : Nat} {A : Option Addr} {xs : List S73} {l : Bs} (h : WR w w0.heap.size 86 q l) (hB : Below w0.heap.size w0 w) (hC : k73.C w0 A xs.length xs) (hR : ∀ x ∈ xs, balancesO x) (hl : l.length + (encL balancesE xs).length + 20 ≤ 140737488355328) :
    Calls Try.prog 17 #[.pointer (some ⟨q, 0, none⟩), .slice A xs.length c] w fun o w' => o = .returned (.tuple #[]) ∧ Hid (WR w' w0.heap.size 86 q (l ++ encL balancesE xs) ∧ WB w0.heap.size q w w') := by
  have hmx0 := Kd.C_max hC
  have hEL : encL balancesE xs = encU xs.length ++ enL balancesE xs := rfl
  have hl2 : (l ++ encU xs.length).length + (enL balancesE xs).length + 20 ≤ 140737488355328 := by rw [hEL, List.length_append] at hl; rw [List.length_append]; omega
  have HU := Lib.hid (count_any' h (n := xs.length) (by omega) (by omega))
  have HC := Lib.hid (And.intro hC (And.intro hR (And.intro hl2 (And.intro hEL (And.intro hmx0 hB)))))
  clear h hC hR hl hmx0 hEL hl2 hB
  go_enter Try.func17, Try.ntmps17
  go_wp2_with (go_at_call 40; refine HU.out.mono ?_; rintro e w1 ⟨rfl, H1⟩)
  go_loopg [12] (xs.length + 1) (fun kq v8 w' => ∃ k : Nat, v8 = .int .i64 k ∧ Hid (kq + k = xs.length + 1 ∧ k ≤ xs.length ∧ WR w' w0.heap.size 86 q (l ++ encU xs.length ++ enL balancesE (xs.take k)) ∧ WB w0.heap.size q w w'))
  case atStart => exact ⟨0, rfl, ⟨rfl, Nat.zero_le _, by rw [show enL balancesE (xs.take 0) = [] from rfl, List.append_nil]; exact H1.out.1, H1.out.2⟩⟩
  case round =>
    obtain ⟨k, rfl, HI⟩ := hrel
    by_cases hk : k < xs.length
    · obtain ⟨ad, hA, x0, x1, x2, x3⟩ := at_T73 (Kd.C_below HC.out.1 (HC.out.2.2.2.2.2.trans HI.out.2.2.2.bl)) (k : Int) (by omega) (by omega)
      rw [Int.toNat_natCast] at x0 x1 x2 x3
      obtain ⟨x, hx⟩ : ∃ x, rd_T73 xs (k : Int) = x := ⟨_, rfl⟩
      rw [hx] at x0 x1 x2 x3
      obtain ⟨hx1, hm⟩ := getD_some (z := z73) (x := x) hk (by rw [← hx]; unfold rd_T73; rw [Int.toNat_natCast])
      subst hA
      obtain ⟨p1, q1⟩ := idx_in hk
      have HW := Lib.hid (idx_next hk HC.out.2.2.2.2.1)
      have HX := Lib.hid (And.intro hx1 (And.intro hk (HC.out.2.1 x hm)))
      obtain ⟨L, hL⟩ : ∃ L, l ++ encU xs.length ++ enL balancesE (xs.take k) = L := ⟨_, rfl⟩
      have hwr := HI.out.2.2.1
      rw [hL] at hwr
      have HS := Lib.hid (ES.start hwr #[.int .i64 x.f0.f0, .int .i64 x.f0.f1, .string x.f0.f2, .int .i64 x.f1] 73 (by decide))
      have hb : L.length + (balancesE x).length + 20 ≤ 140737488355328 := by
        have h1 := enL_le balancesE hx1
        have h2 := HC.out.2.2.1
        rw [← hL, List.length_append]
        omega
      simp only [balancesE, List.length_append] at hb
      have B1 := Lib.hid (show (L).length + (enL encI [x.f0.f0, x.f0.f1]).length + 20 ≤ 140737488355328 by (try simp only [enL, List.map_cons, List.map_nil, List.flatten_cons, List.flatten_nil, List.length_append, List.length_nil]); omega)
      have B2 := Lib.hid (show (L ++ enL encI [x.f0.f0, x.f0.f1]).length + (encT (lst x.f0.f2)).length + 20 ≤ 140737488355328 by (try simp only [enL, List.map_cons, List.map_nil, List.flatten_cons, List.flatten_nil, List.length_append, List.length_nil]); omega)
      have B3 := Lib.hid (show (L ++ enL encI [x.f0.f0, x.f0.f1] ++ encT (lst x.f0.f2)).length + 20 ≤ 140737488355328 by (try simp only [enL, List.map_cons, List.map_nil, List.flatten_cons, List.flatten_nil, List.length_append, List.length_nil]); omega)
      have HE := Lib.hid (show L ++ enL encI [x.f0.f0, x.f0.f1] ++ encT (lst x.f0.f2) ++ encI x.f1 = l ++ encU xs.length ++ enL balancesE (xs.take (k + 1)) by rw [enL_step balancesE hx1, ← hL]; simp only [balancesE, enL, List.map_cons, List.map_nil, List.flatten_cons, List.flatten_nil, List.append_assoc, List.append_nil])
      clear hx1 hm hk hx hb hwr hL
      go_wp2_with (go_at_call 12; refine (ES.ints HS.out (by simp) [x.f0.f0, x.f0.f1] (i64_cons HX.out.2.2.1 (i64_cons HX.out.2.2.2.1 i64_nil)) (by simp) B1.out).mono ?_; rintro e w2 ⟨rfl, S1⟩; have a1_2 : w2.cell? ⟨wr.heap.size, 2, none⟩ = some (.string x.f0.f2) := S1.out.cell 2)
      go_still_tail 6, (by kernel_rfl)
      show wpList _ _ _ _ _ (World.drew _)
      go_wp2_with (go_at_call 41; refine (ES.text S1.out B2.out).mono ?_; rintro e w3 ⟨rfl, S2⟩; have a2_3 : w3.cell? ⟨wr.heap.size, 3, none⟩ = some (.int .i64 x.f1) := S2.out.cell 3)
      go_still_tail 5, (by kernel_rfl)
      show wpList _ _ _ _ _ (World.drew _)
      go_wp2_with (go_at_call 39; refine (ES.int S2.out HX.out.2.2.2.2 B3.out).mono ?_; rintro e w4 ⟨rfl, S3⟩)
      go_roundg (xs.length - k)
      case measure => have := HI.out.1; have := HX.out.2.1; omega
      case rel =>
        exact ⟨k + 1, by rw [HW.out], ⟨by have := HI.out.1; have := HX.out.2.1; omega, HX.out.2.1, HE.out ▸ S3.out.wr, HI.out.2.2.2.trans S3.out.wb⟩⟩
    · have q1 := idx_out hk
      have HK := Lib.hid hk
      clear hk
      go_wp2_with (fail)
      go_end0
      refine ⟨rfl, ⟨?_, HI.out.2.2.2⟩⟩
      have h1 := HI.out.2.2.1
      rw [enL_all balancesE (Nat.le_of_not_lt HK.out), List.append_assoc, ← HC.out.2.2.2.1] at h1
      exact h1
set_option maxRecDepth 100000 in
set_option maxHeartbeats 1000000 in
theorem wquotes_any {w0 w : World} {q c : Nat} {A : Option Addr} {xs : List S127} {l : Bs} (h : WR w w0.heap.size 86 q l) (hB : Below w0.heap.size w0 w) (hC : k127.C w0 A xs.length xs) (hR : ∀ x ∈ xs, quotesO x) (hl : l.length + (encL quotesE xs).length + 20 ≤ 140737488355328) :
    Calls Try.prog 18 #[.pointer (some ⟨q, 0, none⟩), .slice A xs.length c] w fun o w' => o = .returned (.tuple #[]) ∧ Hid (WR w' w0.heap.size 86 q (l ++ encL quotesE xs) ∧ WB w0.heap.size q w w') := by
  have hmx0 := Kd.C_max hC
  have hEL : encL quotesE xs = encU xs.length ++ enL quotesE xs := rfl
  have hl2 : (l ++ encU xs.length).length + (enL quotesE xs).length + 20 ≤ 140737488355328 := by rw [hEL, List.length_append] at hl; rw [List.length_append]; omega
  have HU := Lib.hid (count_any' h (n := xs.length) (by omega) (by omega))
  have HC := Lib.hid (And.intro hC (And.intro hR (And.intro hl2 (And.intro hEL (And.intro hmx0 hB)))))
  clear h hC hR hl hmx0 hEL hl2 hB
  go_enter Try.func18, Try.ntmps18
  go_wp2_with (go_at_call 40; refine HU.out.mono ?_; rintro e w1 ⟨rfl, H1⟩)
  go_loopg [12] (xs.length + 1) (fun kq v8 w' => ∃ k : Nat, v8 = .int .i64 k ∧ Hid (kq + k = xs.length + 1 ∧ k ≤ xs.length ∧ WR w' w0.heap.size 86 q (l ++ encU xs.length ++ enL quotesE (xs.take k)) ∧ WB w0.heap.size q w w'))
  case atStart => exact ⟨0, rfl, ⟨rfl, Nat.zero_le _, by rw [show enL quotesE (xs.take 0) = [] from rfl, List.append_nil]; exact H1.out.1, H1.out.2⟩⟩
  case round =>
    obtain ⟨k, rfl, HI⟩ := hrel
    by_cases hk : k < xs.length
    · obtain ⟨ad, hA, x0, x1, x2, x3, x4, x5, x6, x7⟩ := at_T127 (Kd.C_below HC.out.1 (HC.out.2.2.2.2.2.trans HI.out.2.2.2.bl)) (k : Int) (by omega) (by omega)
      rw [Int.toNat_natCast] at x0 x1 x2 x3 x4 x5 x6 x7
      obtain ⟨x, hx⟩ : ∃ x, rd_T127 xs (k : Int) = x := ⟨_, rfl⟩
      rw [hx] at x0 x1 x2 x3 x4 x5 x6 x7
      obtain ⟨hx1, hm⟩ := getD_some (z := z127) (x := x) hk (by rw [← hx]; unfold rd_T127; rw [Int.toNat_natCast])
      subst hA
      obtain ⟨p1, q1⟩ := idx_in hk
      have HW := Lib.hid (idx_next hk HC.out.2.2.2.2.1)
      have HX := Lib.hid (And.intro hx1 (And.intro hk (HC.out.2.1 x hm)))
      obtain ⟨L, hL⟩ : ∃ L, l ++ encU xs.length ++ enL quotesE (xs.take k) = L := ⟨_, rfl⟩
      have hwr := HI.out.2.2.1
      rw [hL] at hwr
      have HS := Lib.hid (ES.start hwr #[.int .i64 x.f0, .int .i64 x.f1, .int .i64 x.f2, .int .i64 x.f3, .int .i64 x.f4, .int .i64 x.f5, .int .i64 x.f6, .int .i64 x.f7] 127 (by decide))
      have hb : L.length + (quotesE x).length + 20 ≤ 140737488355328 := by
        have h1 := enL_le quotesE hx1
        have h2 := HC.out.2.2.1
        rw [← hL, List.length_append]
        omega
      simp only [quotesE, List.length_append] at hb
      have B1 := Lib.hid (show (L).length + (enL encI [x.f0, x.f1, x.f2, x.f3, x.f4, x.f5, x.f6, x.f7]).length + 20 ≤ 140737488355328 by (try simp only [enL, List.map_cons, List.map_nil, List.flatten_cons, List.flatten_nil, List.length_append, List.length_nil]); omega)
      have HE := Lib.hid (show L ++ enL encI [x.f0, x.f1, x.f2, x.f3, x.f4, x.f5, x.f6, x.f7] = l ++ encU xs.length ++ enL quotesE (xs.take (k + 1)) by rw [enL_step quotesE hx1, ← hL]; simp only [quotesE, enL, List.map_cons, List.map_nil, List.flatten_cons, List.flatten_nil, List.append_assoc, List.append_nil])
      clear hx1 hm hk hx hb hwr hL
      go_wp2_with (go_at_call 12; refine (ES.ints HS.out (by simp) [x.f0, x.f1, x.f2, x.f3, x.f4, x.f5, x.f6, x.f7] (i64_cons HX.out.2.2.1 (i64_cons HX.out.2.2.2.1 (i64_cons HX.out.2.2.2.2.1 (i64_cons HX.out.2.2.2.2.2.1 (i64_cons HX.out.2.2.2.2.2.2.1 (i64_cons HX.out.2.2.2.2.2.2.2.1 (i64_cons HX.out.2.2.2.2.2.2.2.2.1 (i64_cons HX.out.2.2.2.2.2.2.2.2.2 i64_nil)))))))) (by simp) B1.out).mono ?_; rintro e w2 ⟨rfl, S1⟩)
      go_roundg (xs.length - k)
      case measure => have := HI.out.1; have := HX.out.2.1; omega
      case rel =>
        exact ⟨k + 1, by rw [HW.out], ⟨by have := HI.out.1; have := HX.out.2.1; omega, HX.out.2.1, HE.out ▸ S1.out.wr, HI.out.2.2.2.trans S1.out.wb⟩⟩
    · have q1 := idx_out hk
      have HK := Lib.hid hk
      clear hk
      go_wp2_with (fail)
      go_end0
      refine ⟨rfl, ⟨?_, HI.out.2.2.2⟩⟩
      have h1 := HI.out.2.2.1
      rw [enL_all quotesE (Nat.le_of_not_lt HK.out), List.append_assoc, ← HC.out.2.2.2.1] at h1
      exact h1
set_option maxRecDepth 100000 in
set_option maxHeartbeats 1000000 in
theorem wlinks_any {w0 w : World} {q c : Nat} {A : Option Addr} {xs : List S80} {l : Bs} (h : WR w w0.heap.size 86 q l) (hB : Below w0.heap.size w0 w) (hC : k80.C w0 A xs.length xs) (hR : ∀ x ∈ xs, linksO x) (hl : l.length + (encL linksE xs).length + 20 ≤ 140737488355328) :
    Calls Try.prog 21 #[.pointer (some ⟨q, 0, none⟩), .slice A xs.length c] w fun o w' => o = .returned (.tuple #[]) ∧ Hid (WR w' w0.heap.size 86 q (l ++ encL linksE xs) ∧ WB w0.heap.size q w w') := by
  have hmx0 := Kd.C_max hC
  have hEL : encL linksE xs = encU xs.length ++ enL linksE xs := rfl
  have hl2 : (l ++ encU xs.length).length + (enL linksE xs).length + 20 ≤ 140737488355328 := by rw [hEL, List.length_append] at hl; rw [List.length_append]; omega
  have HU := Lib.hid (count_any' h (n := xs.length) (by omega) (by omega))
  have HC := Lib.hid (And.intro hC (And.intro hR (And.intro hl2 (And.intro hEL (And.intro hmx0 hB)))))
  clear h hC hR hl hmx0 hEL hl2 hB
  go_enter Try.func21, Try.ntmps21
  go_wp2_with (go_at_call 40; refine HU.out.mono ?_; rintro e w1 ⟨rfl, H1⟩)
  go_loopg [12] (xs.length + 1) (fun kq v8 w' => ∃ k : Nat, v8 = .int .i64 k ∧ Hid (kq + k = xs.length + 1 ∧ k ≤ xs.length ∧ WR w' w0.heap.size 86 q (l ++ encU xs.length ++ enL linksE (xs.take k)) ∧ WB w0.heap.size q w w'))
  case atStart => exact ⟨0, rfl, ⟨rfl, Nat.zero_le _, by rw [show enL linksE (xs.take 0) = [] from rfl, List.append_nil]; exact H1.out.1, H1.out.2⟩⟩
  case round =>
    obtain ⟨k, rfl, HI⟩ := hrel
    by_cases hk : k < xs.length
    · obtain ⟨ad, hA, x0, x1, x2, x3⟩ := at_T80 (Kd.C_below HC.out.1 (HC.out.2.2.2.2.2.trans HI.out.2.2.2.bl)) (k : Int) (by omega) (by omega)
      rw [Int.toNat_natCast] at x0 x1 x2 x3
      obtain ⟨x, hx⟩ : ∃ x, rd_T80 xs (k : Int) = x := ⟨_, rfl⟩
      rw [hx] at x0 x1 x2 x3
      obtain ⟨hx1, hm⟩ := getD_some (z := z80) (x := x) hk (by rw [← hx]; unfold rd_T80; rw [Int.toNat_natCast])
      subst hA
      obtain ⟨p1, q1⟩ := idx_in hk
      have HW := Lib.hid (idx_next hk HC.out.2.2.2.2.1)
      have HX := Lib.hid (And.intro hx1 (And.intro hk (HC.out.2.1 x hm)))
      obtain ⟨L, hL⟩ : ∃ L, l ++ encU xs.length ++ enL linksE (xs.take k) = L := ⟨_, rfl⟩
      have hwr := HI.out.2.2.1
      rw [hL] at hwr
      have HS := Lib.hid (ES.start hwr #[.int .i64 x.f0, .int .i64 x.f1, .string x.f2, .int .i64 x.f3] 80 (by decide))
      have hb : L.length + (linksE x).length + 20 ≤ 140737488355328 := by
        have h1 := enL_le linksE hx1
        have h2 := HC.out.2.2.1
        rw [← hL, List.length_append]
        omega
      simp only [linksE, List.length_append] at hb
      have B1 := Lib.hid (show (L).length + (enL encI [x.f0, x.f1]).length + 20 ≤ 140737488355328 by (try simp only [enL, List.map_cons, List.map_nil, List.flatten_cons, List.flatten_nil, List.length_append, List.length_nil]); omega)
      have B2 := Lib.hid (show (L ++ enL encI [x.f0, x.f1]).length + (encT (lst x.f2)).length + 20 ≤ 140737488355328 by (try simp only [enL, List.map_cons, List.map_nil, List.flatten_cons, List.flatten_nil, List.length_append, List.length_nil]); omega)
      have B3 := Lib.hid (show (L ++ enL encI [x.f0, x.f1] ++ encT (lst x.f2)).length + 20 ≤ 140737488355328 by (try simp only [enL, List.map_cons, List.map_nil, List.flatten_cons, List.flatten_nil, List.length_append, List.length_nil]); omega)
      have HE := Lib.hid (show L ++ enL encI [x.f0, x.f1] ++ encT (lst x.f2) ++ encI x.f3 = l ++ encU xs.length ++ enL linksE (xs.take (k + 1)) by rw [enL_step linksE hx1, ← hL]; simp only [linksE, enL, List.map_cons, List.map_nil, List.flatten_cons, List.flatten_nil, List.append_assoc, List.append_nil])
      clear hx1 hm hk hx hb hwr hL
      go_wp2_with (go_at_call 12; refine (ES.ints HS.out (by simp) [x.f0, x.f1] (i64_cons HX.out.2.2.1 (i64_cons HX.out.2.2.2.1 i64_nil)) (by simp) B1.out).mono ?_; rintro e w2 ⟨rfl, S1⟩; have a1_2 : w2.cell? ⟨wr.heap.size, 2, none⟩ = some (.string x.f2) := S1.out.cell 2)
      go_still_tail 5, (by kernel_rfl)
      show wpList _ _ _ _ _ (World.drew _)
      go_wp2_with (go_at_call 41; refine (ES.text S1.out B2.out).mono ?_; rintro e w3 ⟨rfl, S2⟩; have a2_3 : w3.cell? ⟨wr.heap.size, 3, none⟩ = some (.int .i64 x.f3) := S2.out.cell 3)
      go_still_tail 5, (by kernel_rfl)
      show wpList _ _ _ _ _ (World.drew _)
      go_wp2_with (go_at_call 39; refine (ES.int S2.out HX.out.2.2.2.2 B3.out).mono ?_; rintro e w4 ⟨rfl, S3⟩)
      go_roundg (xs.length - k)
      case measure => have := HI.out.1; have := HX.out.2.1; omega
      case rel =>
        exact ⟨k + 1, by rw [HW.out], ⟨by have := HI.out.1; have := HX.out.2.1; omega, HX.out.2.1, HE.out ▸ S3.out.wr, HI.out.2.2.2.trans S3.out.wb⟩⟩
    · have q1 := idx_out hk
      have HK := Lib.hid hk
      clear hk
      go_wp2_with (fail)
      go_end0
      refine ⟨rfl, ⟨?_, HI.out.2.2.2⟩⟩
      have h1 := HI.out.2.2.1
      rw [enL_all linksE (Nat.le_of_not_lt HK.out), List.append_assoc, ← HC.out.2.2.2.1] at h1
      exact h1
end Go.Proofs.Ythpgjeiglhdciaa.SN

/- The encoder: trades. (printed by gen_enc_nest.py) -/
namespace Go.Proofs.Ythpgjeiglhdciaa.SN
open Go Go.RowKit Go.Proofs Go.Proofs.Ythpgjeiglhdciaa.PL Go.Proofs.YthpgjeiglhdciaaW.PrintWords Go.Proofs.YthpgjeiglhdciaaW.PrintLast Go.Proofs.YthpgjeiglhdciaaW.PrintMore
theorem encL_len {α : Type} (e : α → Bs) (xs : List α) : (encL e xs).length = (encU xs.length).length + (enL e xs).length := by
  unfold encL enL
  rw [List.length_append]
theorem cell_up {w0 W : World} (hB : Below w0.heap.size w0 W) {p : Addr} {v : Value} (h : w0.cell? p = some v) : W.cell? p = some v := (hB.cell (World.block_lt_of_cell? w0 _ h)).trans h
set_option maxRecDepth 100000 in
set_option maxHeartbeats 2000000 in
theorem wtrades_any {w0 w : World} {q c : Nat} {A : Option Addr} {xs : List S117} {l : Bs} (h : WR w w0.heap.size 86 q l) (hB : Below w0.heap.size w0 w) (hC : k117.C w0 A xs.length xs) (hR : ∀ x ∈ xs, tradesO x) (hl : l.length + (encL tradesE xs).length + 20 ≤ 140737488355328) :
    Calls Try.prog 19 #[.pointer (some ⟨q, 0, none⟩), .slice A xs.length c] w fun o w' => o = .returned (.tuple #[]) ∧ Hid (WR w' w0.heap.size 86 q (l ++ encL tradesE xs) ∧ WB w0.heap.size q w w') := by
  have hmx0 := Kd.C_max hC
  have hEL : encL tradesE xs = encU xs.length ++ enL tradesE xs := rfl
  have hl2 : (l ++ encU xs.length).length + (enL tradesE xs).length + 20 ≤ 140737488355328 := by rw [hEL, List.length_append] at hl; rw [List.length_append]; omega
  have HU := Lib.hid (count_any' h (n := xs.length) (by omega) (by omega))
  have HC := Lib.hid (And.intro hC (And.intro hR (And.intro hl2 (And.intro hEL (And.intro hmx0 hB)))))
  clear h hC hR hl hmx0 hEL hl2 hB
  go_enter Try.func19, Try.ntmps19
  go_wp2_with (go_at_call 40; refine HU.out.mono ?_; rintro e w1 ⟨rfl, H1⟩)
  go_loopg [14] (xs.length + 1) (fun kq v8 w' => ∃ k : Nat, v8 = .int .i64 k ∧ Hid (kq + k = xs.length + 1 ∧ k ≤ xs.length ∧ WR w' w0.heap.size 86 q (l ++ encU xs.length ++ enL tradesE (xs.take k)) ∧ WB w0.heap.size q w w'))
  case atStart => exact ⟨0, rfl, ⟨rfl, Nat.zero_le _, by rw [show enL tradesE (xs.take 0) = [] from rfl, List.append_nil]; exact H1.out.1, H1.out.2⟩⟩
  case round =>
    rename World => ws
    rename Nat => gs
    obtain ⟨k, rfl, HI⟩ := hrel
    by_cases hk : k < xs.length
    · obtain ⟨ad, A8, c8, hA, x0, x1, x2, x3, x4, x5, x6, x7, x8, x9, x10, l8, g8⟩ := at_T117 HC.out.1 (k : Int) (by omega) (by omega)
      rw [Int.toNat_natCast] at x0 x1 x2 x3 x4 x5 x6 x7 x8 x9 x10
      obtain ⟨x, hx⟩ : ∃ x, rd_T117 xs (k : Int) = x := ⟨_, rfl⟩
      rw [hx] at x0 x1 x2 x3 x4 x5 x6 x7 x8 x9 x10 l8 g8
      obtain ⟨hx1, hm⟩ := getD_some (z := z117) (x := x) hk (by rw [← hx]; unfold rd_T117; rw [Int.toNat_natCast])
      subst hA
      have HBW := Lib.hid (HC.out.2.2.2.2.2.trans HI.out.2.2.2.bl)
      replace x0 := cell_up HBW.out x0
      replace x1 := cell_up HBW.out x1
      replace x2 := cell_up HBW.out x2
      replace x3 := cell_up HBW.out x3
      replace x4 := cell_up HBW.out x4
      replace x5 := cell_up HBW.out x5
      replace x6 := cell_up HBW.out x6
      replace x7 := cell_up HBW.out x7
      replace x8 := cell_up HBW.out x8
      replace x9 := cell_up HBW.out x9
      replace x10 := cell_up HBW.out x10
      obtain ⟨p1, q1⟩ := idx_in hk
      have HW := Lib.hid (idx_next hk HC.out.2.2.2.2.1)
      have HX := Lib.hid (And.intro hx1 (And.intro hk (HC.out.2.1 x hm)))
      obtain ⟨L, hL⟩ : ∃ L, l ++ encU xs.length ++ enL tradesE (xs.take k) = L := ⟨_, rfl⟩
      have hwr := HI.out.2.2.1
      rw [hL] at hwr
      have HS := Lib.hid (ES.start hwr #[.int .i64 x.f0, .int .i64 x.f1, .int .i64 x.f2, .int .i64 x.f3, .int .i64 x.f4, .int .i64 x.f5, .int .i64 x.f6, .int .i64 x.f7, .slice A8 x.f8.length c8, .int .i64 x.f9, .bool x.f10] 117 (by decide))
      have hb : L.length + (tradesE x).length + 20 ≤ 140737488355328 := by
        have h1 := enL_le tradesE hx1
        have h2 := HC.out.2.2.1
        rw [← hL, List.length_append]
        omega
      simp only [tradesE, encL_len, List.length_append] at hb
      have HGL := Lib.hid (And.intro g8 (And.intro l8 (show x.f8.length ≤ 9223372036854775807 from Kd.C_max g8)))
      have B1 := Lib.hid (show (L).length + (enL encI [x.f0, x.f1, x.f2, x.f3, x.f4, x.f5, x.f6, x.f7, x.f9]).length + 20 ≤ 140737488355328 by (try simp only [enL, List.map_cons, List.map_nil, List.flatten_cons, List.flatten_nil, List.length_append, List.length_nil]); omega)
      have B2 := Lib.hid (show (L ++ enL encI [x.f0, x.f1, x.f2, x.f3, x.f4, x.f5, x.f6, x.f7, x.f9]).length + 20 ≤ 140737488355328 by (try simp only [enL, List.map_cons, List.map_nil, List.flatten_cons, List.flatten_nil, List.length_append, List.length_nil]); omega)
      have BC := Lib.hid (show (L ++ enL encI [x.f0, x.f1, x.f2, x.f3, x.f4, x.f5, x.f6, x.f7, x.f9] ++ encB x.f10).length + 20 ≤ 140737488355328 by (try simp only [enL, List.map_cons, List.map_nil, List.flatten_cons, List.flatten_nil, List.length_append, List.length_nil]); omega)
      have BI := Lib.hid (show (L ++ enL encI [x.f0, x.f1, x.f2, x.f3, x.f4, x.f5, x.f6, x.f7, x.f9] ++ encB x.f10 ++ encU x.f8.length).length + (enL resetE x.f8).length + 20 ≤ 140737488355328 by simp only [enL, List.map_cons, List.map_nil, List.flatten_cons, List.flatten_nil, List.length_append, List.length_nil] at hb ⊢; omega)
      have HE := Lib.hid (show L ++ enL encI [x.f0, x.f1, x.f2, x.f3, x.f4, x.f5, x.f6, x.f7, x.f9] ++ encB x.f10 ++ encU x.f8.length ++ enL resetE x.f8 = l ++ encU xs.length ++ enL tradesE (xs.take (k + 1)) by rw [enL_step tradesE hx1, ← hL]; simp only [tradesE, encL, enL, List.map_cons, List.map_nil, List.flatten_cons, List.flatten_nil, List.append_assoc, List.append_nil])
      clear hx1 hm hk hx hb hwr hL l8 g8
      go_wp2_with (go_at_call 12; refine (ES.ints HS.out (by simp) [x.f0, x.f1, x.f2, x.f3, x.f4, x.f5, x.f6, x.f7, x.f9] (i64_cons HX.out.2.2.1.1 (i64_cons HX.out.2.2.1.2.1 (i64_cons HX.out.2.2.1.2.2.1 (i64_cons HX.out.2.2.1.2.2.2.1 (i64_cons HX.out.2.2.1.2.2.2.2.1 (i64_cons HX.out.2.2.1.2.2.2.2.2.1 (i64_cons HX.out.2.2.1.2.2.2.2.2.2.1 (i64_cons HX.out.2.2.1.2.2.2.2.2.2.2.1 (i64_cons HX.out.2.2.1.2.2.2.2.2.2.2.2 i64_nil))))))))) (by simp) B1.out).mono ?_; rintro e w2 ⟨rfl, S1⟩; have aS1_10 : w2.cell? ⟨ws.heap.size, 10, none⟩ = some (.bool x.f10) := S1.out.cell 10)
      go_still_tail 5, (by kernel_rfl)
      show wpList _ _ _ _ _ (World.drew _)
      go_wp2_with (first
        | (go_at_call 40; refine (ES.count S2.out HGL.out.2.2 BC.out).mono ?_; rintro e wc ⟨rfl, SC⟩; have aC : wc.cell? ⟨ws.heap.size, 8, none⟩ = some (.slice A8 x.f8.length c8) := SC.out.cell 8)
        | (go_at_call 42; refine (ES.bool S1.out B2.out).mono ?_; rintro e w3 ⟨rfl, S2⟩; have aS2_8 : w3.cell? ⟨ws.heap.size, 8, none⟩ = some (.slice A8 x.f8.length c8) := S2.out.cell 8))
      go_loopg [53] (x.f8.length + 1) (fun kq v8 w' => ∃ j : Nat, v8 = .int .i64 j ∧ Hid (kq + j = x.f8.length + 1 ∧ j ≤ x.f8.length ∧ ES ws w' w0.heap.size q ws.heap.size #[.int .i64 x.f0, .int .i64 x.f1, .int .i64 x.f2, .int .i64 x.f3, .int .i64 x.f4, .int .i64 x.f5, .int .i64 x.f6, .int .i64 x.f7, .slice A8 x.f8.length c8, .int .i64 x.f9, .bool x.f10] 117 (L ++ enL encI [x.f0, x.f1, x.f2, x.f3, x.f4, x.f5, x.f6, x.f7, x.f9] ++ encB x.f10 ++ encU x.f8.length ++ enL resetE (x.f8.take j))))
      case atStart => exact ⟨0, rfl, ⟨rfl, Nat.zero_le _, by rw [show enL resetE (x.f8.take 0) = [] from rfl, List.append_nil]; exact SC.out⟩⟩
      case round =>
        obtain ⟨j, rfl, HJ⟩ := hrel
        by_cases hj : j < x.f8.length
        · obtain ⟨bd, hA, y0, y1⟩ := at_T129 (Kd.C_below HGL.out.1 (HBW.out.trans HJ.out.2.2.wb.bl)) (j : Int) (by omega) (by omega)
          rw [Int.toNat_natCast] at y0 y1
          obtain ⟨y, hy⟩ : ∃ y, rd_T129 x.f8 (j : Int) = y := ⟨_, rfl⟩
          rw [hy] at y0 y1
          obtain ⟨hy1, hm2⟩ := getD_some (z := z129) (x := y) hj (by rw [← hy]; unfold rd_T129; rw [Int.toNat_natCast])
          subst hA
          obtain ⟨p2, q2⟩ := idx_in hj
          have HW2 := Lib.hid (idx_next hj HGL.out.2.2)
          have HY := Lib.hid (And.intro hy1 (And.intro hj (HX.out.2.2.2 y hm2)))
          obtain ⟨M, hM⟩ : ∃ M, L ++ enL encI [x.f0, x.f1, x.f2, x.f3, x.f4, x.f5, x.f6, x.f7, x.f9] ++ encB x.f10 ++ encU x.f8.length ++ enL resetE (x.f8.take j) = M := ⟨_, rfl⟩
          have hes := HJ.out.2.2
          rw [hM] at hes
          have HES := Lib.hid hes
          have HS2 := Lib.hid (ES.start hes.wr #[.int .i64 y.f0, .int .i64 y.f1] 129 (by decide))
          have hb2 : M.length + (resetE y).length + 20 ≤ 140737488355328 := by
            have h1 := enL_le resetE hy1
            have h2 := BI.out
            rw [← hM, List.length_append]
            omega
          simp only [resetE, List.length_append] at hb2
          have D1 := Lib.hid (show (M).length + (enL encI [y.f0, y.f1]).length + 20 ≤ 140737488355328 by (try simp only [enL, List.map_cons, List.map_nil, List.flatten_cons, List.flatten_nil, List.length_append, List.length_nil]); omega)
          have HE2 := Lib.hid (show M ++ enL encI [y.f0, y.f1] = L ++ enL encI [x.f0, x.f1, x.f2, x.f3, x.f4, x.f5, x.f6, x.f7, x.f9] ++ encB x.f10 ++ encU x.f8.length ++ enL resetE (x.f8.take (j + 1)) by rw [enL_step resetE hy1, ← List.append_assoc, hM]; simp only [resetE, enL, List.map_cons, List.map_nil, List.flatten_cons, List.flatten_nil, List.append_assoc, List.append_nil])
          clear hy1 hm2 hj hy hb2 hes hM
          go_wp2_with (go_at_call 12; refine (ES.ints HS2.out (by simp) [y.f0, y.f1] (i64_cons HY.out.2.2.1 (i64_cons HY.out.2.2.2 i64_nil)) (by simp) D1.out).mono ?_; rintro e v2 ⟨rfl, R1⟩)
          go_roundg (x.f8.length - j)
          case measure => have := HJ.out.1; have := HY.out.2.1; omega
          case rel =>
            refine ⟨j + 1, by rw [HW2.out], ⟨by have := HJ.out.1; have := HY.out.2.1; omega, HY.out.2.1, ?_⟩⟩
            have h := HES.out.next R1.out.wr R1.out.wb
            rw [HE2.out] at h
            exact h
        · have q2 := idx_out hj
          have hsx := HJ.out.2.2
          rw [enL_all resetE (Nat.le_of_not_lt hj)] at hsx
          have SX := Lib.hid hsx
          clear hj hsx
          go_wp2_with (fail)
          go_roundg (xs.length - k)
          case measure => have := HI.out.1; have := HX.out.2.1; omega
          case rel =>
            exact ⟨k + 1, by rw [HW.out], ⟨by have := HI.out.1; have := HX.out.2.1; omega, HX.out.2.1, HE.out ▸ SX.out.wr, HI.out.2.2.2.trans SX.out.wb⟩⟩
    · have q1 := idx_out hk
      have HK := Lib.hid hk
      clear hk
      go_wp2_with (fail)
      go_end0
      refine ⟨rfl, ⟨?_, HI.out.2.2.2⟩⟩
      have h1 := HI.out.2.2.1
      rw [enL_all tradesE (Nat.le_of_not_lt HK.out), List.append_assoc, ← HC.out.2.2.2.1] at h1
      exact h1
end Go.Proofs.Ythpgjeiglhdciaa.SN
