/- Part 30 of the proof's texts: what the theorem needs of them. -/
import Derived.Test.YthpgjeiglhdciaaSB29
import Derived.Deep.DeepCutAuto
import Derived.StillTailTactics

set_option linter.unusedVariables false
set_option linter.unusedSimpArgs false
/- The writer: its cell, its bytes. -/
namespace Go.Proofs.Ythpgjeiglhdciaa.SN
open Go Go.RowKit Go.Proofs Go.Proofs.Ythpgjeiglhdciaa.PL Go.Proofs.YthpgjeiglhdciaaW.PrintWords Go.Proofs.YthpgjeiglhdciaaW.PrintLast Go.Proofs.YthpgjeiglhdciaaW.PrintMore
/-- Bytes, as numbers. -/
def nms (l : Bs) : List Int := l.map (fun c => (c.toNat : Int))
/-- A writer stands at block q (a block of type t): its bytes so far lie in a row of its own, at b or behind. -/
def WR (w : World) (b t q : Nat) (l : Bs) : Prop := b ≤ q ∧ ∃ v, w.heap[q]? = some (.cells #[v] t (0, 0)) ∧ (Kd.int .u8).R 5 w b (fun k => k ≠ q) v (nms l)
theorem WR.cell {w : World} {b t q : Nat} {l : Bs} (h : WR w b t q l) : ∃ v, w.cell? ⟨q, 0, none⟩ = some v ∧ w.frozen? ⟨q, 0, none⟩ = false ∧ (Kd.int .u8).R 5 w b (fun k => k ≠ q) v (nms l) := by
  obtain ⟨_, v, hb, hr⟩ := h
  exact ⟨v, by simp [World.cell?, hb], by simp [World.frozen?, hb], hr⟩
theorem info5 : (Try.prog.info? 5).map (fun i => (i.zero, i.size, i.bytes)) = some (some (.int .u8 0), 1, 1) := by kernel_rfl
theorem nms_bst (l : Bs) : strOfNums (nms l) = bst l := by
  unfold nms bst strOfNums
  rw [List.map_map]
  congr 2
  refine (List.map_congr_left fun c _ => ?_).trans (List.map_id l)
  simp
set_option maxRecDepth 100000 in
set_option maxHeartbeats 1000000 in
theorem bytes_any {w : World} {b t q : Nat} {l : Bs} (h : WR w b t q l) : Calls Try.prog 22 #[.pointer (some ⟨q, 0, none⟩)] w fun o w' => o = .returned (.string (bst l)) ∧ w' = w := by
  obtain ⟨v, hc, hz, hr⟩ := h.cell
  obtain ⟨A, c, rfl, hcc, hC⟩ := Kd.R_reads hr
  have hrun := Kd.C_string (P := Try.prog) (c := c) (src := 82) (dst := 9) (e := 5) Try.underlying82 Try.underlying5 Try.underlying9 hC
  rw [nms_bst] at hrun
  obtain ⟨N, hN⟩ : ∃ N, (nms l).length = N := ⟨_, rfl⟩
  rw [hN] at hc hrun
  clear h hr hz hN hC hcc
  go_enter Try.func22, Try.ntmps22
  go_wp2
  go_ret
  exact ⟨rfl, rfl⟩
end Go.Proofs.Ythpgjeiglhdciaa.SN

/- The writer: Uint. -/
namespace Go.Proofs.Ythpgjeiglhdciaa.SN
open Go Go.RowKit Go.Proofs Go.Proofs.Ythpgjeiglhdciaa.PL Go.Proofs.YthpgjeiglhdciaaW.PrintWords Go.Proofs.YthpgjeiglhdciaaW.PrintLast Go.Proofs.YthpgjeiglhdciaaW.PrintMore
/-- The groups ahead of the last. -/
def hi (n : Nat) : Bs := if n = 0 then [] else encH n
theorem hi_step {m : Nat} (h : m ≠ 0) : hi m = hi (m / 128) ++ [UInt8.ofNat (m % 128 + 128)] := by
  unfold hi
  rw [if_neg h]
  by_cases hm : m < 128
  · rw [encH_small hm, if_pos (by omega), Nat.mod_eq_of_lt hm]
    rfl
  · rw [if_neg (by omega)]
    have e : m = m / 128 * 128 + m % 128 := by omega
    conv => lhs; rw [e]
    exact encH_step (by omega) (Nat.mod_lt _ (by decide))
theorem encU_hi (n : Nat) : encU n = hi (n / 128) ++ [UInt8.ofNat (n % 128)] := by
  by_cases hn : n < 128
  · unfold encU hi
    rw [if_pos hn, if_pos (by omega), Nat.mod_eq_of_lt hn]
    rfl
  · unfold encU hi
    rw [if_neg hn, if_neg (by omega)]
/-- What a writer's step leaves: all below b, and all blocks but the writer's own and rows of bytes. -/
structure WB (b q : Nat) (w w' : World) : Prop where
  bl : Below b w w'
  kp : ∀ (j : Nat) (cs : Array Value) (u : TypeId), j ≠ q → u ≠ 5 → w.heap[j]? = some (.cells cs u (0, 0)) → w'.heap[j]? = some (.cells cs u (0, 0))
theorem WB.refl (b q : Nat) (w : World) : WB b q w w := ⟨Below.refl _ _, fun _ _ _ _ _ h => h⟩
theorem WB.trans {b q : Nat} {w w1 w2 : World} (h : WB b q w w1) (h2 : WB b q w1 w2) : WB b q w w2 := ⟨h.bl.trans h2.bl, fun j cs u hj hu hb => h2.kp j cs u hj hu (h.kp j cs u hj hu hb)⟩
theorem WB.put {b q : Nat} {w w5 : World} {v v1 : Value} {xs : List Int} (hq : b ≤ q) (hr : (Kd.int .u8).R 5 w b (fun k => k ≠ q) v xs) (hg : w.grownBy w5 v.ownBlock) (hB : Below b w w5) : WB b q w (w5.setCell ⟨q, 0, none⟩ v1) := by
  refine ⟨hB.setCell (p := ⟨q, 0, none⟩) hq v1, fun j cs u hj hu hb => ?_⟩
  obtain ⟨_, inner, ho, _⟩ := hr
  have h1 := (hg.block j (Array.getElem?_eq_some_iff.1 hb).1 (own_ne ho hb (Ne.symm hu))).trans hb
  exact (Below.heap_setCell _ _ _ _ (fun e => hj e)).trans h1
theorem WR.put {w w5 : World} {b t q : Nat} {L : Bs} {v v1 : Value} {y : Nat} (hq : b ≤ q) (hb : w.heap[q]? = some (.cells #[v] t (0, 0))) (hr : (Kd.int .u8).R 5 w b (fun k => k ≠ q) v (nms L)) (ho : (Kd.int .u8).R 5 w5 b (fun k => k ≠ q) v1 (nms L ++ [(y : Int)])) (hg : w.grownBy w5 v.ownBlock) (hB : Below b w w5) (hy : y < 256) :
    WR (w5.setCell ⟨q, 0, none⟩ v1) b t q (L ++ [UInt8.ofNat y]) ∧ WB b q w (w5.setCell ⟨q, 0, none⟩ v1) := by
  have hne : some q ≠ v.ownBlock := Kd.R_away hr (fun k hk => hk)
  have h5 : w5.heap[q]? = some (.cells #[v] t (0, 0)) := (hg.block q (Array.getElem?_eq_some_iff.1 hb).1 hne).trans hb
  refine ⟨⟨hq, v1, by rw [set_mod h5]; rfl, ?_⟩, WB.put hq hr hg hB⟩
  have e : nms (L ++ [UInt8.ofNat y]) = nms L ++ [(y : Int)] := by
    unfold nms
    rw [List.map_append]
    congr 1
    simp [Nat.mod_eq_of_lt hy]
  rw [e]
  exact Kd.R_far ho (p := ⟨q, 0, none⟩) (fun k hk => hk) v1
theorem sl3 {α : Type} {d : Kd α} {e : Nat} {w : World} {base : Nat} {ok : Nat → Prop} {v : Value} {xs : List α} (h : d.R e w base ok v xs) : ∃ A N c, v = .slice A N c := by
  obtain ⟨A, c, h⟩ := Kd.R_slice h
  exact ⟨A, _, c, h⟩
theorem byte_and {x : Nat} (m : Int) (hm : m = (x : Int)) : bits .and .u8 (m % 256) 127 = ((x % 128 : Nat) : Int) := by
  rw [u8_and127 (by omega) (by omega)]
  omega
theorem byte_or8 : ∀ x : Fin 128, bits .or .u8 ((x.val : Nat) : Int) 128 = ((x.val + 128 : Nat) : Int) := by decide
theorem byte_or {x : Nat} (hx : x < 128) : bits .or .u8 (x : Int) 128 = ((x + 128 : Nat) : Int) := byte_or8 ⟨x, hx⟩
theorem hi_len : ∀ (k m : Nat), m < 128 ^ k → (hi m).length ≤ k
  | 0, m, h => by
    have : m = 0 := by simpa using h
    subst this
    simp [hi]
  | k + 1, m, h => by
    by_cases hm : m = 0
    · subst hm; simp [hi]
    · rw [hi_step hm, List.length_append, List.length_singleton]
      have := hi_len k (m / 128) (by rw [Nat.pow_succ] at h; exact Nat.div_lt_of_lt_mul (by omega))
      omega
theorem hi_short {n : Nat} (hn : n < 18446744073709551616) (d : Nat) : (hi (n / 2 ^ (d + 7))).length ≤ 9 := by
  refine hi_len 9 _ (Nat.lt_of_le_of_lt (m := 144115188075855872) ?_ (show 144115188075855872 < 128 ^ 9 by decide))
  have h1 : n / 2 ^ (d + 7) = n / 2 ^ 7 / 2 ^ d := by rw [Nat.div_div_eq_div_mul, ← Nat.pow_add, Nat.add_comm 7 d]
  rw [h1]
  refine Nat.le_trans (Nat.div_le_self _ _) ?_
  show n / 128 ≤ _
  omega
theorem nms_len (l : Bs) : (nms l).length = l.length := by unfold nms; exact List.length_map _
theorem shiftw {d : Nat} (h : d ≤ 63) : IntKind.u64.wrap (d : Int) = (d : Int) ∧ min d 64 = d := ⟨wraps_u64 _ (by omega) (by omega), Nat.min_eq_left (by omega)⟩
theorem gtr_no {d : Nat} (h : d = 0) : ((d : Int) > 0) = False ∧ (0 < d) = False := ⟨eq_false (by omega), eq_false (by omega)⟩
theorem gtr_yes {d : Nat} (h : d ≠ 0) : ((d : Int) > 0) = True ∧ (0 < d) = True := ⟨eq_true (by omega), eq_true (by omega)⟩
theorem last_byte (n : Nat) : ∃ y : Nat, bits .and .u8 ((n : Int) % 256) 127 = (y : Nat) ∧ n % 128 = y ∧ y < 256 := ⟨n % 128, byte_and (x := n) (n : Int) rfl, rfl, by omega⟩
theorem next_byte (m : Nat) : ∃ y0 y : Nat, bits .and .u8 ((m : Int) % 256) 127 = (y0 : Nat) ∧ bits .or .u8 (y0 : Int) 128 = (y : Nat) ∧ m % 128 + 128 = y ∧ y < 256 := ⟨m % 128, m % 128 + 128, byte_and (x := m) (m : Int) rfl, byte_or (by omega), rfl, by omega⟩
theorem shr_as {n d m : Nat} (h : n / 2 ^ d = m) : ((n : Int) / 2 ^ d) = (m : Int) := by rw [← h]; simp
theorem less7 {d gk : Nat} (h0 : d ≠ 0) (h : ∃ j, 7 * j = d ∧ j < gk) (hd : d ≤ 63) : ∃ d' : Nat, ((d : Int) - 7) = (d' : Int) ∧ wrap64 (d' : Int) = (d' : Int) ∧ d' + 7 = d ∧ (∃ j, 7 * j = d' ∧ j < gk - 1) ∧ d' ≤ 63 ∧ 0 < gk := by
  obtain ⟨j, h1, h2⟩ := h
  exact ⟨d - 7, by omega, wrap_nat (x := d - 7) (by omega), by omega, ⟨j - 1, by omega, by omega⟩, by omega, by omega⟩
theorem put_room {n : Nat} {l : Bs} (hn : n < 18446744073709551616) (hl : l.length + 10 ≤ 140737488355328) (d : Nat) : ((nms (l ++ hi (n / 2 ^ (d + 7)))).length + 1) * 1 ≤ 140737488355328 := by
  have h7 := hi_short hn d
  rw [nms_len, List.length_append]
  omega
theorem WR.parts {w : World} {b t q : Nat} {L : Bs} (h : WR w b t q L) : ∃ v, w.cell? ⟨q, 0, none⟩ = some v ∧ w.frozen? ⟨q, 0, none⟩ = false ∧ (Kd.int .u8).R 5 w b (fun k => k ≠ q) v (nms L) ∧ b ≤ q ∧ w.heap[q]? = some (.cells #[v] t (0, 0)) ∧ b ≤ w.heap.size ∧ q < w.heap.size := by
  obtain ⟨hb, v, hk, hr⟩ := h
  have hlt : q < w.heap.size := (Array.getElem?_eq_some_iff.1 hk).1
  exact ⟨v, by simp [World.cell?, hk], by simp [World.frozen?, hk], hr, hb, hk, by omega, hlt⟩
theorem WR.after {w w5 : World} {b t q : Nat} {L : Bs} {v v1 : Value} {y : Nat} (hr : (Kd.int .u8).R 5 w b (fun k => k ≠ q) v (nms L)) (hq : b ≤ q) (hb : w.heap[q]? = some (.cells #[v] t (0, 0))) (ho : (Kd.int .u8).R 5 w5 b (fun k => k ≠ q) v1 (nms L ++ [(y : Int)])) (hg : w.grownBy w5 v.ownBlock) (hB : Below b w w5) (hy : y < 256) :
    (∃ A N c, v1 = .slice A N c) ∧ (WR (w5.setCell ⟨q, 0, none⟩ v1) b t q (L ++ [UInt8.ofNat y]) ∧ WB b q w (w5.setCell ⟨q, 0, none⟩ v1)) ∧ w5.cell? ⟨q, 0, none⟩ = some v ∧ w5.frozen? ⟨q, 0, none⟩ = false := by
  have k5 := (hg.block q (Array.getElem?_eq_some_iff.1 hb).1 (Kd.R_away hr (fun k hk => hk))).trans hb
  exact ⟨sl3 ho, WR.put hq hb hr ho hg hB hy, by simp [World.cell?, k5], by simp [World.frozen?, k5]⟩
set_option maxRecDepth 100000 in
set_option maxHeartbeats 1000000 in
theorem wuint_any {w : World} {b t q n : Nat} {l : Bs} (h : WR w b t q l) (hn : n < 18446744073709551616) (hl : l.length + 10 ≤ 140737488355328) : Calls Try.prog 58 #[.pointer (some ⟨q, 0, none⟩), .int .u64 n] w fun o w' => o = .returned (.tuple #[]) ∧ Hid (WR w' b t q (l ++ encU n) ∧ WB b q w w') := by
  have H := Lib.hid (And.intro h hl)
  have HN := Lib.hid hn
  clear h hn hl
  go_enter Try.func58, Try.ntmps58
  go_upto_block 0 with (fail)
  go_cut [4] (fun v4 wx => ∃ c : Nat, v4 = .int .i64 c ∧ Hid (wx = w ∧ (∃ j, 7 * j = c ∧ j < 10) ∧ c ≤ 63 ∧ (c = 0 ∨ n / 2 ^ c ≠ 0) ∧ n / 2 ^ (c + 7) = 0))
  case first =>
    go_wp2_with (fail)
    go_loopg [4] 10 (fun kq v4 w' => ∃ c : Nat, v4 = .int .i64 c ∧ w' = w ∧ Hid (kq * 7 = c + 7 ∧ c ≤ 63 ∧ n / 2 ^ (c + 7) = 0))
    case atStart => exact ⟨63, rfl, rfl, ⟨rfl, by decide, Nat.div_eq_of_lt (Nat.lt_of_lt_of_le HN.out (by decide))⟩⟩
    case round =>
      obtain ⟨c, rfl, hw, HI⟩ := hrel
      obtain rfl : w = wr := hw.symm
      have hI := HI.out
      have w1 : IntKind.u64.wrap (c : Int) = (c : Int) := wraps_u64 _ (by omega) (by omega)
      have w2 : min c 64 = c := Nat.min_eq_left (by omega)
      by_cases hc : c = 0
      · have HC := Lib.hid hc
        have b1 : ((c : Int) > 0) = False := eq_false (by omega)
        have b0 : (0 < c) = False := eq_false (by omega)
        clear hI hc
        go_wp2_with (fail)
        go_meet
        case rel => exact ⟨c, rfl, ⟨rfl, ⟨gk - 1, by have := HI.out; omega, by have := HI.out; have := HC.out; omega⟩, HI.out.2.1, .inl HC.out, HI.out.2.2⟩⟩
      · have b1 : ((c : Int) > 0) = True := eq_true (by omega)
        have b0 : (0 < c) = True := eq_true (by omega)
        obtain ⟨m, hm⟩ : ∃ m, n / 2 ^ c = m := ⟨_, rfl⟩
        have w4 : ((n : Int) / 2 ^ c) = (m : Int) := by rw [← hm]; simp
        by_cases hd : m = 0
        · have b2 : ((m : Int) == 0) = true := by rw [hd]; rfl
          have b3 : (m = 0) = True := eq_true hd
          have b4 : ((m : Int) = 0) = True := eq_true (by omega)
          obtain ⟨c', hc'⟩ : ∃ c', c' = c - 7 := ⟨_, rfl⟩
          have w3 : ((c : Int) - 7) = (c' : Int) := by omega
          have w5 : wrap64 (c' : Int) = (c' : Int) := wrap_nat (by omega)
          have HX := Lib.hid (show gk * 7 = c + 7 ∧ c' + 7 = c ∧ c ≤ 63 ∧ n / 2 ^ c = 0 from ⟨hI.1, by omega, hI.2.1, hm.trans hd⟩)
          clear hI hc hd hc' hm
          go_wp2_with (fail)
          go_roundg (gk - 1)
          case measure => have := HX.out; omega
          case rel => exact ⟨c', rfl, rfl, ⟨by have := HX.out; omega, by have := HX.out; omega, by rw [HX.out.2.1]; exact HX.out.2.2.2⟩⟩
        · have b2 : ((m : Int) == 0) = false := beq_false_of_ne (fun q => hd (by exact_mod_cast q))
          have b3 : (m = 0) = False := eq_false hd
          have b4 : ((m : Int) = 0) = False := eq_false (by omega)
          have HC := Lib.hid (And.intro hm (And.intro hd hc))
          clear hI hc hd hm
          go_wp2_with (fail)
          go_meet
          case rel => exact ⟨c, rfl, ⟨rfl, ⟨gk - 1, by have := HI.out; omega, by have := HI.out; omega⟩, HI.out.2.1, .inr (by rw [HC.out.1]; exact HC.out.2.1), HI.out.2.2⟩⟩
  case rest =>
    obtain ⟨c, rfl, HI⟩ := hcut
    go_wp2_with (fail)
    go_loopg [4] 10 (fun kq v4 w' => ∃ c : Nat, v4 = .int .i64 c ∧ Hid ((∃ j, 7 * j = c ∧ j < kq) ∧ c ≤ 63 ∧ (c = 0 ∨ n / 2 ^ c ≠ 0) ∧ WR w' b t q (l ++ hi (n / 2 ^ (c + 7))) ∧ WB b q w w'))
    case atStart =>
      obtain ⟨h1, h2, h3, h4, h5⟩ := HI.out
      subst h1
      refine ⟨c, rfl, ⟨h2, h3, h4, ?_, WB.refl _ _ _⟩⟩
      rw [h5, show hi 0 = [] from rfl, List.append_nil]
      exact H.out.1
    case round =>
      obtain ⟨d, rfl, HJ⟩ := hrel
      obtain ⟨v, kc, kz, hr⟩ := HJ.out.2.2.2.1.parts
      obtain ⟨A0, N0, c0, rfl⟩ := sl3 hr.1
      have HQ := Lib.hid hr
      obtain ⟨w1, w2⟩ := shiftw HJ.out.2.1
      have HL := Lib.hid (put_room HN.out H.out.2 d)
      clear hr
      by_cases hd0 : d = 0
      · obtain ⟨b1, b0⟩ := gtr_no hd0
        obtain ⟨y, hy, hyy⟩ := last_byte n
        have HY := Lib.hid (And.intro hyy hd0)
        clear hd0 hyy
        go_wp2_with (at_builtin; refine Kd.R_append (Kd.int .u8) (w0 := wr) (W := wr) b rfl (.tmp 40) (.tmp 44) 82 5 (.int .u8 0) 1 rfl Try.underlying82 info5 rfl (by decide) (by decide) (.slice A0 N0 c0) (nms (l ++ hi (n / 2 ^ (d + 7)))) (y : Int) [.int .u8 y] (fun k => k ≠ q) (fun _ => False) rfl rfl rfl (fun _ h => h.elim) (fun k hk e => absurd (e ▸ hk) (Nat.not_le_of_lt HQ.out.2.2.2.2)) HQ.out.1 (Below.refl _ _) HQ.out.2.2.2.1 HL.out ?_; intro v1 w5 ho hB hg hat; obtain ⟨⟨A1, N1, c1, rfl⟩, hp, kc5, kz5⟩ := WR.after HQ.out.1 HQ.out.2.1 HQ.out.2.2.1 ho hg hB HY.out.1.2; have HP := Lib.hid hp; clear ho hB hg hat hp)
        go_end0
        have e1 : l ++ hi (n / 2 ^ (d + 7)) ++ [UInt8.ofNat y] = l ++ encU n := by
          rw [HY.out.2, ← HY.out.1.1, encU_hi, List.append_assoc]
        exact ⟨rfl, ⟨e1 ▸ HP.out.1, HJ.out.2.2.2.2.trans HP.out.2⟩⟩
      · obtain ⟨b1, b0⟩ := gtr_yes hd0
        obtain ⟨m, hm⟩ : ∃ m, n / 2 ^ d = m := ⟨_, rfl⟩
        have w4 := shr_as hm
        obtain ⟨y0, y, hy, hz, hyy⟩ := next_byte m
        obtain ⟨d', w3, wq5, hd'⟩ := less7 hd0 HJ.out.1 HJ.out.2.1
        have HY := Lib.hid (And.intro hm (And.intro hyy (And.intro hd' hd0)))
        have HZ := Lib.hid hz
        clear hd0 hyy hm hd' hz
        go_wp2_with (at_builtin; refine Kd.R_append (Kd.int .u8) (w0 := wr) (W := wr) b rfl (.tmp 24) (.tmp 32) 82 5 (.int .u8 0) 1 rfl Try.underlying82 info5 rfl (by decide) (by decide) (.slice A0 N0 c0) (nms (l ++ hi (n / 2 ^ (d + 7)))) (bits .or .u8 (y0 : Int) 128) [.int .u8 (bits .or .u8 (y0 : Int) 128)] (fun k => k ≠ q) (fun _ => False) rfl rfl rfl (fun _ h => h.elim) (fun k hk e => absurd (e ▸ hk) (Nat.not_le_of_lt HQ.out.2.2.2.2)) HQ.out.1 (Below.refl _ _) HQ.out.2.2.2.1 HL.out ?_; intro v1 w5 ho hB hg hat; rw [HZ.out] at ho; obtain ⟨⟨A1, N1, c1, rfl⟩, hp, kc5, kz5⟩ := WR.after HQ.out.1 HQ.out.2.1 HQ.out.2.2.1 ho hg hB HY.out.2.1.2; have HP := Lib.hid hp; clear ho hB hg hat hp)
        go_roundg (gk - 1)
        case measure => have := HY.out.2.2.1.2.2.2; omega
        case rel =>
          obtain ⟨y4, ⟨y1, _⟩, ⟨y2, y6, y7, y8⟩, y9⟩ := HY.out
          have y3 : m ≠ 0 := by
            rcases HJ.out.2.2.1 with h0 | h0
            · exact absurd h0 y9
            · rw [← y4]; exact h0
          have e1 : l ++ hi (n / 2 ^ (d + 7)) ++ [UInt8.ofNat y] = l ++ hi (n / 2 ^ (d' + 7)) := by
            rw [y2, y4, hi_step y3, ← y1, ← List.append_assoc]
            congr 3
            rw [← y4, Nat.pow_add, Nat.div_div_eq_div_mul]
          refine ⟨d', rfl, ⟨y6, y7, .inr ?_, e1 ▸ HP.out.1, HJ.out.2.2.2.2.trans HP.out.2⟩⟩
          intro h0
          apply y3
          rw [← y4, ← y2, Nat.pow_add, ← Nat.div_div_eq_div_mul, h0]
end Go.Proofs.Ythpgjeiglhdciaa.SN

/- The writer: Int, Text, Bool, count. -/
namespace Go.Proofs.Ythpgjeiglhdciaa.SN
open Go Go.RowKit Go.Proofs Go.Proofs.Ythpgjeiglhdciaa.PL Go.Proofs.YthpgjeiglhdciaaW.PrintWords Go.Proofs.YthpgjeiglhdciaaW.PrintLast Go.Proofs.YthpgjeiglhdciaaW.PrintMore
theorem xor_neg {m : Nat} (h : m < 9223372036854775808) : bits .xor .i64 (if IntKind.i64.signed = true then -1 else 9223372036854775807) (-(m : Int) - 1) = (m : Int) := by
  have e1 : BitVec.ofInt 64 (-1) = BitVec.allOnes 64 := by decide
  have e2 : BitVec.ofInt 64 (-(m : Int) - 1) = ~~~ (BitVec.ofNat 64 m) := by
    apply BitVec.eq_of_toNat_eq
    rw [BitVec.toNat_ofInt, BitVec.toNat_not, BitVec.toNat_ofNat, Nat.mod_eq_of_lt (by omega)]
    omega
  show IntKind.i64.wrap (((BitVec.ofInt 64 (-1) ^^^ BitVec.ofInt 64 (-(m : Int) - 1)).toNat : Nat) : Int) = _
  rw [e1, e2, BitVec.allOnes_xor, BitVec.not_not, BitVec.toNat_ofNat, Nat.mod_eq_of_lt (by omega)]
  exact IntWalk.i64_in _ (by omega)
theorem neg_u {n : Int} (h : n < 0) (h0 : -9223372036854775808 ≤ n) : bits .or .u64 (IntKind.u64.wrap (IntKind.u64.wrap (bits .xor .i64 (if IntKind.i64.signed = true then -1 else 9223372036854775807) n) * 2)) 1 = ((zig n : Nat) : Int) := by
  obtain ⟨m, rfl⟩ : ∃ m : Nat, n = -(m : Int) - 1 := ⟨(-n - 1).toNat, by omega⟩
  rw [xor_neg (by omega), wraps_u64 (m : Int) (by omega) (by omega), wraps_u64 ((m : Int) * 2) (by omega) (by omega)]
  have h := bits_join .u64 64 (by decide) wraps_u64 1 ((m : Int) * 2) 1 (by omega) (by omega) (by omega) (by decide) (by decide) (by omega)
  refine h.trans ?_
  unfold zig
  rw [if_pos (by omega)]
  omega
theorem pos_u {n : Int} (h : ¬ n < 0) (h1 : n ≤ 9223372036854775807) : IntKind.u64.wrap (IntKind.u64.wrap n * 2) = ((zig n : Nat) : Int) := by
  rw [wraps_u64 n (by omega) (by omega), wraps_u64 (n * 2) (by omega) (by omega)]
  unfold zig
  rw [if_neg h]
  omega
theorem zig_lt {n : Int} (h0 : -9223372036854775808 ≤ n) (h1 : n ≤ 9223372036854775807) : zig n < 18446744073709551616 := by
  unfold zig
  split <;> omega
set_option maxRecDepth 100000 in
set_option maxHeartbeats 1000000 in
theorem wint_any {w : World} {b t q : Nat} {n : Int} {l : Bs} (h : WR w b t q l) (hl : l.length + 10 ≤ 140737488355328) (h0 : -9223372036854775808 ≤ n) (h1 : n ≤ 9223372036854775807) : Calls Try.prog 39 #[.pointer (some ⟨q, 0, none⟩), .int .i64 n] w fun o w' => o = .returned (.tuple #[]) ∧ Hid (WR w' b t q (l ++ encI n) ∧ WB b q w w') := by
  have HC := Lib.hid (wuint_any h (zig_lt h0 h1) hl)
  by_cases hn : n < 0
  · have b1 : (n < 0) = True := eq_true hn
    have HE := Lib.hid (neg_u hn h0)
    clear h hl h0 h1 hn
    go_enter Try.func39, Try.ntmps39
    go_wp2_with (go_at_call 58; rw [HE.out]; refine HC.out.mono ?_; rintro e w1 ⟨rfl, H1⟩)
    (try simp only [Exit.inBlock, Exit.then])
    refine bodyPost_ret (results_none rfl _ _ _) rfl ?_
    exact ⟨rfl, H1⟩
  · have b1 : (n < 0) = False := eq_false hn
    have HE := Lib.hid (pos_u hn h1)
    clear h hl h0 h1 hn
    go_enter Try.func39, Try.ntmps39
    go_wp2_with (go_at_call 58; rw [HE.out]; refine HC.out.mono ?_; rintro e w1 ⟨rfl, H1⟩)
    go_end0
    exact ⟨rfl, H1⟩
theorem count_any' {w : World} {b t q : Nat} {n : Nat} {l : Bs} (h : WR w b t q l) (hl : l.length + 10 ≤ 140737488355328) (h0 : n ≤ 9223372036854775807) : Calls Try.prog 40 #[.pointer (some ⟨q, 0, none⟩), .int .i64 n] w fun o w' => o = .returned (.tuple #[]) ∧ Hid (WR w' b t q (l ++ encU n) ∧ WB b q w w') := by
  have HC := Lib.hid (wuint_any h (n := n) (by omega) hl)
  have HE := Lib.hid (wraps_u64 (n : Int) (by omega) (by omega))
  clear h hl h0
  go_enter Try.func40, Try.ntmps40
  go_wp2_with (go_at_call 58; rw [HE.out]; refine HC.out.mono ?_; rintro e w1 ⟨rfl, H1⟩)
  go_end0
  exact ⟨rfl, H1⟩
theorem R_nums {k : IntKind} {e : Nat} {w : World} {b : Nat} {ok : Nat → Prop} {v : Value} {xs : List Int} (h : (Kd.int k).R e w b ok v xs) : w.ownsRow b e 1 v xs.length (nums k xs) := by
  obtain ⟨_, inner, ho, hr⟩ := h
  have e : inner = nums k xs := by
    have hl : inner.length = xs.length := by rw [hr.1]; exact Nat.mul_one _
    apply List.ext_getElem?
    intro j
    by_cases hj : j < xs.length
    · have h1 := hr.2 j xs[j] (List.getElem?_eq_getElem hj)
      have h2 : (inner.drop (j * 1)).take 1 = [Value.int k xs[j]] := h1
      rw [Nat.mul_one] at h2
      have h3 : ((inner.drop j).take 1)[0]? = some (Value.int k xs[j]) := by rw [h2]; rfl
      rw [List.getElem?_take_of_lt (by decide), List.getElem?_drop] at h3
      simp only [Nat.add_zero] at h3
      rw [h3]
      unfold nums
      rw [List.getElem?_map, List.getElem?_eq_getElem hj]
      rfl
    · rw [List.getElem?_eq_none (by omega), List.getElem?_eq_none (by rw [nums_length]; omega)]
  rw [← e]
  exact ho
theorem nums_R {k : IntKind} {e : Nat} {w : World} {b : Nat} {ok : Nat → Prop} {v : Value} {xs : List Int} (h0 : ∀ k, v.ownBlock = some k → ok k) (h : w.ownsRow b e 1 v xs.length (nums k xs)) : (Kd.int k).R e w b ok v xs := by
  refine ⟨h0, _, h, ?_⟩
  clear h h0
  induction xs with
  | nil => exact Reps.none _ _
  | cons x xs ih => exact Reps.one rfl ih
theorem nms_bytes (l : Bs) (s : ByteArray) : nms l ++ bytesOf s = nms (l ++ lst s) := by
  unfold nms bytesOf lst
  rw [List.map_append]
theorem WR.afters {w w5 : World} {b t q : Nat} {L : Bs} {s : ByteArray} {v v1 : Value} (ht : t ≠ 5) (hr : (Kd.int .u8).R 5 w b (fun k => k ≠ q) v (nms L)) (hq : b ≤ q) (hb : w.heap[q]? = some (.cells #[v] t (0, 0))) (ho : w5.ownsRow b 5 1 v1 (nms L ++ bytesOf s).length (nums .u8 (nms L ++ bytesOf s))) (hB : Below b w w5) (hg : w.grownBy w5 v.ownBlock) :
    (∃ A N c, v1 = .slice A N c) ∧ (WR (w5.setCell ⟨q, 0, none⟩ v1) b t q (L ++ lst s) ∧ WB b q w (w5.setCell ⟨q, 0, none⟩ v1)) ∧ w5.cell? ⟨q, 0, none⟩ = some v ∧ w5.frozen? ⟨q, 0, none⟩ = false := by
  have k5 := (hg.block q (Array.getElem?_eq_some_iff.1 hb).1 (Kd.R_away hr (fun k hk => hk))).trans hb
  have hne : some q ≠ v1.ownBlock := own_ne ho k5 (Ne.symm ht)
  have ho2 : (Kd.int .u8).R 5 w5 b (fun k => k ≠ q) v1 (nms L ++ bytesOf s) := nums_R (fun k hk e => hne (by rw [hk, e])) ho
  refine ⟨sl3 ho2, ⟨⟨hq, v1, by rw [set_mod k5]; rfl, ?_⟩, WB.put hq hr hg hB⟩, by simp [World.cell?, k5], by simp [World.frozen?, k5]⟩
  rw [← nms_bytes]
  exact Kd.R_far ho2 (p := ⟨q, 0, none⟩) (fun k hk => hk) v1
set_option maxRecDepth 100000 in
set_option maxHeartbeats 1000000 in
theorem wtext_any {w : World} {b t q : Nat} {s : ByteArray} {l : Bs} (h : WR w b t q l) (ht : t ≠ 5) (hl : l.length + 20 + s.size ≤ 140737488355328) : Calls Try.prog 41 #[.pointer (some ⟨q, 0, none⟩), .string s] w fun o w' => o = .returned (.tuple #[]) ∧ Hid (WR w' b t q (l ++ encT (lst s)) ∧ WB b q w w') := by
  have HC := Lib.hid (wuint_any h (n := s.size) (by omega) (by omega))
  have HE := Lib.hid (wraps_u64 (s.size : Int) (by omega) (by omega))
  have HT := Lib.hid (And.intro ht hl)
  have HL := Lib.hid (show (nms (l ++ encU s.size)).length + s.size ≤ 140737488355328 by
    have h1 := hi_short (n := s.size) (by omega) 0
    rw [nms_len, List.length_append, encU_hi, List.length_append, List.length_singleton]
    simp only [Nat.zero_add, Nat.reducePow] at h1
    omega)
  clear h hl ht
  go_enter Try.func41, Try.ntmps41
  go_wp2_with (first
    | (at_builtin; refine print_append_str (w0 := w1) (W := w1) b rfl (.tmp 13) (.tmp 14) 82 9 5 rfl Try.underlying82 Try.underlying9 info5 (.slice A0 N0 c0) (nms (l ++ encU s.size)) s rfl rfl (R_nums HQ.out.1) (Below.refl _ _) HQ.out.2.2.2.1 HL.out ?_; intro v1 w5 ho hB hg; obtain ⟨⟨A1, N1, c1, rfl⟩, hp, kc5, kz5⟩ := WR.afters HT.out.1 HQ.out.1 HQ.out.2.1 HQ.out.2.2.1 ho hB hg; have HP := Lib.hid hp; clear ho hB hg hp)
    | (go_at_call 58; rw [HE.out]; refine HC.out.mono ?_; rintro e w1 ⟨rfl, H1⟩; obtain ⟨v, kc, kz, hr⟩ := H1.out.1.parts; obtain ⟨A0, N0, c0, rfl⟩ := sl3 hr.1; have HQ := Lib.hid hr; clear hr))
  go_end0
  refine ⟨rfl, ⟨?_, H1.out.2.trans HP.out.2⟩⟩
  have h := HP.out.1
  unfold encT
  rw [lst_len, ← List.append_assoc]
  exact h
set_option maxRecDepth 100000 in
set_option maxHeartbeats 1000000 in
theorem wbool_any {w : World} {b t q : Nat} {z : Bool} {l : Bs} (h : WR w b t q l) (hl : l.length + 10 ≤ 140737488355328) : Calls Try.prog 42 #[.pointer (some ⟨q, 0, none⟩), .bool z] w fun o w' => o = .returned (.tuple #[]) ∧ Hid (WR w' b t q (l ++ encB z) ∧ WB b q w w') := by
  obtain ⟨v, kc, kz, hr⟩ := h.parts
  obtain ⟨A0, N0, c0, rfl⟩ := sl3 hr.1
  have HQ := Lib.hid hr
  have HL := Lib.hid (show ((nms l).length + 1) * 1 ≤ 140737488355328 by rw [nms_len]; omega)
  clear hr h hl
  cases z with
  | false =>
    go_enter Try.func42, Try.ntmps42
    go_wp2_with (at_builtin; refine Kd.R_append (Kd.int .u8) (w0 := w) (W := w) b rfl (.tmp 10) (.tmp 12) 82 5 (.int .u8 0) 1 rfl Try.underlying82 info5 rfl (by decide) (by decide) (.slice A0 N0 c0) (nms l) ((0 : Nat) : Int) [.int .u8 0] (fun k => k ≠ q) (fun _ => False) rfl rfl rfl (fun _ h => h.elim) (fun k hk e => absurd (e ▸ hk) (Nat.not_le_of_lt HQ.out.2.2.2.2)) HQ.out.1 (Below.refl _ _) HQ.out.2.2.2.1 HL.out ?_; intro v1 w5 ho hB hg hat; obtain ⟨⟨A1, N1, c1, rfl⟩, hp, kc5, kz5⟩ := WR.after HQ.out.1 HQ.out.2.1 HQ.out.2.2.1 ho hg hB (by decide); have HP := Lib.hid hp; clear ho hB hg hat hp)
    go_end0
    exact ⟨rfl, ⟨HP.out.1, HP.out.2⟩⟩
  | true =>
    go_enter Try.func42, Try.ntmps42
    go_wp2_with (at_builtin; refine Kd.R_append (Kd.int .u8) (w0 := w) (W := w) b rfl (.tmp 10) (.tmp 12) 82 5 (.int .u8 0) 1 rfl Try.underlying82 info5 rfl (by decide) (by decide) (.slice A0 N0 c0) (nms l) ((1 : Nat) : Int) [.int .u8 1] (fun k => k ≠ q) (fun _ => False) rfl rfl rfl (fun _ h => h.elim) (fun k hk e => absurd (e ▸ hk) (Nat.not_le_of_lt HQ.out.2.2.2.2)) HQ.out.1 (Below.refl _ _) HQ.out.2.2.2.1 HL.out ?_; intro v1 w5 ho hB hg hat; obtain ⟨⟨A1, N1, c1, rfl⟩, hp, kc5, kz5⟩ := WR.after HQ.out.1 HQ.out.2.1 HQ.out.2.2.1 ho hg hB (by decide); have HP := Lib.hid hp; clear ho hB hg hat hp)
    go_end0
    exact ⟨rfl, ⟨HP.out.1, HP.out.2⟩⟩
end Go.Proofs.Ythpgjeiglhdciaa.SN

/- The writer: numbers behind one another. -/
namespace Go.Proofs.Ythpgjeiglhdciaa.SN
open Go Go.RowKit Go.Proofs Go.Proofs.Ythpgjeiglhdciaa.PL Go.Proofs.YthpgjeiglhdciaaW.PrintWords Go.Proofs.YthpgjeiglhdciaaW.PrintLast Go.Proofs.YthpgjeiglhdciaaW.PrintMore
/-- The bytes of things, one behind the other. -/
def enL {α : Type} (e : α → Bs) (xs : List α) : Bs := (xs.map e).flatten
theorem enL_step {α : Type} (e : α → Bs) {xs : List α} {k : Nat} {x : α} (hx : xs[k]? = some x) : enL e (xs.take (k + 1)) = enL e (xs.take k) ++ e x := by
  unfold enL
  rw [List.take_add_one, hx]
  simp
theorem enL_le {α : Type} (e : α → Bs) {xs : List α} {k : Nat} {x : α} (hx : xs[k]? = some x) : (enL e (xs.take k)).length + (e x).length ≤ (enL e xs).length := by
  rw [← List.length_append, ← enL_step e hx]
  unfold enL
  rw [← List.take_append_drop (k + 1) xs, List.map_append, List.flatten_append, List.length_append, List.take_append_drop]
  exact Nat.le_add_right _ _
theorem enL_all {α : Type} (e : α → Bs) {xs : List α} {k : Nat} (hk : xs.length ≤ k) : enL e (xs.take k) = enL e xs := by rw [List.take_of_length_le hk]
/-- A whole number of 64 bits. -/
def I64 (n : Int) : Prop := -9223372036854775808 ≤ n ∧ n ≤ 9223372036854775807
theorem getD_some {α : Type} {xs : List α} {k : Nat} {z x : α} (hk : k < xs.length) (h : xs.getD k z = x) : xs[k]? = some x ∧ x ∈ xs := by
  have e : xs[k] = x := by rw [← h, List.getD_eq_getElem?_getD, List.getElem?_eq_getElem hk]; rfl
  exact ⟨by rw [List.getElem?_eq_getElem hk, e], e ▸ List.getElem_mem hk⟩
theorem idx_in {k n : Nat} (hk : k < n) : (0 ≤ (k : Int)) = True ∧ ((k : Int) < (n : Int)) = True := ⟨eq_true (by omega), eq_true (by omega)⟩
theorem idx_out {k n : Nat} (hk : ¬ k < n) : ((k : Int) < (n : Int)) = False := eq_false (by omega)
theorem idx_next {k n : Nat} (hk : k < n) (hn : n ≤ 9223372036854775807) : wrap64 ((k : Int) + 1) = ((k + 1 : Nat) : Int) := by
  show wrap64 ((k + 1 : Nat) : Int) = _
  exact wrap_nat (by omega)
theorem int_at {W : World} {A : Option Addr} {n : Nat} {xs : List Int} {k : Nat} (h : ReadsInt W .i64 A n xs) (hk : k < xs.length) : ∃ ad x, A = some ad ∧ W.cell? (ad.add k) = some (.int .i64 x) ∧ xs[k]? = some x ∧ x ∈ xs := by
  have hl := h.1
  obtain ⟨ad, hA, hc⟩ := h.at_ (k : Int) (by omega) (by omega)
  rw [Int.toNat_natCast] at hc
  obtain ⟨h1, h2⟩ := getD_some (z := (0 : Int)) (x := rd xs (k : Int)) hk (by unfold rd; rw [Int.toNat_natCast])
  exact ⟨ad, _, hA, hc, h1, h2⟩
set_option maxRecDepth 100000 in
set_option maxHeartbeats 1000000 in
theorem wints_any {w : World} {b t q c : Nat} {A : Option Addr} {xs : List Int} {l : Bs} (h : WR w b t q l) (hC : ∀ W, WB b q w W → ReadsInt W .i64 A xs.length xs) (hR : ∀ x ∈ xs, I64 x) (hl : l.length + (enL encI xs).length + 10 ≤ 140737488355328) :
    Calls Try.prog 12 #[.pointer (some ⟨q, 0, none⟩), .slice A xs.length c] w fun o w' => o = .returned (.tuple #[]) ∧ Hid (WR w' b t q (l ++ enL encI xs) ∧ WB b q w w') := by
  have HC := Lib.hid (And.intro hC (And.intro hR (And.intro hl h)))
  clear h hC hR hl
  go_enter Try.func12, Try.ntmps12
  go_wp2_with (fail)
  go_loopg [8] (xs.length + 1) (fun kq v8 w' => ∃ k : Nat, v8 = .int .i64 k ∧ Hid (kq + k = xs.length + 1 ∧ k ≤ xs.length ∧ WR w' b t q (l ++ enL encI (xs.take k)) ∧ WB b q w w'))
  case atStart => exact ⟨0, rfl, ⟨rfl, Nat.zero_le _, by rw [show enL encI (xs.take 0) = [] from rfl, List.append_nil]; exact HC.out.2.2.2, WB.refl _ _ _⟩⟩
  case round =>
    obtain ⟨k, rfl, HI⟩ := hrel
    by_cases hk : k < xs.length
    · have hrd := HC.out.1 wr HI.out.2.2.2
      have hmx := hrd.2.1
      obtain ⟨ad, x, hA, x0, hx, hm⟩ := int_at hrd hk
      subst hA
      obtain ⟨p1, q1⟩ := idx_in hk
      have HW := Lib.hid (idx_next hk hmx)
      have HX := Lib.hid (And.intro hx (And.intro hm hk))
      have HN := Lib.hid (wint_any (n := x) HI.out.2.2.1 (by rw [List.length_append]; have h1 := enL_le encI hx; have h2 := HC.out.2.2.1; omega) (HC.out.2.1 x hm).1 (HC.out.2.1 x hm).2)
      clear hrd hmx hx hm hk
      go_wp2_with (go_at_call 39; refine HN.out.mono ?_; rintro e w2 ⟨rfl, H2⟩)
      go_roundg (xs.length - k)
      case measure => have := HI.out.1; have := HX.out.2.2; omega
      case rel =>
        refine ⟨k + 1, by rw [HW.out], ⟨by have := HI.out.1; have := HX.out.2.2; omega, HX.out.2.2, ?_, HI.out.2.2.2.trans H2.out.2⟩⟩
        rw [enL_step encI HX.out.1, ← List.append_assoc]
        exact H2.out.1
    · have q1 := idx_out hk
      have HK := Lib.hid hk
      clear hk
      go_wp2_with (fail)
      go_end0
      refine ⟨rfl, ⟨?_, HI.out.2.2.2⟩⟩
      have h1 := HI.out.2.2.1
      rw [enL_all encI (Nat.le_of_not_lt HK.out)] at h1
      exact h1
set_option maxRecDepth 100000 in
set_option maxHeartbeats 1000000 in
theorem wInts_any {w : World} {b t q c : Nat} {A : Option Addr} {xs : List Int} {l : Bs} (h : WR w b t q l) (hC : ∀ W, WB b q w W → ReadsInt W .i64 A xs.length xs) (hR : ∀ x ∈ xs, I64 x) (hl : l.length + (encL encI xs).length + 10 ≤ 140737488355328) :
    Calls Try.prog 43 #[.pointer (some ⟨q, 0, none⟩), .slice A xs.length c] w fun o w' => o = .returned (.tuple #[]) ∧ Hid (WR w' b t q (l ++ encL encI xs) ∧ WB b q w w') := by
  have hmx0 := (hC w (WB.refl _ _ _)).2.1
  have hEL : encL encI xs = encU xs.length ++ enL encI xs := rfl
  have hl2 : (l ++ encU xs.length).length + (enL encI xs).length + 10 ≤ 140737488355328 := by rw [hEL, List.length_append] at hl; rw [List.length_append]; omega
  have HU := Lib.hid (wuint_any h (n := xs.length) (by omega) (by omega))
  have HE := Lib.hid (wraps_u64 (xs.length : Int) (by omega) (by omega))
  have HC := Lib.hid (And.intro hC (And.intro hR (And.intro hl2 hEL)))
  clear h hC hR hl hmx0 hEL hl2
  go_enter Try.func43, Try.ntmps43
  go_wp2_with (go_at_call 58; rw [HE.out]; refine HU.out.mono ?_; rintro e w1 ⟨rfl, H1⟩)
  go_loopg [13] (xs.length + 1) (fun kq v8 w' => ∃ k : Nat, v8 = .int .i64 k ∧ Hid (kq + k = xs.length + 1 ∧ k ≤ xs.length ∧ WR w' b t q (l ++ encU xs.length ++ enL encI (xs.take k)) ∧ WB b q w w'))
  case atStart => exact ⟨0, rfl, ⟨rfl, Nat.zero_le _, by rw [show enL encI (xs.take 0) = [] from rfl, List.append_nil]; exact H1.out.1, H1.out.2⟩⟩
  case round =>
    obtain ⟨k, rfl, HI⟩ := hrel
    by_cases hk : k < xs.length
    · have hrd := HC.out.1 wr HI.out.2.2.2
      have hmx := hrd.2.1
      obtain ⟨ad, x, hA, x0, hx, hm⟩ := int_at hrd hk
      subst hA
      obtain ⟨p1, q1⟩ := idx_in hk
      have HW := Lib.hid (idx_next hk hmx)
      have HX := Lib.hid (And.intro hx (And.intro hm hk))
      have HN := Lib.hid (wint_any (n := x) HI.out.2.2.1 (by rw [List.length_append]; have h1 := enL_le encI hx; have h2 := HC.out.2.2.1; omega) (HC.out.2.1 x hm).1 (HC.out.2.1 x hm).2)
      clear hrd hmx hx hm hk
      go_wp2_with (go_at_call 39; refine HN.out.mono ?_; rintro e w2 ⟨rfl, H2⟩)
      go_roundg (xs.length - k)
      case measure => have := HI.out.1; have := HX.out.2.2; omega
      case rel =>
        refine ⟨k + 1, by rw [HW.out], ⟨by have := HI.out.1; have := HX.out.2.2; omega, HX.out.2.2, ?_, HI.out.2.2.2.trans H2.out.2⟩⟩
        rw [enL_step encI HX.out.1, ← List.append_assoc]
        exact H2.out.1
    · have q1 := idx_out hk
      have HK := Lib.hid hk
      clear hk
      go_wp2_with (fail)
      go_end0
      refine ⟨rfl, ⟨?_, HI.out.2.2.2⟩⟩
      have h1 := HI.out.2.2.1
      rw [enL_all encI (Nat.le_of_not_lt HK.out), List.append_assoc, ← HC.out.2.2.2] at h1
      exact h1
end Go.Proofs.Ythpgjeiglhdciaa.SN

/- The encoder: one element's state. -/
namespace Go.Proofs.Ythpgjeiglhdciaa.SN
open Go Go.RowKit Go.Proofs Go.Proofs.Ythpgjeiglhdciaa.PL Go.Proofs.YthpgjeiglhdciaaW.PrintWords Go.Proofs.YthpgjeiglhdciaaW.PrintLast Go.Proofs.YthpgjeiglhdciaaW.PrintMore
theorem WR.drew {w : World} {b t q : Nat} {l : Bs} (h : WR w b t q l) : WR w.drew b t q l := ⟨h.1, h.2.imp fun _ hv => ⟨hv.1, Kd.R_drew hv.2⟩⟩
theorem WR.alloc {w : World} {b t q : Nat} {l : Bs} (h : WR w b t q l) (o : Obj) : WR (w.alloc o) b t q l :=
  ⟨h.1, h.2.imp fun _ hv => ⟨((below_alloc (Below.refl w.heap.size w) o).block q (Array.getElem?_eq_some_iff.1 hv.1).1).trans hv.1, Kd.R_alloc hv.2 o⟩⟩
theorem WR.lt {w : World} {b t q : Nat} {l : Bs} (h : WR w b t q l) : q < w.heap.size := by
  obtain ⟨_, v, hk, _⟩ := h
  exact (Array.getElem?_eq_some_iff.1 hk).1
theorem WB.drew {b q : Nat} {w w' : World} (h : WB b q w w') : WB b q w w'.drew := ⟨below_drew h.bl, h.kp⟩
theorem WB.alloc {b q : Nat} {w w' : World} (h : WB b q w w') (hb : b ≤ w'.heap.size) (o : Obj) : WB b q w (w'.alloc o) :=
  ⟨h.bl.alloc hb o, fun j cs u hj hu hc => ((below_alloc (Below.refl w'.heap.size w') o).block j (Array.getElem?_eq_some_iff.1 (h.kp j cs u hj hu hc)).1).trans (h.kp j cs u hj hu hc)⟩
theorem cellsAt {W : World} {g : Nat} {cs : Array Value} {t : Nat} (h : W.heap[g]? = some (.cells cs t (0, 0))) (i : Nat) : W.cell? ⟨g, i, none⟩ = cs[i]? := by simp [World.cell?, h]
/-- One element's state: what is written so far, and its own copy at block G. -/
structure ES (ws W : World) (b q G : Nat) (cs : Array Value) (T : Nat) (L : Bs) : Prop where
  wr : WR W b 86 q L
  wb : WB b q ws W
  lo : W.heap[G]? = some (.cells cs T (0, 0))
  ne : G ≠ q
  ty : T ≠ 5
theorem ES.start {ws : World} {b q : Nat} {L : Bs} (h : WR ws b 86 q L) (cs : Array Value) (T : Nat) (ht : T ≠ 5) : ES ws (ws.alloc (.cells cs T)) b q ws.heap.size cs T L := by
  have hq := h.lt
  have hb : b ≤ ws.heap.size := Nat.le_of_lt (Nat.lt_of_le_of_lt h.1 hq)
  exact ⟨h.alloc _, (WB.refl b q ws).alloc hb _, (Go.MapKept.heap_alloc ws _).1, Nat.ne_of_gt hq, ht⟩
theorem ES.next {ws W w' : World} {b q G : Nat} {cs : Array Value} {T : Nat} {L L' : Bs} (h : ES ws W b q G cs T L) (h1 : WR w' b 86 q L') (h2 : WB b q W w') : ES ws w' b q G cs T L' := ⟨h1, h.wb.trans h2, h2.kp G cs T h.ne h.ty h.lo, h.ne, h.ty⟩
theorem ES.cell {ws W : World} {b q G : Nat} {cs : Array Value} {T : Nat} {L : Bs} (h : ES ws W b q G cs T L) (i : Nat) : W.cell? ⟨G, i, none⟩ = cs[i]? := cellsAt h.lo i
theorem ES.le {ws W : World} {b q G : Nat} {cs : Array Value} {T : Nat} {L : Bs} (h : ES ws W b q G cs T L) : b ≤ W.heap.size := Nat.le_of_lt (Nat.lt_of_le_of_lt h.wr.1 h.wr.lt)
theorem ES.int {ws W : World} {b q G : Nat} {cs : Array Value} {T : Nat} {L : Bs} (h : ES ws W b q G cs T L) {n : Int} (h0 : I64 n) (hl : L.length + 20 ≤ 140737488355328) :
    Calls Try.prog 39 #[.pointer (some ⟨q, 0, none⟩), .int .i64 n] W.drew fun o w' => o = .returned (.tuple #[]) ∧ Hid (ES ws w' b q G cs T (L ++ encI n)) := by
  refine (wint_any h.wr.drew (by omega) h0.1 h0.2).mono ?_
  rintro o w' ⟨rfl, H⟩
  exact ⟨rfl, h.next H.out.1 ((WB.refl b q W).drew.trans H.out.2)⟩
theorem ES.bool {ws W : World} {b q G : Nat} {cs : Array Value} {T : Nat} {L : Bs} (h : ES ws W b q G cs T L) {z : Bool} (hl : L.length + 20 ≤ 140737488355328) :
    Calls Try.prog 42 #[.pointer (some ⟨q, 0, none⟩), .bool z] W.drew fun o w' => o = .returned (.tuple #[]) ∧ Hid (ES ws w' b q G cs T (L ++ encB z)) := by
  refine (wbool_any h.wr.drew (by omega)).mono ?_
  rintro o w' ⟨rfl, H⟩
  exact ⟨rfl, h.next H.out.1 ((WB.refl b q W).drew.trans H.out.2)⟩
theorem ES.text {ws W : World} {b q G : Nat} {cs : Array Value} {T : Nat} {L : Bs} (h : ES ws W b q G cs T L) {s : ByteArray} (hl : L.length + (encT (lst s)).length + 20 ≤ 140737488355328) :
    Calls Try.prog 41 #[.pointer (some ⟨q, 0, none⟩), .string s] W.drew fun o w' => o = .returned (.tuple #[]) ∧ Hid (ES ws w' b q G cs T (L ++ encT (lst s))) := by
  refine (wtext_any h.wr.drew (by decide) (by unfold encT at hl; rw [List.length_append, lst_len] at hl; omega)).mono ?_
  rintro o w' ⟨rfl, H⟩
  exact ⟨rfl, h.next H.out.1 ((WB.refl b q W).drew.trans H.out.2)⟩
theorem ES.count {ws W : World} {b q G : Nat} {cs : Array Value} {T : Nat} {L : Bs} (h : ES ws W b q G cs T L) {n : Nat} (h0 : n ≤ 9223372036854775807) (hl : L.length + 20 ≤ 140737488355328) :
    Calls Try.prog 40 #[.pointer (some ⟨q, 0, none⟩), .int .i64 n] W fun o w' => o = .returned (.tuple #[]) ∧ Hid (ES ws w' b q G cs T (L ++ encU n)) := by
  refine (count_any' h.wr (by omega) h0).mono ?_
  rintro o w' ⟨rfl, H⟩
  exact ⟨rfl, h.next H.out.1 H.out.2⟩
theorem i64_cons {a : Int} {l : List Int} (h : I64 a) (hl : ∀ x ∈ l, I64 x) : ∀ x ∈ a :: l, I64 x := fun x hx => by
  rcases List.mem_cons.1 hx with rfl | h1
  · exact h
  · exact hl x h1
theorem i64_nil : ∀ x ∈ ([] : List Int), I64 x := fun x hx => absurd hx List.not_mem_nil
theorem lit_reads {W : World} {g : Nat} {xs : List Int} (h : W.heap[g]? = some (.cells (xs.map (Value.int .i64)).toArray 3 (0, 0))) (hn : xs.length ≤ 9223372036854775807) : ReadsInt W .i64 (some ⟨g, 0, none⟩) xs.length xs := by
  refine ⟨rfl, hn, fun _ => ⟨_, rfl, fun j hj => ?_⟩⟩
  have e : (⟨g, 0, none⟩ : Addr).add j = ⟨g, j, none⟩ := by simp [Addr.add]; intro h; exact h.symm
  rw [e, cellsAt h j]
  simp [List.getD_eq_getElem?_getD, List.getElem?_eq_getElem hj]
theorem wints_lit {W : World} {b q g : Nat} {L : Bs} {xs : List Int} (h : WR W b 86 q L) (hg : W.heap.size = g) (hR : ∀ x ∈ xs, I64 x) (hn : xs.length ≤ 9223372036854775807) (hl : L.length + (enL encI xs).length + 20 ≤ 140737488355328) :
    Calls Try.prog 12 #[.pointer (some ⟨q, 0, none⟩), .slice (some ⟨g, 0, none⟩) xs.length xs.length] (W.alloc (.cells (xs.map (Value.int .i64)).toArray 3)) fun o w' => o = .returned (.tuple #[]) ∧ Hid (WR w' b 86 q (L ++ enL encI xs) ∧ WB b q W w') := by
  subst hg
  have hq := h.lt
  have hb : b ≤ W.heap.size := Nat.le_of_lt (Nat.lt_of_le_of_lt h.1 hq)
  have h1 := (Go.MapKept.heap_alloc W (.cells (xs.map (Value.int .i64)).toArray 3)).1
  refine (wints_any (h.alloc _) (fun W2 hW2 => lit_reads (hW2.kp _ _ _ (Nat.ne_of_gt hq) (by decide) h1) hn) hR (by omega)).mono ?_
  rintro o w' ⟨rfl, H⟩
  exact ⟨rfl, ⟨H.out.1, ((WB.refl b q W).alloc hb _).trans H.out.2⟩⟩
theorem ES.ints {ws W : World} {b q G g : Nat} {cs : Array Value} {T : Nat} {L : Bs} (h : ES ws W b q G cs T L) (hg : W.heap.size = g) (xs : List Int) (hR : ∀ x ∈ xs, I64 x) (hn : xs.length ≤ 9223372036854775807) (hl : L.length + (enL encI xs).length + 20 ≤ 140737488355328) :
    Calls Try.prog 12 #[.pointer (some ⟨q, 0, none⟩), .slice (some ⟨g, 0, none⟩) xs.length xs.length] (W.alloc (.cells (xs.map (Value.int .i64)).toArray 3)) fun o w' => o = .returned (.tuple #[]) ∧ Hid (ES ws w' b q G cs T (L ++ enL encI xs)) := by
  refine (wints_lit h.wr hg hR hn hl).mono ?_
  rintro o w' ⟨rfl, H⟩
  exact ⟨rfl, h.next H.out.1 H.out.2⟩
theorem ES.Ints {ws W : World} {b q G c : Nat} {cs : Array Value} {T : Nat} {L : Bs} (h : ES ws W b q G cs T L) {A : Option Addr} {xs : List Int} {w0 : World} (hb : b = w0.heap.size) (hB : Below w0.heap.size w0 ws) (hC : ReadsInt w0 .i64 A xs.length xs) (hR : ∀ x ∈ xs, I64 x) (hl : L.length + (encL encI xs).length + 20 ≤ 140737488355328) :
    Calls Try.prog 43 #[.pointer (some ⟨q, 0, none⟩), .slice A xs.length c] W.drew fun o w' => o = .returned (.tuple #[]) ∧ Hid (ES ws w' b q G cs T (L ++ encL encI xs)) := by
  subst hb
  refine (wInts_any h.wr.drew (fun W2 hW2 => hC.below ((hB.trans h.wb.bl).trans ((WB.refl _ q W).drew.trans hW2).bl)) hR (by omega)).mono ?_
  rintro o w' ⟨rfl, H⟩
  exact ⟨rfl, h.next H.out.1 ((WB.refl _ q W).drew.trans H.out.2)⟩
end Go.Proofs.Ythpgjeiglhdciaa.SN

/- The words for what is written. -/
namespace Go.Proofs.Ythpgjeiglhdciaa.SN
open Go Go.RowKit Go.Proofs Go.Proofs.Ythpgjeiglhdciaa.PL Go.Proofs.YthpgjeiglhdciaaW.PrintWords Go.Proofs.YthpgjeiglhdciaaW.PrintLast Go.Proofs.YthpgjeiglhdciaaW.PrintMore
/-- One of the members, as it is written. -/
def membersE (p : S68) : Bs := encI p.f0 ++ (encI p.f2 ++ (encI p.f3 ++ (encT (lst p.f1) ++ (encB p.f4))))
/-- Its numbers are of 64 bits. -/
def membersO (p : S68) : Prop := I64 p.f0 ∧ I64 p.f2 ∧ I64 p.f3
/-- Its numbers are of 64 bits. -/
def assetsO (p : S57) : Prop := I64 p.f1 ∧ I64 p.f2 ∧ I64 p.f3
/-- Its numbers are of 64 bits. -/
def pricesO (p : S70) : Prop := I64 p.f1
/-- One of the balances, as it is written. -/
def balancesE (p : S73) : Bs := encI p.f0.f0 ++ (encI p.f0.f1 ++ (encT (lst p.f0.f2) ++ (encI p.f1)))
/-- Its numbers are of 64 bits. -/
def balancesO (p : S73) : Prop := I64 p.f0.f0 ∧ I64 p.f0.f1 ∧ I64 p.f1
/-- Its numbers are of 64 bits. -/
def quotesO (p : S127) : Prop := I64 p.f0 ∧ I64 p.f1 ∧ I64 p.f2 ∧ I64 p.f3 ∧ I64 p.f4 ∧ I64 p.f5 ∧ I64 p.f6 ∧ I64 p.f7
/-- Its numbers are of 64 bits. -/
def linksO (p : S80) : Prop := I64 p.f0 ∧ I64 p.f1 ∧ I64 p.f3
/-- A basket's cut, as it is written. -/
def cutE (p : S124) : Bs := encI p.f0 ++ (encI p.f1 ++ encI p.f2)
def cutO (p : S124) : Prop := I64 p.f0 ∧ I64 p.f1 ∧ I64 p.f2
/-- One of the baskets, as it is written. -/
def basketsE (p : S63) : Bs := encI p.f0 ++ (encI p.f1 ++ (encI p.f3 ++ (encI p.f4 ++ (encI p.f5 ++ (encI p.f7 ++ (encI p.f8 ++ (encT (lst p.f2) ++ (encL cutE p.f6 ++ encL encI p.f9))))))))
def basketsO (p : S63) : Prop := (I64 p.f0 ∧ I64 p.f1 ∧ I64 p.f3 ∧ I64 p.f4 ∧ I64 p.f5 ∧ I64 p.f7 ∧ I64 p.f8) ∧ (∀ x ∈ p.f6, cutO x) ∧ (∀ x ∈ p.f9, I64 x)
/-- A trade's reset, as it is written. -/
def resetE (p : S129) : Bs := encI p.f0 ++ encI p.f1
def resetO (p : S129) : Prop := I64 p.f0 ∧ I64 p.f1
/-- One of the trades, as it is written. -/
def tradesE (p : S117) : Bs := encI p.f0 ++ (encI p.f1 ++ (encI p.f2 ++ (encI p.f3 ++ (encI p.f4 ++ (encI p.f5 ++ (encI p.f6 ++ (encI p.f7 ++ (encI p.f9 ++ (encB p.f10 ++ encL resetE p.f8)))))))))
def tradesO (p : S117) : Prop := (I64 p.f0 ∧ I64 p.f1 ∧ I64 p.f2 ∧ I64 p.f3 ∧ I64 p.f4 ∧ I64 p.f5 ∧ I64 p.f6 ∧ I64 p.f7 ∧ I64 p.f9) ∧ (∀ x ∈ p.f8, resetO x)
/-- A cover's lot, as it is written. -/
def lotE (p : S119) : Bs := encT (lst p.f0) ++ encI p.f1
def lotO (p : S119) : Prop := I64 p.f1
/-- One of the covers, as it is written. -/
def coversE (p : S77) : Bs := encI p.f0 ++ encL lotE p.f1
def coversO (p : S77) : Prop := I64 p.f0 ∧ (∀ x ∈ p.f1, lotO x)
end Go.Proofs.Ythpgjeiglhdciaa.SN
