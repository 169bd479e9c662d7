/- Part 38 of the proof's texts: what the theorem needs of them. -/
import Derived.Test.YtoknlpecbdlbfaaSCTells34
import Derived.Test.YtoknlpecbdlbfaaSCTells35
import Derived.Test.YtoknlpecbdlbfaaSCTells25
import Derived.Test.YtoknlpecbdlbfaaSCTells36
import Derived.Test.YtoknlpecbdlbfaaSCTells32

/- Custody: Lots, on both sides. -/
namespace Go.Proofs.Ytoknlpecbdlbfaa.PL
open Go Go.RowKit Go.Maps Go.Sort Go.Shelf Go.Proofs Go.Proofs.YtoknlpecbdlbfaaW.PrintWords Go.Proofs.YtoknlpecbdlbfaaW.PrintLast
/-- A book's lots. -/
def lotB (m k : Int) (b : S82) : Bool := decide (b.f0.f0 = m ∧ b.f0.f1 = k ∧ 3 < b.f0.f2.size)
def lotsL (L : List S82) (m k : Int) : List S79 := (L.filter (lotB m k)).map (fun b => ⟨b.f0.f2, b.f1⟩)
theorem lotsL_take {L : List S82} {j : Nat} (hj : j < L.length) (m k : Int) : lotsL (L.take (j + 1)) m k = if lotB m k L[j] = true then lotsL (L.take j) m k ++ [⟨L[j].f0.f2, L[j].f1⟩] else lotsL (L.take j) m k := by
  unfold lotsL
  rw [List.take_succ_eq_append_getElem hj, List.filter_append, List.map_append]
  cases h : lotB m k L[j] <;> simp [h]
theorem lotsL_len (L : List S82) (m k : Int) : (lotsL L m k).length ≤ L.length := by
  unfold lotsL
  rw [List.length_map]
  exact List.length_filter_le _ _
set_option maxRecDepth 100000 in
theorem clots_bad {w : World} {p g b : Nat} {M : List (S42 × Int)} (h : CU w p g b M) (m k : Int) (hw : wrB m k = true) :
    Calls Try.prog 51 #[.pointer (some ⟨p, 0, none⟩), .int .i64 m, .int .i64 k] w fun e w' => e = .returned (.slice none 0 0) ∧ Below w.heap.size w w' := by
  have HU := Lib.hid h
  have HW := Lib.hid (show ∀ W, Calls Try.prog 75 #[.int .i64 m, .int .i64 k] W fun e w' => e = .returned (.bool true) ∧ Below W.heap.size W w' from fun W => by rw [← hw]; exact wr_any m k W)
  clear h hw
  go_enter Try.func51, Try.ntmps51
  go_wp2_with (first
    | (go_at_call 75; refine (HW.out _).mono ?_; rintro e w2 ⟨rfl, H2⟩; replace H2 := Lib.hid H2)
    | (go_at_call 74; refine (cmade_any HU.out).mono ?_; rintro e w1 ⟨rfl, rfl⟩))
  go_ret
  exact ⟨rfl, H2.out⟩
set_option maxRecDepth 100000 in
set_option maxHeartbeats 4000000 in
theorem clots_walk {w : World} {p g b : Nat} {M : List (S42 × Int)} {l : List S82} (h : CU w p g b M) (hr : Rep M l) (hs : l.length ≤ 1000000) (m k : Int) (hw : wrB m k = false) :
    Calls Try.prog 51 #[.pointer (some ⟨p, 0, none⟩), .int .i64 m, .int .i64 k] w fun e w' => ∃ (A : Option Addr) (c : Nat), e = .returned (.slice A (lotsL l m k).length c) ∧ Hid (Kd.C k79 w' A (lotsL l m k).length (lotsL l m k) ∧ (lotsL l m k).length ≤ c ∧ Below w.heap.size w w') := by
  have HU := Lib.hid h
  have HH := Lib.hid hs
  have HS := Lib.hid (show ∀ W, Below w.heap.size w W → Calls Try.prog 23 #[.pointer (some ⟨g, 0, none⟩)] W fun o w' => ∃ (A : Option Addr) (c : Nat), o = .returned (.slice A l.length c) ∧ Hid (Kd.C k82 w' A l.length l ∧ Below W.heap.size W w' ∧ l.length ≤ c) from fun W hb => (all_gives (h.below hb).lg hr (by omega)).slice)
  have HC := Lib.hid (show ∀ W, Below w.heap.size w W → W.cell? ⟨p, 0, none⟩ = some (.pointer (some ⟨g, 0, none⟩)) from fun W hb => (h.below hb).cell)
  have HW := Lib.hid (show ∀ W, Calls Try.prog 75 #[.int .i64 m, .int .i64 k] W fun e w' => e = .returned (.bool false) ∧ Below W.heap.size W w' from fun W => by rw [← hw]; exact wr_any m k W)
  clear h hr hs hw
  go_enter Try.func51, Try.ntmps51
  go_wp2_with (first
    | (go_at_call 23; refine (HS.out _ H2.out).mono ?_; rintro e w1 ⟨A, c, rfl, H1⟩)
    | (go_at_call 75; refine (HW.out _).mono ?_; rintro e w2 ⟨rfl, H2⟩; replace H2 := Lib.hid H2; have kc := HC.out _ H2.out)
    | (go_at_call 74; refine (cmade_any HU.out).mono ?_; rintro e w3 ⟨rfl, rfl⟩))
  have HB1 := Lib.hid (H2.out.trans (H1.out.2.1.mono H2.out.size))
  go_loopg [7, 24] (l.length + 1) (fun kq v7 v24 w' => ∃ j : Nat, v24 = .int .i64 j ∧ Hid (kq + j = l.length + 1 ∧ j ≤ l.length ∧ Kd.R k79 79 w' w1.heap.size (fun _ => True) v7 (lotsL (l.take j) m k) ∧ Below w1.heap.size w1 w'))
  case atStart =>
    exact ⟨0, rfl, ⟨rfl, Nat.zero_le _, Kd.R_nil _ _ _ _ _, Below.refl _ _⟩⟩
  case round =>
    obtain ⟨j, rfl, HI⟩ := hrel
    by_cases hk : j < l.length
    · have hC : Kd.C k82 wr A l.length l := Kd.C_below H1.out.1 HI.out.2.2.2
      obtain ⟨ad, eA, x0, x1, x2, x3⟩ := at_T82 hC (j : Int) (by omega) (by omega)
      simp only [Int.toNat_natCast] at x0 x1 x2 x3
      have hstep := lotsL_take hk m k
      obtain ⟨⟨⟨a0, a1, a2⟩, n⟩, ha⟩ : ∃ a, rd_T82 l (j : Int) = a := ⟨_, rfl⟩
      rw [ha] at x0 x1 x2 x3
      have e2 : l[j] = ⟨⟨a0, a1, a2⟩, n⟩ := by
        unfold rd_T82 at ha
        simpa [List.getD, hk] using ha
      rw [e2] at hstep
      have hl64 : wrap64 ((j : Int) + 1) = ((j + 1 : Nat) : Int) := by
        have h3 := HH.out
        rw [wrap_id (by omega) (by omega)]; rfl
      obtain ⟨xs0, hxs0⟩ : ∃ s, lotsL (l.take j) m k = s := ⟨_, rfl⟩
      have hlen : xs0.length ≤ 1000000 := by
        rw [← hxs0]
        exact Nat.le_trans (lotsL_len _ _ _) (by rw [List.length_take]; have := HH.out; omega)
      have hR0 := HI.out.2.2.1
      rw [hxs0] at hstep hR0
      have hB := (Below.refl wr.heap.size wr).alloc (Nat.le_refl _) (.cells #[.int .i64 a0, .int .i64 a1, .string a2, .int .i64 n] 44)
      obtain ⟨W, hW⟩ : ∃ W, wr.alloc (.cells #[.int .i64 a0, .int .i64 a1, .string a2, .int .i64 n] 44) = W := ⟨_, rfl⟩
      rw [hW] at hB
      have k0 : W.cell? ⟨wr.heap.size, 0, none⟩ = some (.int .i64 a0) := by rw [← hW]; simp
      have k1 : W.cell? ⟨wr.heap.size, 1, none⟩ = some (.int .i64 a1) := by rw [← hW]; simp
      have k2 : W.cell? ⟨wr.heap.size, 2, none⟩ = some (.string a2) := by rw [← hW]; simp
      have k3 : W.cell? ⟨wr.heap.size, 3, none⟩ = some (.int .i64 n) := by rw [← hW]; simp
      have HR := Lib.hid (And.intro (Kd.R_below hR0 hB) (And.intro (HI.out.2.2.2.trans (hB.mono HI.out.2.2.2.size)) (And.intro (Nat.le_trans HI.out.2.2.2.size hB.size) (show (xs0.length + 1) * 24 ≤ 140737488355328 by omega))))
      have HK := Lib.hid (And.intro hk (And.intro hstep hl64))
      have p1 : (0 ≤ (j : Int)) = True := eq_true (by omega)
      have q1 : ((j : Int) < (l.length : Int)) = True := eq_true (by omega)
      subst eA
      clear ha e2 hstep hC hl64 hxs0 hlen hR0 hB hk
      by_cases c : a0 = m ∧ a1 = k ∧ 3 < a2.size
      · obtain ⟨rfl, rfl, c3⟩ := c
        have c3b : ((a2.size : Int) > 3) = True := eq_true (by omega)
        have HLB := Lib.hid (show lotB a0 a1 ⟨⟨a0, a1, a2⟩, n⟩ = true from decide_eq_true ⟨rfl, rfl, c3⟩)
        clear c3
        go_wp2_with (first
          | (at_builtin; refine Kd.R_append k79 (w0 := w1) (W := W) w1.heap.size rfl (.tmp 47) (.tmp 54) 70 79 (.agg #[(.string ⟨#[]⟩), (.int .i64 0)]) 24 rfl Try.underlying70 info79 rfl (by decide) (by decide) u7 xs0 ⟨a2, n⟩ [.string a2, .int .i64 n] (fun _ => True) (fun _ => False) rfl rfl (k79_mkM _ _ _ _) (fun _ h => h.elim) (fun _ _ => trivial) HR.out.1 HR.out.2.1 HR.out.2.2.1 HR.out.2.2.2 ?_; intro v1 w5 ho hb hg hat; have H5 := Lib.hid (And.intro ho hb); clear ho hb hg hat))
        go_roundg (l.length - j)
        case measure => have := HI.out.1; have := HK.out.1; omega
        case rel =>
          have h1 := HK.out.1
          have h2 := HI.out.1
          refine ⟨j + 1, by rw [HK.out.2.2], ⟨by omega, by omega, ?_, H5.out.2⟩⟩
          rw [HK.out.2.1, if_pos HLB.out]
          exact H5.out.1
      · have HLB := Lib.hid (show lotB m k ⟨⟨a0, a1, a2⟩, n⟩ = false from decide_eq_false c)
        by_cases c1 : a0 = m
        · have c1b : (a0 == m) = true := by simp [c1]
          by_cases c2 : a1 = k
          · have c2b : (a1 == k) = true := by simp [c2]
            have c3b : ((a2.size : Int) > 3) = False := eq_false (by omega)
            clear c c1 c2
            go_wp2
            go_roundg (l.length - j)
            case measure => have := HI.out.1; have := HK.out.1; omega
            case rel =>
              have h1 := HK.out.1
              have h2 := HI.out.1
              refine ⟨j + 1, by rw [HK.out.2.2], ⟨by omega, by omega, ?_, HR.out.2.1⟩⟩
              rw [HK.out.2.1, if_neg (by rw [HLB.out]; decide)]
              exact HR.out.1
          · have c2b : (a1 == k) = false := by simp [c2]
            clear c c1 c2
            go_wp2
            go_roundg (l.length - j)
            case measure => have := HI.out.1; have := HK.out.1; omega
            case rel =>
              have h1 := HK.out.1
              have h2 := HI.out.1
              refine ⟨j + 1, by rw [HK.out.2.2], ⟨by omega, by omega, ?_, HR.out.2.1⟩⟩
              rw [HK.out.2.1, if_neg (by rw [HLB.out]; decide)]
              exact HR.out.1
        · have c1b : (a0 == m) = false := by simp [c1]
          clear c c1
          go_wp2
          go_roundg (l.length - j)
          case measure => have := HI.out.1; have := HK.out.1; omega
          case rel =>
            have h1 := HK.out.1
            have h2 := HI.out.1
            refine ⟨j + 1, by rw [HK.out.2.2], ⟨by omega, by omega, ?_, HR.out.2.1⟩⟩
            rw [HK.out.2.1, if_neg (by rw [HLB.out]; decide)]
            exact HR.out.1
    · have q1 : ((j : Int) < (l.length : Int)) = False := eq_false (by omega)
      have hR0 := HI.out.2.2.1
      rw [List.take_of_length_le (by omega)] at hR0
      obtain ⟨A6, c6, rfl, hc6, hC6⟩ := Kd.R_reads hR0
      have H6 := Lib.hid (And.intro hC6 hc6)
      clear hk hR0 hC6 hc6
      go_wp2
      go_ret
      exact ⟨A6, c6, rfl, ⟨H6.out.1, H6.out.2, HB1.out.trans (HI.out.2.2.2.mono HB1.out.size)⟩⟩
theorem mono_le {α : Type} {f : Nat → Option α} (h : ∀ n, LeO (f n) (f (n + 1))) (n : Nat) : ∀ (d : Nat) {r : α}, f n = some r → f (n + d) = some r
  | 0, _, e => e
  | d + 1, _, e => h (n + d) _ (mono_le h n d e)
/-- The document's lots. -/
theorem rlots_off (L : List S82) (m k : Int) (hw : wrB m k = true) (out : List S79) (i : Int) : lombardref12_Lots.l0 2 L m k out i = some out := by
  unfold lombardref12_Lots.l0
  have e : (lombardref12_Lots.j1 1 L m k out i false) = some out := by
    unfold lombardref12_Lots.j1
    simp
  split
  · rw [rwr_f, hw]
    exact e
  · exact e
theorem rlots_l0 (L : List S82) (hL : L.length ≤ 1000000) (m k : Int) (hw : wrB m k = false) : ∀ (n i q : Nat) (out : List S79), q + 1 ≤ n → i + q = L.length → out.length ≤ i → lombardref12_Lots.l0 (2 * n) L m k out (i : Int) = some (out ++ lotsL (L.drop i) m k)
  | 0, _, _, _, hn, _, _ => by omega
  | n + 1, i, 0, out, hn, hi, ho => by
    rw [show 2 * (n + 1) = (2 * n + 1) + 1 by omega]
    unfold lombardref12_Lots.l0
    rw [if_neg (by omega)]
    unfold lombardref12_Lots.j1
    rw [if_neg (by decide), List.drop_eq_nil_of_le (by omega)]
    simp [lotsL]
  | n + 1, i, q + 1, out, hn, hi, ho => by
    have hw1 : wrap64 ((i : Int) + 1) = ((i + 1 : Nat) : Int) := by
      rw [wrap_id (by omega) (by omega)]; rfl
    have hil : i < L.length := by omega
    have e1 : rd_T82 L (i : Int) = L[i] := by
      unfold rd_T82
      simp [List.getD, hil]
    have hd : lotsL (L.drop i) m k = (if lotB m k L[i] = true then [⟨L[i].f0.f2, L[i].f1⟩] else []) ++ lotsL (L.drop (i + 1)) m k := by
      unfold lotsL
      rw [List.drop_eq_getElem_cons hil, List.filter_cons]
      by_cases h : lotB m k L[i] = true
      · rw [if_pos h, if_pos h]; rfl
      · rw [if_neg h, if_neg h]; rfl
    have hyes : lombardref12_Lots.l0 (2 * n) L m k (out ++ [⟨L[i].f0.f2, L[i].f1⟩]) ((i + 1 : Nat) : Int) = some ((out ++ [⟨L[i].f0.f2, L[i].f1⟩]) ++ lotsL (L.drop (i + 1)) m k) := rlots_l0 L hL m k hw n (i + 1) q _ (by omega) (by omega) (by simp; omega)
    have hno : lombardref12_Lots.l0 (2 * n) L m k out ((i + 1 : Nat) : Int) = some (out ++ lotsL (L.drop (i + 1)) m k) := rlots_l0 L hL m k hw n (i + 1) q _ (by omega) (by omega) (by omega)
    rw [show 2 * (n + 1) = (2 * n + 1) + 1 by omega]
    unfold lombardref12_Lots.l0
    rw [if_pos (by omega), rwr_f, hw]
    show lombardref12_Lots.j1 (2 * n + 1) L m k out (i : Int) (!false) = _
    unfold lombardref12_Lots.j1
    rw [if_pos (by decide), if_pos (by omega), if_pos (by omega), e1, hw1, hd]
    by_cases c : L[i].f0.f0 = m ∧ L[i].f0.f1 = k ∧ 3 < L[i].f0.f2.size
    · have hl : lotB m k L[i] = true := decide_eq_true c
      rw [if_pos c.1, if_pos c.2.1, if_pos (by have := c.2.2; omega), if_pos (by omega), if_pos hl, hyes, List.append_assoc]
    · have hl : lotB m k L[i] = false := decide_eq_false c
      rw [hl]
      simp only [Bool.false_eq_true, if_false, List.nil_append]
      by_cases c1 : L[i].f0.f0 = m
      · rw [if_pos c1]
        by_cases c2 : L[i].f0.f1 = k
        · rw [if_pos c2, if_neg (by have : ¬ 3 < L[i].f0.f2.size := fun h => c ⟨c1, c2, h⟩; omega)]
          exact hno
        · rw [if_neg c2]
          exact hno
      · rw [if_neg c1]
        exact hno
/-- What a book's lots are. -/
def lotsA (L : List S82) (m k : Int) : List S79 := if wrB m k = true then [] else lotsL L m k
theorem rlots_f (L : List S82) (hL : L.length ≤ 1000000) (m k : Int) : lombardref12_Lots.f (2 * (L.length + 1)) L m k = some (lotsA L m k) := by
  unfold lombardref12_Lots.f lotsA
  by_cases hw : wrB m k = true
  · rw [if_pos hw]
    have h2 := rlots_off L m k hw [] 0
    rw [show 2 * (L.length + 1) = 2 + 2 * L.length by omega]
    exact mono_le (fun n => (lombardref12_Lots.mono_l n).1 _ _ _ _ _) 2 (2 * L.length) h2
  · have hw' : wrB m k = false := by simpa using hw
    rw [if_neg hw]
    have := rlots_l0 L hL m k hw' (L.length + 1) 0 L.length [] (by omega) (by omega) (by simp)
    simpa using this
theorem lotsA_len (L : List S82) (m k : Int) : (lotsA L m k).length ≤ L.length := by
  unfold lotsA
  split
  · simp
  · exact lotsL_len _ _ _
theorem lsame_l0 (L : List S79) (hL : L.length ≤ 1000000) : ∀ (k i m : Nat), m + 1 ≤ k → i + m = L.length → lombardref10_Lots.l0 k L L (i : Int) = some true
  | 0, _, _, hk, _ => by omega
  | k + 1, i, 0, hk, hi => by
    unfold lombardref10_Lots.l0
    rw [if_neg (by omega)]
  | k + 1, i, m + 1, hk, hi => by
    have hw : wrap64 ((i : Int) + 1) = ((i + 1 : Nat) : Int) := by
      rw [wrap_id (by omega) (by omega)]; rfl
    unfold lombardref10_Lots.l0
    rw [if_pos (by omega), if_pos (by omega), if_pos (by omega), if_neg (by simp), hw]
    exact lsame_l0 L hL k (i + 1) m (by omega) (by omega)
theorem lsame_f (L : List S79) (hL : L.length ≤ 1000000) : lombardref10_Lots.f (L.length + 1) L L = some true := by
  unfold lombardref10_Lots.f
  rw [if_pos rfl]
  exact lsame_l0 L hL _ 0 L.length (by omega) (by omega)
/-! The contracts, as the law wants them. -/
theorem clots_any {w : World} {p g b : Nat} {M : List (S42 × Int)} {l : List S82} (h : CU w p g b M) (hr : Rep M l) (hs : l.length ≤ 1000000) (m k : Int) :
    Calls Try.prog 51 #[.pointer (some ⟨p, 0, none⟩), .int .i64 m, .int .i64 k] w fun e w' => ∃ (A : Option Addr) (c : Nat), e = .returned (.slice A (lotsA l m k).length c) ∧ Hid (Kd.C k79 w' A (lotsA l m k).length (lotsA l m k) ∧ (lotsA l m k).length ≤ c ∧ Below w.heap.size w w') := by
  cases hw : wrB m k with
  | true =>
    have e : lotsA l m k = [] := if_pos hw
    rw [e]
    exact (clots_bad h m k hw).mono (fun e w' ⟨h1, h2⟩ => ⟨none, 0, h1, ⟨⟨rfl, by simp, fun h => absurd h (by simp)⟩, Nat.le_refl _, h2⟩⟩)
  | false =>
    have e : lotsA l m k = lotsL l m k := if_neg (by rw [hw]; decide)
    rw [e]
    exact clots_walk h hr hs m k hw
theorem rlots_any {w : World} {A : Option Addr} {c : Nat} {L : List S82} (hC : Kd.C k82 w A L.length L) (hc : L.length ≤ c) (hL : L.length ≤ 1000000) (m k : Int) :
    Calls Try.prog 52 #[.slice A L.length c, .int .i64 m, .int .i64 k] w fun e w' => ∃ (A' : Option Addr) (c' : Nat), e = .returned (.slice A' (lotsA L m k).length c') ∧ Hid (Kd.C k79 w' A' (lotsA L m k).length (lotsA L m k) ∧ (lotsA L m k).length ≤ c' ∧ Below w.heap.size w w') := by
  refine (lombardref12_Lots.calls _ A c L m k _ w hC hc (rlots_f L hL m k)).mono ?_
  rintro e w' ⟨v, rfl, h1, h2⟩
  obtain ⟨A', c', rfl, h3, h4⟩ := Kd.R_reads h1
  exact ⟨A', c', rfl, ⟨h4, h3, h2⟩⟩
theorem lsame_any (A1 A2 : Option Addr) (c1 c2 : Nat) (L : List S79) (w : World) (h1 : Kd.C k79 w A1 L.length L) (h2 : L.length ≤ c1) (h3 : Kd.C k79 w A2 L.length L) (h4 : L.length ≤ c2) (hL : L.length ≤ 1000000) :
    Calls Try.prog 50 #[.slice A1 L.length c1, .slice A2 L.length c2] w fun e w' => e = .returned (.bool true) ∧ Below w.heap.size w w' :=
  (lombardref10_Lots.calls _ A1 c1 L A2 c2 L true w h1 h2 h3 h4 (lsame_f L hL)).mono (fun _ _ h => ⟨h.1, h.2.below⟩)
end Go.Proofs.Ytoknlpecbdlbfaa.PL

/- What all members have together: plain. -/
namespace Go.Proofs.Ytoknlpecbdlbfaa.PL
open Go Go.RowKit Go.Maps Go.Sort Go.Shelf Go.Proofs Go.Proofs.YtoknlpecbdlbfaaW.PrintWords Go.Proofs.YtoknlpecbdlbfaaW.PrintLast
theorem wrap64_twice (a : Int) : wrap64 (wrap64 a) = wrap64 a := by
  have := wrap64_add a 0
  rwa [Int.add_zero, Int.add_zero] at this
/-- What the world has. -/
theorem heldL_zero (t : ByteArray) : ∀ (L : List S82) (n : Int), Up L → (∀ x ∈ L, okAc (to42 x.f0)) → wrap64 n = n → L.foldl (fun n b => if b.f0.f0 = 0 ∧ b.f0.f2.toList = t.toList then wrap64 (n + b.f1) else n) n = wrap64 (n + gL L ⟨0, 0, t⟩)
  | [], n, _, _, hw => by
    rw [gL_nil, Int.add_zero]
    exact hw.symm
  | b :: r, n, hu, hk, hw => by
    have hu' := List.pairwise_cons.1 hu
    rw [List.foldl_cons, gL_cons]
    by_cases e : b.f0.f0 = 0 ∧ b.f0.f2.toList = t.toList
    · have hb := hk b List.mem_cons_self
      have e1 : to42 b.f0 = ⟨0, 0, t⟩ := by
        rcases hb with ⟨h1, h2⟩ | ⟨h1, _⟩
        · have h3 := (toList_iff _ _).1 e.2
          unfold to42 at h1 h2 ⊢
          simp only at h1 h2
          rw [h1, h2, h3]
        · exact absurd e.1 (by unfold to42 at h1; simp only at h1; omega)
      rw [if_pos e, if_pos e1]
      have h0 : gL r ⟨0, 0, t⟩ = 0 := by
        refine gL_none fun hm => ?_
        obtain ⟨x, hx, hxe⟩ := List.mem_map.1 hm
        have h2 := hu'.1 x hx
        rw [e1, ← hxe] at h2
        exact Bef.irrefl _ h2
      rw [heldL_zero t r _ hu'.2 (fun x hx => hk x (List.mem_cons_of_mem _ hx)) (wrap64_twice _), h0, Int.add_zero]
      exact wrap64_twice _
    · rw [if_neg e, if_neg (fun e1 => e ⟨congrArg S42.f0 e1, by
        have : b.f0.f2 = t := congrArg S42.f2 e1
        rw [this]⟩)]
      exact heldL_zero t r n hu'.2 (fun x hx => hk x (List.mem_cons_of_mem _ hx)) hw
theorem held_world {M : List (S42 × Int)} {L : List S82} (h : Iv M L) (t : ByteArray) : heldL L 0 t = getM M ⟨0, 0, t⟩ := by
  have hk : ∀ x ∈ L, okAc (to42 x.f0) := fun x hx => h.bk _ (by
    rw [h.st.rep.same, gL_mem h.st.rep.up hx]
    exact h.st.rep.nz x hx)
  have e := heldL_zero t L 0 h.st.rep.up hk (wrap_id (by decide) (by decide))
  have hb := h.st.bm ⟨0, 0, t⟩
  rw [Int.zero_add, ← h.st.rep.same, wrap_id (by omega) (by omega)] at e
  exact e
end Go.Proofs.Ytoknlpecbdlbfaa.PL

-- LedgerNobody, walked.
namespace Go.Proofs.Ytoknlpecbdlbfaa.PL
open Go Go.RowKit Go.Maps Go.Sort Go.Shelf Go.Proofs Go.Proofs.YtoknlpecbdlbfaaW.PrintWords Go.Proofs.YtoknlpecbdlbfaaW.PrintLast
theorem NoLG.below {w w' : World} {p : Value} (h : NoLG w p) (hb : Below w.heap.size w w') : NoLG w' p := by
  rcases h with rfl | ⟨g, rfl, hc⟩
  · exact .inl rfl
  · exact .inr ⟨g, rfl, cell_keep hb hc⟩
theorem of_any (a0 a1 : Int) (a2 : ByteArray) (w : World) : Calls Try.prog 26 #[.agg #[.int .i64 a0, .int .i64 a1, .string a2]] w fun e w' => e = .returned (.agg #[.int .i64 a0, .int .i64 a1, .string a2]) ∧ Below w.heap.size w w' :=
  lombardlaw11_of.calls a0 a1 a2 a0 a1 a2 w rfl
/-- a's own cells, at the block k. -/
def A3 (a0 a1 : Int) (a2 : ByteArray) (k : Nat) (W : World) : Prop := W.cell? ⟨k, 0, none⟩ = some (.int .i64 a0) ∧ W.cell? ⟨k, 1, none⟩ = some (.int .i64 a1) ∧ W.cell? ⟨k, 2, none⟩ = some (.string a2)
theorem A3.below {a0 a1 : Int} {a2 : ByteArray} {k : Nat} {w w' : World} (h : A3 a0 a1 a2 k w) (hb : Below w.heap.size w w') : A3 a0 a1 a2 k w' := ⟨cell_keep hb h.1, cell_keep hb h.2.1, cell_keep hb h.2.2⟩
theorem cell_at {W : World} {k : Nat} {cs : Array Value} {t : TypeId} {f : Nat × Nat} (h : W.heap[k]? = some (.cells cs t f)) (i : Nat) : W.cell? ⟨k, i, none⟩ = cs[i]? := by
  unfold World.cell?
  rw [h]
  rfl
/-- What the walk of LedgerNobody has laid. -/
structure NS (w : World) (a0 a1 : Int) (a2 : ByteArray) (p : Value) (W : World) : Prop where
  a3 : A3 a0 a1 a2 w.heap.size W
  c0 : W.cell? ⟨w.heap.size + 1, 0, none⟩ = some (.map none)
  c1 : W.cell? ⟨w.heap.size + 1 + 1, 0, none⟩ = some (.pointer none)
  c2 : W.cell? ⟨w.heap.size + 1 + 1, 1, none⟩ = some (.pointer (some ⟨w.heap.size + 1, 0, none⟩))
  no : NoLG W p
  bl : Below w.heap.size w W
theorem NS.below {w : World} {a0 a1 : Int} {a2 : ByteArray} {p : Value} {W W' : World} (h : NS w a0 a1 a2 p W) (hb : Below W.heap.size W W') : NS w a0 a1 a2 p W' :=
  ⟨h.a3.below hb, cell_keep hb h.c0, cell_keep hb h.c1, cell_keep hb h.c2, h.no.below hb, h.bl.trans (hb.mono h.bl.size)⟩
theorem NS.new {w : World} {a0 a1 : Int} {a2 : ByteArray} : NS w a0 a1 a2 (.pointer none) (((w.alloc (.cells #[.int .i64 a0, .int .i64 a1, .string a2] 45)).alloc (.cells #[.map none] 62)).alloc (.cells #[.pointer none, .pointer (some ⟨w.heap.size + 1, 0, none⟩)] 25)) := by
  have e1 : (w.alloc (.cells #[.int .i64 a0, .int .i64 a1, .string a2] 45)).heap.size = w.heap.size + 1 := by simp
  have e2 : ((w.alloc (.cells #[.int .i64 a0, .int .i64 a1, .string a2] 45)).alloc (.cells #[.map none] 62)).heap.size = w.heap.size + 1 + 1 := by simp
  have hA := (Go.MapKept.heap_alloc w (.cells #[.int .i64 a0, .int .i64 a1, .string a2] 45)).1
  have hB := (Go.MapKept.heap_alloc (w.alloc (.cells #[.int .i64 a0, .int .i64 a1, .string a2] 45)) (.cells #[.map none] 62))
  have hC := (Go.MapKept.heap_alloc ((w.alloc (.cells #[.int .i64 a0, .int .i64 a1, .string a2] 45)).alloc (.cells #[.map none] 62)) (.cells #[.pointer none, .pointer (some ⟨w.heap.size + 1, 0, none⟩)] 25))
  have hb : Below w.heap.size w (((w.alloc (.cells #[.int .i64 a0, .int .i64 a1, .string a2] 45)).alloc (.cells #[.map none] 62)).alloc (.cells #[.pointer none, .pointer (some ⟨w.heap.size + 1, 0, none⟩)] 25)) := (((Below.refl _ _).alloc (Nat.le_refl _) _).alloc (by simp) _).alloc (by simp; omega) _
  rw [e1] at hB
  rw [e2] at hC
  have h1 := (hC.2 w.heap.size (by omega)).trans ((hB.2 w.heap.size (by omega)).trans hA)
  have h2 := (hC.2 (w.heap.size + 1) (by omega)).trans hB.1
  have h3 := hC.1
  clear hA hB hC e1 e2
  generalize (((w.alloc (.cells #[.int .i64 a0, .int .i64 a1, .string a2] 45)).alloc (.cells #[.map none] 62)).alloc (.cells #[.pointer none, .pointer (some ⟨w.heap.size + 1, 0, none⟩)] 25)) = W at h1 h2 h3 hb ⊢
  exact ⟨⟨cell_at h1 0, cell_at h1 1, cell_at h1 2⟩, cell_at h2 0, cell_at h3 0, cell_at h3 1, .inl rfl, hb⟩
theorem NS.at {w : World} {a0 a1 : Int} {a2 : ByteArray} {W : World} (h : NS w a0 a1 a2 (.pointer none) W) {k : Nat} (hk : k < 2) : ∃ p, W.cell? ⟨w.heap.size + 1 + 1, k, none⟩ = some p ∧ NS w a0 a1 a2 p W := by
  have h2 : k = 0 ∨ k = 1 := by omega
  rcases h2 with rfl | rfl
  · exact ⟨_, h.c1, h⟩
  · exact ⟨_, h.c2, h.a3, h.c0, h.c1, h.c2, .inr ⟨_, rfl, h.c0⟩, h.bl⟩
end Go.Proofs.Ytoknlpecbdlbfaa.PL

-- LedgerTells, walked.
namespace Go.Proofs.Ytoknlpecbdlbfaa.PL
open Go Go.RowKit Go.Maps Go.Sort Go.Shelf Go.Proofs Go.Proofs.YtoknlpecbdlbfaaW.PrintWords Go.Proofs.YtoknlpecbdlbfaaW.PrintLast
theorem A3.grown {a0 a1 : Int} {a2 : ByteArray} {k b : Nat} {w w' : World} (h : A3 a0 a1 a2 k w) (hg : w.grownBy w' (some b)) (hk : k ≠ b) : A3 a0 a1 a2 k w' := by
  have e : ∀ {i : Nat} {v : Value}, w.cell? ⟨k, i, none⟩ = some v → w'.cell? ⟨k, i, none⟩ = some v := fun hc => (World.cell?_of_block (hg.block _ (World.block_lt_of_cell? w _ hc) (by simpa using hk))).trans hc
  exact ⟨e h.1, e h.2.1, e h.2.2⟩
/-- What stands behind the posts of LedgerTells. -/
structure TS (w : World) (g b : Nat) (L : List S82) (A : Option Addr) (c : Nat) (M : List (S42 × Int)) (a0 a1 : Int) (a2 : ByteArray) (W : World) : Prop where
  lg : LG W g b M
  rep : Rep M L
  hC : Kd.C k82 W A L.length L
  hc : L.length ≤ c
  len : L.length ≤ 1000000
  a3 : A3 a0 a1 a2 w.heap.size W
  below : Below w.heap.size w W
theorem TS.step {w : World} {g b : Nat} {L : List S82} {A : Option Addr} {c : Nat} {M : List (S42 × Int)} {a0 a1 : Int} {a2 : ByteArray} {W W' : World} (h : TS w g b L A c M a0 a1 a2 W) (hb : Below W.heap.size W W') : TS w g b L A c M a0 a1 a2 W' :=
  ⟨h.lg.below hb, h.rep, Kd.C_below h.hC hb, h.hc, h.len, h.a3.below hb, h.below.trans (hb.mono h.below.size)⟩
section
variable {w : World} {g b : Nat} {L : List S82} {A : Option Addr} {c : Nat} {M : List (S42 × Int)} {a0 a1 : Int} {a2 : ByteArray} {W : World} (h : TS w g b L A c M a0 a1 a2 W)
include h
theorem TS.of : Calls Try.prog 26 #[.agg #[.int .i64 a0, .int .i64 a1, .string a2]] W fun e w' => e = .returned (.agg #[.int .i64 a0, .int .i64 a1, .string a2]) ∧ TS w g b L A c M a0 a1 a2 w' ∧ A3 a0 a1 a2 w.heap.size w' :=
  (of_any a0 a1 a2 W).mono (fun _ _ ⟨e, hb⟩ => ⟨e, h.step hb, (h.step hb).a3⟩)
theorem TS.get : Calls Try.prog 27 #[.slice A L.length c, .agg #[.int .i64 a0, .int .i64 a1, .string a2]] W fun e w' => e = .returned (.int .i64 (getL L a0 a1 a2)) ∧ TS w g b L A c M a0 a1 a2 w' ∧ A3 a0 a1 a2 w.heap.size w' :=
  (get_any (by have := h.len; omega) h.hC h.hc ⟨a0, a1, a2⟩).mono (fun _ _ ⟨e, hb⟩ => ⟨e, h.step hb, (h.step hb).a3⟩)
theorem TS.held (o : Int) (t : ByteArray) : Calls Try.prog 28 #[.pointer (some ⟨g, 0, none⟩), .int .i64 o, .string t] W fun e w' => e = .returned (.int .i64 (heldL L o t)) ∧ TS w g b L A c M a0 a1 a2 w' ∧ A3 a0 a1 a2 w.heap.size w' :=
  (held_walk _ W L o t (all_gives h.lg h.rep (by have := h.len; omega)) (by have := h.len; omega)).mono (fun _ _ ⟨e, hb⟩ => ⟨e, h.step hb, (h.step hb).a3⟩)
theorem TS.out (t : ByteArray) : Calls Try.prog 30 #[.pointer (some ⟨g, 0, none⟩), .string t] W fun e w' => e = .returned (.int .i64 (wrap64 (0 - heldL L 0 t))) ∧ TS w g b L A c M a0 a1 a2 w' ∧ A3 a0 a1 a2 w.heap.size w' :=
  (out_walk _ W L t (all_gives h.lg h.rep (by have := h.len; omega)) (by have := h.len; omega)).mono (fun _ _ ⟨e, hb⟩ => ⟨by rw [Int.zero_sub]; exact e, h.step hb, (h.step hb).a3⟩)
theorem TS.things : Calls Try.prog 32 #[.pointer (some ⟨g, 0, none⟩)] W fun e w' => ∃ (A2 : Option Addr) (c2 : Nat), e = .returned (.slice A2 (compB (thingsOf L)).length c2) ∧ Hid (TS w g b L A c M a0 a1 a2 w' ∧ Kd.C Kd.string w' A2 (compB (thingsOf L)).length (compB (thingsOf L)) ∧ (compB (thingsOf L)).length ≤ c2) ∧ A3 a0 a1 a2 w.heap.size w' := by
  refine (things_walk _ W L (all_gives h.lg h.rep (by have := h.len; omega)) (by have := h.len; omega)).mono ?_
  rintro e w' ⟨v, rfl, h1, hb⟩
  obtain ⟨A2, c2, rfl, h3, h4⟩ := Kd.R_reads h1
  exact ⟨A2, c2, rfl, ⟨h.step hb, h4, h3⟩, (h.step hb).a3⟩
theorem TS.awake : Calls Try.prog 16 #[] W fun e w' => e = .returned (.bool true) ∧ TS w g b L A c M a0 a1 a2 w' ∧ A3 a0 a1 a2 w.heap.size w' :=
  (awake_walk W).mono (fun _ _ ⟨e, hb⟩ => ⟨e, h.step hb, (h.step hb).a3⟩)
end
end Go.Proofs.Ytoknlpecbdlbfaa.PL
