/- Part 41 of the proof's texts: what the theorem needs of them. -/
import Derived.Test.YthpgjeiglhdciaaSB40

set_option linter.unusedVariables false
set_option linter.unusedSimpArgs false
/- The statement's guard (function 5), and what holds where it says yes. (printed by gen_short5.py) -/
namespace Go.Proofs.Ythpgjeiglhdciaa.SN
open Go Go.RowKit Go.Proofs Go.Proofs.Ythpgjeiglhdciaa.PL Go.Proofs.YthpgjeiglhdciaaW.PrintWords Go.Proofs.YthpgjeiglhdciaaW.PrintLast Go.Proofs.YthpgjeiglhdciaaW.PrintMore
/-- A block stands. -/
structure PB (w W : World) (P t : Nat) (ps : Array Value) : Prop where
  p : W.heap[P]? = some (.cells ps t (0, 0))
  b : Below w.heap.size w W
theorem PB.up {w W W' : World} {P t : Nat} {ps : Array Value} (h : PB w W P t ps) (hb : Below W.heap.size W W') : PB w W' P t ps :=
  ⟨(hb.block P (Array.getElem?_eq_some_iff.1 h.p).1).trans h.p, h.b.trans (hb.mono h.b.size)⟩
theorem PB.start (w : World) (ps : Array Value) (t : Nat) : PB w (w.alloc (.cells ps t)) w.heap.size t ps :=
  ⟨(Go.MapKept.heap_alloc w _).1, below_alloc (Below.refl _ _) _⟩
theorem PB.new {w W : World} (hb : Below w.heap.size w W) (ps : Array Value) (t : Nat) : PB w (W.alloc (.cells ps t)) W.heap.size t ps :=
  ⟨(Go.MapKept.heap_alloc W _).1, hb.trans ((below_alloc (Below.refl _ _) _).mono hb.size)⟩
/-- It answers yes or no; and where it says yes, Q holds. -/
def Says (Q : Prop) (w w' : World) (o : Ending) : Prop := ∃ r : Bool, o = .returned (.bool r) ∧ (r = true → Q) ∧ Below w.heap.size w w'
/-- It answers; and where it says yes, P holds. -/
def Ans (o : Option Bool) (P : Prop) : Prop := ∃ r, o = some r ∧ (r = true → P)
theorem Ans.no {P : Prop} : Ans (some false) P := ⟨false, rfl, fun h => by cases h⟩
theorem Ans.yes {P : Prop} (h : P) : Ans (some true) P := ⟨true, rfl, fun _ => h⟩
theorem Ans.imp {o : Option Bool} {P Q : Prop} (h : Ans o P) (hp : P → Q) : Ans o Q := by
  obtain ⟨r, h1, h2⟩ := h
  exact ⟨r, h1, fun hr => hp (h2 hr)⟩
theorem up_one {Q : Nat → Prop} {i n : Nat} (h0 : Q i) (h : ∀ j, i + 1 ≤ j → j < n → Q j) : ∀ j, i ≤ j → j < n → Q j := fun j h1 h2 => by
  by_cases hj : j = i
  · subst hj; exact h0
  · exact h j (by omega) h2
theorem ans_l3 (l : List S79) (hl : l.length ≤ 9000) : ∀ (k i : Nat), i ≤ l.length → l.length < i + k → Ans (lombardlaw32_tails.l3 k l (i : Int)) (∀ j, i ≤ j → j < l.length → (rd_T79 l (j : Int)).f2.size ≤ 160)
  | 0, i, h1, h2 => absurd h2 (by omega)
  | k + 1, i, h1, h2 => by
    unfold lombardlaw32_tails.l3
    by_cases hi : i < l.length
    · rw [if_pos (by omega), if_pos (by omega)]
      by_cases hs : ((rd_T79 l (i : Int)).f2.size : Int) > 160
      · rw [if_pos hs]; exact Ans.no
      · rw [if_neg hs, idx_next hi (by omega)]
        exact (ans_l3 l hl k (i + 1) (by omega) (by omega)).imp (up_one (by omega))
    · rw [if_neg (by omega)]
      exact Ans.yes (fun j h3 h4 => absurd h4 (by omega))
section
variable (d nx : Int) (ms : List S55) (ks : List S59) (bs : List S63) (ls : List S67) (qs : List S127) (ts : List S117) (cs : List S76) (ns us : List S79)
/-- The covers' lots, from one on; and the links' texts. -/
def T1 (i : Nat) : Prop := (∀ j, i ≤ j → j < cs.length → (rd_T76 cs (j : Int)).f1.length ≤ 80 ∧ ∀ t, 0 ≤ t → t < (rd_T76 cs (j : Int)).f1.length → (rd_T119 (rd_T76 cs (j : Int)).f1 (t : Int)).f0.size ≤ 160) ∧ ∀ j, 0 ≤ j → j < (ns ++ us).length → (rd_T79 (ns ++ us) (j : Int)).f2.size ≤ 160
def T2 (i j : Nat) : Prop := (∀ t, j ≤ t → t < (rd_T76 cs (i : Int)).f1.length → (rd_T119 (rd_T76 cs (i : Int)).f1 (t : Int)).f0.size ≤ 160) ∧ T1 cs ns us (i + 1)
theorem ans_l12 (hc : cs.length ≤ 100) (hn : ns.length ≤ 100) (hu : us.length ≤ 100) : ∀ k : Nat, (∀ i, i ≤ cs.length → (cs.length - i) * 82 + 210 < k → Ans (lombardlaw32_tails.l1 k (i : Int) d ms ks bs ls qs ts nx cs ns us) (T1 cs ns us i)) ∧ (∀ i j, i < cs.length → (rd_T76 cs (i : Int)).f1.length ≤ 80 → j ≤ (rd_T76 cs (i : Int)).f1.length → ((rd_T76 cs (i : Int)).f1.length - j) + (cs.length - i - 1) * 82 + 211 < k → Ans (lombardlaw32_tails.l2 k (i : Int) (j : Int) d ms ks bs ls qs ts nx cs ns us) (T2 cs ns us i j))
  | 0 => ⟨fun i _ h => absurd h (by omega), fun i j _ _ _ h => absurd h (by omega)⟩
  | k + 1 => by
    obtain ⟨ih1, ih2⟩ := ans_l12 hc hn hu k
    constructor
    · intro i h1 h2
      unfold lombardlaw32_tails.l1
      by_cases hi : i < cs.length
      · rw [if_pos (by omega), if_pos (by omega)]
        by_cases hs : ((rd_T76 cs (i : Int)).f1.length : Int) > 80
        · rw [if_pos hs]; exact Ans.no
        · rw [if_neg hs]
          refine (ih2 i 0 hi (by omega) (by omega) (by omega)).imp fun h => ⟨up_one ⟨by omega, h.1⟩ h.2.1, h.2.2⟩
      · rw [if_neg (by omega), Option.bind_some, List.nil_append, if_pos (by show 0 + ns.length < _; omega), Option.bind_some, if_pos (by omega)]
        exact (ans_l3 (ns ++ us) (by rw [List.length_append]; omega) k 0 (by omega) (by rw [List.length_append]; omega)).imp fun h => ⟨fun j h3 h4 => absurd h4 (by omega), h⟩
    · intro i j hi hl h1 h2
      unfold lombardlaw32_tails.l2
      rw [if_pos (by omega), if_pos (by omega)]
      by_cases hj : j < (rd_T76 cs (i : Int)).f1.length
      · rw [if_pos (by omega), if_pos (by omega)]
        by_cases hs : ((rd_T119 (rd_T76 cs (i : Int)).f1 (j : Int)).f0.size : Int) > 160
        · rw [if_pos hs]; exact Ans.no
        · rw [if_neg hs, idx_next hj (by omega)]
          exact (ih2 i (j + 1) hi hl (by omega) (by omega)).imp fun h => ⟨up_one (by omega) h.1, h.2⟩
      · rw [if_neg (by omega), idx_next hi (by omega)]
        exact (ih1 (i + 1) (by omega) (by omega)).imp fun h => ⟨fun t h3 h4 => absurd h4 (by omega), h⟩
theorem ans_t0 (hh : ts.length ≤ 100) (hnx : ∀ k : Nat, 8500 < k → Ans (lombardlaw32_tails.l1 k 0 d ms ks bs ls qs ts nx cs ns us) (T1 cs ns us 0)) : ∀ (k i : Nat), i ≤ ts.length → (ts.length - i) + 8501 < k → Ans (lombardlaw32_tails.l0 k (i : Int) d ms ks bs ls qs ts nx cs ns us) ((∀ j, i ≤ j → j < ts.length → (rd_T117 ts (j : Int)).f8.length ≤ 80) ∧ T1 cs ns us 0)
  | 0, i, h1, h2 => absurd h2 (by omega)
  | k + 1, i, h1, h2 => by
    unfold lombardlaw32_tails.l0
    by_cases hi : i < ts.length
    · rw [if_pos (by omega), if_pos (by omega)]
      by_cases hs0 : ((rd_T117 ts (i : Int)).f8.length : Int) > 80
      · rw [if_pos hs0]; exact Ans.no
      rw [if_neg hs0]
      rw [idx_next hi (by omega)]
      exact (ans_t0 hh hnx k (i + 1) (by omega) (by omega)).imp fun h => ⟨up_one (by omega) h.1, h.2⟩
    · rw [if_neg (by omega)]
      exact (hnx k (by omega)).imp fun h => ⟨fun j h3 h4 => absurd h4 (by omega), h⟩
end
/-- What the guard asks. -/
def ShortQ (V : VR) : Prop := (V.members.length ≤ 60 ∧ V.known.length ≤ 60 ∧ V.baskets.length ≤ 60 ∧ V.balances.length ≤ 100 ∧ V.quotes.length ≤ 80 ∧ V.trades.length ≤ 80 ∧ V.covers.length ≤ 40 ∧ V.inn.length ≤ 60 ∧ V.outs.length ≤ 60) ∧ (∀ j : Nat, 0 ≤ j → j < V.members.length → (rd_T55 V.members (j : Int)).f1.size ≤ 160) ∧ (∀ j : Nat, 0 ≤ j → j < V.known.length → (rd_T59 V.known (j : Int)).f0.f0.size ≤ 160 ∧ (rd_T59 V.known (j : Int)).f0.f4.size ≤ 160) ∧ (∀ j : Nat, 0 ≤ j → j < V.baskets.length → (rd_T63 V.baskets (j : Int)).f2.size ≤ 160 ∧ (rd_T63 V.baskets (j : Int)).f6.length ≤ 80 ∧ (rd_T63 V.baskets (j : Int)).f9.length ≤ 80) ∧ (∀ j : Nat, 0 ≤ j → j < V.balances.length → (rd_T67 V.balances (j : Int)).f0.f2.size ≤ 160) ∧ ((∀ j, 0 ≤ j → j < V.trades.length → (rd_T117 V.trades (j : Int)).f8.length ≤ 80) ∧ T1 V.covers V.inn V.outs 0)
set_option maxRecDepth 100000 in
set_option maxHeartbeats 8000000 in
theorem short_any {w : World} {V : VR} {A1 A2 A3 A4 A5 A6 A8 A9 A10 : Option Addr} {c1 c2 c3 c4 c5 c6 c8 c9 c10 : Nat} (hL : RL w V A1 A2 A3 A4 A5 A6 A8 A9 A10) (hC : RC V c1 c2 c3 c4 c5 c6 c8 c9 c10) :
    Calls Try.prog 5 #[.agg #[.int .i64 V.day, .slice A1 V.members.length c1, .slice A2 V.known.length c2, .slice A3 V.baskets.length c3, .slice A4 V.balances.length c4, .slice A5 V.quotes.length c5, .slice A6 V.trades.length c6, .int .i64 V.next, .slice A8 V.covers.length c8, .slice A9 V.inn.length c9, .slice A10 V.outs.length c10]] w fun o w' => Says (ShortQ V) w w' o := by
  have HTA := Lib.hid (show ∀ W, Below w.heap.size w W → (V.members.length ≤ 60 ∧ V.known.length ≤ 60 ∧ V.baskets.length ≤ 60 ∧ V.balances.length ≤ 100 ∧ V.quotes.length ≤ 80 ∧ V.trades.length ≤ 80 ∧ V.covers.length ≤ 40 ∧ V.inn.length ≤ 60 ∧ V.outs.length ≤ 60) → ∃ r, (r = true → ((∀ j, 0 ≤ j → j < V.trades.length → (rd_T117 V.trades (j : Int)).f8.length ≤ 80) ∧ T1 V.covers V.inn V.outs 0)) ∧ Calls Try.prog 11 #[.agg #[.int .i64 V.day, .slice A1 V.members.length c1, .slice A2 V.known.length c2, .slice A3 V.baskets.length c3, .slice A4 V.balances.length c4, .slice A5 V.quotes.length c5, .slice A6 V.trades.length c6, .int .i64 V.next, .slice A8 V.covers.length c8, .slice A9 V.inn.length c9, .slice A10 V.outs.length c10]] W (fun e w' => e = .returned (.bool r) ∧ Below W.heap.size W w') from fun W hb ht => by
    obtain ⟨r, h1, h2⟩ := ans_t0 V.day V.next V.members V.known V.baskets V.balances V.quotes V.trades V.covers V.inn V.outs (by omega) (fun k hk => (ans_l12 V.day V.next V.members V.known V.baskets V.balances V.quotes V.trades V.covers V.inn V.outs (by omega) (by omega) (by omega) k).1 0 (by omega) (by omega)) 10000 0 (by omega) (by omega)
    exact ⟨r, h2, lombardlaw32_tails.calls 10000 V.day A1 c1 V.members A2 c2 V.known A3 c3 V.baskets A4 c4 V.balances A5 c5 V.quotes A6 c6 V.trades V.next A8 c8 V.covers A9 c9 V.inn A10 c10 V.outs r W (Kd.C_below hL.members hb) hC.members (Kd.C_below hL.known hb) hC.known (Kd.C_below hL.baskets hb) hC.baskets (Kd.C_below hL.balances hb) hC.balances (Kd.C_below hL.quotes hb) hC.quotes (Kd.C_below hL.trades hb) hC.trades (Kd.C_below hL.covers hb) hC.covers (Kd.C_below hL.inn hb) hC.inn (Kd.C_below hL.outs hb) hC.outs h1⟩)
  have HL := Lib.hid hL
  have hpb := PB.start w #[.int .i64 V.day, .slice A1 V.members.length c1, .slice A2 V.known.length c2, .slice A3 V.baskets.length c3, .slice A4 V.balances.length c4, .slice A5 V.quotes.length c5, .slice A6 V.trades.length c6, .int .i64 V.next, .slice A8 V.covers.length c8, .slice A9 V.inn.length c9, .slice A10 V.outs.length c10] 35
  obtain ⟨P, hP⟩ : ∃ P, w.heap.size = P := ⟨_, rfl⟩
  obtain ⟨W0, hW0⟩ : ∃ W, w.alloc (.cells #[.int .i64 V.day, .slice A1 V.members.length c1, .slice A2 V.known.length c2, .slice A3 V.baskets.length c3, .slice A4 V.balances.length c4, .slice A5 V.quotes.length c5, .slice A6 V.trades.length c6, .int .i64 V.next, .slice A8 V.covers.length c8, .slice A9 V.inn.length c9, .slice A10 V.outs.length c10] 35) = W := ⟨_, rfl⟩
  rw [hW0, hP] at hpb
  have HPB := Lib.hid hpb
  have p0 : W0.cell? ⟨P, 0, none⟩ = some (.int .i64 V.day) := cellsAt hpb.p 0
  have p1 : W0.cell? ⟨P, 1, none⟩ = some (.slice A1 V.members.length c1) := cellsAt hpb.p 1
  have p2 : W0.cell? ⟨P, 2, none⟩ = some (.slice A2 V.known.length c2) := cellsAt hpb.p 2
  have p3 : W0.cell? ⟨P, 3, none⟩ = some (.slice A3 V.baskets.length c3) := cellsAt hpb.p 3
  have p4 : W0.cell? ⟨P, 4, none⟩ = some (.slice A4 V.balances.length c4) := cellsAt hpb.p 4
  have p5 : W0.cell? ⟨P, 5, none⟩ = some (.slice A5 V.quotes.length c5) := cellsAt hpb.p 5
  have p6 : W0.cell? ⟨P, 6, none⟩ = some (.slice A6 V.trades.length c6) := cellsAt hpb.p 6
  have p7 : W0.cell? ⟨P, 7, none⟩ = some (.int .i64 V.next) := cellsAt hpb.p 7
  have p8 : W0.cell? ⟨P, 8, none⟩ = some (.slice A8 V.covers.length c8) := cellsAt hpb.p 8
  have p9 : W0.cell? ⟨P, 9, none⟩ = some (.slice A9 V.inn.length c9) := cellsAt hpb.p 9
  have p10 : W0.cell? ⟨P, 10, none⟩ = some (.slice A10 V.outs.length c10) := cellsAt hpb.p 10
  clear hL hC hpb
  go_enter Try.func5, Try.ntmps5
  go_upto_region 1 with (fail)
  try rw [hW0, hP]
  clear hW0 hP
  go_cut [61] (fun v wx => ∃ b : Bool, v = .bool b ∧ Hid (wx = W0 ∧ (b = false → (V.members.length ≤ 60 ∧ V.known.length ≤ 60 ∧ V.baskets.length ≤ 60 ∧ V.balances.length ≤ 100 ∧ V.quotes.length ≤ 80 ∧ V.trades.length ≤ 80 ∧ V.covers.length ≤ 40 ∧ V.inn.length ≤ 60 ∧ V.outs.length ≤ 60))))
  case first =>
    by_cases h0 : V.members.length > 60
    · have g0 : ((V.members.length : Int) > 60) = True := eq_true (by omega)
      have s0 : decide ((60 : Int) < (V.members.length : Int)) = true := decide_eq_true (by omega)
      go_wp2_with (fail)
      go_meet
      exact ⟨true, rfl, ⟨rfl, fun h => by cases h⟩⟩
    have g0 : ((V.members.length : Int) > 60) = False := eq_false (by omega)
    have s0 : decide ((60 : Int) < (V.members.length : Int)) = false := decide_eq_false (by omega)
    by_cases h1 : V.known.length > 60
    · have g1 : ((V.known.length : Int) > 60) = True := eq_true (by omega)
      have s1 : decide ((60 : Int) < (V.known.length : Int)) = true := decide_eq_true (by omega)
      go_wp2_with (fail)
      go_meet
      exact ⟨true, rfl, ⟨rfl, fun h => by cases h⟩⟩
    have g1 : ((V.known.length : Int) > 60) = False := eq_false (by omega)
    have s1 : decide ((60 : Int) < (V.known.length : Int)) = false := decide_eq_false (by omega)
    by_cases h2 : V.baskets.length > 60
    · have g2 : ((V.baskets.length : Int) > 60) = True := eq_true (by omega)
      have s2 : decide ((60 : Int) < (V.baskets.length : Int)) = true := decide_eq_true (by omega)
      go_wp2_with (fail)
      go_meet
      exact ⟨true, rfl, ⟨rfl, fun h => by cases h⟩⟩
    have g2 : ((V.baskets.length : Int) > 60) = False := eq_false (by omega)
    have s2 : decide ((60 : Int) < (V.baskets.length : Int)) = false := decide_eq_false (by omega)
    by_cases h3 : V.balances.length > 100
    · have g3 : ((V.balances.length : Int) > 100) = True := eq_true (by omega)
      have s3 : decide ((100 : Int) < (V.balances.length : Int)) = true := decide_eq_true (by omega)
      go_wp2_with (fail)
      go_meet
      exact ⟨true, rfl, ⟨rfl, fun h => by cases h⟩⟩
    have g3 : ((V.balances.length : Int) > 100) = False := eq_false (by omega)
    have s3 : decide ((100 : Int) < (V.balances.length : Int)) = false := decide_eq_false (by omega)
    by_cases h4 : V.quotes.length > 80
    · have g4 : ((V.quotes.length : Int) > 80) = True := eq_true (by omega)
      have s4 : decide ((80 : Int) < (V.quotes.length : Int)) = true := decide_eq_true (by omega)
      go_wp2_with (fail)
      go_meet
      exact ⟨true, rfl, ⟨rfl, fun h => by cases h⟩⟩
    have g4 : ((V.quotes.length : Int) > 80) = False := eq_false (by omega)
    have s4 : decide ((80 : Int) < (V.quotes.length : Int)) = false := decide_eq_false (by omega)
    by_cases h5 : V.trades.length > 80
    · have g5 : ((V.trades.length : Int) > 80) = True := eq_true (by omega)
      have s5 : decide ((80 : Int) < (V.trades.length : Int)) = true := decide_eq_true (by omega)
      go_wp2_with (fail)
      go_meet
      exact ⟨true, rfl, ⟨rfl, fun h => by cases h⟩⟩
    have g5 : ((V.trades.length : Int) > 80) = False := eq_false (by omega)
    have s5 : decide ((80 : Int) < (V.trades.length : Int)) = false := decide_eq_false (by omega)
    by_cases h6 : V.covers.length > 40
    · have g6 : ((V.covers.length : Int) > 40) = True := eq_true (by omega)
      have s6 : decide ((40 : Int) < (V.covers.length : Int)) = true := decide_eq_true (by omega)
      go_wp2_with (fail)
      go_meet
      exact ⟨true, rfl, ⟨rfl, fun h => by cases h⟩⟩
    have g6 : ((V.covers.length : Int) > 40) = False := eq_false (by omega)
    have s6 : decide ((40 : Int) < (V.covers.length : Int)) = false := decide_eq_false (by omega)
    by_cases h7 : V.inn.length > 60
    · have g7 : ((V.inn.length : Int) > 60) = True := eq_true (by omega)
      have s7 : decide ((60 : Int) < (V.inn.length : Int)) = true := decide_eq_true (by omega)
      go_wp2_with (fail)
      go_meet
      exact ⟨true, rfl, ⟨rfl, fun h => by cases h⟩⟩
    have g7 : ((V.inn.length : Int) > 60) = False := eq_false (by omega)
    have s7 : decide ((60 : Int) < (V.inn.length : Int)) = false := decide_eq_false (by omega)
    by_cases h8 : V.outs.length > 60
    · have g8 : ((V.outs.length : Int) > 60) = True := eq_true (by omega)
      have s8 : decide ((60 : Int) < (V.outs.length : Int)) = true := decide_eq_true (by omega)
      go_wp2_with (fail)
      go_meet
      exact ⟨true, rfl, ⟨rfl, fun h => by cases h⟩⟩
    have g8 : ((V.outs.length : Int) > 60) = False := eq_false (by omega)
    have s8 : decide ((60 : Int) < (V.outs.length : Int)) = false := decide_eq_false (by omega)
    go_wp2_with (fail)
    go_meet
    exact ⟨false, rfl, ⟨rfl, fun _ => ⟨by omega, by omega, by omega, by omega, by omega, by omega, by omega, by omega, by omega⟩⟩⟩
  case rest =>
    obtain ⟨b, rfl, HC⟩ := hcut
    obtain rfl : wc = W0 := HC.out.1
    cases b with
    | true =>
      go_wp2_with (fail)
      go_ret
      exact ⟨false, rfl, (fun h => by cases h), HPB.out.b⟩
    | false =>
      have HT := Lib.hid (HC.out.2 rfl)
      clear HC
      go_wp2_with (fail)
      go_loopg [3] (V.members.length + 1) (fun kq v w' => ∃ k : Nat, v = .int .i64 k ∧ Hid (kq + k = V.members.length + 1 ∧ k ≤ V.members.length ∧ w' = wc ∧ (∀ j : Nat, 0 ≤ j → j < k → (rd_T55 V.members (j : Int)).f1.size ≤ 160)))
      case atStart => exact ⟨0, rfl, ⟨rfl, Nat.zero_le _, rfl, fun j _ h => absurd h (Nat.not_lt_zero _)⟩⟩
      case round =>
        obtain ⟨k, rfl, HI⟩ := hrel
        obtain rfl : wc = wr := HI.out.2.2.1.symm
        by_cases hk : k < V.members.length
        · obtain ⟨ad, hA, x0, x1, x2, x3, x4⟩ := at_T55 (Kd.C_below HL.out.members HPB.out.b) (k : Int) (by omega) (by omega)
          rw [Int.toNat_natCast] at x0 x1 x2 x3 x4
          obtain ⟨x, hx⟩ : ∃ x, rd_T55 V.members (k : Int) = x := ⟨_, rfl⟩
          rw [hx] at x0 x1 x2 x3 x4
          have HX := Lib.hid hx
          subst hA
          obtain ⟨q1, q2⟩ := idx_in hk
          have HW := Lib.hid (idx_next hk (by have := HT.out; omega))
          have HK := Lib.hid hk
          clear hk hx
          by_cases t0 : x.f1.size > 160
          · have g0 : ((x.f1.size : Int) > 160) = True := eq_true (by omega)
            have s0 : decide ((160 : Int) < (x.f1.size : Int)) = true := decide_eq_true (by omega)
            go_wp2_with (fail)
            go_ret
            exact ⟨false, rfl, (fun h => by cases h), HPB.out.b⟩
          have g0 : ((x.f1.size : Int) > 160) = False := eq_false (by omega)
          have s0 : decide ((160 : Int) < (x.f1.size : Int)) = false := decide_eq_false (by omega)
          go_wp2_with (fail)
          go_roundg (V.members.length - k)
          case measure => have := HI.out.1; have := HK.out; omega
          case rel =>
            refine ⟨k + 1, by rw [HW.out], ⟨by have := HI.out.1; have := HK.out; omega, HK.out, rfl, fun j h1 h2 => ?_⟩⟩
            by_cases hj : j = k
            · subst hj; rw [HX.out]; exact by omega
            · exact HI.out.2.2.2 j h1 (by omega)
        · have q1 := idx_out hk
          obtain rfl : k = V.members.length := by have := HI.out.2.1; omega
          have HQ0 := Lib.hid HI.out.2.2.2
          go_wp2_with (fail)
          clear hk HI q1
          go_loopg [4] (V.known.length + 1) (fun kq v w' => ∃ k : Nat, v = .int .i64 k ∧ Hid (kq + k = V.known.length + 1 ∧ k ≤ V.known.length ∧ w' = wc ∧ (∀ j : Nat, 0 ≤ j → j < k → (rd_T59 V.known (j : Int)).f0.f0.size ≤ 160 ∧ (rd_T59 V.known (j : Int)).f0.f4.size ≤ 160)))
          case atStart => exact ⟨0, rfl, ⟨rfl, Nat.zero_le _, rfl, fun j _ h => absurd h (Nat.not_lt_zero _)⟩⟩
          case round =>
            obtain ⟨k, rfl, HI⟩ := hrel
            obtain rfl : wc = wr := HI.out.2.2.1.symm
            by_cases hk : k < V.known.length
            · obtain ⟨ad, hA, x0, x1, x2, x3, x4, x5⟩ := at_T59 (Kd.C_below HL.out.known HPB.out.b) (k : Int) (by omega) (by omega)
              rw [Int.toNat_natCast] at x0 x1 x2 x3 x4 x5
              obtain ⟨x, hx⟩ : ∃ x, rd_T59 V.known (k : Int) = x := ⟨_, rfl⟩
              rw [hx] at x0 x1 x2 x3 x4 x5
              have HX := Lib.hid hx
              subst hA
              obtain ⟨q1, q2⟩ := idx_in hk
              have HW := Lib.hid (idx_next hk (by have := HT.out; omega))
              have HK := Lib.hid hk
              clear hk hx
              by_cases t0 : x.f0.f0.size > 160
              · have g0 : ((x.f0.f0.size : Int) > 160) = True := eq_true (by omega)
                have s0 : decide ((160 : Int) < (x.f0.f0.size : Int)) = true := decide_eq_true (by omega)
                go_wp2_with (fail)
                go_ret
                exact ⟨false, rfl, (fun h => by cases h), HPB.out.b⟩
              have g0 : ((x.f0.f0.size : Int) > 160) = False := eq_false (by omega)
              have s0 : decide ((160 : Int) < (x.f0.f0.size : Int)) = false := decide_eq_false (by omega)
              by_cases t1 : x.f0.f4.size > 160
              · have g1 : ((x.f0.f4.size : Int) > 160) = True := eq_true (by omega)
                have s1 : decide ((160 : Int) < (x.f0.f4.size : Int)) = true := decide_eq_true (by omega)
                go_wp2_with (fail)
                go_ret
                exact ⟨false, rfl, (fun h => by cases h), HPB.out.b⟩
              have g1 : ((x.f0.f4.size : Int) > 160) = False := eq_false (by omega)
              have s1 : decide ((160 : Int) < (x.f0.f4.size : Int)) = false := decide_eq_false (by omega)
              go_wp2_with (fail)
              go_roundg (V.known.length - k)
              case measure => have := HI.out.1; have := HK.out; omega
              case rel =>
                refine ⟨k + 1, by rw [HW.out], ⟨by have := HI.out.1; have := HK.out; omega, HK.out, rfl, fun j h1 h2 => ?_⟩⟩
                by_cases hj : j = k
                · subst hj; rw [HX.out]; exact ⟨by omega, by omega⟩
                · exact HI.out.2.2.2 j h1 (by omega)
            · have q1 := idx_out hk
              obtain rfl : k = V.known.length := by have := HI.out.2.1; omega
              have HQ1 := Lib.hid HI.out.2.2.2
              go_wp2_with (fail)
              clear hk HI q1
              go_loopg [5] (V.baskets.length + 1) (fun kq v w' => ∃ k : Nat, v = .int .i64 k ∧ Hid (kq + k = V.baskets.length + 1 ∧ k ≤ V.baskets.length ∧ w' = wc ∧ (∀ j : Nat, 0 ≤ j → j < k → (rd_T63 V.baskets (j : Int)).f2.size ≤ 160 ∧ (rd_T63 V.baskets (j : Int)).f6.length ≤ 80 ∧ (rd_T63 V.baskets (j : Int)).f9.length ≤ 80)))
              case atStart => exact ⟨0, rfl, ⟨rfl, Nat.zero_le _, rfl, fun j _ h => absurd h (Nat.not_lt_zero _)⟩⟩
              case round =>
                obtain ⟨k, rfl, HI⟩ := hrel
                obtain rfl : wc = wr := HI.out.2.2.1.symm
                by_cases hk : k < V.baskets.length
                · obtain ⟨ad, E6, e6, E9, e9, hA, x0, x1, x2, x3, x4, x5, x6, x7, x8, x9, l6, C6, l9, C9⟩ := at_T63 (Kd.C_below HL.out.baskets HPB.out.b) (k : Int) (by omega) (by omega)
                  rw [Int.toNat_natCast] at x0 x1 x2 x3 x4 x5 x6 x7 x8 x9
                  obtain ⟨x, hx⟩ : ∃ x, rd_T63 V.baskets (k : Int) = x := ⟨_, rfl⟩
                  rw [hx] at x0 x1 x2 x3 x4 x5 x6 x7 x8 x9
                  have HX := Lib.hid hx
                  subst hA
                  obtain ⟨q1, q2⟩ := idx_in hk
                  have HW := Lib.hid (idx_next hk (by have := HT.out; omega))
                  have HK := Lib.hid hk
                  clear hk hx l6 C6 l9 C9
                  by_cases t0 : x.f2.size > 160
                  · have g0 : ((x.f2.size : Int) > 160) = True := eq_true (by omega)
                    have s0 : decide ((160 : Int) < (x.f2.size : Int)) = true := decide_eq_true (by omega)
                    go_wp2_with (fail)
                    go_ret
                    exact ⟨false, rfl, (fun h => by cases h), HPB.out.b⟩
                  have g0 : ((x.f2.size : Int) > 160) = False := eq_false (by omega)
                  have s0 : decide ((160 : Int) < (x.f2.size : Int)) = false := decide_eq_false (by omega)
                  by_cases t1 : x.f6.length > 80
                  · have g1 : ((x.f6.length : Int) > 80) = True := eq_true (by omega)
                    have s1 : decide ((80 : Int) < (x.f6.length : Int)) = true := decide_eq_true (by omega)
                    go_wp2_with (fail)
                    go_ret
                    exact ⟨false, rfl, (fun h => by cases h), HPB.out.b⟩
                  have g1 : ((x.f6.length : Int) > 80) = False := eq_false (by omega)
                  have s1 : decide ((80 : Int) < (x.f6.length : Int)) = false := decide_eq_false (by omega)
                  by_cases t2 : x.f9.length > 80
                  · have g2 : ((x.f9.length : Int) > 80) = True := eq_true (by omega)
                    have s2 : decide ((80 : Int) < (x.f9.length : Int)) = true := decide_eq_true (by omega)
                    go_wp2_with (fail)
                    go_ret
                    exact ⟨false, rfl, (fun h => by cases h), HPB.out.b⟩
                  have g2 : ((x.f9.length : Int) > 80) = False := eq_false (by omega)
                  have s2 : decide ((80 : Int) < (x.f9.length : Int)) = false := decide_eq_false (by omega)
                  go_wp2_with (fail)
                  go_roundg (V.baskets.length - k)
                  case measure => have := HI.out.1; have := HK.out; omega
                  case rel =>
                    refine ⟨k + 1, by rw [HW.out], ⟨by have := HI.out.1; have := HK.out; omega, HK.out, rfl, fun j h1 h2 => ?_⟩⟩
                    by_cases hj : j = k
                    · subst hj; rw [HX.out]; exact ⟨by omega, by omega, by omega⟩
                    · exact HI.out.2.2.2 j h1 (by omega)
                · have q1 := idx_out hk
                  obtain rfl : k = V.baskets.length := by have := HI.out.2.1; omega
                  have HQ2 := Lib.hid HI.out.2.2.2
                  go_wp2_with (fail)
                  clear hk HI q1
                  go_loopg [6] (V.balances.length + 1) (fun kq v w' => ∃ k : Nat, v = .int .i64 k ∧ Hid (kq + k = V.balances.length + 1 ∧ k ≤ V.balances.length ∧ w' = wc ∧ (∀ j : Nat, 0 ≤ j → j < k → (rd_T67 V.balances (j : Int)).f0.f2.size ≤ 160)))
                  case atStart => exact ⟨0, rfl, ⟨rfl, Nat.zero_le _, rfl, fun j _ h => absurd h (Nat.not_lt_zero _)⟩⟩
                  case round =>
                    obtain ⟨k, rfl, HI⟩ := hrel
                    obtain rfl : wc = wr := HI.out.2.2.1.symm
                    by_cases hk : k < V.balances.length
                    · obtain ⟨ad, hA, x0, x1, x2, x3⟩ := at_T67 (Kd.C_below HL.out.balances HPB.out.b) (k : Int) (by omega) (by omega)
                      rw [Int.toNat_natCast] at x0 x1 x2 x3
                      obtain ⟨x, hx⟩ : ∃ x, rd_T67 V.balances (k : Int) = x := ⟨_, rfl⟩
                      rw [hx] at x0 x1 x2 x3
                      have HX := Lib.hid hx
                      subst hA
                      obtain ⟨q1, q2⟩ := idx_in hk
                      have HW := Lib.hid (idx_next hk (by have := HT.out; omega))
                      have HK := Lib.hid hk
                      clear hk hx
                      by_cases t0 : x.f0.f2.size > 160
                      · have g0 : ((x.f0.f2.size : Int) > 160) = True := eq_true (by omega)
                        have s0 : decide ((160 : Int) < (x.f0.f2.size : Int)) = true := decide_eq_true (by omega)
                        go_wp2_with (fail)
                        go_ret
                        exact ⟨false, rfl, (fun h => by cases h), HPB.out.b⟩
                      have g0 : ((x.f0.f2.size : Int) > 160) = False := eq_false (by omega)
                      have s0 : decide ((160 : Int) < (x.f0.f2.size : Int)) = false := decide_eq_false (by omega)
                      go_wp2_with (fail)
                      go_roundg (V.balances.length - k)
                      case measure => have := HI.out.1; have := HK.out; omega
                      case rel =>
                        refine ⟨k + 1, by rw [HW.out], ⟨by have := HI.out.1; have := HK.out; omega, HK.out, rfl, fun j h1 h2 => ?_⟩⟩
                        by_cases hj : j = k
                        · subst hj; rw [HX.out]; exact by omega
                        · exact HI.out.2.2.2 j h1 (by omega)
                    · have q1 := idx_out hk
                      obtain rfl : k = V.balances.length := by have := HI.out.2.1; omega
                      have HQ3 := Lib.hid HI.out.2.2.2
                      clear hk HI
                      obtain ⟨r, hr1, hr2⟩ := HTA.out wc HPB.out.b HT.out
                      have HR := Lib.hid hr2
                      have HP := Lib.hid hr1
                      clear hr1 hr2
                      go_wp2_with (go_at_call 11; refine HR.out.mono ?_; rintro e w9 ⟨rfl, h9⟩; have HB9 := Lib.hid (HPB.out.up h9); clear h9)
                      go_ret
                      exact ⟨r, rfl, (fun h => ⟨HT.out, HQ0.out, HQ1.out, HQ2.out, HQ3.out, HP.out h⟩), HB9.out.b⟩
/-- What is told of each place is told of each element. -/
theorem all_at {α : Type} {z : α} {xs : List α} {Q : α → Prop} (h : ∀ j : Nat, 0 ≤ j → j < xs.length → Q (xs.getD (j : Int).toNat z)) : ∀ x ∈ xs, Q x := by
  intro x hx
  obtain ⟨j, hj, e⟩ := List.mem_iff_getElem.1 hx
  have h1 := h j (Nat.zero_le _) hj
  rw [Int.toNat_natCast, List.getD_eq_getElem?_getD, List.getElem?_eq_getElem hj] at h1
  rw [← e]
  exact h1
theorem tx_of {t : ByteArray} (h : t.size ≤ 160) : tx t := by
  unfold tx
  rw [lst_len]
  exact h
/-- The guard, of a view. -/
theorem short_says {V : VR} (h : ShortQ V) : VS (ofV V) ∧ VB V ∧ WR4 (ofV V) := by
  obtain ⟨⟨n1, n2, n3, n4, n5, n6, n7, n8, n9⟩, m1, m2, m3, m4, m5, m6, m7⟩ := h
  have k1 := all_at (z := z55) (Q := fun x => x.f1.size ≤ 160) m1
  have k2 := all_at (z := z59) (Q := fun x => x.f0.f0.size ≤ 160 ∧ x.f0.f4.size ≤ 160) m2
  have k3 := all_at (z := z63) (Q := fun x => x.f2.size ≤ 160 ∧ x.f6.length ≤ 80 ∧ x.f9.length ≤ 80) m3
  have k4 := all_at (z := z67) (Q := fun x => x.f0.f2.size ≤ 160) m4
  have k5 := all_at (z := z117) (Q := fun x => x.f8.length ≤ 80) m5
  have k6 := all_at (z := z76) (Q := fun x => x.f1.length ≤ 80 ∧ ∀ t : Nat, 0 ≤ t → t < x.f1.length → (rd_T119 x.f1 (t : Int)).f0.size ≤ 160) m6
  have k7 := all_at (z := z79) (Q := fun x => x.f2.size ≤ 160) m7
  have hc : ∀ x ∈ V.covers, x.f1.length ≤ 4096 ∧ ∀ y ∈ x.f1, tx y.f0 := fun x hx => ⟨by have := (k6 x hx).1; omega, fun y hy => tx_of (all_at (z := z119) (Q := fun y => y.f0.size ≤ 160) (k6 x hx).2 y hy)⟩
  have l1 : (V.members.map m68).length ≤ 4096 := by rw [List.length_map]; omega
  have l2 : (V.known.map a57).length ≤ 4096 := by rw [List.length_map]; omega
  have l3 : (V.known.map p70).length ≤ 4096 := by rw [List.length_map]; omega
  have l5 : (V.balances.map b73).length ≤ 4096 := by rw [List.length_map]; omega
  have l9 : (V.covers.map c77).length ≤ 4096 := by rw [List.length_map]; omega
  have l10 : (V.inn.map l80).length ≤ 4096 := by rw [List.length_map]; omega
  have l11 : (V.outs.map l80).length ≤ 4096 := by rw [List.length_map]; omega
  refine ⟨⟨⟨l1, ?_⟩, ⟨l2, ?_⟩, ⟨l3, ?_⟩, ⟨by show V.baskets.length ≤ 4096; omega, fun x hx => ⟨tx_of (k3 x hx).1, by have := (k3 x hx).2.1; omega, by have := (k3 x hx).2.2; omega⟩⟩, ⟨l5, ?_⟩, by show V.quotes.length ≤ 4096; omega, ⟨by show V.trades.length ≤ 4096; omega, fun x hx => by have := k5 x hx; omega⟩, ⟨l9, ?_⟩, ⟨l10, ?_⟩, ⟨l11, ?_⟩⟩, ⟨by omega, by omega, by omega, by omega, by omega, by omega, by omega, by omega, by omega⟩, ⟨⟨l1, l2, l3, by show V.baskets.length ≤ 4096; omega, l5, by show V.quotes.length ≤ 4096; omega, by show V.trades.length ≤ 4096; omega, l9, l10, l11⟩, fun x hx => ⟨by have := (k3 x hx).2.1; omega, by have := (k3 x hx).2.2; omega⟩, fun x hx => by have := k5 x hx; omega, ?_⟩⟩
  · intro x hx
    obtain ⟨z, hz, rfl⟩ := List.mem_map.1 (show x ∈ V.members.map m68 from hx)
    exact tx_of (k1 z hz)
  · intro x hx
    obtain ⟨z, hz, rfl⟩ := List.mem_map.1 (show x ∈ V.known.map a57 from hx)
    exact ⟨tx_of (k2 z hz).1, tx_of (k2 z hz).2⟩
  · intro x hx
    obtain ⟨z, hz, rfl⟩ := List.mem_map.1 (show x ∈ V.known.map p70 from hx)
    exact tx_of (k2 z hz).1
  · intro x hx
    obtain ⟨z, hz, rfl⟩ := List.mem_map.1 (show x ∈ V.balances.map b73 from hx)
    exact tx_of (k4 z hz)
  · intro x hx
    obtain ⟨z, hz, rfl⟩ := List.mem_map.1 (show x ∈ V.covers.map c77 from hx)
    exact hc z hz
  · intro x hx
    obtain ⟨z, hz, rfl⟩ := List.mem_map.1 (show x ∈ V.inn.map l80 from hx)
    exact tx_of (k7 z (List.mem_append_left _ hz))
  · intro x hx
    obtain ⟨z, hz, rfl⟩ := List.mem_map.1 (show x ∈ V.outs.map l80 from hx)
    exact tx_of (k7 z (List.mem_append_right _ hz))
  · intro x hx
    obtain ⟨z, hz, rfl⟩ := List.mem_map.1 (show x ∈ V.covers.map c77 from hx)
    exact (hc z hz).1
end Go.Proofs.Ythpgjeiglhdciaa.SN
