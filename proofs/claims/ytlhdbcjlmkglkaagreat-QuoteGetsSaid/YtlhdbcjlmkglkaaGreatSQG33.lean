/- Part 33 of the proof's texts: what the theorem needs of them. -/
import Derived.Test.YtlhdbcjlmkglkaaGreatSQG32

set_option linter.unusedVariables false
set_option linter.unusedSimpArgs false
/- New; what all quotes of a board are. -/
set_option linter.unusedSimpArgs false
set_option linter.unusedVariables false
namespace Go.Proofs.YtlhdbcjlmkglkaaGreat.Q
open Go Go.RowKit Go.Proofs Go.Proofs.YtlhdbcjlmkglkaaGreat.PL Go.Proofs.YtlhdbcjlmkglkaaGreatW.PrintWords
set_option maxHeartbeats 400000 in
set_option maxRecDepth 1000000 in
theorem new_any (w : World) : Calls Tryz.prog 7 #[] w fun e w' => e = .returned (.pointer (some ⟨w.heap.size, 0, none⟩)) ∧ BO w.heap.size w.heap.size none 0 [] w' ∧ Below w.heap.size w w' := by
  have hu48 := Tryz.underlying63
  go_enter Tryz.func7, Tryz.ntmps7
  go_wp2
  go_ret
  refine ⟨rfl, ⟨Nat.le_refl _, ?_, Kd.R_nil _ _ _ _ _⟩, below_alloc (Below.refl _ _) _⟩
  show (w.alloc _).heap[w.heap.size]? = _
  unfold World.alloc
  simp
structure Inv2 (xs : List S24) : Prop where
  inv : Inv xs
  mem : ∀ x ∈ xs, 1 ≤ x.f1 ∧ 0 ≤ x.f6
  len : xs.length ≤ 64
theorem Inv2.nil : Inv2 [] := ⟨(fun x h => absurd h (by simp)), (fun x h => absurd h (by simp)), Nat.zero_le _⟩
theorem Inv2.sub {xs ys : List S24} (h : Inv2 xs) (hs : ∀ y ∈ ys, y ∈ xs) (hl : ys.length ≤ xs.length) : Inv2 ys :=
  ⟨fun x hx => h.inv x (hs x hx), fun x hx => h.mem x (hs x hx), Nat.le_trans hl h.len⟩
theorem Inv2.filter {xs : List S24} (h : Inv2 xs) (p : S24 → Bool) : Inv2 (xs.filter p) := h.sub (fun y hy => (List.mem_filter.1 hy).1) (List.length_filter_le ..)
theorem Inv2.erase {xs : List S24} (h : Inv2 xs) (k : Nat) : Inv2 (xs.eraseIdx k) := h.sub (fun y hy => List.mem_of_mem_eraseIdx hy) (by rw [List.length_eraseIdx]; split <;> omega)
theorem Inv2.add {xs : List S24} (h : Inv2 xs) (x : S24) : Inv2 (addL xs x) := by
  unfold addL
  split
  · next h0 =>
    unfold chkB at h0
    split at h0
    · next h1 => exact absurd h0 h1
    next h1 =>
    have h1 : chkE x = 0 := Classical.not_not.1 h1
    split at h0
    · exact absurd h0 (by decide)
    split at h0
    · exact absurd h0 (by decide)
    next h3 =>
    unfold chkE at h1
    split at h1
    · next hm =>
      unfold qE at h1
      split at h1
      · next ha =>
        split at h1
        · next hb =>
          refine ⟨fun y hy => ?_, fun y hy => ?_, by rw [List.length_append, List.length_singleton]; omega⟩
          · rcases List.mem_append.1 hy with hy | hy
            · exact h.inv y hy
            · obtain rfl := List.mem_singleton.1 hy; exact ha.2.2.2.1
          · rcases List.mem_append.1 hy with hy | hy
            · exact h.mem y hy
            · obtain rfl := List.mem_singleton.1 hy; exact ⟨hm.1, hb.1.1⟩
        · exact absurd h1 (by decide)
      · exact absurd h1 (by decide)
    · exact absurd h1 (by decide)
  · exact h
theorem Inv2.can {xs : List S24} (h : Inv2 xs) (m id : Int) : Inv2 (canL m id xs) := by
  unfold canL
  split
  · exact h.erase _
  · exact h
theorem Inv2.les {xs : List S24} (h : Inv2 xs) (id n : Int) : Inv2 (lesL id n xs) := by
  rcases find_cases id xs with hf | ⟨k, hk, hf⟩
  · rw [(les_no hf).2]; exact h
  by_cases hn : n < 1 ∨ (rd_T24 xs (k : Int)).f4 < n
  · rw [(les_arg hf hn).2]; exact h
  by_cases he : n = (rd_T24 xs (k : Int)).f4
  · rw [(les_all hf hn he).2]; exact h.erase _
  rw [(les_some hf hn he).2]
  have hy0 : rd_T24 xs (k : Int) ∈ xs := by
    unfold rd_T24
    rw [List.getD_eq_getElem?_getD, Int.toNat_natCast, List.getElem?_eq_getElem hk]
    exact List.getElem_mem hk
  have i1 := h.inv _ hy0
  have i2 := h.mem _ hy0
  refine ⟨fun y hy => ?_, fun y hy => ?_, by rw [List.length_set]; exact h.len⟩
  · rcases List.mem_or_eq_of_mem_set hy with hy | rfl
    · exact h.inv y hy
    · show 1 ≤ (rd_T24 xs (k : Int)).f4 - n ∧ (rd_T24 xs (k : Int)).f4 - n ≤ _
      omega
  · rcases List.mem_or_eq_of_mem_set hy with hy | rfl
    · exact h.mem y hy
    · exact i2
/-- What an act makes of the quotes. -/
structure Act11 where
  kind : Int
  q : S24
  a : Int
  b : Int
def stepL (x : Act11) (xs : List S24) : List S24 :=
  if x.kind = 0 then addL xs x.q else if x.kind = 1 then canL x.a x.b xs else if x.kind = 2 then lesL x.a x.b xs
  else if x.kind = 3 then xs.filter (fun y => !(y.f1 == x.a)) else xs.filter (fun y => !decide (y.f6 < x.a))
theorem Inv2.step {xs : List S24} (h : Inv2 xs) (x : Act11) : Inv2 (stepL x xs) := by
  unfold stepL
  split
  · exact h.add _
  split
  · exact h.can _ _
  split
  · exact h.les _ _
  split
  · exact h.filter _
  · exact h.filter _
theorem drop_member {xs : List S24} (h : Inv2 xs) (m : Int) (hm : m > 0) : (xs.filter (dropP m 0) = xs.filter fun y => y.f1 == m) ∧ (xs.filter (fun y => !dropP m 0 y) = xs.filter fun y => !(y.f1 == m)) := by
  have e : ∀ y ∈ xs, dropP m 0 y = (y.f1 == m) := fun y hy => by
    have := (h.mem y hy).2
    unfold dropP
    rw [decide_eq_true hm, decide_eq_false (show ¬ y.f6 < 0 by omega), Bool.true_and, Bool.or_false]
  exact ⟨List.filter_congr e, List.filter_congr fun y hy => by rw [e y hy]⟩
theorem drop_nobody {xs : List S24} (h : Inv2 xs) (m : Int) (hm : ¬ m > 0) : (xs.filter (fun y => y.f1 == m) = []) ∧ (xs.filter (fun y => !(y.f1 == m)) = xs) := by
  have e : ∀ y ∈ xs, (y.f1 == m) = false := fun y hy => beq_eq_false_iff_ne.2 (by have := (h.mem y hy).1; omega)
  exact ⟨List.filter_eq_nil_iff.2 fun y hy => by rw [e y hy]; decide, List.filter_eq_self.2 fun y hy => by rw [e y hy]; rfl⟩
theorem drop_day (xs : List S24) (d : Int) : (xs.filter (dropP 0 d) = xs.filter fun y => decide (y.f6 < d)) ∧ (xs.filter (fun y => !dropP 0 d y) = xs.filter fun y => !decide (y.f6 < d)) := by
  have e : ∀ y : S24, dropP 0 d y = decide (y.f6 < d) := fun y => by unfold dropP; simp
  exact ⟨List.filter_congr fun y _ => e y, List.filter_congr fun y _ => by rw [e y]⟩
end Go.Proofs.YtlhdbcjlmkglkaaGreat.Q

/- The law's step: both sides do an act. -/
set_option linter.unusedSimpArgs false
set_option linter.unusedVariables false
namespace Go.Proofs.YtlhdbcjlmkglkaaGreat.Q
open Go Go.RowKit Go.Proofs Go.Proofs.YtlhdbcjlmkglkaaGreat.PL Go.Proofs.YtlhdbcjlmkglkaaGreatW.PrintWords
def actA (x : Act11) : Value := .agg #[.int .i64 x.kind, .int .i64 x.q.f0, .int .i64 x.q.f1, .int .i64 x.q.f2, .int .i64 x.q.f3, .int .i64 x.q.f4, .int .i64 x.q.f5, .int .i64 x.q.f6, .int .i64 x.q.f7, .int .i64 x.a, .int .i64 x.b]
def TC (T : Nat) (x : Act11) (w : World) : Prop := w.heap[T]? = some (.cells #[.int .i64 x.kind, .int .i64 x.q.f0, .int .i64 x.q.f1, .int .i64 x.q.f2, .int .i64 x.q.f3, .int .i64 x.q.f4, .int .i64 x.q.f5, .int .i64 x.q.f6, .int .i64 x.q.f7, .int .i64 x.a, .int .i64 x.b] 31 (0, 0))
theorem TC.below {T : Nat} {x : Act11} {w W : World} (h : TC T x w) (hb : Below w.heap.size w W) : TC T x W := (hb.block T (Array.getElem?_eq_some_iff.1 h).1).trans h
theorem TC.fr {T p : Nat} {x : Act11} {g g' : Option Nat} {w W : World} (h : TC T x w) (hf : Fr p g g' w W) (hp : T ≠ p) (hg : some T ≠ g) : TC T x W := (hf.block T (Array.getElem?_eq_some_iff.1 h).1 hp hg).trans h
theorem TC.new (x : Act11) (w : World) : TC w.heap.size x (w.alloc (.cells #[.int .i64 x.kind, .int .i64 x.q.f0, .int .i64 x.q.f1, .int .i64 x.q.f2, .int .i64 x.q.f3, .int .i64 x.q.f4, .int .i64 x.q.f5, .int .i64 x.q.f6, .int .i64 x.q.f7, .int .i64 x.a, .int .i64 x.b] 31)) := by
  show (w.alloc _).heap[w.heap.size]? = _
  unfold World.alloc
  simp
theorem TC.c {T : Nat} {x : Act11} {w : World} (h : TC T x w) : w.cell? ⟨T, 0, none⟩ = some (.int .i64 x.kind) ∧ w.cell? ⟨T, 1, none⟩ = some (.int .i64 x.q.f0) ∧ w.cell? ⟨T, 2, none⟩ = some (.int .i64 x.q.f1) ∧ w.cell? ⟨T, 3, none⟩ = some (.int .i64 x.q.f2) ∧ w.cell? ⟨T, 4, none⟩ = some (.int .i64 x.q.f3) ∧ w.cell? ⟨T, 5, none⟩ = some (.int .i64 x.q.f4) ∧ w.cell? ⟨T, 6, none⟩ = some (.int .i64 x.q.f5) ∧ w.cell? ⟨T, 7, none⟩ = some (.int .i64 x.q.f6) ∧ w.cell? ⟨T, 8, none⟩ = some (.int .i64 x.q.f7) ∧ w.cell? ⟨T, 9, none⟩ = some (.int .i64 x.a) ∧ w.cell? ⟨T, 10, none⟩ = some (.int .i64 x.b) := by
  unfold TC at h
  simp [World.cell?, h]
/-- Both sides before an act: the board at p, the document's list in the cell lp. -/
structure DS (B p lp : Nat) (A : Option Addr) (c : Nat) (xs : List S24) (u : Value) (w : World) : Prop where
  bo : BO B p A c xs w
  lb : B ≤ lp
  lc : w.heap[lp]? = some (.cells #[u] 27 (0, 0))
  lr : Kd.R k24 24 w B (fun k => k ≠ p ∧ some k ≠ (Value.slice A xs.length c).ownBlock) u xs
theorem lcell {lp : Nat} {u : Value} {w : World} (h : w.heap[lp]? = some (.cells #[u] 27 (0, 0))) : w.cell? ⟨lp, 0, none⟩ = some u := by simp [World.cell?, h]
theorem lfrz {lp : Nat} {u : Value} {w : World} (h : w.heap[lp]? = some (.cells #[u] 27 (0, 0))) : w.frozen? ⟨lp, 0, none⟩ = false := by simp [World.frozen?, h]
theorem DS.below {B p lp : Nat} {A : Option Addr} {c : Nat} {xs : List S24} {u : Value} {w W : World} (h : DS B p lp A c xs u w) (hb : Below w.heap.size w W) : DS B p lp A c xs u W :=
  ⟨h.bo.below hb, h.lb, (hb.block lp (Array.getElem?_eq_some_iff.1 h.lc).1).trans h.lc, Kd.R_below h.lr hb⟩
theorem DS.ne {B p lp : Nat} {A : Option Addr} {c : Nat} {xs : List S24} {u : Value} {w : World} (h : DS B p lp A c xs u w) : lp ≠ p := by
  rintro rfl
  have h1 := h.lc
  have h2 := h.bo.bd
  unfold Bd at h2
  rw [h2] at h1
  injection h1 with h1
  injection h1 with _ h1
  exact absurd h1 (by decide)
theorem DS.own {B p lp : Nat} {A : Option Addr} {c : Nat} {xs : List S24} {u : Value} {w : World} (h : DS B p lp A c xs u w) : some lp ≠ (Value.slice A xs.length c).ownBlock := by
  intro e
  obtain ⟨cur, hc⟩ := Kd.R_typed h.bo.r lp e.symm
  have h1 := h.lc
  rw [hc] at h1
  injection h1 with h1
  injection h1 with _ h1
  exact absurd h1 (by decide)
theorem fr_lc {B p lp : Nat} {A : Option Addr} {c : Nat} {xs : List S24} {u : Value} {g' : Option Nat} {w W : World} (hf : Fr p (Value.slice A xs.length c).ownBlock g' w W) (h : DS B p lp A c xs u w) : W.heap[lp]? = some (.cells #[u] 27 (0, 0)) :=
  (hf.block lp (Array.getElem?_eq_some_iff.1 h.lc).1 h.ne h.own).trans h.lc
/-- Behind an act: the board's new row, and the document's new list stored into its cell. -/
theorem DS.done {B p lp : Nat} {A A' : Option Addr} {c c' : Nat} {xs ys : List S24} {u u' : Value} {w W W4 : World} {n : Nat} (h : DS B p lp A c xs u w) (hb : Below w.heap.size w W) (hr : Kd.R k24 24 W B (fun k => (k ≠ p ∧ some k ≠ (Value.slice A xs.length c).ownBlock) ∨ n ≤ k) u' ys)
    (bo : BO B p A' c' ys W4) (hf : Fr p (Value.slice A xs.length c).ownBlock (Value.slice A' ys.length c').ownBlock W W4) (hn : w.heap.size ≤ n) :
    DS B p lp A' c' ys u' (W4.setCell ⟨lp, 0, none⟩ u') ∧ Below B w (W4.setCell ⟨lp, 0, none⟩ u') := by
  have hlc := fr_lc hf (h.below hb)
  have hW := h.below hb
  have hr2 := Kd.R_bound hr
  have key : ∀ k, u'.ownBlock = some k → k ≠ p ∧ some k ≠ (Value.slice A xs.length c).ownBlock ∧ k < W.heap.size ∧ k ≠ lp := by
    intro k hk
    have h0 := hr.1 k hk
    have hlt := Kd.R_lt hr k hk
    have hne : k ≠ lp := by
      rintro rfl
      obtain ⟨cur, hc⟩ := Kd.R_typed hr k hk
      have h1 := hW.lc
      rw [hc] at h1
      injection h1 with h1
      injection h1 with _ h1
      exact absurd h1 (by decide)
    rcases h0 with h0 | h0
    · exact ⟨h0.1, h0.2, hlt, hne⟩
    · exact ⟨by have := h.bo.bd.lt; omega, fun e => by have := Kd.R_lt h.bo.r k e.symm; omega, hlt, hne⟩
  have hm : ∀ k, u'.ownBlock = some k → (W4.setCell ⟨lp, 0, none⟩ u').heap[k]? = W.heap[k]? := by
    intro k hk
    obtain ⟨k1, k2, k3, k4⟩ := key k hk
    rw [Below.heap_setCell W4 ⟨lp, 0, none⟩ u' k k4, hf.block k k3 k1 k2]
  have hR : Kd.R k24 24 (W4.setCell ⟨lp, 0, none⟩ u') B (fun k => u'.ownBlock = some k) u' ys :=
    Kd.R_move (ok := fun k => u'.ownBlock = some k) ⟨fun k hk => hk, hr.2.imp_ (fun x cs hx => by obtain rfl := k24_openM hx; exact k24_mkM _ _ _ _)⟩ hm
  have hplp : lp ≠ p := h.ne
  have hlpo : some lp ≠ (Value.slice A' ys.length c').ownBlock := by
    intro e
    obtain ⟨cur, hc⟩ := Kd.R_typed bo.r lp e.symm
    rw [hlc] at hc
    injection hc with hc
    injection hc with _ hc
    exact absurd hc (by decide)
  refine ⟨⟨⟨bo.le, (Below.heap_setCell W4 ⟨lp, 0, none⟩ u' p (fun e => hplp e.symm)).trans bo.bd, Kd.R_move (ok := fun k => k ≠ p ∧ k ≠ lp) ⟨fun k hk => ⟨bo.r.1 k hk, fun e => hlpo (by rw [← e, hk])⟩, bo.r.2.imp_ (fun x cs hx => by obtain rfl := k24_openM hx; exact k24_mkM _ _ _ _)⟩ (fun k hk => Below.heap_setCell W4 ⟨lp, 0, none⟩ u' k hk.2) |> fun h => Kd.R_mono h fun k hk => hk.1⟩, h.lb, ?_, Kd.R_mono hR fun k hk => ?_⟩, ?_⟩
  · have := heap_setCell_same W4 lp 0 _ _ u' hlc
    rw [this]
    rfl
  · obtain ⟨k1, k2, k3, k4⟩ := key k hk
    refine ⟨k1, ?_⟩
    rcases hf.own with e | e | ⟨b, e, hbb⟩
    · rw [e]; exact k2
    · rw [e]; simp
    · rw [e]; intro he; have := Option.some.inj he; omega
  · refine ⟨hf.os.trans hb.os, hf.tape.trans hb.tape, hf.output.trans hb.output, by rw [World.size_setCell]; exact Nat.le_trans hb.size hf.size, fun k hk => ?_⟩
    have hkp : k ≠ p := by have := h.bo.le; omega
    have hkl : k ≠ lp := by have := h.lb; omega
    have hko : some k ≠ (Value.slice A xs.length c).ownBlock := fun e => by have := Kd.R_base h.bo.r k e.symm; omega
    have hks : k < w.heap.size := by have h1 := h.bo.bd.lt; have h2 := h.bo.le; omega
    rw [Below.heap_setCell W4 ⟨lp, 0, none⟩ u' k hkl, hf.block k (Nat.lt_of_lt_of_le hks hb.size) hkp hko, hb.block k hks]
set_option maxHeartbeats 400000 in
set_option maxRecDepth 1000000 in
theorem does_add (B p lp : Nat) (A : Option Addr) (c : Nat) (xs : List S24) (u : Value) (x : Act11) (w : World) (h : DS B p lp A c xs u w) (hi : Inv2 xs) (hk : x.kind = 0) :
    Calls Tryz.prog 8 #[.pointer (some ⟨p, 0, none⟩), .pointer (some ⟨lp, 0, none⟩), actA x] w fun e w' =>
      e = .returned (.bool true) ∧ ∃ A' c' u', DS B p lp A' c' (addL xs x.q) u' w' ∧ Below B w w' := by
  have hu24 := Tryz.underlying24
  have hu31 := Tryz.underlying31
  obtain ⟨A2, c2, rfl⟩ := Kd.R_slice h.lr
  obtain ⟨_, hc2, _⟩ := Kd.R_reads' h.lr
  have hlen : xs.length ≤ 1000000 := by have := hi.len; omega
  have l0 := fun o => cell_alloc (lcell h.lc) o
  have hk0 : (x.kind == 0) = true := beq_iff_eq.2 hk
  have HH := Lib.hid h
  have HT := Lib.hid (fun o (ho : o = Obj.cells #[.int .i64 x.kind, .int .i64 x.q.f0, .int .i64 x.q.f1, .int .i64 x.q.f2, .int .i64 x.q.f3, .int .i64 x.q.f4, .int .i64 x.q.f5, .int .i64 x.q.f6, .int .i64 x.q.f7, .int .i64 x.a, .int .i64 x.b] 31) => ho ▸ TC.new x w)
  have HT := Lib.hid (HT.out _ rfl)
  have C25 := Lib.hid (fun (W : World) (hd : DS B p lp A c xs (.slice A2 xs.length c2) W) => rcheck_any x.q A2 c2 xs W (Kd.R_reads' hd.lr).2.2 hc2 hlen)
  have C26 := Lib.hid (fun (W : World) (hd : DS B p lp A c xs (.slice A2 xs.length c2) W) => check_any p x.q A c xs W hd.bo.bd hd.bo.C hlen)
  have C27 := Lib.hid (fun (W : World) (hd : DS B p lp A c xs (.slice A2 xs.length c2) W) => radd_any B _ x.q A2 c2 xs W hd.lr (Nat.le_trans hd.lb (Nat.le_of_lt (Array.getElem?_eq_some_iff.1 hd.lc).1)) hlen)
  have C18 := Lib.hid (fun (W : World) (hd : BO B p A c xs W) => add_any B p x.q A c xs W hd hlen)
  generalize hE : chkB x.q xs = E at *
  have hee : (E == E) = true := beq_iff_eq.2 rfl
  clear h hi hk hlen hc2
  unfold actA qA at *
  go_enter Tryz.func8, Tryz.ntmps8
  go_wp2_with (fail)
  go_region_with (go_at_call 33; refine (C25.out _ (HH.out.below ((below_alloc (Below.refl _ w) _).drew))).mono ?_; rintro e W1 ⟨rfl, b1⟩)
  all_goals (
    have B1 := bl2 ((below_alloc (Below.refl _ w) (.cells #[.int .i64 x.kind, .int .i64 x.q.f0, .int .i64 x.q.f1, .int .i64 x.q.f2, .int .i64 x.q.f3, .int .i64 x.q.f4, .int .i64 x.q.f5, .int .i64 x.q.f6, .int .i64 x.q.f7, .int .i64 x.a, .int .i64 x.b] 31)).drew) b1
    have HB1 := Lib.hid B1
    have HT1 := Lib.hid (HT.out.below (bl2 (drew_below _) b1))
    obtain ⟨k0, k1, k2, k3, k4, k5, k6, k7, k8, k9, k10⟩ := HT1.out.c
    have l1 := lcell (HH.out.below B1).lc
    go_wp2_with (first | (go_at_call 34; refine (C26.out _ (HH.out.below HB1.out)).mono ?_; rintro e W2 ⟨rfl, b2⟩))
    have B2 := bl2 B1 b2
    have HB2 := Lib.hid B2
    have HT2 := Lib.hid (HT1.out.below b2)
    obtain ⟨m0, m1, m2, m3, m4, m5, m6, m7, m8, m9, m10⟩ := HT2.out.c
    have l2 := lcell (HH.out.below B2).lc
    have Z27 := Lib.hid (C27.out W2.drew (HH.out.below (bl2 B2 (drew_below W2))))
    go_region_with (go_at_call 35; refine Z27.out.mono ?_; rintro e W3 ⟨u3, rfl, r3, b3⟩; obtain ⟨A3, c3, rfl⟩ := Kd.R_slice r3)
    all_goals (
    have B3 := bl2 B2 (bl2 (drew_below W2) b3)
    have HB3 := Lib.hid B3
    have HR3 := Lib.hid r3
    have HT3 := Lib.hid (HT2.out.below (bl2 (drew_below W2) b3))
    obtain ⟨n0, n1, n2, n3, n4, n5, n6, n7, n8, n9, n10⟩ := HT3.out.c
    go_wp2_with (first | (go_at_call 26; refine (C18.out _ (HH.out.below HB3.out).bo).mono ?_; rintro e W4 ⟨rfl, A', c', bo4, f4⟩; have HB4 := Lib.hid bo4; have HF4 := Lib.hid f4; have lc4 := fr_lc f4 (HH.out.below HB3.out); have l4 := lcell lc4; have fz4 := lfrz lc4; clear bo4 f4))
    go_ret
    exact ⟨rfl, _, _, _, DS.done HH.out HB3.out HR3.out HB4.out HF4.out HB2.out.size⟩))
end Go.Proofs.YtlhdbcjlmkglkaaGreat.Q

/- The law's step: Cancel, Less. -/
set_option linter.unusedSimpArgs false
set_option linter.unusedVariables false
namespace Go.Proofs.YtlhdbcjlmkglkaaGreat.Q
open Go Go.RowKit Go.Proofs Go.Proofs.YtlhdbcjlmkglkaaGreat.PL Go.Proofs.YtlhdbcjlmkglkaaGreatW.PrintWords
theorem typed_ne {w : World} {B : Nat} {ok : Nat → Prop} {v : Value} {xs : List S24} (hr : Kd.R k24 24 w B ok v xs) {k : Nat} {u : Value} (h : w.heap[k]? = some (.cells #[u] 27 (0, 0))) : some k ≠ v.ownBlock := by
  intro e
  obtain ⟨cur, hc⟩ := Kd.R_typed hr k e.symm
  rw [hc] at h
  injection h with h
  injection h with _ h
  exact absurd h (by decide)
/-- Behind an act, from a world in which both sides lie. -/
theorem done2 {B p lp : Nat} {A A' : Option Addr} {c c' : Nat} {xs ys : List S24} {u u' : Value} {w W W4 : World} (bo1 : BO B p A c xs W) (hlb : B ≤ lp) (lc1 : W.heap[lp]? = some (.cells #[u] 27 (0, 0))) (hlp : lp ≠ p) (hlo : some lp ≠ (Value.slice A xs.length c).ownBlock) (hbw : Below B w W)
    (hr : Kd.R k24 24 W B (fun k => k ≠ p ∧ some k ≠ (Value.slice A xs.length c).ownBlock) u' ys) (bo : BO B p A' c' ys W4) (hf : Fr p (Value.slice A xs.length c).ownBlock (Value.slice A' ys.length c').ownBlock W W4) :
    DS B p lp A' c' ys u' (W4.setCell ⟨lp, 0, none⟩ u') ∧ Below B w (W4.setCell ⟨lp, 0, none⟩ u') := by
  have hlc : W4.heap[lp]? = some (.cells #[u] 27 (0, 0)) := (hf.block lp (Array.getElem?_eq_some_iff.1 lc1).1 hlp hlo).trans lc1
  have key : ∀ k, u'.ownBlock = some k → k ≠ p ∧ some k ≠ (Value.slice A xs.length c).ownBlock ∧ k < W.heap.size ∧ k ≠ lp := fun k hk =>
    ⟨(hr.1 k hk).1, (hr.1 k hk).2, Kd.R_lt hr k hk, fun e => typed_ne hr lc1 (by rw [hk, e])⟩
  have hm : ∀ k, u'.ownBlock = some k → (W4.setCell ⟨lp, 0, none⟩ u').heap[k]? = W.heap[k]? := by
    intro k hk
    obtain ⟨k1, k2, k3, k4⟩ := key k hk
    rw [Below.heap_setCell W4 ⟨lp, 0, none⟩ u' k k4, hf.block k k3 k1 k2]
  have hR : Kd.R k24 24 (W4.setCell ⟨lp, 0, none⟩ u') B (fun k => u'.ownBlock = some k) u' ys :=
    Kd.R_move (ok := fun k => u'.ownBlock = some k) ⟨fun k hk => hk, hr.2.imp_ (fun x cs hx => by obtain rfl := k24_openM hx; exact k24_mkM _ _ _ _)⟩ hm
  have hlpo := typed_ne bo.r hlc
  refine ⟨⟨⟨bo.le, (Below.heap_setCell W4 ⟨lp, 0, none⟩ u' p (fun e => hlp e.symm)).trans bo.bd, Kd.R_move (ok := fun k => k ≠ p ∧ k ≠ lp) ⟨fun k hk => ⟨bo.r.1 k hk, fun e => hlpo (by rw [← e, hk])⟩, bo.r.2.imp_ (fun x cs hx => by obtain rfl := k24_openM hx; exact k24_mkM _ _ _ _)⟩ (fun k hk => Below.heap_setCell W4 ⟨lp, 0, none⟩ u' k hk.2) |> fun h => Kd.R_mono h fun k hk => hk.1⟩, hlb, ?_, Kd.R_mono hR fun k hk => ?_⟩, ?_⟩
  · have := heap_setCell_same W4 lp 0 _ _ u' hlc
    rw [this]
    rfl
  · obtain ⟨k1, k2, k3, k4⟩ := key k hk
    refine ⟨k1, ?_⟩
    rcases hf.own with e | e | ⟨b, e, hbb⟩
    · rw [e]; exact k2
    · rw [e]; simp
    · rw [e]; intro he; have := Option.some.inj he; omega
  · refine ⟨hf.os.trans hbw.os, hf.tape.trans hbw.tape, hf.output.trans hbw.output, by rw [World.size_setCell]; exact Nat.le_trans hbw.size hf.size, fun k hk => ?_⟩
    have hkp : k ≠ p := by have := bo1.le; omega
    have hkl : k ≠ lp := by omega
    have hko : some k ≠ (Value.slice A xs.length c).ownBlock := fun e => by have := Kd.R_base bo1.r k e.symm; omega
    have hks : k < W.heap.size := by have h1 := bo1.bd.lt; have h2 := bo1.le; omega
    rw [Below.heap_setCell W4 ⟨lp, 0, none⟩ u' k hkl, hf.block k hks hkp hko, hbw.block k hk]
/-- What the document's call leaves of both sides. -/
theorem DS.kept {B p lp : Nat} {A : Option Addr} {c : Nat} {xs : List S24} {u : Value} {w W : World} (h : DS B p lp A c xs u w) (hk : Kept w W (fun k => some k = u.ownBlock)) : BO B p A c xs W ∧ W.heap[lp]? = some (.cells #[u] 27 (0, 0)) := by
  have hp : W.heap[p]? = w.heap[p]? := hk.2 p h.bo.bd.lt (fun e => (h.lr.1 p e.symm).1 rfl)
  have hl : W.heap[lp]? = w.heap[lp]? := hk.2 lp (Array.getElem?_eq_some_iff.1 h.lc).1 (fun e => typed_ne h.lr h.lc e)
  refine ⟨⟨h.bo.le, hp.trans h.bo.bd, ?_⟩, hl.trans h.lc⟩
  have h2 : Kd.R k24 24 W B (fun k => (Value.slice A xs.length c).ownBlock = some k) (.slice A xs.length c) xs :=
    Kd.R_move (ok := fun k => (Value.slice A xs.length c).ownBlock = some k) ⟨fun k hk => hk, h.bo.r.2.imp_ (fun x cs hx => by obtain rfl := k24_openM hx; exact k24_mkM _ _ _ _)⟩
      (fun k hk2 => hk.2 k (Kd.R_lt h.bo.r k hk2) (fun e => (h.lr.1 k e.symm).2 hk2.symm))
  exact Kd.R_mono h2 fun k hk2 => h.bo.r.1 k hk2
theorem TC.kept {T : Nat} {x : Act11} {w W : World} {u : Value} (h : TC T x w) (hk : Kept w W (fun k => some k = u.ownBlock)) (hu : some T ≠ u.ownBlock) : TC T x W :=
  (hk.2 T (Array.getElem?_eq_some_iff.1 h).1 hu).trans h
theorem R_self {w : World} {B : Nat} {ok : Nat → Prop} {v : Value} {xs : List S24} (h : Kd.R k24 24 w B ok v xs) : Kd.R k24 24 w B (fun k => some k = v.ownBlock) v xs :=
  ⟨fun k hk => hk.symm, h.2.imp_ (fun x cs hx => by obtain rfl := k24_openM hx; exact k24_mkM _ _ _ _)⟩
theorem R_ok {B p lp : Nat} {A : Option Addr} {c : Nat} {xs ys : List S24} {u v : Value} {w W : World} (h : DS B p lp A c xs u w) (hr : Kd.R k24 24 W B (fun k => some k = u.ownBlock ∨ w.heap.size ≤ k) v ys) : Kd.R k24 24 W B (fun k => k ≠ p ∧ some k ≠ (Value.slice A xs.length c).ownBlock) v ys :=
  Kd.R_mono hr fun k hk => by
    rcases hk with hk | hk
    · exact h.lr.1 k hk.symm
    · exact ⟨by have := h.bo.bd.lt; omega, fun e => by have := Kd.R_lt h.bo.r k e.symm; omega⟩
theorem below_back {w0 w W : World} (h : Below w0.heap.size w0 w) (h2 : Below w0.heap.size w0 W) (hs : w.heap.size ≤ W.heap.size) : Below w0.heap.size w W :=
  ⟨h2.os.trans h.os.symm, h2.tape.trans h.tape.symm, h2.output.trans h.output.symm, hs, fun k hk => (h2.block k hk).trans (h.block k hk).symm⟩
set_option maxHeartbeats 400000 in
set_option maxRecDepth 1000000 in
theorem does_can (w0 : World) (p lp : Nat) (A : Option Addr) (c : Nat) (xs : List S24) (u : Value) (x : Act11) (w : World) (h : DS w0.heap.size p lp A c xs u w) (h0 : Below w0.heap.size w0 w) (hi : Inv2 xs) (hk : x.kind = 1) :
    Calls Tryz.prog 8 #[.pointer (some ⟨p, 0, none⟩), .pointer (some ⟨lp, 0, none⟩), actA x] w fun e w' =>
      e = .returned (.bool true) ∧ ∃ A' c' u', DS w0.heap.size p lp A' c' (canL x.a x.b xs) u' w' ∧ Below w0.heap.size w w' := by
  have hu24 := Tryz.underlying24
  have hu31 := Tryz.underlying31
  obtain ⟨A2, c2, rfl⟩ := Kd.R_slice h.lr
  have hlen : xs.length ≤ 1000000 := by have := hi.len; omega
  have l0 := fun o => cell_alloc (lcell h.lc) o
  obtain ⟨kd, hkd⟩ : ∃ kd : Int, x.kind = kd := ⟨_, rfl⟩
  have hk0 : (x.kind == 0) = false := beq_eq_false_iff_ne.2 (by omega)
  have hk1 : (x.kind == 1) = true := beq_iff_eq.2 hk
  have HH := Lib.hid h
  have H0 := Lib.hid h0
  have HT := Lib.hid (fun o (ho : o = Obj.cells #[.int .i64 x.kind, .int .i64 x.q.f0, .int .i64 x.q.f1, .int .i64 x.q.f2, .int .i64 x.q.f3, .int .i64 x.q.f4, .int .i64 x.q.f5, .int .i64 x.q.f6, .int .i64 x.q.f7, .int .i64 x.a, .int .i64 x.b] 31) => ho ▸ TC.new x w)
  have HT := Lib.hid (HT.out _ rfl)
  have HTN := Lib.hid (show some w.heap.size ≠ (Value.slice A2 xs.length c2).ownBlock from fun e => Nat.lt_irrefl _ (Kd.R_lt h.lr _ e.symm))
  have CR := Lib.hid (fun (W : World) (hd : DS w0.heap.size p lp A c xs (.slice A2 xs.length c2) W) (hb : Below w0.heap.size w0 W) =>
    lombardref21_Cancel.calls (xs.length + 1) (fun k => some k = (Value.slice A2 xs.length c2).ownBlock) (.slice A2 xs.length c2) xs x.a x.b _ _ w0 W hb (Kd.R_mono (R_self hd.lr) (fun k hk => hk)) (rcancel_f x.a x.b xs hlen))
  have CP := Lib.hid (fun (W : World) (hd : BO w0.heap.size p A c xs W) => cancel_any w0.heap.size p x.a x.b A c xs W hd hlen)
  generalize hE : canE x.a x.b xs = E at *
  have hee : (E == E) = true := beq_iff_eq.2 rfl
  clear h h0 hi hk hlen hkd
  unfold actA at *
  go_enter Tryz.func8, Tryz.ntmps8
  go_wp2_with (fail)
  go_region_with (go_at_call 36; refine (CR.out _ (HH.out.below ((below_alloc (Below.refl _ w) _).drew)) (H0.out.trans ((below_alloc (Below.refl _ w) _).drew.mono H0.out.size))).mono ?_; rintro e W1 ⟨u1, rfl, r1, b1, kp1⟩; obtain ⟨A3, c3, rfl⟩ := Kd.R_slice r1)
  all_goals (
    have HD0 := Lib.hid (HH.out.below ((below_alloc (Below.refl _ w) (.cells #[.int .i64 x.kind, .int .i64 x.q.f0, .int .i64 x.q.f1, .int .i64 x.q.f2, .int .i64 x.q.f3, .int .i64 x.q.f4, .int .i64 x.q.f5, .int .i64 x.q.f6, .int .i64 x.q.f7, .int .i64 x.a, .int .i64 x.b] 31)).drew))
    have HK1 := Lib.hid (HD0.out.kept kp1)
    have HT1 := Lib.hid (TC.kept (HT.out.below (drew_below _)) kp1 HTN.out)
    have HR1 := Lib.hid (R_ok HD0.out r1)
    have HB1 := Lib.hid (show Below w0.heap.size w W1 from below_back H0.out b1 (Nat.le_trans (by simp) kp1.1))
    obtain ⟨k0, k1, k2, k3, k4, k5, k6, k7, k8, k9, k10⟩ := HT1.out.c
    clear r1 b1 kp1
    go_wp2_with (first | (go_at_call 27; refine (CP.out _ HK1.out.1).mono ?_; rintro e W4 ⟨rfl, A', c', bo4, f4⟩; have HB4 := Lib.hid bo4; have HF4 := Lib.hid f4; have lc4 : W4.heap[lp]? = some (.cells #[_] 27 (0, 0)) := (f4.block lp (Array.getElem?_eq_some_iff.1 HK1.out.2).1 HH.out.ne HH.out.own).trans HK1.out.2; have l4 := lcell lc4; have fz4 := lfrz lc4; clear bo4 f4))
    go_ret
    exact ⟨rfl, _, _, _, done2 HK1.out.1 HH.out.lb HK1.out.2 HH.out.ne HH.out.own HB1.out HR1.out HB4.out HF4.out⟩)
set_option maxHeartbeats 400000 in
set_option maxRecDepth 1000000 in
theorem does_les (w0 : World) (p lp : Nat) (A : Option Addr) (c : Nat) (xs : List S24) (u : Value) (x : Act11) (w : World) (h : DS w0.heap.size p lp A c xs u w) (h0 : Below w0.heap.size w0 w) (hi : Inv2 xs) (hk : x.kind = 2) :
    Calls Tryz.prog 8 #[.pointer (some ⟨p, 0, none⟩), .pointer (some ⟨lp, 0, none⟩), actA x] w fun e w' =>
      e = .returned (.bool true) ∧ ∃ A' c' u', DS w0.heap.size p lp A' c' (lesL x.a x.b xs) u' w' ∧ Below w0.heap.size w w' := by
  have hu24 := Tryz.underlying24
  have hu31 := Tryz.underlying31
  obtain ⟨A2, c2, rfl⟩ := Kd.R_slice h.lr
  have hlen : xs.length ≤ 1000000 := by have := hi.len; omega
  have l0 := fun o => cell_alloc (lcell h.lc) o
  obtain ⟨kd, hkd⟩ : ∃ kd : Int, x.kind = kd := ⟨_, rfl⟩
  have hk0 : (x.kind == 0) = false := beq_eq_false_iff_ne.2 (by omega)
  have hk1 : (x.kind == 1) = false := beq_eq_false_iff_ne.2 (by omega)
  have hk2 : (x.kind == 2) = true := beq_iff_eq.2 hk
  have HH := Lib.hid h
  have H0 := Lib.hid h0
  have HT := Lib.hid (fun o (ho : o = Obj.cells #[.int .i64 x.kind, .int .i64 x.q.f0, .int .i64 x.q.f1, .int .i64 x.q.f2, .int .i64 x.q.f3, .int .i64 x.q.f4, .int .i64 x.q.f5, .int .i64 x.q.f6, .int .i64 x.q.f7, .int .i64 x.a, .int .i64 x.b] 31) => ho ▸ TC.new x w)
  have HT := Lib.hid (HT.out _ rfl)
  have HTN := Lib.hid (show some w.heap.size ≠ (Value.slice A2 xs.length c2).ownBlock from fun e => Nat.lt_irrefl _ (Kd.R_lt h.lr _ e.symm))
  have CR := Lib.hid (fun (W : World) (hd : DS w0.heap.size p lp A c xs (.slice A2 xs.length c2) W) (hb : Below w0.heap.size w0 W) =>
    lombardref21_Less.calls (xs.length + 1) (fun k => some k = (Value.slice A2 xs.length c2).ownBlock) (.slice A2 xs.length c2) xs x.a x.b _ _ w0 W hb (Kd.R_mono (R_self hd.lr) (fun k hk => hk)) (rless_f x.a x.b xs hlen hi.inv))
  have CP := Lib.hid (fun (W : World) (hd : BO w0.heap.size p A c xs W) => less_any w0.heap.size p x.a x.b A c xs W hd hlen hi.inv)
  generalize hE : lesE x.a x.b xs = E at *
  have hee : (E == E) = true := beq_iff_eq.2 rfl
  clear h h0 hi hk hlen hkd
  unfold actA at *
  go_enter Tryz.func8, Tryz.ntmps8
  go_wp2_with (fail)
  go_region_with (go_at_call 37; refine (CR.out _ (HH.out.below ((below_alloc (Below.refl _ w) _).drew)) (H0.out.trans ((below_alloc (Below.refl _ w) _).drew.mono H0.out.size))).mono ?_; rintro e W1 ⟨u1, rfl, r1, b1, kp1⟩; obtain ⟨A3, c3, rfl⟩ := Kd.R_slice r1)
  all_goals (
    have HD0 := Lib.hid (HH.out.below ((below_alloc (Below.refl _ w) (.cells #[.int .i64 x.kind, .int .i64 x.q.f0, .int .i64 x.q.f1, .int .i64 x.q.f2, .int .i64 x.q.f3, .int .i64 x.q.f4, .int .i64 x.q.f5, .int .i64 x.q.f6, .int .i64 x.q.f7, .int .i64 x.a, .int .i64 x.b] 31)).drew))
    have HK1 := Lib.hid (HD0.out.kept kp1)
    have HT1 := Lib.hid (TC.kept (HT.out.below (drew_below _)) kp1 HTN.out)
    have HR1 := Lib.hid (R_ok HD0.out r1)
    have HB1 := Lib.hid (show Below w0.heap.size w W1 from below_back H0.out b1 (Nat.le_trans (by simp) kp1.1))
    obtain ⟨k0, k1, k2, k3, k4, k5, k6, k7, k8, k9, k10⟩ := HT1.out.c
    clear r1 b1 kp1
    go_wp2_with (first | (go_at_call 28; refine (CP.out _ HK1.out.1).mono ?_; rintro e W4 ⟨rfl, A', c', bo4, f4⟩; have HB4 := Lib.hid bo4; have HF4 := Lib.hid f4; have lc4 : W4.heap[lp]? = some (.cells #[_] 27 (0, 0)) := (f4.block lp (Array.getElem?_eq_some_iff.1 HK1.out.2).1 HH.out.ne HH.out.own).trans HK1.out.2; have l4 := lcell lc4; have fz4 := lfrz lc4; clear bo4 f4))
    go_ret
    exact ⟨rfl, _, _, _, done2 HK1.out.1 HH.out.lb HK1.out.2 HH.out.ne HH.out.own HB1.out HR1.out HB4.out HF4.out⟩)
end Go.Proofs.YtlhdbcjlmkglkaaGreat.Q

/- The law's step: Leave, Expire. -/
set_option linter.unusedSimpArgs false
set_option linter.unusedVariables false
namespace Go.Proofs.YtlhdbcjlmkglkaaGreat.Q
open Go Go.RowKit Go.Proofs Go.Proofs.YtlhdbcjlmkglkaaGreat.PL Go.Proofs.YtlhdbcjlmkglkaaGreatW.PrintWords
theorem ints_l (l : List Int) (hl : l.length ≤ 1000000) : ∀ (f j : Nat), l.length ≤ j + f → lombardref01_Ints.l0 (f + 1) l l (j : Int) = some true
  | 0, j, h => by rw [lombardref01_Ints.l0, if_neg (by omega)]
  | f + 1, j, h => by
    by_cases hj : j < l.length
    · rw [lombardref01_Ints.l0, if_pos (by omega), if_pos (by omega), if_pos (by omega), if_pos rfl, w1n j (by omega)]
      exact ints_l l hl f (j + 1) (by omega)
    · rw [lombardref01_Ints.l0, if_neg (by omega)]
theorem ints_f (l : List Int) (hl : l.length ≤ 1000000) : lombardref01_Ints.f (l.length + 1) l l = some true := by
  unfold lombardref01_Ints.f
  rw [if_pos rfl]
  exact ints_l l hl l.length 0 (by omega)
theorem ints_c (l : List Int) (hl : l.length ≤ 1000000) (A0 A1 : Option Addr) (c0 c1 : Nat) (w : World) (h0 : Kd.C (Kd.int .i64) w A0 l.length l) (hc0 : l.length ≤ c0) (h1 : Kd.C (Kd.int .i64) w A1 l.length l) (hc1 : l.length ≤ c1) :
    Calls Tryz.prog 39 #[.slice A0 l.length c0, .slice A1 l.length c1] w fun e w' => e = .returned (.bool true) ∧ Drawn0 w w' :=
  lombardref01_Ints.calls _ A0 c0 l A1 c1 l true w h0 hc0 h1 hc1 (ints_f l hl)
theorem Fr.drewN {p : Nat} {g g' : Option Nat} {w W : World} (h : Fr p g g' w W) (n : Nat) : Fr p g g' w (W.drewN n) := by
  have hb := pw_below_drewN (Below.refl W.heap.size W) n
  exact ⟨hb.os.trans h.os, hb.tape.trans h.tape, hb.output.trans h.output, Nat.le_trans h.size hb.size, fun k hk h1 h2 => (hb.block k (Nat.lt_of_lt_of_le hk h.size)).trans (h.block k hk h1 h2), h.own⟩
theorem ids_keep {B p lp : Nat} {A : Option Addr} {c : Nat} {xs : List S24} {u v : Value} {l : List Int} {w W W' : World} {g' : Option Nat} (h : DS B p lp A c xs u w) (hr : Kd.R (Kd.int .i64) 3 W w.heap.size (fun _ => True) v l) (hf : Fr p (Value.slice A xs.length c).ownBlock g' W W') : Kd.R (Kd.int .i64) 3 W' w.heap.size (fun _ => True) v l := by
  have h1 := Kd.R_bound hr
  refine Kd.R_mono (Kd.R_step h1 (fun k hk hlt => hf.block k hlt ?_ ?_)) (fun _ _ => trivial)
  · have := h.bo.bd.lt; have := hk.2.1; omega
  · intro e; have := Kd.R_lt h.bo.r k e.symm; have := hk.2.1; omega
set_option maxHeartbeats 400000 in
set_option maxRecDepth 1000000 in
theorem does_leave (B p lp : Nat) (A : Option Addr) (c : Nat) (xs : List S24) (u : Value) (x : Act11) (w : World) (h : DS B p lp A c xs u w) (hi : Inv2 xs) (hk : x.kind = 3) (hm : x.a > 0) :
    Calls Tryz.prog 8 #[.pointer (some ⟨p, 0, none⟩), .pointer (some ⟨lp, 0, none⟩), actA x] w fun e w' =>
      e = .returned (.bool true) ∧ ∃ A' c' u', DS B p lp A' c' (xs.filter fun y => !(y.f1 == x.a)) u' w' ∧ Below B w w' := by
  have hu24 := Tryz.underlying24
  have hu31 := Tryz.underlying31
  obtain ⟨A2, c2, rfl⟩ := Kd.R_slice h.lr
  obtain ⟨_, hc2, _⟩ := Kd.R_reads' h.lr
  have hlen : xs.length ≤ 1000000 := by have := hi.len; omega
  have l0 := fun o => cell_alloc (lcell h.lc) o
  obtain ⟨kd, hkd⟩ : ∃ kd : Int, x.kind = kd := ⟨_, rfl⟩
  have hk0 : (x.kind == 0) = false := beq_eq_false_iff_ne.2 (by omega)
  have hk1 : (x.kind == 1) = false := beq_eq_false_iff_ne.2 (by omega)
  have hk2 : (x.kind == 2) = false := beq_eq_false_iff_ne.2 (by omega)
  have hk3 : (x.kind == 3) = true := beq_iff_eq.2 hk
  have dm : decide (0 < x.a) = true := decide_eq_true hm
  have HH := Lib.hid h
  have HT := Lib.hid (fun o (ho : o = Obj.cells #[.int .i64 x.kind, .int .i64 x.q.f0, .int .i64 x.q.f1, .int .i64 x.q.f2, .int .i64 x.q.f3, .int .i64 x.q.f4, .int .i64 x.q.f5, .int .i64 x.q.f6, .int .i64 x.q.f7, .int .i64 x.a, .int .i64 x.b] 31) => ho ▸ TC.new x w)
  have HT := Lib.hid (HT.out _ rfl)
  have CR := Lib.hid (fun (W : World) (hd : DS B p lp A c xs (.slice A2 xs.length c2) W) => lombardref21_Drop.calls (xs.length + 1) A2 c2 xs x.a 0 _ _ W (Kd.R_reads' hd.lr).2.2 hc2 (rdrop_f x.a 0 xs hlen))
  rw [(drop_member hi x.a hm).1, (drop_member hi x.a hm).2] at CR
  have CP := Lib.hid (fun (W : World) (hd : BO B p A c xs W) => leave_any B p x.a A c xs W hd hlen)
  have HLF := Lib.hid (show ((xs.filter fun y => y.f1 == x.a).map fun y => y.f0).length ≤ 1000000 from by rw [List.length_map]; have := List.length_filter_le (fun y => y.f1 == x.a) xs; omega)
  generalize hF : ((xs.filter fun y => y.f1 == x.a).map fun y => y.f0) = F at *
  generalize hY : (xs.filter fun y => !(y.f1 == x.a)) = Y at *
  clear h hi hk hlen hkd hc2
  unfold actA at *
  go_enter Tryz.func8, Tryz.ntmps8
  go_wp2_with (fail)
  go_region_with (go_at_call 38; refine (CR.out _ (HH.out.below ((below_alloc (Below.refl _ w) _).drew))).mono ?_; rintro e W1 ⟨u1, i1, rfl, r1, ri1, b1⟩; obtain ⟨A3, c3, rfl⟩ := Kd.R_slice r1; obtain ⟨A5, c5, rfl⟩ := Kd.R_slice ri1)
  all_goals (
    have HD0 := Lib.hid (HH.out.below ((below_alloc (Below.refl _ w) (.cells #[.int .i64 x.kind, .int .i64 x.q.f0, .int .i64 x.q.f1, .int .i64 x.q.f2, .int .i64 x.q.f3, .int .i64 x.q.f4, .int .i64 x.q.f5, .int .i64 x.q.f6, .int .i64 x.q.f7, .int .i64 x.a, .int .i64 x.b] 31)).drew))
    have HD1 := Lib.hid (HD0.out.below b1)
    have HT1 := Lib.hid (HT.out.below (bl2 (drew_below _) b1))
    have HR1 := Lib.hid (R_ok HD0.out (Kd.R_lower (Kd.R_mono (Kd.R_bound r1) fun k hk => .inr hk.2.1) (Nat.le_trans HD0.out.bo.le (Nat.le_of_lt HD0.out.bo.bd.lt))))
    have HI1 := Lib.hid ri1
    have HB1 := Lib.hid (show Below B w W1 from (bl2 ((below_alloc (Below.refl _ w) (.cells #[.int .i64 x.kind, .int .i64 x.q.f0, .int .i64 x.q.f1, .int .i64 x.q.f2, .int .i64 x.q.f3, .int .i64 x.q.f4, .int .i64 x.q.f5, .int .i64 x.q.f6, .int .i64 x.q.f7, .int .i64 x.a, .int .i64 x.b] 31)).drew) b1).mono (Nat.le_trans HH.out.bo.le (Nat.le_of_lt HH.out.bo.bd.lt)))
    obtain ⟨k0, k1, k2, k3, k4, k5, k6, k7, k8, k9, k10⟩ := HT1.out.c
    clear r1 b1 ri1
    go_wp2_with (first
      | (have Y0 := HF4; go_at_call 39; refine (ints_c F HLF.out _ _ _ _ _ (Kd.R_reads' HI4.out).2.2 (Kd.R_reads' HI4.out).2.1 (Kd.R_reads' HI5.out).2.2 (Kd.R_reads' HI5.out).2.1).mono ?_; rintro e W5 ⟨rfl, ⟨nd, rfl⟩⟩)
      | (go_at_call 30; refine (CP.out _ HD1.out.bo).mono ?_; rintro e W4 ⟨v4, rfl, ri4, A', c', bo4, f4⟩; obtain ⟨A6, c6, rfl⟩ := Kd.R_slice ri4; have HI5 := Lib.hid (ids_keep HD0.out HI1.out f4); have HI4 := Lib.hid ri4; have HB4 := Lib.hid bo4; have HF4 := Lib.hid f4; have lc4 := fr_lc f4 HD1.out; have l4 := lcell lc4; have fz4 := lfrz lc4; clear bo4 f4 ri4))
    go_ret
    exact ⟨rfl, _, _, _, done2 HD1.out.bo HH.out.lb HD1.out.lc HH.out.ne HH.out.own HB1.out HR1.out (HB4.out.below (pw_below_drewN (Below.refl _ _) _)) (HF4.out.drewN _)⟩)
set_option maxHeartbeats 400000 in
set_option maxRecDepth 1000000 in
theorem does_expire (B p lp : Nat) (A : Option Addr) (c : Nat) (xs : List S24) (u : Value) (x : Act11) (w : World) (h : DS B p lp A c xs u w) (hi : Inv2 xs) (hk : ¬ x.kind = 0 ∧ ¬ x.kind = 1 ∧ ¬ x.kind = 2 ∧ ¬ x.kind = 3) :
    Calls Tryz.prog 8 #[.pointer (some ⟨p, 0, none⟩), .pointer (some ⟨lp, 0, none⟩), actA x] w fun e w' =>
      e = .returned (.bool true) ∧ ∃ A' c' u', DS B p lp A' c' (xs.filter fun y => !decide (y.f6 < x.a)) u' w' ∧ Below B w w' := by
  have hu24 := Tryz.underlying24
  have hu31 := Tryz.underlying31
  obtain ⟨A2, c2, rfl⟩ := Kd.R_slice h.lr
  obtain ⟨_, hc2, _⟩ := Kd.R_reads' h.lr
  have hlen : xs.length ≤ 1000000 := by have := hi.len; omega
  have l0 := fun o => cell_alloc (lcell h.lc) o
  obtain ⟨kd, hkd⟩ : ∃ kd : Int, x.kind = kd := ⟨_, rfl⟩
  have hk0 : (x.kind == 0) = false := beq_eq_false_iff_ne.2 (by omega)
  have hk1 : (x.kind == 1) = false := beq_eq_false_iff_ne.2 (by omega)
  have hk2 : (x.kind == 2) = false := beq_eq_false_iff_ne.2 (by omega)
  have hk3 : (x.kind == 3) = false := beq_eq_false_iff_ne.2 (by omega)
  have HH := Lib.hid h
  have HT := Lib.hid (fun o (ho : o = Obj.cells #[.int .i64 x.kind, .int .i64 x.q.f0, .int .i64 x.q.f1, .int .i64 x.q.f2, .int .i64 x.q.f3, .int .i64 x.q.f4, .int .i64 x.q.f5, .int .i64 x.q.f6, .int .i64 x.q.f7, .int .i64 x.a, .int .i64 x.b] 31) => ho ▸ TC.new x w)
  have HT := Lib.hid (HT.out _ rfl)
  have CR := Lib.hid (fun (W : World) (hd : DS B p lp A c xs (.slice A2 xs.length c2) W) => lombardref21_Drop.calls (xs.length + 1) A2 c2 xs 0 x.a _ _ W (Kd.R_reads' hd.lr).2.2 hc2 (rdrop_f 0 x.a xs hlen))
  rw [(drop_day xs x.a).1, (drop_day xs x.a).2] at CR
  have CP := Lib.hid (fun (W : World) (hd : BO B p A c xs W) => expire_any B p x.a A c xs W hd hlen)
  have HLF := Lib.hid (show ((xs.filter fun y => decide (y.f6 < x.a)).map fun y => y.f0).length ≤ 1000000 from by rw [List.length_map]; have := List.length_filter_le (fun y => decide (y.f6 < x.a)) xs; omega)
  generalize hF : ((xs.filter fun y => decide (y.f6 < x.a)).map fun y => y.f0) = F at *
  generalize hY : (xs.filter fun y => !decide (y.f6 < x.a)) = Y at *
  clear h hi hk hlen hkd hc2
  unfold actA at *
  go_enter Tryz.func8, Tryz.ntmps8
  go_wp2_with (fail)
  go_region_with (go_at_call 38; refine (CR.out _ (HH.out.below ((below_alloc (Below.refl _ w) _).drew))).mono ?_; rintro e W1 ⟨u1, i1, rfl, r1, ri1, b1⟩; obtain ⟨A3, c3, rfl⟩ := Kd.R_slice r1; obtain ⟨A5, c5, rfl⟩ := Kd.R_slice ri1)
  all_goals (
    have HD0 := Lib.hid (HH.out.below ((below_alloc (Below.refl _ w) (.cells #[.int .i64 x.kind, .int .i64 x.q.f0, .int .i64 x.q.f1, .int .i64 x.q.f2, .int .i64 x.q.f3, .int .i64 x.q.f4, .int .i64 x.q.f5, .int .i64 x.q.f6, .int .i64 x.q.f7, .int .i64 x.a, .int .i64 x.b] 31)).drew))
    have HD1 := Lib.hid (HD0.out.below b1)
    have HT1 := Lib.hid (HT.out.below (bl2 (drew_below _) b1))
    have HR1 := Lib.hid (R_ok HD0.out (Kd.R_lower (Kd.R_mono (Kd.R_bound r1) fun k hk => .inr hk.2.1) (Nat.le_trans HD0.out.bo.le (Nat.le_of_lt HD0.out.bo.bd.lt))))
    have HI1 := Lib.hid ri1
    have HB1 := Lib.hid (show Below B w W1 from (bl2 ((below_alloc (Below.refl _ w) (.cells #[.int .i64 x.kind, .int .i64 x.q.f0, .int .i64 x.q.f1, .int .i64 x.q.f2, .int .i64 x.q.f3, .int .i64 x.q.f4, .int .i64 x.q.f5, .int .i64 x.q.f6, .int .i64 x.q.f7, .int .i64 x.a, .int .i64 x.b] 31)).drew) b1).mono (Nat.le_trans HH.out.bo.le (Nat.le_of_lt HH.out.bo.bd.lt)))
    obtain ⟨k0, k1, k2, k3, k4, k5, k6, k7, k8, k9, k10⟩ := HT1.out.c
    clear r1 b1 ri1
    go_wp2_with (first
      | (have Y0 := HF4; go_at_call 39; refine (ints_c F HLF.out _ _ _ _ _ (Kd.R_reads' HI4.out).2.2 (Kd.R_reads' HI4.out).2.1 (Kd.R_reads' HI5.out).2.2 (Kd.R_reads' HI5.out).2.1).mono ?_; rintro e W5 ⟨rfl, ⟨nd, rfl⟩⟩)
      | (go_at_call 31; refine (CP.out _ HD1.out.bo).mono ?_; rintro e W4 ⟨v4, rfl, ri4, A', c', bo4, f4⟩; obtain ⟨A6, c6, rfl⟩ := Kd.R_slice ri4; have HI5 := Lib.hid (ids_keep HD0.out HI1.out f4); have HI4 := Lib.hid ri4; have HB4 := Lib.hid bo4; have HF4 := Lib.hid f4; have lc4 := fr_lc f4 HD1.out; have l4 := lcell lc4; have fz4 := lfrz lc4; clear bo4 f4 ri4))
    go_ret
    exact ⟨rfl, _, _, _, done2 HD1.out.bo HH.out.lb HD1.out.lc HH.out.ne HH.out.own HB1.out HR1.out (HB4.out.below (pw_below_drewN (Below.refl _ _) _)) (HF4.out.drewN _)⟩)
end Go.Proofs.YtlhdbcjlmkglkaaGreat.Q

/- The law's step, whatever the act. -/
set_option linter.unusedSimpArgs false
set_option linter.unusedVariables false
namespace Go.Proofs.YtlhdbcjlmkglkaaGreat.Q
open Go Go.RowKit Go.Proofs Go.Proofs.YtlhdbcjlmkglkaaGreat.PL Go.Proofs.YtlhdbcjlmkglkaaGreatW.PrintWords
set_option maxHeartbeats 400000 in
set_option maxRecDepth 1000000 in
theorem does_nobody (B p lp : Nat) (A : Option Addr) (c : Nat) (xs : List S24) (u : Value) (x : Act11) (w : World) (h : DS B p lp A c xs u w) (hi : Inv2 xs) (hk : x.kind = 3) (hm : ¬ x.a > 0) :
    Calls Tryz.prog 8 #[.pointer (some ⟨p, 0, none⟩), .pointer (some ⟨lp, 0, none⟩), actA x] w fun e w' =>
      e = .returned (.bool true) ∧ ∃ A' c' u', DS B p lp A' c' (xs) u' w' ∧ Below B w w' := by
  have hu24 := Tryz.underlying24
  have hu31 := Tryz.underlying31
  obtain ⟨A2, c2, rfl⟩ := Kd.R_slice h.lr
  obtain ⟨_, hc2, _⟩ := Kd.R_reads' h.lr
  have hlen : xs.length ≤ 1000000 := by have := hi.len; omega
  have l0 := fun o => cell_alloc (lcell h.lc) o
  obtain ⟨kd, hkd⟩ : ∃ kd : Int, x.kind = kd := ⟨_, rfl⟩
  have hk0 : (x.kind == 0) = false := beq_eq_false_iff_ne.2 (by omega)
  have hk1 : (x.kind == 1) = false := beq_eq_false_iff_ne.2 (by omega)
  have hk2 : (x.kind == 2) = false := beq_eq_false_iff_ne.2 (by omega)
  have hk3 : (x.kind == 3) = true := beq_iff_eq.2 hk
  have dm : decide (0 < x.a) = false := decide_eq_false (by omega)
  have HH := Lib.hid h
  have HT := Lib.hid (fun o (ho : o = Obj.cells #[.int .i64 x.kind, .int .i64 x.q.f0, .int .i64 x.q.f1, .int .i64 x.q.f2, .int .i64 x.q.f3, .int .i64 x.q.f4, .int .i64 x.q.f5, .int .i64 x.q.f6, .int .i64 x.q.f7, .int .i64 x.a, .int .i64 x.b] 31) => ho ▸ TC.new x w)
  have HT := Lib.hid (HT.out _ rfl)
  have CP := Lib.hid (fun (W : World) (hd : BO B p A c xs W) => leave_any B p x.a A c xs W hd hlen)
  rw [(drop_nobody hi x.a hm).1, (drop_nobody hi x.a hm).2] at CP
  clear h hi hk hlen hkd hc2 hm
  unfold actA at *
  go_enter Tryz.func8, Tryz.ntmps8
  go_wp2_with (first
    | (have Y0 := HF4; go_at_call 39; refine (ints_c [] (by decide) _ none _ 0 _ (Kd.R_reads' HI4.out).2.2 (Kd.R_reads' HI4.out).2.1 (Kd.R_reads' (Kd.R_nil (Kd.int .i64) 3 W4 0 (fun _ => True))).2.2 (Nat.le_refl _)).mono ?_; rintro e W5 ⟨rfl, ⟨nd, rfl⟩⟩)
    | (go_at_call 30; refine (CP.out _ (HH.out.below (below_alloc (Below.refl _ w) _)).bo).mono ?_; rintro e W4 ⟨v4, rfl, ri4, A', c', bo4, f4⟩; obtain ⟨A6, c6, rfl⟩ := Kd.R_slice ri4; have HI4 := Lib.hid ri4; have HB4 := Lib.hid bo4; have HF4 := Lib.hid f4; have lc4 := fr_lc f4 (HH.out.below (below_alloc (Below.refl _ w) _)); have l4 := lcell lc4; have fz4 := lfrz lc4; clear bo4 f4 ri4))
  go_ret
  have hd0 := HH.out.below (below_alloc (Below.refl _ w) (.cells #[.int .i64 x.kind, .int .i64 x.q.f0, .int .i64 x.q.f1, .int .i64 x.q.f2, .int .i64 x.q.f3, .int .i64 x.q.f4, .int .i64 x.q.f5, .int .i64 x.q.f6, .int .i64 x.q.f7, .int .i64 x.a, .int .i64 x.b] 31))
  exact ⟨rfl, _, _, _, done2 hd0.bo HH.out.lb hd0.lc HH.out.ne HH.out.own ((below_alloc (Below.refl _ w) _).mono (Nat.le_trans HH.out.bo.le (Nat.le_of_lt HH.out.bo.bd.lt))) hd0.lr (HB4.out.below (pw_below_drewN (Below.refl _ _) _)) (HF4.out.drewN _)⟩
theorem does_any (w0 : World) (p lp : Nat) (A : Option Addr) (c : Nat) (xs : List S24) (u : Value) (x : Act11) (w : World) (h : DS w0.heap.size p lp A c xs u w) (h0 : Below w0.heap.size w0 w) (hi : Inv2 xs) :
    Calls Tryz.prog 8 #[.pointer (some ⟨p, 0, none⟩), .pointer (some ⟨lp, 0, none⟩), actA x] w fun e w' =>
      e = .returned (.bool true) ∧ ∃ A' c' u', DS w0.heap.size p lp A' c' (stepL x xs) u' w' ∧ Below w0.heap.size w w' := by
  unfold stepL
  by_cases k0 : x.kind = 0
  · rw [if_pos k0]; exact does_add w0.heap.size p lp A c xs u x w h hi k0
  rw [if_neg k0]
  by_cases k1 : x.kind = 1
  · rw [if_pos k1]; exact does_can w0 p lp A c xs u x w h h0 hi k1
  rw [if_neg k1]
  by_cases k2 : x.kind = 2
  · rw [if_pos k2]; exact does_les w0 p lp A c xs u x w h h0 hi k2
  rw [if_neg k2]
  by_cases k3 : x.kind = 3
  · rw [if_pos k3]
    by_cases hm : x.a > 0
    · exact does_leave w0.heap.size p lp A c xs u x w h hi k3 hm
    · rw [(drop_nobody hi x.a hm).2]
      exact does_nobody w0.heap.size p lp A c xs u x w h hi k3 hm
  · rw [if_neg k3]
    exact does_expire w0.heap.size p lp A c xs u x w h hi ⟨k0, k1, k2, k3⟩
end Go.Proofs.YtlhdbcjlmkglkaaGreat.Q
