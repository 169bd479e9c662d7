/- Part 29 of the proof's texts: what the theorem needs of them. -/
import Derived.Test.YtoknlpecbdlbfaaSCOf25
import Derived.WalkLawsBesides
import Derived.Deep.RegionHeld3
import Derived.Lib.Hide
import Derived.Test.YtoknlpecbdlbfaaSCOf28
import Derived.Sort.OwnSorted
import Derived.Shelf.SlSortCmp.NoneTotal
import Derived.Shelf.Slices.CompactS
import Derived.Ground.NamesProg
import Derived.Test.YtoknlpecbdlbfaaProg

/- The order of accounts: what cmp.Compare, cmp.Or and ledger.order answer, in a world to which blocks and draws are added alone. -/
namespace Go.Proofs.Ytoknlpecbdlbfaa.PL
open Go.RowKit
/-- -1, 0, 1: two texts by their bytes; two numbers. -/
def cmpS (a b : ByteArray) : Int := if Op.bytesLess a.toList b.toList = true then -1 else if (a.toList == b.toList) = true then 0 else 1
def cmpI (a b : Int) : Int := if a < b then -1 else if b < a then 1 else 0
set_option maxRecDepth 100000 in
theorem nan_str (a : ByteArray) (w : World) : Calls Try.prog 91 #[.string a] w fun e w' => e = .returned (.bool false) ∧ w = w' := by
  go_enter Try.func91, Try.ntmps91
  go_wp2
  go_ret
  exact ⟨by simp, rfl⟩
set_option maxRecDepth 100000 in
theorem nan_int (a : Int) (w : World) : Calls Try.prog 92 #[.int .i64 a] w fun e w' => e = .returned (.bool false) ∧ w = w' := by
  go_enter Try.func92, Try.ntmps92
  go_wp2
  go_ret
  exact ⟨by simp, rfl⟩
set_option maxRecDepth 100000 in
theorem cmp_str (a b : ByteArray) (w : World) : Calls Try.prog 85 #[.string a, .string b] w fun e w' => e = .returned (.int .i64 (cmpS a b)) ∧ w = w' := by
  unfold cmpS
  by_cases h1 : Op.bytesLess a.toList b.toList = true
  · rw [if_pos h1]
    go_enter Try.func85, Try.ntmps85
    go_wp2_with (go_at_call 91; refine (nan_str _ _).mono ?_; rintro e w1 ⟨rfl, rfl⟩)
    go_ret
    exact ⟨rfl, rfl⟩
  · have h1' : Op.bytesLess a.toList b.toList = false := by simpa using h1
    rw [if_neg h1]
    clear h1
    by_cases h2 : (a.toList == b.toList) = true
    · rw [if_pos h2]
      go_enter Try.func85, Try.ntmps85
      go_wp2_with (go_at_call 91; refine (nan_str _ _).mono ?_; rintro e w1 ⟨rfl, rfl⟩)
      go_ret
      exact ⟨rfl, rfl⟩
    · have h2' : (a.toList == b.toList) = false := by simpa using h2
      rw [if_neg h2]
      clear h2
      go_enter Try.func85, Try.ntmps85
      go_wp2_with (go_at_call 91; refine (nan_str _ _).mono ?_; rintro e w1 ⟨rfl, rfl⟩)
      go_ret
      exact ⟨rfl, rfl⟩
set_option maxRecDepth 100000 in
theorem cmp_int (a b : Int) (w : World) : Calls Try.prog 86 #[.int .i64 a, .int .i64 b] w fun e w' => e = .returned (.int .i64 (cmpI a b)) ∧ w = w' := by
  unfold cmpI
  by_cases h1 : a < b
  · rw [if_pos h1]
    go_enter Try.func86, Try.ntmps86
    go_wp2_with (go_at_call 92; refine (nan_int _ _).mono ?_; rintro e w1 ⟨rfl, rfl⟩)
    go_ret
    exact ⟨rfl, rfl⟩
  · rw [if_neg h1]
    by_cases h2 : b < a
    · rw [if_pos h2]
      go_enter Try.func86, Try.ntmps86
      go_wp2_with (go_at_call 92; refine (nan_int _ _).mono ?_; rintro e w1 ⟨rfl, rfl⟩)
      go_ret
      exact ⟨rfl, rfl⟩
    · rw [if_neg h2]
      go_enter Try.func86, Try.ntmps86
      go_wp2_with (go_at_call 92; refine (nan_int _ _).mono ?_; rintro e w1 ⟨rfl, rfl⟩)
      go_ret
      exact ⟨rfl, rfl⟩
def orI (x y z : Int) : Int := if x = 0 then (if y = 0 then z else y) else x
set_option maxRecDepth 100000 in
theorem or_any (x y z : Int) (g : Nat) (w : World) (h0 : w.cell? ⟨g, 0, none⟩ = some (.int .i64 x)) (h1 : w.cell? ⟨g, 1, none⟩ = some (.int .i64 y)) (h2 : w.cell? ⟨g, 2, none⟩ = some (.int .i64 z)) :
    Calls Try.prog 84 #[.slice (some ⟨g, 0, none⟩) 3 3] w fun e w' => e = .returned (.int .i64 (orI x y z)) ∧ w = w' := by
  obtain ⟨r, hr⟩ : ∃ r, orI x y z = r := ⟨_, rfl⟩
  rw [hr]
  have HR := Lib.hid hr
  clear hr
  go_enter Try.func84, Try.ntmps84
  go_wp2
  go_loop [5, 8] (fun _ i => ∃ k : Int, i = .int .i64 k ∧ (k = 0 ∨ (k = 1 ∧ x = 0) ∨ (k = 2 ∧ x = 0 ∧ y = 0) ∨ (k = 3 ∧ x = 0 ∧ y = 0 ∧ z = 0))) (fun _ i => (3 - intOf i).toNat)
  case atStart => exact ⟨0, rfl, .inl rfl⟩
  case round =>
    obtain ⟨k, rfl, hk⟩ := hrel
    rcases hk with rfl | ⟨rfl, hx⟩ | ⟨rfl, hx, hy⟩ | ⟨rfl, hx, hy, hz⟩
    · by_cases e : x = 0
      · have e' : (x != 0) = false := by simp [e]
        have E := Lib.hid e
        clear e
        go_wp2
        go_round
        case rel => exact ⟨1, rfl, .inr (.inl ⟨rfl, E.out⟩)⟩
        case measure => simp [intOf]
      · have e' : (x != 0) = true := by simp [e]
        go_wp2
        go_ret
        refine ⟨?_, rfl⟩
        rw [← HR.out]; unfold orI; rw [if_neg e]; rfl
    · have HX := Lib.hid hx
      clear hx
      by_cases e : y = 0
      · have e' : (y != 0) = false := by simp [e]
        have E := Lib.hid e
        clear e
        go_wp2
        go_round
        case rel => exact ⟨2, rfl, .inr (.inr (.inl ⟨rfl, HX.out, E.out⟩))⟩
        case measure => simp [intOf]
      · have e' : (y != 0) = true := by simp [e]
        go_wp2
        go_ret
        refine ⟨?_, rfl⟩
        rw [← HR.out]; unfold orI; rw [if_pos HX.out, if_neg e]; rfl
    · have HX := Lib.hid hx
      have HY := Lib.hid hy
      clear hx hy
      by_cases e : z = 0
      · have e' : (z != 0) = false := by simp [e]
        have E := Lib.hid e
        clear e
        go_wp2
        go_round
        case rel => exact ⟨3, rfl, .inr (.inr (.inr ⟨rfl, HX.out, HY.out, E.out⟩))⟩
        case measure => simp [intOf]
      · have e' : (z != 0) = true := by simp [e]
        go_wp2
        go_ret
        refine ⟨?_, rfl⟩
        rw [← HR.out]; unfold orI; rw [if_pos HX.out, if_pos HY.out]; rfl
    · have HX := Lib.hid hx
      have HY := Lib.hid hy
      have HZ := Lib.hid hz
      clear hx hy hz
      go_wp2
      go_ret
      refine ⟨?_, rfl⟩
      rw [← HR.out]; unfold orI; rw [if_pos HX.out, if_pos HY.out, HZ.out]; rfl

theorem or_new (x y z : Int) (W : World) : Calls Try.prog 84 #[.slice (some ⟨W.heap.size, 0, none⟩) 3 3] (W.alloc (.cells #[.int .i64 x, .int .i64 y, .int .i64 z] 3)).drew fun e w' => e = .returned (.int .i64 (orI x y z)) ∧ (W.alloc (.cells #[.int .i64 x, .int .i64 y, .int .i64 z] 3)).drew = w' := by
  refine or_any x y z _ _ ?_ ?_ ?_
  · show (W.alloc _).cell? _ = _
    simp
  · show (W.alloc _).cell? _ = _
    simp
  · show (W.alloc _).cell? _ = _
    simp
/-- The order of accounts: by things, owners, books. -/
def ordI (a b : S42) : Int := orI (cmpS a.f2 b.f2) (cmpI a.f0 b.f0) (cmpI a.f1 b.f1)
set_option maxHeartbeats 2000000 in
set_option maxRecDepth 100000 in
theorem order_walk (a0 a1 : Int) (a2 : ByteArray) (b0 b1 : Int) (b2 : ByteArray) (w : World) :
    Calls Try.prog 63 #[.agg #[.int .i64 a0, .int .i64 a1, .string a2], .agg #[.int .i64 b0, .int .i64 b1, .string b2]] w fun e w' => e = .returned (.int .i64 (orI (cmpS a2 b2) (cmpI a0 b0) (cmpI a1 b1))) ∧
      w' = ((((w.alloc (.cells #[.int .i64 a0, .int .i64 a1, .string a2] 42)).alloc (.cells #[.int .i64 b0, .int .i64 b1, .string b2] 42)).drew).alloc (.cells #[.int .i64 (cmpS a2 b2), .int .i64 (cmpI a0 b0), .int .i64 (cmpI a1 b1)] 3)) := by
  have C1 : ∀ w : World, Calls Try.prog 85 #[.string a2, .string b2] w _ := fun w => cmp_str a2 b2 w
  have C2 : ∀ w : World, Calls Try.prog 86 #[.int .i64 a0, .int .i64 b0] w _ := fun w => cmp_int a0 b0 w
  have C3 : ∀ w : World, Calls Try.prog 86 #[.int .i64 a1, .int .i64 b1] w _ := fun w => cmp_int a1 b1 w
  generalize cmpS a2 b2 = x at C1 ⊢
  generalize cmpI a0 b0 = y at C2 ⊢
  generalize cmpI a1 b1 = z at C3 ⊢
  have H1 := Lib.hid C1
  have H2 := Lib.hid C2
  have H3 := Lib.hid C3
  clear C1 C2 C3
  go_enter Try.func63, Try.ntmps63
  go_wp2_with fail
  obtain ⟨W, hW⟩ : ∃ W, W = (w.alloc (.cells #[.int .i64 a0, .int .i64 a1, .string a2] 42)).alloc (.cells #[.int .i64 b0, .int .i64 b1, .string b2] 42) := ⟨_, rfl⟩
  have k0 : W.cell? ⟨w.heap.size, 0, none⟩ = some (.int .i64 a0) := by rw [hW]; simp
  have k1 : W.cell? ⟨w.heap.size, 1, none⟩ = some (.int .i64 a1) := by rw [hW]; simp
  have k2 : W.cell? ⟨w.heap.size, 2, none⟩ = some (.string a2) := by rw [hW]; simp
  have k3 : W.cell? ⟨w.heap.size + 1, 0, none⟩ = some (.int .i64 b0) := by rw [hW]; simp
  have k4 : W.cell? ⟨w.heap.size + 1, 1, none⟩ = some (.int .i64 b1) := by rw [hW]; simp
  have k5 : W.cell? ⟨w.heap.size + 1, 2, none⟩ = some (.string b2) := by rw [hW]; simp
  rw [← hW]
  have HW := Lib.hid hW
  clear hW
  generalize w.heap.size = g at k0 k1 k2 k3 k4 k5 ⊢
  go_region_held3 (fun w' => w'.cell? ⟨g, 0, none⟩ = some (.int .i64 a0) ∧ w'.cell? ⟨g, 1, none⟩ = some (.int .i64 a1) ∧ w'.cell? ⟨g, 2, none⟩ = some (.string a2) ∧ w'.cell? ⟨g + 1, 0, none⟩ = some (.int .i64 b0) ∧ w'.cell? ⟨g + 1, 1, none⟩ = some (.int .i64 b1) ∧ w'.cell? ⟨g + 1, 2, none⟩ = some (.string b2)) (go_keep)
    (first | (go_at_call 85; refine (H1.out _).mono ?_; rintro e w1 ⟨rfl, rfl⟩) | (go_at_call_of 86 (Value.int IntKind.i64 a0); refine (H2.out _).mono ?_; rintro e w2 ⟨rfl, rfl⟩) | (go_at_call_of 86 (Value.int IntKind.i64 a1); refine (H3.out _).mono ?_; rintro e w3 ⟨rfl, rfl⟩) | (go_at_call 84; refine (or_new x y z W).mono ?_; rintro e w4 ⟨rfl, rfl⟩))
  all_goals
    go_wp2
    go_ret
    refine ⟨rfl, ?_⟩
    rw [HW.out]
    rfl
end Go.Proofs.Ytoknlpecbdlbfaa.PL

/- The order of accounts. -/
namespace Go.Proofs.Ytoknlpecbdlbfaa.PL
open Go Go.RowKit Go.Maps Go.Sort Go.Shelf Go.Proofs Go.Proofs.YtoknlpecbdlbfaaW.PrintWords Go.Proofs.YtoknlpecbdlbfaaW.PrintLast
instance : Inhabited S42 := ⟨z42⟩
theorem bytes_ext {a b : ByteArray} (h : a.toList = b.toList) : a = b := by
  rw [ByteArray.toList_eq, ByteArray.toList_eq] at h
  cases a; cases b
  congr 1
  exact Array.toList_inj.1 h
/-- An account stands ahead of another one. -/
def Bef (a b : S42) : Prop := a.f2.toList < b.f2.toList ∨ (a.f2.toList = b.f2.toList ∧ (a.f0 < b.f0 ∨ (a.f0 = b.f0 ∧ a.f1 < b.f1)))
theorem ll_irrefl (x : List UInt8) : ¬ x < x := fun h => List.not_le.2 h (List.le_refl _)
theorem ll_tri (x y : List UInt8) : x < y ∨ x = y ∨ y < x := by
  rcases List.le_total x y with h | h
  · by_cases e : x = y
    · exact .inr (.inl e)
    · refine .inl (Classical.byContradiction fun h2 => e (List.le_antisymm h (List.not_lt.1 h2)))
  · by_cases e : x = y
    · exact .inr (.inl e)
    · refine .inr (.inr (Classical.byContradiction fun h2 => e (List.le_antisymm (List.not_lt.1 h2) h)))
theorem ll_trans {x y z : List UInt8} (h1 : x < y) (h2 : y < z) : x < z := List.lt_trans h1 h2
theorem Bef.irrefl (a : S42) : ¬ Bef a a := by
  rintro (h | ⟨_, h | ⟨_, h⟩⟩)
  · exact ll_irrefl _ h
  · omega
  · omega
theorem Bef.trans {a b c : S42} (h1 : Bef a b) (h2 : Bef b c) : Bef a c := by
  unfold Bef at *
  rcases h1 with h1 | ⟨e1, h1⟩
  · rcases h2 with h2 | ⟨e2, h2⟩
    · exact .inl (ll_trans h1 h2)
    · exact .inl (by rw [← e2]; exact h1)
  · rcases h2 with h2 | ⟨e2, h2⟩
    · exact .inl (by rw [e1]; exact h2)
    · refine .inr ⟨e1.trans e2, ?_⟩
      omega
theorem Bef.tri (a b : S42) : Bef a b ∨ a = b ∨ Bef b a := by
  unfold Bef
  rcases ll_tri a.f2.toList b.f2.toList with h | h | h
  · exact .inl (.inl h)
  · by_cases h0 : a.f0 = b.f0
    · by_cases h1 : a.f1 = b.f1
      · refine .inr (.inl ?_)
        obtain ⟨a0, a1, a2⟩ := a
        obtain ⟨b0, b1, b2⟩ := b
        simp only at h0 h1 h
        rw [h0, h1, bytes_ext h]
      · by_cases h2 : a.f1 < b.f1
        · exact .inl (.inr ⟨h, .inr ⟨h0, h2⟩⟩)
        · exact .inr (.inr (.inr ⟨h.symm, .inr ⟨h0.symm, by omega⟩⟩))
    · by_cases h2 : a.f0 < b.f0
      · exact .inl (.inr ⟨h, .inl h2⟩)
      · exact .inr (.inr (.inr ⟨h.symm, .inl (by omega)⟩))
  · exact .inr (.inr (.inl h))
theorem cmpS_lt (a b : ByteArray) : cmpS a b < 0 ↔ a.toList < b.toList := by
  unfold cmpS
  rw [bytesLess_eq]
  by_cases h : a.toList < b.toList
  · simp [h]
  · simp only [h, decide_false, Bool.false_eq_true, if_false, iff_false]
    split <;> omega
theorem cmpS_eq (a b : ByteArray) : cmpS a b = 0 ↔ a.toList = b.toList := by
  unfold cmpS
  rw [bytesLess_eq]
  by_cases h : a.toList < b.toList
  · simp only [h, decide_true, if_true]
    constructor
    · intro hh; omega
    · intro e; rw [e] at h; exact absurd h (ll_irrefl _)
  · simp only [h, decide_false, Bool.false_eq_true, if_false]
    by_cases e : a.toList = b.toList
    · simp [e]
    · simp [e]
theorem cmpI_lt (a b : Int) : cmpI a b < 0 ↔ a < b := by
  unfold cmpI
  split
  · simp_all
  · split <;> omega
theorem cmpI_eq (a b : Int) : cmpI a b = 0 ↔ a = b := by
  unfold cmpI
  split
  · omega
  · split <;> omega
theorem ord_lt (a b : S42) : ordI a b < 0 ↔ Bef a b := by
  unfold ordI orI Bef
  by_cases h1 : a.f2.toList = b.f2.toList
  · rw [if_pos ((cmpS_eq _ _).2 h1)]
    have hn : ¬ a.f2.toList < b.f2.toList := by rw [h1]; exact ll_irrefl _
    by_cases h2 : a.f0 = b.f0
    · rw [if_pos ((cmpI_eq _ _).2 h2), cmpI_lt]
      constructor
      · intro h; exact .inr ⟨h1, .inr ⟨h2, h⟩⟩
      · rintro (h | ⟨_, h | ⟨_, h⟩⟩)
        · exact absurd h hn
        · omega
        · exact h
    · rw [if_neg (fun h => h2 ((cmpI_eq _ _).1 h)), cmpI_lt]
      constructor
      · intro h; exact .inr ⟨h1, .inl h⟩
      · rintro (h | ⟨_, h | ⟨h, _⟩⟩)
        · exact absurd h hn
        · exact h
        · exact absurd h h2
  · rw [if_neg (fun h => h1 ((cmpS_eq _ _).1 h)), cmpS_lt]
    constructor
    · intro h; exact .inl h
    · rintro (h | ⟨h, _⟩)
      · exact h
      · exact absurd h h1
theorem ltOf_ord (a b : S42) : ltOf ordI a b = true ↔ Bef a b := by
  unfold ltOf
  rw [decide_eq_true_iff, ord_lt]
theorem ltOf_ord_f (a b : S42) : ltOf ordI a b = false ↔ ¬ Bef a b := by
  rw [← ltOf_ord]
  cases ltOf ordI a b <;> simp
theorem swoOrd : SWO (ltOf ordI) where
  irrefl x := (ltOf_ord_f x x).2 (Bef.irrefl x)
  trans x y z h1 h2 := (ltOf_ord x z).2 (((ltOf_ord x y).1 h1).trans ((ltOf_ord y z).1 h2))
  ntrans x y z h1 h2 := by
    rw [ltOf_ord_f] at h1 h2 ⊢
    intro h
    rcases Bef.tri x y with h3 | rfl | h3
    · exact h1 h3
    · exact h2 h
    · exact h2 (h3.trans h)
theorem order_lays (blk off size : Nat) (w : World) : CmpLays Try.prog 63 #[] c3 3 ordI blk off size w := fun m os dk _ x y => by
  refine (order_walk x.f0 x.f1 x.f2 y.f0 y.f1 y.f2 _).mono ?_
  rintro e w' ⟨rfl, rfl⟩
  refine ⟨rfl, 1, (#[.cells #[.int .i64 x.f0, .int .i64 x.f1, .string x.f2] 42] ++ #[.cells #[.int .i64 y.f0, .int .i64 y.f1, .string y.f2] 42]) ++ #[.cells #[.int .i64 (cmpS x.f2 y.f2), .int .i64 (cmpI x.f0 y.f0), .int .i64 (cmpI x.f1 y.f1)] 3], ?_⟩
  rw [alloc_eq_grow, alloc_eq_grow, alloc_eq_grow, grow_grow, drew_grow, grow_grow]
  rfl
end Go.Proofs.Ytoknlpecbdlbfaa.PL

/- slices.SortedFunc at accounts, walked: the keys of the map, in order. -/
namespace Go.Proofs.Ytoknlpecbdlbfaa.PL
open Go Go.RowKit Go.Maps Go.Sort Go.Shelf Go.Proofs Go.Proofs.YtoknlpecbdlbfaaW.PrintWords Go.Proofs.YtoknlpecbdlbfaaW.PrintLast
theorem get_flat3 : ∀ (ss : List S42) (t : Nat), t < ss.length * 3 → (ss.flatMap c3)[t]? = (c3 (ss.getD (t / 3) default))[t % 3]?
  | [], t, h => by simp at h
  | a :: r, t, h => by
    rw [List.flatMap_cons]
    by_cases h3 : t < 3
    · rw [List.getElem?_append_left (by simp [c3]; omega)]
      have h4 : t / 3 = 0 := by omega
      have h5 : t % 3 = t := by omega
      rw [h4, h5]
      rfl
    · rw [List.getElem?_append_right (by simp [c3]; omega)]
      have h4 : t / 3 = (t - 3) / 3 + 1 := by omega
      have h5 : t % 3 = (t - 3) % 3 := by omega
      have h6 : (c3 a).length = 3 := rfl
      rw [h4, h5, h6, get_flat3 r (t - 3) (by simp at h; omega)]
      simp [List.getD]
theorem flat_c3 (ss : List S42) : flatK c3 3 ss.toArray = (ss.flatMap c3).toArray := by
  refine ext_get! (by rw [size_flatK, List.size_toArray, List.size_toArray, len_c3]) (fun t ht => ?_)
  have ht' : t < ss.length * 3 := by simpa using ht
  rw [get_flatK _ _ _ t (by simpa using ht')]
  have h := get_flat3 ss t ht'
  have hd : t / 3 < ss.length := by omega
  have e1 : (ss.toArray)[t / 3]! = ss.getD (t / 3) default := by simp [List.getD]
  rw [e1]
  have e2 : t % 3 < (c3 (ss.getD (t / 3) default)).length := by show t % 3 < 3; omega
  have e3 : t < (ss.flatMap c3).length := by rw [len_c3]; exact ht'
  rw [List.getElem?_eq_getElem e3, List.getElem?_eq_getElem e2] at h
  injection h with h
  rw [getElem!_pos (ss.flatMap c3).toArray t (by simpa using e3), getElem!_pos _ (t % 3) e2]
  simpa using h.symm
theorem holds3_of_block {w : World} {g : Nat} {cur : Array Value} {e : TypeId} {ss : List S42} (hb : w.heap[g]? = some (.cells cur e (0, 0))) (ht : cur.toList.take (ss.length * 3) = ss.flatMap c3) : HoldsK c3 3 w g 0 ss.toArray := by
  unfold HoldsK
  rw [flat_c3]
  intro j hj
  have hj' : j < ss.length * 3 := by rw [← len_c3]; simpa using hj
  refine ⟨?_, by simp [World.frozen?, hb]⟩
  have h1 : (cur.toList.take (ss.length * 3))[j]? = (ss.flatMap c3)[j]? := by rw [ht]
  rw [List.getElem?_take_of_lt hj'] at h1
  simp only [World.cell?, hb, Nat.zero_add]
  simp only [Option.isSome_none, Bool.false_eq_true, if_false]
  have e3 : j < (ss.flatMap c3).length := by rw [len_c3]; exact hj'
  rw [← Array.getElem?_toList, h1, getElem!_pos (ss.flatMap c3).toArray j (by simpa using e3), List.getElem?_eq_getElem e3]
  simp
theorem heap_sorted3 {w : World} {g n : Nat} {os : Array Obj} {cur : Array Value} {e : TypeId} {fr : Nat × Nat} (d : Array S42) (hb : w.heap[g]? = some (.cells cur e fr)) :
    (sortWorldK c3 3 w g 0 n d os).heap[g]? = some (.cells (putCells id 0 (flatK c3 3 d) cur) e fr) := by
  have hg : g < w.heap.size := (Array.getElem?_eq_some_iff.1 hb).1
  unfold sortWorldK putRowK
  rw [heap_grow_old _ _ (by simpa using hg)]
  simp [putRow, mapBlock, Sort.ahead, Array.getElem?_modify, hb, onCells]
theorem grownBy_sorted3 {w : World} {g n : Nat} {os : Array Obj} (d : Array S42) : w.grownBy (sortWorldK c3 3 w g 0 n d os) (some g) := by
  unfold sortWorldK putRowK
  refine ⟨rfl, rfl, rfl, by simp, fun k hk hne => ?_⟩
  rw [heap_grow_old _ _ (by simpa using hk)]
  have : g ≠ k := fun e => hne (by rw [e])
  simp [putRow, mapBlock, Sort.ahead, Array.getElem?_modify, this]
theorem take_putCells3 (cur : Array Value) (ts : List Value) (h : ts.length ≤ cur.size) : (putCells id 0 ts.toArray cur).toList.take ts.length = ts := by
  apply List.ext_getElem?
  intro j
  by_cases hj : j < ts.length
  · rw [List.getElem?_take_of_lt hj, Array.getElem?_toList]
    simp [putCells, hj, show j < cur.size by omega]
  · rw [List.getElem?_take_eq_none (by omega), List.getElem?_eq_none (by omega)]
theorem ownsRow_sorted3 {w : World} {base g cap n : Nat} {os : Array Obj} {cur : Array Value} {ss ts : List S42} (hl : ts.length = ss.length) (hbase : base ≤ g) (hb : w.heap[g]? = some (.cells cur 42 (0, 0)))
    (h1 : ss.length ≤ cap) (h2 : cap ≤ maxLen) (h3 : cur.size = cap * 3) :
    (sortWorldK c3 3 w g 0 n ts.toArray os).ownsRow base 42 3 (.slice (some ⟨g, 0, none⟩) ss.length cap) ss.length (ts.flatMap c3) :=
  ⟨by rw [len_c3, hl], .inr ⟨g, cap, _, rfl, hbase, heap_sorted3 _ hb, h1, h2, by simp [putCells, h3], by
    rw [flat_c3, ← hl, ← len_c3]
    exact take_putCells3 cur _ (by rw [len_c3, h3]; omega)⟩⟩
theorem isAgg42 : ∀ w, (isAgg 42).run Try.prog w = .ok true w := Try.isAgg42
theorem sizeOf42 : ∀ w, (Go.sizeOf 42).run Try.prog w = .ok 3 w := Try.sizeOf42
/-- The keys in order. -/
def Asc (l : List S42) : Prop := l.Pairwise Bef
theorem asc_of {ss : List S42} (hn : ss.Nodup) (hs : ∀ i j, i < j → j < ss.length → ¬ Bef (ss.getD j default) (ss.getD i default)) : Asc ss := by
  unfold Asc
  rw [List.pairwise_iff_getElem]
  intro i j hi hj hij
  have h := hs i j hij hj
  simp only [List.getD_eq_getElem?_getD, List.getElem?_eq_getElem hi, List.getElem?_eq_getElem hj, Option.getD_some] at h
  rcases Bef.tri ss[i] ss[j] with h1 | h1 | h1
  · exact h1
  · exact absurd h1 ((List.pairwise_iff_getElem.1 hn) i j hi hj hij)
  · exact absurd h1 h
set_option maxRecDepth 100000 in
set_option maxHeartbeats 1000000 in
/-- slices.SortFunc(s, order). -/
theorem sort_any (g cap : Nat) (ss : List S42) (cur : Array Value) (w : World) (hb : w.heap[g]? = some (.cells cur 42 (0, 0))) (ht : cur.toList.take (ss.length * 3) = ss.flatMap c3) (hn : ss.Nodup) (hlen : ss.length ≤ cap) (hcap : cap ≤ maxLen) (hcur : cur.size = cap * 3) (hsz : ss.length < 4611686018427387904) (base : Nat) (hbase : base ≤ g) :
    Calls Try.prog 82 #[.slice (some ⟨g, 0, none⟩) ss.length cap, .func (.func 63) #[] #[]] w fun e w' => e = .returned (.tuple #[]) ∧ ∃ ts : List S42, ts.Perm ss ∧ Asc ts ∧ w'.ownsRow base 42 3 (.slice (some ⟨g, 0, none⟩) ss.length cap) ss.length (ts.flatMap c3) ∧ w.grownBy w' (some g) := by
  have hH := holds3_of_block hb ht
  have hgl : g < w.heap.size := (Array.getElem?_eq_some_iff.1 hb).1
  have h := AnyQ.slices_SortFunc Try.sortAcc 3 isAgg42 sizeOf42 c3 (fun _ => rfl) one_c3 ordI swoOrd 63 #[] g 0 cap ss.toArray w (enters_of Try.func63 (by kernel_rfl) rfl) (order_lays g 0 ss.toArray.size w) hH hgl (by simpa using hsz)
  refine Calls.mono h ?_
  rintro e w' ⟨rfl, d', n, os, hp, hs, rfl⟩
  have hd : d'.size = ss.length := by simpa using hp.1
  have hperm : d'.toList.Perm ss := by
    have h1 := hp.2.2
    simp only [List.size_toArray] at h1
    rw [← hd, Array.extract_size] at h1
    rw [hd] at h1
    simpa using h1
  refine ⟨rfl, d'.toList, hperm, asc_of (hperm.nodup_iff.2 hn) ?_, ?_, grownBy_sorted3 _⟩
  · intro i j hij hj
    have h1 := hs i j (Nat.zero_le _) hij (by simp at hj; simpa [← hd] using hj)
    rw [ltOf_ord_f] at h1
    have hj' : j < d'.size := by simpa using hj
    rw [getElem!_pos d' j hj', getElem!_pos d' i (by omega)] at h1
    simpa [List.getD, hj', show i < d'.size by omega] using h1
  · have h1 := ownsRow_sorted3 (n := n) (os := os) (ts := d'.toList) (ss := ss) (by simpa using hd) hbase hb hlen hcap hcur
    simpa using h1
end Go.Proofs.Ytoknlpecbdlbfaa.PL

/- slices.SortedFunc(maps.Keys(m), order). -/
namespace Go.Proofs.Ytoknlpecbdlbfaa.PL
open Go Go.RowKit Go.Maps Go.Sort Go.Shelf Go.Proofs Go.Proofs.YtoknlpecbdlbfaaW.PrintWords Go.Proofs.YtoknlpecbdlbfaaW.PrintLast
theorem sort_none (fv : Value) (w : World) : Calls Try.prog 82 #[.slice none 0 0, fv] w fun e w' => e = .returned (.tuple #[]) ∧ w' = w :=
  AnyF.slices_SortFunc_none Try.sortAcc none 0 fv w
theorem sort_own {W : World} {base : Nat} {v : Value} {ss : List S42} (hrow : W.ownsRow base 42 3 v ss.length (ss.flatMap c3)) (hn : ss.Nodup) (hsz : ss.length < 4611686018427387904) :
    Calls Try.prog 82 #[v, .func (.func 63) #[] #[]] W fun e w' => e = .returned (.tuple #[]) ∧ ∃ ts : List S42, ts.Perm ss ∧ Asc ts ∧ w'.ownsRow base 42 3 v ts.length (ts.flatMap c3) ∧ W.grownBy w' v.ownBlock ∧ (∀ k, v.ownBlock = some k → base ≤ k) := by
  have h0 := hrow
  rcases hrow.2 with ⟨rfl, hz⟩ | ⟨gb, cap, cur, rfl, hbase, hgb, r1, r2, r3, r4⟩
  · have hss : ss = [] := List.eq_nil_of_length_eq_zero hz
    subst hss
    refine (sort_none _ W).mono ?_
    rintro e w' ⟨rfl, rfl⟩
    exact ⟨rfl, [], List.Perm.refl _, List.Pairwise.nil, h0, ⟨rfl, rfl, rfl, Nat.le_refl _, fun _ _ _ => rfl⟩, fun k hk => by simp [Value.ownBlock] at hk⟩
  · refine (sort_any gb cap ss cur W hgb r4 hn r1 r2 r3 hsz base hbase).mono ?_
    rintro e w' ⟨rfl, ts, hp, ha, ho, hg⟩
    refine ⟨rfl, ts, hp, ha, by rw [hp.length_eq]; exact ho, by simpa [Value.ownBlock] using hg, fun k hk => ?_⟩
    have : gb = k := by simpa [Value.ownBlock] using hk
    omega
set_option maxRecDepth 100000 in
set_option maxHeartbeats 2000000 in
theorem sortedFunc_in (n : Nat) (hn : 4 ≤ n) (lb : Array Value) (S : List S42 → Prop) (hS : ∀ ss, S ss → ss.Nodup) (N : Nat) (hN : N ≤ maxLen) (hNb : N * 32 ≤ 140737488355328) (w : World) (hseq : SeqGives Fence.wide (n - 1 - 1 - 1) Try.prog 83 lb kv S N w) :
    CallsIn Fence.wide n Try.prog 61 #[.func (.func 83) #[] lb, .func (.func 63) #[] #[]] w fun e w' => ∃ (v : Value) (ss ts : List S42), e = .returned v ∧ S ss ∧ ts.Perm ss ∧ Asc ts ∧ w'.ownsRow w.heap.size 42 3 v ts.length (ts.flatMap c3) ∧ Below w.heap.size w w' := by
  have h1 : 1 ≤ n := by omega
  have eg : ∀ args w, (callFunc 83 args).run Try.prog w = .ok (.enter 83 args) w := enters_of Try.func83 (by kernel_rfl) rfl
  have hC := Lib.hid ((collect_in Fence.wide (n - 1) trivial trivial rfl (by omega) 83 lb trivial eg _ N hN hNb _ hseq.bounded).mono (R' := fun e w' => ∃ (v : Value) (ss : List S42), e = .returned v ∧ Hid (S ss ∧ Below w.heap.size w w') ∧ CallsIn Fence.wide (n - 1) Try.prog 82 #[v, .func (.func 63) #[] #[]] w' fun e w' => e = .returned (.tuple #[]) ∧ Hid (∃ ts : List S42, ts.Perm ss ∧ Asc ts ∧ w'.ownsRow w.heap.size 42 3 v ts.length (ts.flatMap c3) ∧ Below w.heap.size w w')) (by
    rintro e W ⟨v, ss, rfl, ⟨hSs, hlen⟩, hrow, hnil, hb⟩
    refine ⟨v, ss, rfl, ⟨hSs, hb⟩, (callsIn_wide.2 (sort_own hrow (hS ss hSs) (by omega))).mono ?_⟩
    rintro e w' ⟨rfl, ts, hp, ha, ho, hg, hk⟩
    exact ⟨rfl, ⟨ts, hp, ha, ho, hb.grown hg hb.size hk⟩⟩))
  have g1 : Fence.wide.fn 81 := trivial
  have g2 : Fence.wide.fn 82 := trivial
  clear hseq hS hN hNb
  refine callsIn_of_wp Try.func61 rfl trivial ?_ rfl
  simp only [Try.ntmps61, List.size_toArray, List.length_cons, List.length_nil, Nat.reduceAdd, Nat.reduceSub, Array.replicate_succ, Array.replicate_zero, List.push_toArray, List.append_toArray, List.nil_append, List.cons_append]
  gi_wp2_with (first
    | (gi_at_call 81; refine hC.out.mono ?_; rintro e W ⟨v, ss, rfl, hSs, hsort⟩)
    | (gi_at_call 82; refine hsort.mono ?_; rintro e w' ⟨rfl, hts⟩))
  go_ret
  obtain ⟨ts, hp, ha, ho, hb⟩ := hts.out
  exact ⟨v, ss, ts, rfl, hSs.out.1, hp, ha, ho, hb⟩
end Go.Proofs.Ytoknlpecbdlbfaa.PL

/- All, walked. -/
namespace Go.Proofs.Ytoknlpecbdlbfaa.PL
open Go Go.RowKit Go.Maps Go.Sort Go.Shelf Go.Proofs Go.Proofs.YtoknlpecbdlbfaaW.PrintWords Go.Proofs.YtoknlpecbdlbfaaW.PrintLast
theorem reps_c3 (w : World) (base : Nat) (ok : Nat → Prop) : ∀ ss : List S42, Reps (k42.M w base ok) 3 ss (ss.flatMap c3) := by
  intro ss
  refine ⟨len_c3 ss, ?_⟩
  induction ss with
  | nil => intro j p h; simp at h
  | cons a r ih =>
    intro j p h
    cases j with
    | zero =>
      simp at h
      subst h
      simp only [List.flatMap_cons, Nat.zero_mul, List.drop_zero]
      rw [List.take_append_of_le_length (by simp [c3])]
      exact k42_mkM w base ok a
    | succ j =>
      simp at h
      have e1 : (j + 1) * 3 = 3 + j * 3 := by omega
      have e2 : (List.flatMap c3 (a :: r)).drop ((j + 1) * 3) = (r.flatMap c3).drop (j * 3) := by
        rw [List.flatMap_cons, e1, ← List.drop_drop]
        rfl
      rw [e2]
      exact ih j p h
theorem R42_of {w : World} {base : Nat} {v : Value} {ts : List S42} (h : w.ownsRow base 42 3 v ts.length (ts.flatMap c3)) : Kd.R k42 42 w base (fun _ => True) v ts :=
  ⟨fun _ _ => trivial, _, h, reps_c3 _ _ _ ts⟩
/-- slices.SortedFunc(maps.Keys(m), order), the iterator's value laid. -/
theorem sorted_any (w : World) (Bm b : Nat) (M : List (S42 × Int)) (hm : w.cell? ⟨Bm, 0, none⟩ = some (.map (some b))) (hB : Bm < w.heap.size) (hM : LM w b M) (hs : M.length * 32 ≤ 140737488355328) :
    Calls Try.prog 61 #[.func (.func 83) #[] #[.pointer (some ⟨Bm, 0, none⟩)], .func (.func 63) #[] #[]] w fun e w' => ∃ (A : Option Addr) (c : Nat) (ts : List S42), e = .returned (.slice A ts.length c) ∧ ts.Perm (M.map Prod.fst) ∧ Asc ts ∧ Kd.C k42 w' A ts.length ts ∧ Below w.heap.size w w' := by
  have hseq := keys_gives Fence.wide (5 - 1 - 1 - 1) trivial rfl (by omega) Bm b M w hB hm hM
  have h := sortedFunc_in 5 (by omega) #[.pointer (some ⟨Bm, 0, none⟩)] _ (fun ss hp => hp.nodup_iff.2 hM.nodup) M.length (by unfold maxLen; omega) hs w hseq
  refine (callsIn_wide.1 h).mono ?_
  rintro e w' ⟨v, ss, ts, rfl, hS, hp, ha, ho, hb⟩
  obtain ⟨A, c, rfl, hc, hC⟩ := Kd.R_reads (R42_of ho)
  exact ⟨A, c, ts, rfl, hp.trans hS, ha, hC, hb⟩
theorem keys_any (mb : Option Nat) (w : World) : Calls Try.prog 62 #[.map mb] w fun e w' => e = .returned (.func (.func 83) #[] #[.pointer (some ⟨w.heap.size, 0, none⟩)]) ∧ w' = w.alloc (.cells #[.map mb] 60) :=
  callsIn_wide.1 (keys_in Fence.wide 5 trivial rfl mb w)
theorem info44 : (Try.prog.info? 44).map (fun i => (i.zero, i.size, i.bytes)) = some (some (.agg #[(.int .i64 0), (.int .i64 0), (.string ⟨#[]⟩), (.int .i64 0)]), 4, 40) := by kernel_rfl
theorem LM.lookup_mem {w : World} {b : Nat} {M : List (S42 × Int)} (h : LM w b M) {a : S42} (ha : a ∈ M.map Prod.fst) : (Instr.lookup 60 (.map (some b)) (kv a) false).run Try.prog w = .ok (.int .i64 (getM M a)) w := by
  obtain ⟨p, hp, rfl⟩ := List.mem_map.1 ha
  have hkey := h.key hp
  obtain ⟨es, clock, hb, F, hM⟩ := h
  have hn := LM.nodup_of F hM
  rcases law42.find w hkey es.toList F.keys with ⟨h1, h2⟩ | ⟨j, e0, h1, h2, h3⟩
  · exact absurd ha (LM.none_of hM h2)
  · obtain ⟨q, hq, e1, e2⟩ := LM.get hM h2
    obtain e3 : q.1 = p.1 := kv_inj (e1.symm.trans h3)
    rw [← e3, getM_at hn (n := q.2) hq, e3]
    simp [Instr.lookup, run_underlying Try.underlying60, MapKept.run_getObj_map hb, law42.check w _ hkey, h1, e2, Result.andThen]
theorem grown_to {w w' : World} (h : w.grownBy w' none) : Below w.heap.size w w' := ⟨h.os, h.tape, h.output, h.size, fun k hk => h.block k hk (by simp)⟩
/-- A map's entry as a balance. -/
def b82 (a : S42) (n : Int) : S82 := ⟨⟨a.f0, a.f1, a.f2⟩, n⟩
set_option maxRecDepth 100000 in
set_option maxHeartbeats 2000000 in
theorem all_any {g b : Nat} {M : List (S42 × Int)} {w : World} (h : LG w g b M) (hs : M.length * 40 ≤ 140737488355328) :
    Calls Try.prog 23 #[.pointer (some ⟨g, 0, none⟩)] w fun e w' => ∃ (v : Value) (ts : List S42), e = .returned v ∧ ts.Perm (M.map Prod.fst) ∧ Asc ts ∧ Kd.R k82 44 w' w.heap.size (fun _ => True) v (ts.map fun a => b82 a (getM M a)) ∧ Below w.heap.size w w' := by
  have hc := h.cell
  have hM1 := h.map.below ((Below.refl w.heap.size w).alloc (Nat.le_refl _) (.cells #[.map (some b)] 60))
  obtain ⟨i0, hi, hz0, hz1, hz2⟩ := info_parts info44
  have HS := Lib.hid ((sorted_any (w.alloc (.cells #[.map (some b)] 60)) w.heap.size b M (by simp) (by simp) hM1 (by omega)).mono (R' := fun e w' => ∃ (A : Option Addr) (c : Nat) (ts : List S42), e = .returned (.slice A ts.length c) ∧ (i0.bytes * ts.length ≤ 281474976710656) ∧ ts.length ≤ maxLen ∧ w.heap.size ≤ w'.heap.size ∧ Hid (ts.length = M.length ∧ ts.Perm (M.map Prod.fst) ∧ Asc ts ∧ Kd.C k42 w' A ts.length ts ∧ Below w.heap.size w w')) (by
    rintro e w' ⟨A, c, ts, rfl, h1, h2, h3, h4⟩
    have hl : ts.length = M.length := by simpa using h1.length_eq
    have hb : Below w.heap.size w w' := ((Below.refl _ w).alloc (Nat.le_refl _) _).trans (h4.mono (by simp))
    exact ⟨A, c, ts, rfl, by rw [hz2]; omega, by unfold maxLen; omega, hb.size, ⟨hl, h1, h2, h3, hb⟩⟩))
  have HH := Lib.hid (And.intro h hs)
  clear hM1 hs h
  go_enter Try.func23, Try.ntmps23
  go_wp2_with (first
    | (go_at_call 58; refine (made_any g b _ hc).mono ?_; rintro e w1 ⟨rfl, rfl⟩)
    | (go_at_call 62; refine (keys_any _ _).mono ?_; rintro e w1 ⟨rfl, rfl⟩)
    | (go_at_call 61; refine HS.out.mono ?_; rintro e w1 ⟨A, c, ts, rfl, hb2, hb3, hb4, H1⟩)
    | (at_make; refine wpList_make_own _ rfl _ _ 38 rfl w1.heap.size 44 i0 (.agg #[(.int .i64 0), (.int .i64 0), (.string ⟨#[]⟩), (.int .i64 0)]) 4 Try.underlying38 hi hz0 hz1 .i64 .i64 (ts.length : Int) ts.length rfl rfl rfl hb2 hb3 (Nat.le_refl _) ?_; intro w2 ho2 hg2; have H2 := Lib.hid (And.intro ho2 hg2); clear ho2 hg2)
    | go_in)
  clear hc hb2 hb3 hb4 HS hi hz0 hz1 hz2
  go_loopg [4, 6, 21] (ts.length + 1) (fun kq v4 v6 v21 w' => ∃ k : Nat, v21 = .int .i64 k ∧ Hid (kq + k = ts.length + 1 ∧ k ≤ ts.length ∧ Kd.R k82 44 w' w1.heap.size (fun _ => True) v4 ((ts.take k).map fun a => b82 a (getM M a)) ∧ Below w1.heap.size w1 w'))
  case atStart =>
    refine ⟨0, rfl, ⟨rfl, Nat.zero_le _, ?_, (grown_to H2.out.2)⟩⟩
    exact ⟨fun _ _ => trivial, [], H2.out.1, Reps.none _ _⟩
  case round =>
    obtain ⟨k, rfl, HI⟩ := hrel
    have hwr : Below w.heap.size w wr := H1.out.2.2.2.2.trans (HI.out.2.2.2.mono H1.out.2.2.2.2.size)
    have HW := Lib.hid hwr
    clear hwr
    have hc : wr.cell? ⟨g, 0, none⟩ = some (.map (some b)) := (HW.out.cell (p := ⟨g, 0, none⟩) HH.out.1.glt).trans HH.out.1.cell
    by_cases hk : k < ts.length
    · have hC : Kd.C k42 wr A ts.length ts := Kd.C_below H1.out.2.2.2.1 HI.out.2.2.2
      obtain ⟨ad, eA, x0, x1, x2⟩ := at_T42 hC (k : Int) (by omega) (by omega)
      simp only [Int.toNat_natCast] at x0 x1 x2
      obtain ⟨⟨a0, a1, a2⟩, ha⟩ : ∃ a, rd_T42 ts (k : Int) = a := ⟨_, rfl⟩
      rw [ha] at x0 x1 x2
      clear hC
      subst eA
      have HK := Lib.hid (And.intro hk ha)
      clear ha
      go_wp2
      obtain ⟨W, hW⟩ : ∃ W, W = wr.alloc (.cells #[.int .i64 a0, .int .i64 a1, .string a2] 42) := ⟨_, rfl⟩
      have HB : Below wr.heap.size wr W := by rw [hW]; exact (Below.refl _ _).alloc (Nat.le_refl _) _
      have k0 : W.cell? ⟨wr.heap.size, 0, none⟩ = some (.int .i64 a0) := by rw [hW]; simp
      have k1 : W.cell? ⟨wr.heap.size, 1, none⟩ = some (.int .i64 a1) := by rw [hW]; simp
      have k2 : W.cell? ⟨wr.heap.size, 2, none⟩ = some (.string a2) := by rw [hW]; simp
      have hGb : W.drew.heap[wr.heap.size]? = some (.cells #[.int .i64 a0, .int .i64 a1, .string a2] 42 (0, 0)) := by rw [hW]; exact (Go.MapKept.heap_alloc wr _).1
      have hcW : W.cell? ⟨g, 0, none⟩ = some (.map (some b)) := (HB.cell (p := ⟨g, 0, none⟩) (Nat.lt_of_lt_of_le HH.out.1.glt HW.out.size)).trans hc
      rw [← hW]
      have HB1 := Lib.hid (And.intro HB hW)
      clear hc x0 x1 x2 HB hW
      obtain ⟨v, hv⟩ : ∃ v, getM M ⟨a0, a1, a2⟩ = v := ⟨_, rfl⟩
      have hmem : (⟨a0, a1, a2⟩ : S42) ∈ M.map Prod.fst := by
        rw [← HK.out.2]
        refine H1.out.2.1.mem_iff.1 ?_
        unfold rd_T42
        simp [HK.out.1]
      have hMW : LM W.drew b M := (HH.out.1.map.below (HW.out.trans (HB1.out.1.mono HW.out.size))).move rfl
      have hl : (Instr.lookup 60 (.map (some b)) (.agg #[.int .i64 a0, .int .i64 a1, .string a2]) false).run Try.prog W.drew = .ok (.int .i64 v) W.drew := by
        rw [← hv]
        exact hMW.lookup_mem hmem
      have hR : Kd.R k82 44 W.drew w1.heap.size (fun _ => True) u4 ((ts.take k).map fun a => b82 a (getM M a)) := Kd.R_drew (Kd.R_below HI.out.2.2.1 HB1.out.1)
      have HR := Lib.hid hR
      have hB2 : Below w1.heap.size w1 W.drew := (HI.out.2.2.2.trans (HB1.out.1.mono HI.out.2.2.2.size)).drew
      have hbase : w1.heap.size ≤ W.drew.heap.size := hB2.size
      have hlen : (((ts.take k).map fun a => b82 a (getM M a)).length + 1) * 40 ≤ 140737488355328 := by
        have h1 := HK.out.1
        have h2 := H1.out.1
        have h3 := HH.out.2
        simp
        omega
      have HP := Lib.hid (And.intro hB2 (And.intro hbase hlen))
      have hM0 : LM W b M := (HH.out.1.map.below (HW.out.trans (HB1.out.1.mono HW.out.size)))
      have hl0 : (Instr.lookup 60 (.map (some b)) (.agg #[.int .i64 a0, .int .i64 a1, .string a2]) false).run Try.prog W = .ok (.int .i64 v) W := by
        rw [← hv]
        exact hM0.lookup_mem hmem
      have hstep : ∀ w' : World, LM w' b M → (Instr.lookup 60 (.map (some b)) (.agg #[.int .i64 a0, .int .i64 a1, .string a2]) false).run Try.prog w' = .ok (.int .i64 v) w' := fun w' hw => by
        rw [← hv]
        exact hw.lookup_mem hmem
      have HST := Lib.hid hstep
      have HV := Lib.hid hv
      clear hv hmem hMW hR hB2 hbase hlen hstep
      have hgb : W.drew.heap[g]? = some (.cells #[.map (some b)] 62 (0, 0)) := ((HW.out.trans (HB1.out.1.mono HW.out.size)).block g HH.out.1.glt).trans HH.out.1.blk
      generalize wr.heap.size = G at k0 k1 k2 hGb ⊢
      have hSD : W.drew.cell? ⟨G, 0, none⟩ = some (.int .i64 a0) ∧ W.drew.cell? ⟨G, 1, none⟩ = some (.int .i64 a1) ∧ W.drew.cell? ⟨G, 2, none⟩ = some (.string a2) ∧ W.drew.cell? ⟨g, 0, none⟩ = some (.map (some b)) ∧ LM W.drew b M ∧ (Instr.lookup 60 (.map (some b)) (.agg #[.int .i64 a0, .int .i64 a1, .string a2]) false).run Try.prog W.drew = .ok (.int .i64 v) W.drew := ⟨k0, k1, k2, hcW, hM0.move rfl, HST.out _ (hM0.move rfl)⟩
      have HSA := Lib.hid (show ∀ (w' : World) (o : Obj), (w'.cell? ⟨G, 0, none⟩ = some (.int .i64 a0) ∧ w'.cell? ⟨G, 1, none⟩ = some (.int .i64 a1) ∧ w'.cell? ⟨G, 2, none⟩ = some (.string a2) ∧ w'.cell? ⟨g, 0, none⟩ = some (.map (some b)) ∧ LM w' b M ∧ (Instr.lookup 60 (.map (some b)) (.agg #[.int .i64 a0, .int .i64 a1, .string a2]) false).run Try.prog w' = .ok (.int .i64 v) w') → ((w'.alloc o).cell? ⟨G, 0, none⟩ = some (.int .i64 a0) ∧ (w'.alloc o).cell? ⟨G, 1, none⟩ = some (.int .i64 a1) ∧ (w'.alloc o).cell? ⟨G, 2, none⟩ = some (.string a2) ∧ (w'.alloc o).cell? ⟨g, 0, none⟩ = some (.map (some b)) ∧ LM (w'.alloc o) b M ∧ (Instr.lookup 60 (.map (some b)) (.agg #[.int .i64 a0, .int .i64 a1, .string a2]) false).run Try.prog (w'.alloc o) = .ok (.int .i64 v) (w'.alloc o)) from fun w' o ⟨s0, s1, s2, s3, s4, _⟩ =>
        ⟨((Below.refl w'.heap.size w').alloc (Nat.le_refl _) o |>.cell (World.block_lt_of_cell? w' _ s0)).trans s0, ((Below.refl w'.heap.size w').alloc (Nat.le_refl _) o |>.cell (World.block_lt_of_cell? w' _ s1)).trans s1, ((Below.refl w'.heap.size w').alloc (Nat.le_refl _) o |>.cell (World.block_lt_of_cell? w' _ s2)).trans s2, ((Below.refl w'.heap.size w').alloc (Nat.le_refl _) o |>.cell (World.block_lt_of_cell? w' _ s3)).trans s3, s4.below ((Below.refl w'.heap.size w').alloc (Nat.le_refl _) o), HST.out _ (s4.below ((Below.refl w'.heap.size w').alloc (Nat.le_refl _) o))⟩)
      have HSG := Lib.hid (show ∀ w5 : World, W.drew.grownBy w5 u4.ownBlock → (w5.cell? ⟨G, 0, none⟩ = some (.int .i64 a0) ∧ w5.cell? ⟨G, 1, none⟩ = some (.int .i64 a1) ∧ w5.cell? ⟨G, 2, none⟩ = some (.string a2) ∧ w5.cell? ⟨g, 0, none⟩ = some (.map (some b)) ∧ LM w5 b M ∧ (Instr.lookup 60 (.map (some b)) (.agg #[.int .i64 a0, .int .i64 a1, .string a2]) false).run Try.prog w5 = .ok (.int .i64 v) w5) from fun w5 hg => by
        have n1 := Kd.R_ne HR.out hGb (by decide)
        have n2 := Kd.R_ne HR.out hgb (by decide)
        have n3 : some b ≠ u4.ownBlock := by
          intro e
          obtain ⟨inner, ho⟩ := Kd.R_own HR.out
          obtain ⟨cells, hcb⟩ := own_typed ho b e.symm
          obtain ⟨es, clock, hbb, _⟩ := hM0
          rw [show W.drew.heap[b]? = W.heap[b]? from rfl, hbb] at hcb
          cases hcb
        have hm : LM w5 b M := (show LM W.drew b M from hM0.move rfl).grown hg n3
        have e1 := hg.block G (Array.getElem?_eq_some_iff.1 hGb).1 n1
        have e2 := hg.block g (Array.getElem?_eq_some_iff.1 hgb).1 n2
        exact ⟨(World.cell?_of_block (a := ⟨G, 0, none⟩) e1).trans k0, (World.cell?_of_block (a := ⟨G, 1, none⟩) e1).trans k1, (World.cell?_of_block (a := ⟨G, 2, none⟩) e1).trans k2, (World.cell?_of_block (a := ⟨g, 0, none⟩) e2).trans hcW, hm, HST.out _ hm⟩)
      clear k0 k1 k2 hcW hl hl0 hM0 hGb hgb
      go_region_held3 (fun w' => w'.cell? ⟨G, 0, none⟩ = some (.int .i64 a0) ∧ w'.cell? ⟨G, 1, none⟩ = some (.int .i64 a1) ∧ w'.cell? ⟨G, 2, none⟩ = some (.string a2) ∧ w'.cell? ⟨g, 0, none⟩ = some (.map (some b)) ∧ LM w' b M ∧ (Instr.lookup 60 (.map (some b)) (.agg #[.int .i64 a0, .int .i64 a1, .string a2]) false).run Try.prog w' = .ok (.int .i64 v) w')
        (first | assumption | exact HSA.out _ _ (by assumption))
        (first | (refine Kd.R_append_step k82 (w0 := w1) (W := W.drew) w1.heap.size (by rfl) (.tmp 25) (.tmp 34) 38 44 (.agg #[(.int .i64 0), (.int .i64 0), (.string ⟨#[]⟩), (.int .i64 0)]) 40 rfl Try.underlying38 info44 rfl (by decide) (by decide) u4 ((ts.take k).map fun a => b82 a (getM M a)) (b82 ⟨a0, a1, a2⟩ v) [.int .i64 a0, .int .i64 a1, .string a2, .int .i64 v] (fun _ => True) (fun _ => False) rfl rfl (k82_mkM _ _ _ _) (fun _ h => h.elim) (fun _ _ => trivial) HR.out HP.out.1 HP.out.2.1 HP.out.2.2 ?_; intro v1 w5 ho hb hg hat; have kk := HSG.out w5 hg; have H5 := Lib.hid (And.intro ho hb); clear ho hb hg hat))
      go_wp2
      go_roundg (ts.length - k)
      case measure => have := HI.out.1; have := HK.out.1; omega
      case rel =>
        have h1 := HK.out.1
        have h2 := HI.out.1
        have h3 := HH.out.2
        have h4 := H1.out.1
        refine ⟨k + 1, ?_, ⟨by omega, by omega, ?_, H5.out.2⟩⟩
        · rw [wrap_id (by omega) (by omega)]; rfl
        · have e1 : (ts.take (k + 1)).map (fun a => b82 a (getM M a)) = (ts.take k).map (fun a => b82 a (getM M a)) ++ [b82 ⟨a0, a1, a2⟩ v] := by
            have e2 : ts[k] = ⟨a0, a1, a2⟩ := by
              have := HK.out.2
              unfold rd_T42 at this
              simpa [List.getD, h1] using this
            rw [List.take_succ_eq_append_getElem h1, List.map_append, e2]
            simp only [List.map_cons, List.map_nil, HV.out]
          rw [e1]
          exact H5.out.1
    · have hk' : (k < ts.length) = False := eq_false hk
      have HK := Lib.hid hk
      clear hk
      go_wp2
      go_ret
      obtain ⟨h1, h2, h3, h4⟩ := HI.out
      have e1 : ts.take k = ts := List.take_of_length_le (by have := HK.out; omega)
      rw [e1] at h3
      exact ⟨_, ts, rfl, H1.out.2.1, H1.out.2.2.1, Kd.R_lower h3 H1.out.2.2.2.2.size, H1.out.2.2.2.2.trans (h4.mono H1.out.2.2.2.2.size)⟩
end Go.Proofs.Ytoknlpecbdlbfaa.PL

/- told, walked: what a ledger has, as the document's balances. -/
namespace Go.Proofs.Ytoknlpecbdlbfaa.PL
open Go Go.RowKit Go.Maps Go.Sort Go.Shelf Go.Proofs Go.Proofs.YtoknlpecbdlbfaaW.PrintWords Go.Proofs.YtoknlpecbdlbfaaW.PrintLast
/-- Function f at p hands back balances (a slice of type e's rows) of its own. -/
def Gives (f : Nat) (p : Value) (e : Nat) (w : World) (l : List S82) : Prop :=
  Calls Try.prog f #[p] w fun o w' => ∃ (v : Value), o = .returned v ∧ Kd.R k82 e w' w.heap.size (fun _ => True) v l ∧ Below w.heap.size w w'
theorem Gives.slice {f : Nat} {p : Value} {e : Nat} {w : World} {l : List S82} (h : Gives f p e w l) : Calls Try.prog f #[p] w fun o w' => ∃ (A : Option Addr) (c : Nat), o = .returned (.slice A l.length c) ∧ Hid (Kd.C k82 w' A l.length l ∧ Below w.heap.size w w' ∧ l.length ≤ c) := by
  refine Calls.mono h ?_
  rintro o w' ⟨v, rfl, hr, hb⟩
  obtain ⟨A, c, rfl, hc, hC⟩ := Kd.R_reads hr
  exact ⟨A, c, rfl, ⟨hC, hb, hc⟩⟩
end Go.Proofs.Ytoknlpecbdlbfaa.PL

/-
  DERIVED: THE SHELF's CONTRACTS AT THIS DUMP, IN PLAIN WORDS (tools/lay-plain.mjs out of 'TryrShelf.lean', which tools/lay-shelf.mjs wrote): THE SAME DECLARATIONS UNDER THE SAME NAMES: 'import', 'namespace', 'open', 'def', 'theorem' AND NOTHING ELSE: no command of the shelf's: FOR A HAND-IN. Each laying: the table of numbers ('.._ren') and one theorem, a field a fact of the dump's own or the kernel's comparison; each contract: ONE APPLICATION.
-/
namespace Go.Proofs
open Go.Shelf
def Try.laysCompact_ren : Go.Shelf.Ren := ⟨fun | 194 => 65 | n => n, fun | 31 => 56 | 9 => 9 | 3 => 3 | 4 => 4 | 0 => 0 | n => n, fun | n => n⟩
theorem Try.laysCompact : Go.Proofs.Lays.n194 Try.prog Try.laysCompact_ren := {
  mixed := by kernel_rfl
  f194 := Try.func65.trans (congrArg some (by kernel_rfl))
  t0 := Try.underlying0
  a0 := Try.isAgg0
  z0 := Try.sizeOf0
  v0 := Try.zeroValue0
  t3 := Try.underlying3
  a3 := Try.isAgg3
  z3 := Try.sizeOf3
  v3 := Try.zeroValue3
  t4 := Try.underlying4
  a4 := Try.isAgg4
  z4 := Try.sizeOf4
  v4 := Try.zeroValue4
  t9 := Try.underlying9
  a9 := Try.isAgg9
  z9 := Try.sizeOf9
  v9 := Try.zeroValue9
  t31 := Try.underlying56
  a31 := Try.isAgg56
  z31 := Try.sizeOf56
  v31 := Try.zeroValue56 }
end Go.Proofs
