/- Part 30 of the proof's texts: what the theorem needs of them. -/
import Derived.Test.YtoknlpecbdlbfaaSCOf29
import Derived.Shelf.SlMaps.Clone
import Derived.Test.YtoknlpecbdlbfaaSCOf17
import Derived.Test.YtoknlpecbdlbfaaSCOf15
import Derived.Test.YtoknlpecbdlbfaaSCOf16
import Derived.Test.YtoknlpecbdlbfaaSCOf19
import Derived.Test.YtoknlpecbdlbfaaSCOf20

/- Things, walked. -/
namespace Go.Proofs.Ytoknlpecbdlbfaa.PL
open Go Go.RowKit Go.Maps Go.Sort Go.Shelf Go.Proofs Go.Proofs.YtoknlpecbdlbfaaW.PrintWords Go.Proofs.YtoknlpecbdlbfaaW.PrintLast
/-- A text's list of bytes. -/
def bl (s : ByteArray) : List UInt8 := s.data.toList
theorem enc_bl (s : ByteArray) : encStr (bl s) = .string s := by
  cases s
  simp [encStr, bl]
/-- Texts without those that are as the one ahead of them. -/
def compB (xs : List ByteArray) : List ByteArray := (Lib.compact (xs.map bl)).map (fun b => (⟨b.toArray⟩ : ByteArray))
theorem enc_comp (xs : List ByteArray) : (Lib.compact (xs.map bl)).map encStr = (compB xs).map Value.string := by
  unfold compB
  rw [List.map_map]
  rfl
theorem len_comp (xs : List ByteArray) : (compB xs).length = (Lib.compact (xs.map bl)).length := by simp [compB]
theorem compact_le (zs : List (List UInt8)) : (Lib.compact zs).length ≤ zs.length := by
  unfold Lib.compact Lib.compactUpTo
  rw [List.length_map]
  have := List.length_filter_le (Lib.keeps zs.toArray) (List.range zs.length)
  simpa using this
theorem compact_own {W : World} {base : Nat} {v : Value} {xs : List ByteArray} (h : Kd.R Kd.string 9 W base (fun _ => True) v xs) (hs : xs.length < 9223372036854775807) :
    Calls Try.prog 65 #[v] W fun e w' => ∃ v', e = .returned v' ∧ Kd.R Kd.string 9 w' base (fun _ => True) v' (compB xs) ∧ W.grownBy w' v.ownBlock ∧ (∀ k, v.ownBlock = some k → base ≤ k) := by
  have ho := Kd.own_of_R h
  rcases ho.2 with ⟨rfl, hz⟩ | ⟨gb, cap, cur, rfl, hbase, hgb, r1, r2, r3, r4⟩
  · have hx : xs = [] := List.eq_nil_of_length_eq_zero hz
    subst hx
    refine (Any.slices_Compact_string_empty Try.laysCompact none 0 W).mono ?_
    rintro e w' ⟨rfl, rfl⟩
    exact ⟨_, rfl, Kd.R_nil _ _ _ _ _, ⟨rfl, rfl, rfl, Nat.le_refl _, fun _ _ _ => rfl⟩, fun k hk => by simp [Value.ownBlock] at hk⟩
  · have hm : (xs.map bl).length = xs.length := by simp
    have hH : Holds encStr W gb 0 (xs.map bl).toArray := holds_of_block hgb (by
      rw [hm]
      rw [Nat.mul_one] at r4
      rw [r4]
      simp [encs, List.map_map, Function.comp_def, enc_bl])
    have hc := Any.slices_Compact_string Try.laysCompact gb 0 cap (xs.map bl) W hH (by rw [hm]; omega) (by rw [hm]; exact r1)
    rw [hm] at hc
    refine Calls.mono hc ?_
    rintro e w' ⟨rfl, q, rfl⟩
    have hle := compact_le (xs.map bl)
    rw [hm] at hle
    have hl := len_comp xs
    have he := enc_comp xs
    generalize Lib.compact (xs.map bl) = K at hle hl he ⊢
    have hT : (K ++ List.replicate (xs.length - K.length) ([] : List UInt8)).length = xs.length := by simp; omega
    have hT0 : (K ++ List.replicate (xs.length - K.length) ([] : List UInt8)).take K.length = K := List.take_left' rfl
    generalize K ++ List.replicate (xs.length - K.length) ([] : List UInt8) = T at hT hT0 ⊢
    have hg : W.grownBy (putRow encStr (Sort.ahead W q) gb 0 T.toArray) (some gb) := by
      refine ⟨rfl, rfl, rfl, by simp [putRow, mapBlock, Sort.ahead], fun k hk hne => ?_⟩
      have : gb ≠ k := fun e => hne (by rw [e])
      simp [putRow, mapBlock, Sort.ahead, Array.getElem?_modify, this]
    have hh : (putRow encStr (Sort.ahead W q) gb 0 T.toArray).heap[gb]? = some (.cells (putCells encStr 0 T.toArray cur) 9 (0, 0)) := by
      simp [putRow, mapBlock, Sort.ahead, Array.getElem?_modify, hgb, onCells]
    have ht := take_putCells cur T (by omega)
    refine ⟨_, rfl, ?_, by simpa [Value.ownBlock] using hg, fun k hk => ?_⟩
    · refine Kd.R_of_own ?_ (fun _ _ => trivial)
      refine ⟨by simp [encs], .inr ⟨gb, cap, _, by rw [hl], hbase, hh, by omega, r2, by simp [putCells]; omega, ?_⟩⟩
      have e1 : (putCells encStr 0 T.toArray cur).toList.take ((compB xs).length * 1) = ((putCells encStr 0 T.toArray cur).toList.take T.length).take (compB xs).length := by
        rw [List.take_take]
        congr 1
        omega
      rw [e1, ht, ← List.map_take, hl, hT0]
      exact he
    · have : gb = k := by simpa [Value.ownBlock] using hk
      omega
set_option maxRecDepth 100000 in
set_option maxHeartbeats 400000 in
theorem things_walk (p : Value) (w : World) (l : List S82) (h : Gives 23 p 44 w l) (hs : l.length * 40 ≤ 140737488355328) :
    Calls Try.prog 32 #[p] w fun e w' => ∃ v, e = .returned v ∧ Kd.R Kd.string 9 w' w.heap.size (fun _ => True) v (compB (l.map (fun b => b.f0.f2))) ∧ Below w.heap.size w w' := by
  have HS := Lib.hid h.slice
  have HH := Lib.hid hs
  clear h hs
  go_enter Try.func32, Try.ntmps32
  go_wp2_with (first
    | (go_at_call 23; refine HS.out.mono ?_; rintro e w1 ⟨A, c, rfl, H1⟩))
  go_loopg [3, 5, 9] (l.length + 1) (fun kq v3 v5 v9 w' => ∃ k : Nat, v9 = .int .i64 k ∧ Hid (kq + k = l.length + 1 ∧ k ≤ l.length ∧ Kd.R Kd.string 9 w' w1.heap.size (fun _ => True) v3 ((l.take k).map (fun b => b.f0.f2)) ∧ Below w1.heap.size w1 w'))
  case atStart =>
    exact ⟨0, rfl, ⟨rfl, Nat.zero_le _, Kd.R_nil _ _ _ _ _, Below.refl _ _⟩⟩
  case round =>
    obtain ⟨k, rfl, HI⟩ := hrel
    by_cases hk : k < l.length
    · have hC : Kd.C k82 wr A l.length l := Kd.C_below H1.out.1 HI.out.2.2.2
      obtain ⟨ad, eA, x0, x1, x2, x3⟩ := at_T82 hC (k : Int) (by omega) (by omega)
      simp only [Int.toNat_natCast] at x0 x1 x2 x3
      obtain ⟨⟨⟨a0, a1, a2⟩, n⟩, ha⟩ : ∃ a, rd_T82 l (k : Int) = a := ⟨_, rfl⟩
      rw [ha] at x0 x1 x2 x3
      subst eA
      have e2 : l[k] = ⟨⟨a0, a1, a2⟩, n⟩ := by
        unfold rd_T82 at ha
        simpa [List.getD, hk] using ha
      have e1 : (l.take (k + 1)).map (fun b => b.f0.f2) = (l.take k).map (fun b => b.f0.f2) ++ [a2] := by
        rw [List.take_succ_eq_append_getElem hk, e2, List.map_append]; rfl
      have hl64 : wrap64 ((k : Int) + 1) = ((k + 1 : Nat) : Int) := by
        have h3 := HH.out
        rw [wrap_id (by omega) (by omega)]; rfl
      have HK := Lib.hid (And.intro hk (And.intro e1 hl64))
      clear ha e2 e1 hC hl64
      obtain ⟨W, hW⟩ : ∃ W, wr.alloc (.cells #[.int .i64 a0, .int .i64 a1, .string a2, .int .i64 n] 44) = W := ⟨_, rfl⟩
      have HB : Below wr.heap.size wr W := by rw [← hW]; exact (Below.refl _ _).alloc (Nat.le_refl _) _
      have k2 : W.cell? ⟨wr.heap.size, 2, none⟩ = some (.string a2) := by rw [← hW]; simp
      have hR : Kd.R Kd.string 9 W w1.heap.size (fun _ => True) u3 ((l.take k).map (fun b => b.f0.f2)) := Kd.R_below HI.out.2.2.1 HB
      have hB2 : Below w1.heap.size w1 W := HI.out.2.2.2.trans (HB.mono HI.out.2.2.2.size)
      have hlen : (((l.take k).map (fun b => b.f0.f2)).length + 1) * 16 ≤ 140737488355328 := by
        have h1 := HK.out.1
        have h3 := HH.out
        simp
        omega
      obtain ⟨xs, hxs⟩ : ∃ xs, (l.take k).map (fun b => b.f0.f2) = xs := ⟨_, rfl⟩
      rw [hxs] at hR hlen
      have HX := Lib.hid hxs
      clear hxs
      have HP := Lib.hid hR
      have HPb := Lib.hid hB2
      have HPs := Lib.hid hB2.size
      have HPl := Lib.hid hlen
      have hstr : Kd.string.M W w1.heap.size (fun _ => False) a2 [.string a2] := rfl
      clear hR hB2 hlen HB
      go_wp2_with (first
        | (at_builtin; refine Kd.R_append Kd.string (w0 := w1) (W := W) w1.heap.size rfl (.tmp 13) (.tmp 17) 56 9 (.string ⟨#[]⟩) 16 rfl Try.underlying56 info9 rfl (by decide) (by decide) u3 xs a2 [.string a2] (fun _ => True) (fun _ => False) rfl rfl hstr (fun _ h => h.elim) (fun _ _ => trivial) HP.out HPb.out HPs.out HPl.out ?_; intro v1 w5 ho hb hg hat; have H5 := Lib.hid (And.intro ho hb); clear ho hb hg hat)
        | go_in)
      go_roundg (l.length - k)
      case measure => have := HI.out.1; have := HK.out.1; omega
      case rel =>
        have h1 := HK.out.1
        have h2 := HI.out.1
        refine ⟨k + 1, by rw [HK.out.2.2], ⟨by omega, by omega, ?_, H5.out.2⟩⟩
        rw [HK.out.2.1, HX.out]
        exact H5.out.1
    · have hk' : (k < l.length) = False := eq_false hk
      obtain ⟨h1, h2, h3, h4⟩ := HI.out
      have e1 : l.take k = l := List.take_of_length_le (by omega)
      rw [e1] at h3
      have HC := Lib.hid (compact_own h3 (by have := HH.out; simp; omega))
      have H4 := Lib.hid h4
      clear hk h1 h2 h3 h4 e1
      go_wp2_with (first
        | (go_at_call 65; refine HC.out.mono ?_; rintro e w5 ⟨v5, rfl, h5⟩; have H5 := Lib.hid h5; clear h5))
      go_ret
      obtain ⟨h5, h6, h7⟩ := H5.out
      have hb5 : Below w1.heap.size w1 w5 := H4.out.grown h6 H4.out.size h7
      exact ⟨_, rfl, Kd.R_lower h5 H1.out.2.1.size, H1.out.2.1.trans (hb5.mono H1.out.2.1.size)⟩
end Go.Proofs.Ytoknlpecbdlbfaa.PL

/- Clone, walked; and what no ledger has. -/
namespace Go.Proofs.Ytoknlpecbdlbfaa.PL
open Go Go.RowKit Go.Maps Go.Sort Go.Shelf Go.Proofs Go.Proofs.YtoknlpecbdlbfaaW.PrintWords Go.Proofs.YtoknlpecbdlbfaaW.PrintLast
set_option maxRecDepth 100000 in
set_option maxHeartbeats 2000000 in
theorem clone_map (b : Nat) (es : Array MapEntry) (clock : Nat) (w : World) (hb : w.heap[b]? = some (.map es clock)) :
    Calls Try.prog 64 #[.map (some b)] w fun e w' => e = .returned (.map (some w.heap.size)) ∧ w' = w.alloc (.map es clock) := by
  have hq := fun w => run_eql_map_nil_sl (P := Try.prog) w 60 _ _ (some b) Try.underlying60
  go_enter Try.func64, Try.ntmps64
  go_wp2
  rw [run_callFunc_extern Try.func87 (by kernel_rfl) (by kernel_rfl) (by kernel_rfl) (e := Extern.MapsClone.clone) (by kernel_rfl), run_maps_clone_sl w 60 hb]
  simp only [Result.andThen]
  rw [Oper.upon_value]
  go_wp2
  rw [run_typeAssert_map_sl _ 60 _ _ _ _ Try.underlying60]
  simp only [Result.andThen]
  rw [Oper.upon_value]
  go_wp2
  go_ret
  exact ⟨rfl, rfl⟩
set_option maxRecDepth 100000 in
/-- Clone. -/
theorem clone_any {g b : Nat} {M : List (S42 × Int)} {w : World} (h : LG w g b M) :
    Calls Try.prog 24 #[.pointer (some ⟨g, 0, none⟩)] w fun e w' => e = .returned (.pointer (some ⟨w.heap.size + 1, 0, none⟩)) ∧ LG w' (w.heap.size + 1) w.heap.size M ∧ Below w.heap.size w w' := by
  have hc := h.cell
  obtain ⟨es, clock, hb, F, hM⟩ := h.map
  have HC := Lib.hid (clone_map b es clock w hb)
  have HF := Lib.hid (And.intro F hM)
  clear hb F hM h
  go_enter Try.func24, Try.ntmps24
  go_wp2_with (first
    | (go_at_call 58; refine (made_any g b _ hc).mono ?_; rintro e w1 ⟨rfl, rfl⟩)
    | (go_at_call 64; refine HC.out.mono ?_; rintro e w1 ⟨rfl, rfl⟩))
  go_ret
  refine ⟨rfl, ⟨?_, es, clock, ?_, HF.out.1, HF.out.2⟩, ((Below.refl _ _).alloc (Nat.le_refl _) _).alloc (by simp) _⟩
  · have h := (Go.MapKept.heap_alloc (w.alloc (.map es clock)) (.cells #[.map (some w.heap.size)] 62)).1
    simpa using h
  · rw [(Go.MapKept.heap_alloc (w.alloc (.map es clock)) (.cells #[.map (some w.heap.size)] 62)).2 _ (by simp)]
    exact (Go.MapKept.heap_alloc w _).1
/-! No ledger: nil, or a Ledger that New did not make. -/
end Go.Proofs.Ytoknlpecbdlbfaa.PL

/- The document's Get, Set, Wrong, as plain functions. -/
namespace Go.Proofs.Ytoknlpecbdlbfaa.PL
open Go Go.RowKit Go.Maps Go.Sort Go.Shelf Go.Proofs Go.Proofs.YtoknlpecbdlbfaaW.PrintWords Go.Proofs.YtoknlpecbdlbfaaW.PrintLast
def eqA (b : S45) (a0 a1 : Int) (a2 : ByteArray) : Bool := (b.f0 == a0 && (b.f1 == a1 && (b.f2.toList == a2.toList)))
def getL : List S82 → Int → Int → ByteArray → Int
  | [], _, _, _ => 0
  | b :: r, a0, a1, a2 => if eqA b.f0 a0 a1 a2 = true then b.f1 else getL r a0 a1 a2
def aheadB (a0 a1 : Int) (a2 : ByteArray) (b : S45) : Bool := if a2.toList = b.f2.toList then (if a0 = b.f0 then decide (a1 < b.f1) else decide (a0 < b.f0)) else Op.bytesLess a2.toList b.f2.toList
def setG (a0 a1 : Int) (a2 : ByteArray) (n : Int) : List S82 → Bool → List S82
  | [], true => []
  | [], false => [⟨⟨a0, a1, a2⟩, n⟩]
  | b :: r, done => if eqA b.f0 a0 a1 a2 = true then setG a0 a1 a2 n r done else if done = true then b :: setG a0 a1 a2 n r true else if aheadB a0 a1 a2 b.f0 = true then ⟨⟨a0, a1, a2⟩, n⟩ :: b :: setG a0 a1 a2 n r true else b :: setG a0 a1 a2 n r false
def setL (L : List S82) (a0 a1 : Int) (a2 : ByteArray) (n : Int) : List S82 := setG a0 a1 a2 n L (n == 0)
theorem wrong_f (a : S42) (k : Nat) : lombardref11_Wrong.f (k + 1) a.f0 a.f1 a.f2 = some (goodI a) := by
  have h := good_f a k
  unfold ledger_good.f at h
  unfold lombardref11_Wrong.f
  have hj : ∀ x y z w, lombardref11_Wrong.j0 (k + 1) x y z w = ledger_good.j0 (k + 1) x y z w := fun x y z w => by
    unfold lombardref11_Wrong.j0 ledger_good.j0
    rfl
  simp only [hj]
  exact h
end Go.Proofs.Ytoknlpecbdlbfaa.PL

/- The document's Move and Post, walked. -/
namespace Go.Proofs.Ytoknlpecbdlbfaa.PL
open Go Go.RowKit Go.Maps Go.Sort Go.Shelf Go.Proofs Go.Proofs.YtoknlpecbdlbfaaW.PrintWords Go.Proofs.YtoknlpecbdlbfaaW.PrintLast
/-- The document's Move. -/
def mvL (L : List S82) (e : S107) : List S82 × Int :=
  if checkI e ≠ 0 then (L, checkI e)
  else if wrap64 (getL L e.f0.f0 e.f0.f1 e.f0.f2 - e.f2) < 0 ∧ 0 < e.f0.f0 then (L, 20)
  else if wrap64 (getL L e.f0.f0 e.f0.f1 e.f0.f2 - e.f2) < -72057594037927936 ∨ 72057594037927936 < wrap64 (getL (setL L e.f0.f0 e.f0.f1 e.f0.f2 (wrap64 (getL L e.f0.f0 e.f0.f1 e.f0.f2 - e.f2))) e.f1.f0 e.f1.f1 e.f1.f2 + e.f2) then (L, 9)
  else (setL (setL L e.f0.f0 e.f0.f1 e.f0.f2 (wrap64 (getL L e.f0.f0 e.f0.f1 e.f0.f2 - e.f2))) e.f1.f0 e.f1.f1 e.f1.f2 (wrap64 (getL (setL L e.f0.f0 e.f0.f1 e.f0.f2 (wrap64 (getL L e.f0.f0 e.f0.f1 e.f0.f2 - e.f2))) e.f1.f0 e.f1.f1 e.f1.f2 + e.f2)), 0)
/-- The entry's block while Move runs. -/
def BX (G : Nat) (a0 a1 : Int) (a2 : ByteArray) (b0 b1 : Int) (b2 : ByteArray) (n : Int) (w' : World) : Prop :=
  w'.cell? ⟨G, 0, none⟩ = some (.int .i64 a0) ∧ w'.cell? ⟨G, 1, none⟩ = some (.int .i64 a1) ∧ w'.cell? ⟨G, 2, none⟩ = some (.string a2) ∧ w'.cell? ⟨G, 3, none⟩ = some (.int .i64 b0) ∧ w'.cell? ⟨G, 4, none⟩ = some (.int .i64 b1) ∧ w'.cell? ⟨G, 5, none⟩ = some (.string b2) ∧ w'.cell? ⟨G, 6, none⟩ = some (.int .i64 n)
theorem BX.below {G : Nat} {a0 a1 : Int} {a2 : ByteArray} {b0 b1 : Int} {b2 : ByteArray} {n : Int} {w w' : World} (h : BX G a0 a1 a2 b0 b1 b2 n w) (hb : Below w.heap.size w w') : BX G a0 a1 a2 b0 b1 b2 n w' := by
  obtain ⟨h0, h1, h2, h3, h4, h5, h6⟩ := h
  exact ⟨(hb.cell (World.block_lt_of_cell? w _ h0)).trans h0, (hb.cell (World.block_lt_of_cell? w _ h1)).trans h1, (hb.cell (World.block_lt_of_cell? w _ h2)).trans h2, (hb.cell (World.block_lt_of_cell? w _ h3)).trans h3, (hb.cell (World.block_lt_of_cell? w _ h4)).trans h4, (hb.cell (World.block_lt_of_cell? w _ h5)).trans h5, (hb.cell (World.block_lt_of_cell? w _ h6)).trans h6⟩
end Go.Proofs.Ytoknlpecbdlbfaa.PL

/- The document's Post, walked. -/
namespace Go.Proofs.Ytoknlpecbdlbfaa.PL
open Go Go.RowKit Go.Maps Go.Sort Go.Shelf Go.Proofs Go.Proofs.YtoknlpecbdlbfaaW.PrintWords Go.Proofs.YtoknlpecbdlbfaaW.PrintLast
/-- The document's Post. -/
def pstL (L0 : List S82) : Nat → List S82 → List S107 → List S82 × Int × Int
  | i, out, [] => (out, i, 0)
  | i, out, e :: r => if (mvL out e).2 = 0 then pstL L0 (i + 1) (mvL out e).1 r else (L0, i, (mvL out e).2)
end Go.Proofs.Ytoknlpecbdlbfaa.PL

/- The plain law: the program's map and the document's list have the same. -/
namespace Go.Proofs.Ytoknlpecbdlbfaa.PL
open Go Go.RowKit Go.Maps Go.Sort Go.Shelf Go.Proofs Go.Proofs.YtoknlpecbdlbfaaW.PrintWords Go.Proofs.YtoknlpecbdlbfaaW.PrintLast
def to42 (a : S45) : S42 := ⟨a.f0, a.f1, a.f2⟩
theorem eqA_iff (b : S45) (a : S42) : eqA b a.f0 a.f1 a.f2 = true ↔ to42 b = a := by
  unfold eqA to42
  obtain ⟨a0, a1, a2⟩ := a
  simp only [Bool.and_eq_true, beq_iff_eq, S42.mk.injEq]
  constructor
  · rintro ⟨h0, h1, h2⟩
    exact ⟨h0, h1, bytes_ext h2⟩
  · rintro ⟨h0, h1, h2⟩
    exact ⟨h0, h1, by rw [h2]⟩
theorem ahead_iff (a : S42) (b : S45) : aheadB a.f0 a.f1 a.f2 b = true ↔ Bef a (to42 b) := by
  unfold aheadB Bef to42
  simp only
  by_cases h : a.f2.toList = b.f2.toList
  · rw [if_pos h]
    have hn : ¬ a.f2.toList < b.f2.toList := by rw [h]; exact ll_irrefl _
    by_cases h0 : a.f0 = b.f0
    · rw [if_pos h0, decide_eq_true_iff]
      constructor
      · intro h1; exact .inr ⟨h, .inr ⟨h0, h1⟩⟩
      · rintro (h1 | ⟨_, h1 | ⟨_, h1⟩⟩)
        · exact absurd h1 hn
        · omega
        · exact h1
    · rw [if_neg h0, decide_eq_true_iff]
      constructor
      · intro h1; exact .inr ⟨h, .inl h1⟩
      · rintro (h1 | ⟨_, h1 | ⟨h1, _⟩⟩)
        · exact absurd h1 hn
        · exact h1
        · exact absurd h1 h0
  · rw [if_neg h, bytesLess_eq, decide_eq_true_iff]
    constructor
    · intro h1; exact .inl h1
    · rintro (h1 | ⟨h1, _⟩)
      · exact h1
      · exact absurd h1 h
def gL (L : List S82) (a : S42) : Int := getL L a.f0 a.f1 a.f2
def sL (L : List S82) (a : S42) (n : Int) : List S82 := setL L a.f0 a.f1 a.f2 n
theorem gL_nil (a : S42) : gL [] a = 0 := rfl
theorem gL_cons (b : S82) (r : List S82) (a : S42) : gL (b :: r) a = if to42 b.f0 = a then b.f1 else gL r a := by
  unfold gL
  simp only [getL]
  by_cases h : to42 b.f0 = a
  · rw [if_pos h, if_pos ((eqA_iff _ _).2 h)]
  · rw [if_neg h, if_neg (fun h1 => h ((eqA_iff _ _).1 h1))]
theorem gL_setG (a : S42) (n : Int) (c : S42) : ∀ (L : List S82) (d : Bool), gL (setG a.f0 a.f1 a.f2 n L d) c = if c = a then (if d = true then 0 else n) else gL L c
  | [], true => by
    unfold setG
    rw [gL_nil]
    simp
  | [], false => by
    unfold setG
    rw [gL_cons, gL_nil]
    show (if a = c then n else 0) = _
    by_cases h : c = a
    · rw [if_pos h, if_pos h.symm]; simp
    · rw [if_neg h, if_neg (fun h1 => h h1.symm)]
  | b :: r, d => by
    unfold setG
    by_cases e : to42 b.f0 = a
    · rw [if_pos ((eqA_iff _ _).2 e), gL_setG a n c r d, gL_cons]
      by_cases h : c = a
      · rw [if_pos h, if_pos h]
      · rw [if_neg h, if_neg h, if_neg (fun h1 => h (h1.symm.trans e))]
    · rw [if_neg (fun h1 => e ((eqA_iff _ _).1 h1))]
      have hc : ∀ d', gL (b :: setG a.f0 a.f1 a.f2 n r d') c = if c = a then (if d' = true then 0 else n) else gL (b :: r) c := fun d' => by
        rw [gL_cons, gL_setG a n c r d', gL_cons]
        by_cases h : c = a
        · rw [if_pos h, if_pos h, if_neg (fun h1 => e (h1.trans h))]
        · rw [if_neg h, if_neg h]
      by_cases hd : d = true
      · rw [if_pos hd, hc true, hd]
      · rw [if_neg hd]
        have hd' : d = false := by simpa using hd
        by_cases ha : aheadB a.f0 a.f1 a.f2 b.f0 = true
        · rw [if_pos ha, gL_cons, hc true, hd']
          show (if a = c then n else _) = _
          by_cases h : c = a
          · rw [if_pos h.symm, if_pos h]; simp
          · rw [if_neg (fun h1 => h h1.symm), if_neg h, if_neg h]
        · rw [if_neg ha, hc false, hd']
theorem gL_sL (L : List S82) (a c : S42) (n : Int) : gL (sL L a n) c = if c = a then n else gL L c := by
  unfold sL setL
  rw [gL_setG]
  by_cases h : n = 0
  · subst h; simp
  · have : (n == 0) = false := by simp [h]
    rw [this]; simp
theorem mem_setG (a : S42) (n : Int) (x : S82) : ∀ (L : List S82) (d : Bool), x ∈ setG a.f0 a.f1 a.f2 n L d → x ∈ L ∨ (d = false ∧ x = ⟨⟨a.f0, a.f1, a.f2⟩, n⟩)
  | [], true, h => by simp [setG] at h
  | [], false, h => by
    simp [setG] at h
    exact .inr ⟨rfl, h⟩
  | b :: r, d, h => by
    unfold setG at h
    split at h
    · rcases mem_setG a n x r d h with h1 | h1
      · exact .inl (List.mem_cons_of_mem _ h1)
      · exact .inr h1
    · split at h
      · rename_i hd
        rcases List.mem_cons.1 h with rfl | h
        · exact .inl List.mem_cons_self
        · rcases mem_setG a n x r true h with h1 | h1
          · exact .inl (List.mem_cons_of_mem _ h1)
          · exact absurd h1.1 (by simp)
      · rename_i hd
        have hd' : d = false := by simpa using hd
        split at h
        · rcases List.mem_cons.1 h with rfl | h
          · exact .inr ⟨hd', rfl⟩
          · rcases List.mem_cons.1 h with rfl | h
            · exact .inl List.mem_cons_self
            · rcases mem_setG a n x r true h with h1 | h1
              · exact .inl (List.mem_cons_of_mem _ h1)
              · exact absurd h1.1 (by simp)
        · rcases List.mem_cons.1 h with rfl | h
          · exact .inl List.mem_cons_self
          · rcases mem_setG a n x r false h with h1 | h1
            · exact .inl (List.mem_cons_of_mem _ h1)
            · exact .inr ⟨hd', h1.2⟩
/-- Strictly rising balances. -/
def Up (L : List S82) : Prop := L.Pairwise (fun x y => Bef (to42 x.f0) (to42 y.f0))
theorem up_setG (a : S42) (n : Int) : ∀ (L : List S82) (d : Bool), Up L → Up (setG a.f0 a.f1 a.f2 n L d)
  | [], true, _ => List.Pairwise.nil
  | [], false, _ => by simp [setG, Up]
  | b :: r, d, h => by
    have h1 := (List.pairwise_cons.1 h).1
    have h2 : Up r := (List.pairwise_cons.1 h).2
    unfold setG
    by_cases e : to42 b.f0 = a
    · rw [if_pos ((eqA_iff _ _).2 e)]
      exact up_setG a n r d h2
    · rw [if_neg (fun h1 => e ((eqA_iff _ _).1 h1))]
      have ht : Up (b :: setG a.f0 a.f1 a.f2 n r true) := List.pairwise_cons.2 ⟨fun x hx => by
        rcases mem_setG a n x r true hx with h3 | h3
        · exact h1 x h3
        · exact absurd h3.1 (by simp), up_setG a n r true h2⟩
      by_cases hd : d = true
      · rw [if_pos hd]; exact ht
      · rw [if_neg hd]
        by_cases ha : aheadB a.f0 a.f1 a.f2 b.f0 = true
        · rw [if_pos ha]
          have hb : Bef a (to42 b.f0) := (ahead_iff _ _).1 ha
          refine List.pairwise_cons.2 ⟨fun x hx => ?_, ht⟩
          show Bef a (to42 x.f0)
          rcases List.mem_cons.1 hx with rfl | hx
          · exact hb
          · rcases mem_setG a n x r true hx with h3 | h3
            · exact hb.trans (h1 x h3)
            · exact absurd h3.1 (by simp)
        · rw [if_neg ha]
          refine List.pairwise_cons.2 ⟨fun x hx => ?_, up_setG a n r false h2⟩
          rcases mem_setG a n x r false hx with h3 | h3
          · exact h1 x h3
          · rw [h3.2]
            show Bef (to42 b.f0) a
            rcases Bef.tri a (to42 b.f0) with h4 | h4 | h4
            · exact absurd ((ahead_iff _ _).2 h4) ha
            · exact absurd h4.symm e
            · exact h4
theorem up_sL {L : List S82} (h : Up L) (a : S42) (n : Int) : Up (sL L a n) := up_setG a n L _ h
theorem nz_sL {L : List S82} (h : ∀ x ∈ L, x.f1 ≠ 0) (a : S42) (n : Int) : ∀ x ∈ sL L a n, x.f1 ≠ 0 := by
  intro x hx
  rcases mem_setG a n x L _ hx with h1 | ⟨h1, h2⟩
  · exact h x h1
  · rw [h2]
    simpa using h1
end Go.Proofs.Ytoknlpecbdlbfaa.PL

/- The plain law: Move and Post do the same to the map and to the list. -/
namespace Go.Proofs.Ytoknlpecbdlbfaa.PL
open Go Go.RowKit Go.Maps Go.Sort Go.Shelf Go.Proofs Go.Proofs.YtoknlpecbdlbfaaW.PrintWords Go.Proofs.YtoknlpecbdlbfaaW.PrintLast
/-- A map's list of entries is one: no key twice, nothing with 0. -/
structure OkM (M : List (S42 × Int)) : Prop where
  nd : (M.map Prod.fst).Nodup
  nz : ∀ p ∈ M, p.2 ≠ 0
theorem keys_setM (M : List (S42 × Int)) (a : S42) (n : Int) : (setM M a n).map Prod.fst = if a ∈ M.map Prod.fst then M.map Prod.fst else M.map Prod.fst ++ [a] := by
  unfold setM
  by_cases h : a ∈ M.map Prod.fst
  · rw [if_pos h, if_pos h, List.map_map]
    refine List.map_congr_left (fun p _ => ?_)
    simp only [Function.comp]
    by_cases e : p.1 = a
    · rw [if_pos e]; exact e.symm
    · rw [if_neg e]
  · rw [if_neg h, if_neg h, List.map_append]; rfl
theorem OkM.put {M : List (S42 × Int)} (h : OkM M) (a : S42) (n : Int) : OkM (putM M a n) := by
  unfold putM
  by_cases hn : n = 0
  · rw [if_pos hn]
    unfold delM
    refine ⟨?_, fun p hp => h.nz p (List.mem_filter.1 hp).1⟩
    exact (List.Sublist.map Prod.fst List.filter_sublist).nodup h.nd
  · rw [if_neg hn]
    refine ⟨?_, ?_⟩
    · rw [keys_setM]
      split
      · exact h.nd
      · rename_i hm
        refine List.nodup_append.2 ⟨h.nd, by simp, fun x hx y hy e => ?_⟩
        simp at hy
        subst hy
        subst e
        exact hm hx
    · intro p hp
      unfold setM at hp
      split at hp
      · obtain ⟨q, hq, rfl⟩ := List.mem_map.1 hp
        split
        · exact hn
        · exact h.nz q hq
      · rcases List.mem_append.1 hp with hp | hp
        · exact h.nz p hp
        · simp at hp
          rw [hp]
          exact hn
theorem OkM.nil : OkM [] := ⟨List.nodup_nil, fun p hp => absurd hp (by simp)⟩
theorem OkM.mem_iff {M : List (S42 × Int)} (h : OkM M) (a : S42) : a ∈ M.map Prod.fst ↔ getM M a ≠ 0 := by
  constructor
  · intro ha
    exact h.nz _ (getM_mem ha)
  · intro ha
    refine Classical.byContradiction fun hn => ha (getM_none hn)
/-- The map and the list have the same. -/
structure Rep (M : List (S42 × Int)) (L : List S82) : Prop where
  ok : OkM M
  up : Up L
  nz : ∀ x ∈ L, x.f1 ≠ 0
  same : ∀ a, getM M a = gL L a
theorem Rep.nil : Rep [] [] := ⟨OkM.nil, List.Pairwise.nil, fun x hx => absurd hx (by simp), fun _ => rfl⟩
theorem Rep.put {M : List (S42 × Int)} {L : List S82} (h : Rep M L) (a : S42) (n : Int) : Rep (putM M a n) (sL L a n) :=
  ⟨h.ok.put a n, up_sL h.up a n, nz_sL h.nz a n, fun c => by rw [getM_putM, gL_sL, h.same]⟩
theorem Rep.of {M M' : List (S42 × Int)} {L : List S82} (h : Rep M L) (hk : OkM M') (hs : ∀ a, getM M' a = getM M a) : Rep M' L :=
  ⟨hk, h.up, h.nz, fun a => (hs a).trans (h.same a)⟩
theorem OkM.move {M : List (S42 × Int)} (h : OkM M) (e : S107) : OkM (moveM M e).1 := by
  unfold moveM
  split
  · exact h
  · split
    · exact h
    · split
      · exact h
      · split
        · exact (h.put _ _).put _ _
        · exact (h.put _ _).put _ _
theorem mvL_good {L : List S82} {e : S107} (hck : checkI e = 0) : mvL L e = (if wrap64 (getL L e.f0.f0 e.f0.f1 e.f0.f2 - e.f2) < 0 ∧ 0 < e.f0.f0 then (L, 20)
  else if wrap64 (getL L e.f0.f0 e.f0.f1 e.f0.f2 - e.f2) < -72057594037927936 ∨ 72057594037927936 < wrap64 (getL (setL L e.f0.f0 e.f0.f1 e.f0.f2 (wrap64 (getL L e.f0.f0 e.f0.f1 e.f0.f2 - e.f2))) e.f1.f0 e.f1.f1 e.f1.f2 + e.f2) then (L, 9)
  else (setL (setL L e.f0.f0 e.f0.f1 e.f0.f2 (wrap64 (getL L e.f0.f0 e.f0.f1 e.f0.f2 - e.f2))) e.f1.f0 e.f1.f1 e.f1.f2 (wrap64 (getL (setL L e.f0.f0 e.f0.f1 e.f0.f2 (wrap64 (getL L e.f0.f0 e.f0.f1 e.f0.f2 - e.f2))) e.f1.f0 e.f1.f1 e.f1.f2 + e.f2)), 0)) := by
  unfold mvL
  rw [if_neg (fun q => q hck)]
/-- Move does the same. -/
theorem rep_move {M : List (S42 × Int)} {L : List S82} (h : Rep M L) (hB : BM M) (e : S107) : (moveM M e).2 = (mvL L e).2 ∧ Rep (moveM M e).1 (mvL L e).1 := by
  by_cases hck : checkI e = 0
  · obtain ⟨hn1, hn2, hg0, hg1, hth⟩ := check_good hck
    have g0 := good_wf hg0
    have hv := hB e.f0
    have hs : getL L e.f0.f0 e.f0.f1 e.f0.f2 = getM M e.f0 := (h.same e.f0).symm
    rw [mvL_good hck, hs, wrap_id (x := getM M e.f0 - e.f2) (by omega) (by omega)]
    by_cases c1 : getM M e.f0 - e.f2 < 0 ∧ 0 < e.f0.f0
    · rw [if_pos c1, moveM_20 hck (by omega) c1.1]
      exact ⟨rfl, h⟩
    · have c1' : ¬ (e.f0.f0 ≠ 0 ∧ getM M e.f0 - e.f2 < 0) := fun q => c1 ⟨q.2, by omega⟩
      rw [if_neg c1]
      by_cases c2 : getM M e.f0 - e.f2 < -72057594037927936
      · rw [if_pos (.inl c2), moveM_9 hck c1' c2]
        exact ⟨rfl, h⟩
      · have h1 := h.put e.f0 (getM M e.f0 - e.f2)
        have hB1 : BM (putM M e.f0 (getM M e.f0 - e.f2)) := hB.put _ (by omega) (by omega)
        have ht := hB1 e.f1
        have hs1 : getL (setL L e.f0.f0 e.f0.f1 e.f0.f2 (getM M e.f0 - e.f2)) e.f1.f0 e.f1.f1 e.f1.f2 = getM (putM M e.f0 (getM M e.f0 - e.f2)) e.f1 := (h1.same e.f1).symm
        rw [hs1, wrap_id (x := getM (putM M e.f0 (getM M e.f0 - e.f2)) e.f1 + e.f2) (by omega) (by omega)]
        by_cases c3 : 72057594037927936 < getM (putM M e.f0 (getM M e.f0 - e.f2)) e.f1 + e.f2
        · rw [if_pos (.inr c3), moveM_9b hck c1' c2 c3]
          refine ⟨rfl, h.of ((h.ok.put _ _).put _ _) (fun a => ?_)⟩
          rw [getM_putM]
          split
          · rename_i e1; rw [e1]; omega
          · rename_i e1; rw [getM_putM, if_neg e1]
        · rw [if_neg (fun q => q.elim c2 c3), moveM_0 hck c1' c2 c3]
          exact ⟨rfl, h1.put _ _⟩
  · have e1 : moveM M e = (M, checkI e) := by unfold moveM; rw [if_pos hck]
    have e2 : mvL L e = (L, checkI e) := by unfold mvL; rw [if_pos hck]
    rw [e1, e2]
    exact ⟨rfl, h⟩
/-- What a move that was done did. -/
theorem move_ok {M : List (S42 × Int)} {e : S107} (h : (moveM M e).2 = 0) : (moveM M e).1 = putM (putM M e.f0 (getM M e.f0 - e.f2)) e.f1 (getM (putM M e.f0 (getM M e.f0 - e.f2)) e.f1 + e.f2) := by
  have hck := moveM_ok h
  unfold moveM at h ⊢
  rw [if_neg (fun q => q hck)] at h ⊢
  split at h
  · simp at h
  · rename_i c1
    rw [if_neg c1]
    split at h
    · simp at h
    · rename_i c2
      rw [if_neg c2]
      split at h
      · simp at h
      · rename_i c3
        rw [if_neg c3]
/-- One step of the way back. -/
theorem undo_step {M M' : List (S42 × Int)} {e : S107} (hB : BM M) (hok : (moveM M e).2 = 0) (hs : ∀ a, getM M' a = getM (moveM M e).1 a) :
    ∀ a, getM (putM (putM M' e.f1 (wrap64 (getM M' e.f1 - e.f2))) e.f0 (wrap64 (getM (putM M' e.f1 (wrap64 (getM M' e.f1 - e.f2))) e.f0 + e.f2))) a = getM M a := by
  have hck := moveM_ok hok
  obtain ⟨hn1, hn2, _⟩ := check_good hck
  have hm := move_ok hok
  have hv := hB e.f0
  have ht := hB e.f1
  have hg : ∀ a, getM M' a = if a = e.f1 then getM (putM M e.f0 (getM M e.f0 - e.f2)) e.f1 + e.f2 else if a = e.f0 then getM M e.f0 - e.f2 else getM M a := fun a => by
    rw [hs, hm, getM_putM]
    by_cases q : a = e.f1
    · rw [if_pos q, if_pos q]
    · rw [if_neg q, if_neg q, getM_putM]
  have h1 : getM (putM M e.f0 (getM M e.f0 - e.f2)) e.f1 = if e.f1 = e.f0 then getM M e.f0 - e.f2 else getM M e.f1 := getM_putM _ _ _ _
  have h2 : getM M' e.f1 = getM (putM M e.f0 (getM M e.f0 - e.f2)) e.f1 + e.f2 := by rw [hg, if_pos rfl]
  rw [h2]
  have h3 : wrap64 (getM (putM M e.f0 (getM M e.f0 - e.f2)) e.f1 + e.f2 - e.f2) = getM (putM M e.f0 (getM M e.f0 - e.f2)) e.f1 := by
    rw [show getM (putM M e.f0 (getM M e.f0 - e.f2)) e.f1 + e.f2 - e.f2 = getM (putM M e.f0 (getM M e.f0 - e.f2)) e.f1 by omega]
    rw [h1]
    split
    · exact wrap_id (by omega) (by omega)
    · exact wrap_id (by omega) (by omega)
  rw [h3]
  have h4 : getM (putM M' e.f1 (getM (putM M e.f0 (getM M e.f0 - e.f2)) e.f1)) e.f0 = getM M e.f0 - e.f2 := by
    rw [getM_putM, h1]
    by_cases q : e.f0 = e.f1
    · rw [if_pos q, if_pos q.symm]
    · rw [if_neg q, hg, if_neg q, if_pos rfl]
  rw [h4, wrap_id (x := getM M e.f0 - e.f2 + e.f2) (by omega) (by omega)]
  intro a
  rw [getM_putM]
  by_cases q : a = e.f0
  · rw [if_pos q, q]; omega
  · rw [if_neg q, getM_putM, h1]
    by_cases q1 : a = e.f1
    · rw [if_pos q1, if_neg (fun q2 => q (q1.trans q2)), q1]
    · rw [if_neg q1, hg, if_neg q1, if_neg q]
theorem okM_undo : ∀ (done : List S107) (M : List (S42 × Int)), OkM M → OkM (undoM M done)
  | [], M, h => h
  | e :: r, M, h => by
    unfold undoM
    exact okM_undo r _ ((h.put _ _).put _ _)
/-- Post does the same: what is done, or that nothing is. -/
theorem rep_post {M0 : List (S42 × Int)} {L0 : List S82} (h0 : Rep M0 L0) : ∀ (rest done : List S107) (M : List (S42 × Int)) (L : List S82), Rep M L → BM M → (∀ M', OkM M' → (∀ a, getM M' a = getM M a) → ∀ a, getM (undoM M' done) a = getM M0 a) →
    (postL done M rest).2.1 = (pstL L0 done.length L rest).2.1 ∧ (postL done M rest).2.2 = (pstL L0 done.length L rest).2.2 ∧ Rep (postL done M rest).1 (pstL L0 done.length L rest).1 ∧ (BM M0 → BM (postL done M rest).1)
  | [], done, M, L, hr, hB, hu => ⟨rfl, rfl, hr, fun _ => hB⟩
  | e :: r, done, M, L, hr, hB, hu => by
    obtain ⟨h1, h2⟩ := rep_move hr hB e
    unfold postL pstL
    by_cases hf : (moveM M e).2 = 0
    · rw [if_pos hf, if_pos (h1.symm.trans hf)]
      refine rep_post h0 r (e :: done) (moveM M e).1 (mvL L e).1 h2 (hB.move e) (fun M' hk hs a => ?_)
      unfold undoM
      exact hu _ ((hk.put _ _).put _ _) (undo_step hB hf hs) a
    · rw [if_neg hf, if_neg (fun q => hf (h1.trans q))]
      have hs : ∀ a, getM (moveM M e).1 a = getM M a := fun a => by
        by_cases hck : checkI e = 0
        · have hv := hB e.f0
          unfold moveM at hf ⊢
          rw [if_neg (fun q => q hck)] at hf ⊢
          split
          · rfl
          · split
            · rfl
            · split
              · rw [getM_putM, getM_putM]
                split
                · rename_i q; rw [q]; omega
                · rfl
              · rename_i c1 c2 c3
                rw [if_neg c1, if_neg c2, if_neg c3] at hf
                exact absurd rfl hf
        · unfold moveM
          rw [if_pos hck]
      have hu' := hu (moveM M e).1 (hr.ok.move e) hs
      refine ⟨rfl, h1, h0.of (okM_undo done _ (hr.ok.move e)) hu', fun hB0 a => ?_⟩
      rw [hu']
      exact hB0 a
theorem rep_post0 {M : List (S42 × Int)} {L : List S82} (h : Rep M L) (hB : BM M) (l : List S107) :
    (postL [] M l).2.1 = (pstL L 0 L l).2.1 ∧ (postL [] M l).2.2 = (pstL L 0 L l).2.2 ∧ Rep (postL [] M l).1 (pstL L 0 L l).1 ∧ BM (postL [] M l).1 := by
  obtain ⟨h1, h2, h3, h4⟩ := rep_post h l [] M L h hB (fun M' _ hs a => hs a)
  exact ⟨h1, h2, h3, h4 hB⟩
end Go.Proofs.Ytoknlpecbdlbfaa.PL

/- The plain law: All tells the list. -/
namespace Go.Proofs.Ytoknlpecbdlbfaa.PL
open Go Go.RowKit Go.Maps Go.Sort Go.Shelf Go.Proofs Go.Proofs.YtoknlpecbdlbfaaW.PrintWords Go.Proofs.YtoknlpecbdlbfaaW.PrintLast
def keysL (L : List S82) : List S42 := L.map (fun b => to42 b.f0)
theorem gL_none {L : List S82} {a : S42} (h : a ∉ keysL L) : gL L a = 0 := by
  induction L with
  | nil => rfl
  | cons b r ih =>
    simp only [keysL, List.map_cons, List.mem_cons, not_or] at h
    rw [gL_cons, if_neg (fun e => h.1 e.symm)]
    exact ih h.2
theorem gL_mem {L : List S82} (hu : Up L) {b : S82} (hb : b ∈ L) : gL L (to42 b.f0) = b.f1 := by
  induction L with
  | nil => cases hb
  | cons x r ih =>
    rw [gL_cons]
    rcases List.mem_cons.1 hb with rfl | hb
    · rw [if_pos rfl]
    · have h1 := (List.pairwise_cons.1 hu).1 b hb
      rw [if_neg (fun e => Bef.irrefl _ (by rw [e] at h1; exact h1))]
      exact ih (List.pairwise_cons.1 hu).2 hb
theorem asc_keys {L : List S82} (hu : Up L) : Asc (keysL L) := List.pairwise_map.2 hu
theorem asc_nodup {l : List S42} (h : Asc l) : l.Nodup := List.Pairwise.imp (R := Bef) (S := fun a b => a ≠ b) (fun {a b} hb e => Bef.irrefl a (by rw [← e] at hb; exact hb)) h
theorem asc_unique {l l' : List S42} (h : Asc l) (h' : Asc l') (hp : l.Perm l') : l = l' :=
  List.Perm.eq_of_pairwise (le := Bef) (fun a _ _ _ h1 h2 => absurd (h1.trans h2) (Bef.irrefl a)) h h' hp
theorem rep_keys {M : List (S42 × Int)} {L : List S82} (h : Rep M L) : (M.map Prod.fst).Perm (keysL L) := by
  refine (List.perm_ext_iff_of_nodup h.ok.nd (asc_nodup (asc_keys h.up))).2 fun a => ?_
  rw [h.ok.mem_iff, h.same]
  constructor
  · intro ha
    exact Classical.byContradiction fun hn => ha (gL_none hn)
  · intro ha
    obtain ⟨b, hb, rfl⟩ := List.mem_map.1 ha
    rw [gL_mem h.up hb]
    exact h.nz b hb
theorem rep_length {M : List (S42 × Int)} {L : List S82} (h : Rep M L) : M.length = L.length := by
  have := (rep_keys h).length_eq
  simpa [keysL] using this
/-- All tells just the list. -/
theorem rep_all {M : List (S42 × Int)} {L : List S82} (h : Rep M L) {ts : List S42} (hp : ts.Perm (M.map Prod.fst)) (ha : Asc ts) : ts.map (fun a => b82 a (getM M a)) = L := by
  have e : ts = keysL L := asc_unique ha (asc_keys h.up) (hp.trans (rep_keys h))
  rw [e]
  unfold keysL
  rw [List.map_map]
  have : ∀ b ∈ L, ((fun a => b82 a (getM M a)) ∘ fun b : S82 => to42 b.f0) b = b := by
    intro b hb
    simp only [Function.comp]
    rw [h.same, gL_mem h.up hb]
    rfl
  rw [List.map_congr_left this]
  simp
/-- All at a ledger that has what the list has. -/
theorem all_gives {g b : Nat} {M : List (S42 × Int)} {L : List S82} {w : World} (h : LG w g b M) (hr : Rep M L) (hs : L.length * 40 ≤ 140737488355328) : Gives 23 (.pointer (some ⟨g, 0, none⟩)) 44 w L := by
  unfold Gives
  refine (all_any h (by rw [rep_length hr]; exact hs)).mono ?_
  rintro o w' ⟨v, ts, rfl, hp, ha, hR, hb⟩
  rw [rep_all hr hp ha] at hR
  exact ⟨v, rfl, hR, hb⟩
end Go.Proofs.Ytoknlpecbdlbfaa.PL

/- The plain law: Held, Same, entries as plain functions. -/
namespace Go.Proofs.Ytoknlpecbdlbfaa.PL
open Go Go.RowKit Go.Maps Go.Sort Go.Shelf Go.Proofs Go.Proofs.YtoknlpecbdlbfaaW.PrintWords Go.Proofs.YtoknlpecbdlbfaaW.PrintLast
theorem same_l0 (L : List S82) (hL : L.length < 9223372036854775807) : ∀ (k i : Nat), L.length - i + 1 ≤ k → i ≤ L.length → lombardref11_Same.l0 k L L (i : Int) = some true
  | 0, _, hk, _ => by omega
  | k + 1, i, hk, hi => by
    unfold lombardref11_Same.l0
    by_cases h : i < L.length
    · have hw : wrap64 ((i : Int) + 1) = ((i + 1 : Nat) : Int) := by rw [wrap_id (by omega) (by omega)]; rfl
      rw [if_pos (by omega), if_pos (by omega), if_pos (by omega), hw]
      rw [if_neg (by simp)]
      exact same_l0 L hL k (i + 1) (by omega) (by omega)
    · rw [if_neg (by omega)]
theorem same_f (L : List S82) (hL : L.length < 9223372036854775807) : lombardref11_Same.f (L.length + 1) L L = some true := by
  unfold lombardref11_Same.f
  rw [if_pos rfl]
  exact same_l0 L hL _ 0 (by omega) (Nat.zero_le _)
end Go.Proofs.Ytoknlpecbdlbfaa.PL

/- The chapter's example. -/
namespace Go.Proofs.Ytoknlpecbdlbfaa.PL
open Go Go.RowKit Go.Maps Go.Sort Go.Shelf Go.Proofs Go.Proofs.YtoknlpecbdlbfaaW.PrintWords Go.Proofs.YtoknlpecbdlbfaaW.PrintLast
def tt : ByteArray := ⟨#[116]⟩
def ac (o : Int) : S42 := ⟨o, 0, tt⟩
end Go.Proofs.Ytoknlpecbdlbfaa.PL

/- A row of entries that is laid anew, read as entries; the example's two posts. -/
namespace Go.Proofs.Ytoknlpecbdlbfaa.PL
open Go Go.RowKit Go.Maps Go.Sort Go.Shelf Go.Proofs Go.Proofs.YtoknlpecbdlbfaaW.PrintWords Go.Proofs.YtoknlpecbdlbfaaW.PrintLast
/-- An entry's seven cells. -/
def c7 (e : S107) : List Value := [.int .i64 e.f0.f0, .int .i64 e.f0.f1, .string e.f0.f2, .int .i64 e.f1.f0, .int .i64 e.f1.f1, .string e.f1.f2, .int .i64 e.f2]
theorem len_c7 : ∀ l : List S107, (l.flatMap c7).length = l.length * 7
  | [] => rfl
  | e :: r => by
    rw [List.flatMap_cons, List.length_append, len_c7 r]
    simp only [c7, List.length_cons, List.length_nil]
    omega
theorem reps_c7 (w : World) (base : Nat) (ok : Nat → Prop) : ∀ ss : List S107, Reps (k107.M w base ok) 7 ss (ss.flatMap c7) := by
  intro ss
  refine ⟨len_c7 ss, ?_⟩
  induction ss with
  | nil => intro j p h; simp at h
  | cons a r ih =>
    intro j p h
    cases j with
    | zero =>
      simp at h
      subst h
      simp only [List.flatMap_cons, Nat.zero_mul, List.drop_zero]
      rw [List.take_append_of_le_length (by simp [c7])]
      exact k107_mkM w base ok a
    | succ j =>
      simp at h
      have e1 : (j + 1) * 7 = 7 + j * 7 := by omega
      have e2 : (List.flatMap c7 (a :: r)).drop ((j + 1) * 7) = (r.flatMap c7).drop (j * 7) := by
        rw [List.flatMap_cons, e1, ← List.drop_drop]
        rfl
      rw [e2]
      exact ih j p h
theorem C107_new (W : World) (l : List S107) (hl : l.length ≤ maxLen) : Kd.C k107 (W.alloc (.cells (l.flatMap c7).toArray 107)) (some ⟨W.heap.size, 0, none⟩) l.length l := by
  have ho : (W.alloc (.cells (l.flatMap c7).toArray 107)).ownsRow 0 107 7 (.slice (some ⟨W.heap.size, 0, none⟩) l.length l.length) l.length (l.flatMap c7) :=
    ⟨len_c7 l, .inr ⟨W.heap.size, l.length, (l.flatMap c7).toArray, rfl, Nat.zero_le _, (Go.MapKept.heap_alloc W _).1, Nat.le_refl _, hl, by rw [List.size_toArray, len_c7], by
      rw [List.toList_toArray, List.take_of_length_le (by rw [len_c7]; omega)]⟩⟩
  have hR : Kd.R k107 107 (W.alloc (.cells (l.flatMap c7).toArray 107)) 0 (fun _ => True) (.slice (some ⟨W.heap.size, 0, none⟩) l.length l.length) l := ⟨fun _ _ => trivial, _, ho, reps_c7 _ _ _ l⟩
  obtain ⟨A, c, he, _, hC⟩ := Kd.R_reads hR
  injection he with h1 h2 h3
  rw [h1]
  exact hC
theorem BM.nil : BM [] := fun a => ⟨by simp [getM], by simp [getM]⟩
end Go.Proofs.Ytoknlpecbdlbfaa.PL

/- awake: the chapter's example, its calls. -/
namespace Go.Proofs.Ytoknlpecbdlbfaa.PL
open Go Go.RowKit Go.Maps Go.Sort Go.Shelf Go.Proofs Go.Proofs.YtoknlpecbdlbfaaW.PrintWords Go.Proofs.YtoknlpecbdlbfaaW.PrintLast
/-- The example's map. -/
def MX : List (S42 × Int) := [(ac 0, -5), (ac 1, 2), (ac 2, 3)]
def acell (n : Int) : Obj := .cells #[.int .i64 n, .int .i64 0, .string ⟨#[116]⟩] 42
/-- a's and b's own cells, and the ledger. -/
structure AW (W : World) (g b k : Nat) : Prop where
  lg : LG W g b MX
  ha : W.heap[k]? = some (acell 1)
  hb : W.heap[k + 1]? = some (acell 2)
theorem AW.below {W W' : World} {g b k : Nat} (h : AW W g b k) (hb : Below W.heap.size W W') : AW W' g b k := by
  have h1 : k < W.heap.size := (Array.getElem?_eq_some_iff.1 h.ha).1
  have h2 : k + 1 < W.heap.size := (Array.getElem?_eq_some_iff.1 h.hb).1
  exact ⟨h.lg.below hb, (hb.block k h1).trans h.ha, (hb.block (k + 1) h2).trans h.hb⟩
/-- Cells of a and b. -/
def AC (W : World) (k : Nat) : Prop := (W.cell? ⟨k, 0, none⟩ = some (.int .i64 1) ∧ W.cell? ⟨k, 1, none⟩ = some (.int .i64 0) ∧ W.cell? ⟨k, 2, none⟩ = some (.string ⟨#[116]⟩)) ∧ (W.cell? ⟨k + 1, 0, none⟩ = some (.int .i64 2) ∧ W.cell? ⟨k + 1, 1, none⟩ = some (.int .i64 0) ∧ W.cell? ⟨k + 1, 2, none⟩ = some (.string ⟨#[116]⟩))
theorem AW.cells {W : World} {g b k : Nat} (h : AW W g b k) : AC W k := by
  have h1 := h.ha
  have h2 := h.hb
  unfold acell at h1 h2
  refine ⟨⟨?_, ?_, ?_⟩, ?_, ?_, ?_⟩ <;> simp [World.cell?, h1, h2]
end Go.Proofs.Ytoknlpecbdlbfaa.PL

/- What things the document's list has, as the program's compaction. -/
namespace Go.Proofs.Ytoknlpecbdlbfaa.PL
open Go Go.RowKit Go.Maps Go.Sort Go.Shelf Go.Proofs Go.Proofs.YtoknlpecbdlbfaaW.PrintWords Go.Proofs.YtoknlpecbdlbfaaW.PrintLast
/-- The balances' things. -/
def thingsOf (L : List S82) : List ByteArray := L.map (fun b => b.f0.f2)
theorem bl_inj {s t : ByteArray} (h : bl s = bl t) : s = t := by
  apply ByteArray.ext
  exact Array.toList_inj.1 h
theorem toList_iff (s t : ByteArray) : s.toList = t.toList ↔ s = t := by
  constructor
  · intro h
    rw [ByteArray.toList_eq, ByteArray.toList_eq] at h
    exact bl_inj h
  · rintro rfl; rfl
theorem at_bl (L : List S82) {i : Nat} (h : i < L.length) : ((thingsOf L).map bl).toArray[i]! = bl (rd_T82 L (i : Int)).f0.f2 := by
  have e : rd_T82 L (i : Int) = L[i] := by
    unfold rd_T82
    simp [List.getD, h]
  rw [e]
  rw [getElem!_pos _ i (by simpa [thingsOf] using h)]
  simp [thingsOf]
theorem keeps_iff (L : List S82) {i : Nat} (h : i < L.length) : Lib.keeps ((thingsOf L).map bl).toArray i = true ↔ i = 0 ∨ ¬ (rd_T82 L (i : Int)).f0.f2.toList = (rd_T82 L ((i - 1 : Nat) : Int)).f0.f2.toList := by
  unfold Lib.keeps
  rw [decide_eq_true_iff, at_bl L h, at_bl L (i := i - 1) (by omega), toList_iff]
  constructor
  · rintro (h1 | h1)
    · exact .inl h1
    · exact .inr (fun h2 => h1 (by rw [h2]))
  · rintro (h1 | h1)
    · exact .inl h1
    · exact .inr (fun h2 => h1 (bl_inj h2))
theorem compB_length (xs : List ByteArray) : (compB xs).length ≤ xs.length := by
  rw [len_comp]
  exact Nat.le_trans (compact_le _) (by simp)
/-! How many balances there are. -/
end Go.Proofs.Ytoknlpecbdlbfaa.PL
