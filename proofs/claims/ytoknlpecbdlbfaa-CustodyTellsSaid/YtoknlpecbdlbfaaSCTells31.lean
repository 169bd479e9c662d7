/- Part 31 of the proof's texts: what the theorem needs of them. -/
import Derived.Test.YtoknlpecbdlbfaaSCTells30
import Derived.Shelf.SlMaps.Clone
import Derived.Test.YtoknlpecbdlbfaaSCTells18
import Derived.Test.YtoknlpecbdlbfaaSCTells19
import Derived.Test.YtoknlpecbdlbfaaSCTells21
import Derived.Test.YtoknlpecbdlbfaaSCTells22

/- Things, walked. -/
namespace Go.Proofs.Ytoknlpecbdlbfaa.PL
open Go Go.RowKit Go.Maps Go.Sort Go.Shelf Go.Proofs Go.Proofs.YtoknlpecbdlbfaaW.PrintWords Go.Proofs.YtoknlpecbdlbfaaW.PrintLast
/-- A text's list of bytes. -/
def bl (s : ByteArray) : List UInt8 := s.data.toList
theorem enc_bl (s : ByteArray) : encStr (bl s) = .string s := by
  cases s
  simp [encStr, bl]
/-- Texts without those that are as the one ahead of them. -/
def compB (xs : List ByteArray) : List ByteArray := (Lib.compact (xs.map bl)).map (fun b => (⟨b.toArray⟩ : ByteArray))
theorem enc_comp (xs : List ByteArray) : (Lib.compact (xs.map bl)).map encStr = (compB xs).map Value.string := by
  unfold compB
  rw [List.map_map]
  rfl
theorem len_comp (xs : List ByteArray) : (compB xs).length = (Lib.compact (xs.map bl)).length := by simp [compB]
theorem compact_le (zs : List (List UInt8)) : (Lib.compact zs).length ≤ zs.length := by
  unfold Lib.compact Lib.compactUpTo
  rw [List.length_map]
  have := List.length_filter_le (Lib.keeps zs.toArray) (List.range zs.length)
  simpa using this
theorem compact_own {W : World} {base : Nat} {v : Value} {xs : List ByteArray} (h : Kd.R Kd.string 9 W base (fun _ => True) v xs) (hs : xs.length < 9223372036854775807) :
    Calls Try.prog 65 #[v] W fun e w' => ∃ v', e = .returned v' ∧ Kd.R Kd.string 9 w' base (fun _ => True) v' (compB xs) ∧ W.grownBy w' v.ownBlock ∧ (∀ k, v.ownBlock = some k → base ≤ k) := by
  have ho := Kd.own_of_R h
  rcases ho.2 with ⟨rfl, hz⟩ | ⟨gb, cap, cur, rfl, hbase, hgb, r1, r2, r3, r4⟩
  · have hx : xs = [] := List.eq_nil_of_length_eq_zero hz
    subst hx
    refine (Any.slices_Compact_string_empty Try.laysCompact none 0 W).mono ?_
    rintro e w' ⟨rfl, rfl⟩
    exact ⟨_, rfl, Kd.R_nil _ _ _ _ _, ⟨rfl, rfl, rfl, Nat.le_refl _, fun _ _ _ => rfl⟩, fun k hk => by simp [Value.ownBlock] at hk⟩
  · have hm : (xs.map bl).length = xs.length := by simp
    have hH : Holds encStr W gb 0 (xs.map bl).toArray := holds_of_block hgb (by
      rw [hm]
      rw [Nat.mul_one] at r4
      rw [r4]
      simp [encs, List.map_map, Function.comp_def, enc_bl])
    have hc := Any.slices_Compact_string Try.laysCompact gb 0 cap (xs.map bl) W hH (by rw [hm]; omega) (by rw [hm]; exact r1)
    rw [hm] at hc
    refine Calls.mono hc ?_
    rintro e w' ⟨rfl, q, rfl⟩
    have hle := compact_le (xs.map bl)
    rw [hm] at hle
    have hl := len_comp xs
    have he := enc_comp xs
    generalize Lib.compact (xs.map bl) = K at hle hl he ⊢
    have hT : (K ++ List.replicate (xs.length - K.length) ([] : List UInt8)).length = xs.length := by simp; omega
    have hT0 : (K ++ List.replicate (xs.length - K.length) ([] : List UInt8)).take K.length = K := List.take_left' rfl
    generalize K ++ List.replicate (xs.length - K.length) ([] : List UInt8) = T at hT hT0 ⊢
    have hg : W.grownBy (putRow encStr (Sort.ahead W q) gb 0 T.toArray) (some gb) := by
      refine ⟨rfl, rfl, rfl, by simp [putRow, mapBlock, Sort.ahead], fun k hk hne => ?_⟩
      have : gb ≠ k := fun e => hne (by rw [e])
      simp [putRow, mapBlock, Sort.ahead, Array.getElem?_modify, this]
    have hh : (putRow encStr (Sort.ahead W q) gb 0 T.toArray).heap[gb]? = some (.cells (putCells encStr 0 T.toArray cur) 9 (0, 0)) := by
      simp [putRow, mapBlock, Sort.ahead, Array.getElem?_modify, hgb, onCells]
    have ht := take_putCells cur T (by omega)
    refine ⟨_, rfl, ?_, by simpa [Value.ownBlock] using hg, fun k hk => ?_⟩
    · refine Kd.R_of_own ?_ (fun _ _ => trivial)
      refine ⟨by simp [encs], .inr ⟨gb, cap, _, by rw [hl], hbase, hh, by omega, r2, by simp [putCells]; omega, ?_⟩⟩
      have e1 : (putCells encStr 0 T.toArray cur).toList.take ((compB xs).length * 1) = ((putCells encStr 0 T.toArray cur).toList.take T.length).take (compB xs).length := by
        rw [List.take_take]
        congr 1
        omega
      rw [e1, ht, ← List.map_take, hl, hT0]
      exact he
    · have : gb = k := by simpa [Value.ownBlock] using hk
      omega
set_option maxRecDepth 100000 in
set_option maxHeartbeats 400000 in
theorem things_walk (p : Value) (w : World) (l : List S82) (h : Gives 23 p 44 w l) (hs : l.length * 40 ≤ 140737488355328) :
    Calls Try.prog 32 #[p] w fun e w' => ∃ v, e = .returned v ∧ Kd.R Kd.string 9 w' w.heap.size (fun _ => True) v (compB (l.map (fun b => b.f0.f2))) ∧ Below w.heap.size w w' := by
  have HS := Lib.hid h.slice
  have HH := Lib.hid hs
  clear h hs
  go_enter Try.func32, Try.ntmps32
  go_wp2_with (first
    | (go_at_call 23; refine HS.out.mono ?_; rintro e w1 ⟨A, c, rfl, H1⟩))
  go_loopg [3, 5, 9] (l.length + 1) (fun kq v3 v5 v9 w' => ∃ k : Nat, v9 = .int .i64 k ∧ Hid (kq + k = l.length + 1 ∧ k ≤ l.length ∧ Kd.R Kd.string 9 w' w1.heap.size (fun _ => True) v3 ((l.take k).map (fun b => b.f0.f2)) ∧ Below w1.heap.size w1 w'))
  case atStart =>
    exact ⟨0, rfl, ⟨rfl, Nat.zero_le _, Kd.R_nil _ _ _ _ _, Below.refl _ _⟩⟩
  case round =>
    obtain ⟨k, rfl, HI⟩ := hrel
    by_cases hk : k < l.length
    · have hC : Kd.C k82 wr A l.length l := Kd.C_below H1.out.1 HI.out.2.2.2
      obtain ⟨ad, eA, x0, x1, x2, x3⟩ := at_T82 hC (k : Int) (by omega) (by omega)
      simp only [Int.toNat_natCast] at x0 x1 x2 x3
      obtain ⟨⟨⟨a0, a1, a2⟩, n⟩, ha⟩ : ∃ a, rd_T82 l (k : Int) = a := ⟨_, rfl⟩
      rw [ha] at x0 x1 x2 x3
      subst eA
      have e2 : l[k] = ⟨⟨a0, a1, a2⟩, n⟩ := by
        unfold rd_T82 at ha
        simpa [List.getD, hk] using ha
      have e1 : (l.take (k + 1)).map (fun b => b.f0.f2) = (l.take k).map (fun b => b.f0.f2) ++ [a2] := by
        rw [List.take_succ_eq_append_getElem hk, e2, List.map_append]; rfl
      have hl64 : wrap64 ((k : Int) + 1) = ((k + 1 : Nat) : Int) := by
        have h3 := HH.out
        rw [wrap_id (by omega) (by omega)]; rfl
      have HK := Lib.hid (And.intro hk (And.intro e1 hl64))
      clear ha e2 e1 hC hl64
      obtain ⟨W, hW⟩ : ∃ W, wr.alloc (.cells #[.int .i64 a0, .int .i64 a1, .string a2, .int .i64 n] 44) = W := ⟨_, rfl⟩
      have HB : Below wr.heap.size wr W := by rw [← hW]; exact (Below.refl _ _).alloc (Nat.le_refl _) _
      have k2 : W.cell? ⟨wr.heap.size, 2, none⟩ = some (.string a2) := by rw [← hW]; simp
      have hR : Kd.R Kd.string 9 W w1.heap.size (fun _ => True) u3 ((l.take k).map (fun b => b.f0.f2)) := Kd.R_below HI.out.2.2.1 HB
      have hB2 : Below w1.heap.size w1 W := HI.out.2.2.2.trans (HB.mono HI.out.2.2.2.size)
      have hlen : (((l.take k).map (fun b => b.f0.f2)).length + 1) * 16 ≤ 140737488355328 := by
        have h1 := HK.out.1
        have h3 := HH.out
        simp
        omega
      obtain ⟨xs, hxs⟩ : ∃ xs, (l.take k).map (fun b => b.f0.f2) = xs := ⟨_, rfl⟩
      rw [hxs] at hR hlen
      have HX := Lib.hid hxs
      clear hxs
      have HP := Lib.hid hR
      have HPb := Lib.hid hB2
      have HPs := Lib.hid hB2.size
      have HPl := Lib.hid hlen
      have hstr : Kd.string.M W w1.heap.size (fun _ => False) a2 [.string a2] := rfl
      clear hR hB2 hlen HB
      go_wp2_with (first
        | (at_builtin; refine Kd.R_append Kd.string (w0 := w1) (W := W) w1.heap.size rfl (.tmp 13) (.tmp 17) 56 9 (.string ⟨#[]⟩) 16 rfl Try.underlying56 info9 rfl (by decide) (by decide) u3 xs a2 [.string a2] (fun _ => True) (fun _ => False) rfl rfl hstr (fun _ h => h.elim) (fun _ _ => trivial) HP.out HPb.out HPs.out HPl.out ?_; intro v1 w5 ho hb hg hat; have H5 := Lib.hid (And.intro ho hb); clear ho hb hg hat)
        | go_in)
      go_roundg (l.length - k)
      case measure => have := HI.out.1; have := HK.out.1; omega
      case rel =>
        have h1 := HK.out.1
        have h2 := HI.out.1
        refine ⟨k + 1, by rw [HK.out.2.2], ⟨by omega, by omega, ?_, H5.out.2⟩⟩
        rw [HK.out.2.1, HX.out]
        exact H5.out.1
    · have hk' : (k < l.length) = False := eq_false hk
      obtain ⟨h1, h2, h3, h4⟩ := HI.out
      have e1 : l.take k = l := List.take_of_length_le (by omega)
      rw [e1] at h3
      have HC := Lib.hid (compact_own h3 (by have := HH.out; simp; omega))
      have H4 := Lib.hid h4
      clear hk h1 h2 h3 h4 e1
      go_wp2_with (first
        | (go_at_call 65; refine HC.out.mono ?_; rintro e w5 ⟨v5, rfl, h5⟩; have H5 := Lib.hid h5; clear h5))
      go_ret
      obtain ⟨h5, h6, h7⟩ := H5.out
      have hb5 : Below w1.heap.size w1 w5 := H4.out.grown h6 H4.out.size h7
      exact ⟨_, rfl, Kd.R_lower h5 H1.out.2.1.size, H1.out.2.1.trans (hb5.mono H1.out.2.1.size)⟩
end Go.Proofs.Ytoknlpecbdlbfaa.PL

/- Clone, walked; and what no ledger has. -/
namespace Go.Proofs.Ytoknlpecbdlbfaa.PL
open Go Go.RowKit Go.Maps Go.Sort Go.Shelf Go.Proofs Go.Proofs.YtoknlpecbdlbfaaW.PrintWords Go.Proofs.YtoknlpecbdlbfaaW.PrintLast
/-! No ledger: nil, or a Ledger that New did not make. -/
/-- p is no ledger in w. -/
def NoLG (w : World) (p : Value) : Prop := p = .pointer none ∨ ∃ g : Nat, p = .pointer (some ⟨g, 0, none⟩) ∧ w.cell? ⟨g, 0, none⟩ = some (.map none)
end Go.Proofs.Ytoknlpecbdlbfaa.PL

/- The document's Get, Set, Wrong, as plain functions. -/
namespace Go.Proofs.Ytoknlpecbdlbfaa.PL
open Go Go.RowKit Go.Maps Go.Sort Go.Shelf Go.Proofs Go.Proofs.YtoknlpecbdlbfaaW.PrintWords Go.Proofs.YtoknlpecbdlbfaaW.PrintLast
def eqA (b : S45) (a0 a1 : Int) (a2 : ByteArray) : Bool := (b.f0 == a0 && (b.f1 == a1 && (b.f2.toList == a2.toList)))
def getL : List S82 → Int → Int → ByteArray → Int
  | [], _, _, _ => 0
  | b :: r, a0, a1, a2 => if eqA b.f0 a0 a1 a2 = true then b.f1 else getL r a0 a1 a2
def aheadB (a0 a1 : Int) (a2 : ByteArray) (b : S45) : Bool := if a2.toList = b.f2.toList then (if a0 = b.f0 then decide (a1 < b.f1) else decide (a0 < b.f0)) else Op.bytesLess a2.toList b.f2.toList
def setG (a0 a1 : Int) (a2 : ByteArray) (n : Int) : List S82 → Bool → List S82
  | [], true => []
  | [], false => [⟨⟨a0, a1, a2⟩, n⟩]
  | b :: r, done => if eqA b.f0 a0 a1 a2 = true then setG a0 a1 a2 n r done else if done = true then b :: setG a0 a1 a2 n r true else if aheadB a0 a1 a2 b.f0 = true then ⟨⟨a0, a1, a2⟩, n⟩ :: b :: setG a0 a1 a2 n r true else b :: setG a0 a1 a2 n r false
def setL (L : List S82) (a0 a1 : Int) (a2 : ByteArray) (n : Int) : List S82 := setG a0 a1 a2 n L (n == 0)
theorem rd_drop {L : List S82} {i : Nat} {b : S82} {r : List S82} (h : L.drop i = b :: r) : rd_T82 L (i : Int) = b ∧ i < L.length ∧ L.drop (i + 1) = r := by
  have hi : i < L.length := by
    refine Classical.byContradiction fun hn => ?_
    rw [List.drop_eq_nil_of_le (by omega)] at h
    cases h
  rw [List.drop_eq_getElem_cons hi] at h
  injection h with h1 h2
  refine ⟨?_, hi, h2⟩
  unfold rd_T82
  simp [List.getD, hi, h1]
theorem get_l0 (L : List S82) (hL : L.length < 9223372036854775807) (a0 a1 : Int) (a2 : ByteArray) : ∀ (k i : Nat) (R : List S82), L.drop i = R → R.length + 1 ≤ k → i ≤ L.length → lombardref11_Get.l0 k L (i : Int) a0 a1 a2 = some (getL R a0 a1 a2)
  | 0, _, _, _, hk, _ => by omega
  | k + 1, i, R, hR, hk, hi => by
    unfold lombardref11_Get.l0
    cases R with
    | nil =>
      have : L.length ≤ i := by
        have := congrArg List.length hR
        simp at this
        omega
      rw [if_neg (by omega)]
      rfl
    | cons b r =>
      obtain ⟨h1, h2, h3⟩ := rd_drop hR
      rw [if_pos (by omega), if_pos (by omega), h1]
      unfold getL eqA
      split
      · rfl
      · have hw : wrap64 ((i : Int) + 1) = ((i + 1 : Nat) : Int) := by rw [wrap_id (by omega) (by omega)]; rfl
        rw [hw]
        exact get_l0 L hL a0 a1 a2 k (i + 1) r h3 (by simp at hk; omega) (by omega)
theorem get_f (L : List S82) (hL : L.length < 9223372036854775807) (a0 a1 : Int) (a2 : ByteArray) (k : Nat) (hk : L.length + 1 ≤ k) : lombardref11_Get.f k L a0 a1 a2 = some (getL L a0 a1 a2) :=
  get_l0 L hL a0 a1 a2 k 0 L rfl hk (Nat.zero_le _)
theorem set_l0 (L : List S82) (hL : L.length < 9223372036854775807) (a0 a1 : Int) (a2 : ByteArray) (n : Int) : ∀ (k i : Nat) (R out : List S82) (done : Bool), L.drop i = R → R.length + 1 ≤ k → i ≤ L.length → out.length + 2 * R.length + 2 < 3518437208883 → lombardref11_Set.l0 k L n out done (i : Int) a0 a1 a2 = some (out ++ setG a0 a1 a2 n R done)
  | 0, _, _, _, _, _, hk, _, _ => by omega
  | k + 1, i, R, out, done, hR, hk, hi, ho => by
    unfold lombardref11_Set.l0
    cases R with
    | nil =>
      have : L.length ≤ i := by
        have := congrArg List.length hR
        simp at this
        omega
      rw [if_neg (by omega)]
      cases done
      · simp only [Bool.false_eq_true, if_false]
        rw [if_pos (by simp at ho; omega)]
        rfl
      · simp [setG]
    | cons b r =>
      obtain ⟨h1, h2, h3⟩ := rd_drop hR
      have hw : wrap64 ((i : Int) + 1) = ((i + 1 : Nat) : Int) := by rw [wrap_id (by omega) (by omega)]; rfl
      have ho' : out.length + 2 * r.length + 4 < 3518437208883 := by simp at ho; omega
      have hk' : r.length + 1 ≤ k := by simp at hk; omega
      rw [if_pos (by omega), if_pos (by omega), h1, hw]
      unfold setG
      have hb : (⟨⟨b.f0.f0, b.f0.f1, b.f0.f2⟩, b.f1⟩ : S82) = b := rfl
      rw [hb]
      have hq : (b.f0.f0 == a0 && (b.f0.f1 == a1 && b.f0.f2.toList == a2.toList)) = eqA b.f0 a0 a1 a2 := rfl
      rw [hq]
      by_cases e : eqA b.f0 a0 a1 a2 = true
      · rw [if_pos e, if_pos e]
        exact set_l0 L hL a0 a1 a2 n k (i + 1) r out done h3 hk' (by omega) (by omega)
      · rw [if_neg e, if_neg e]
        by_cases hd : done = true
        · rw [if_pos hd, if_pos hd, if_pos (by omega), set_l0 L hL a0 a1 a2 n k (i + 1) r (out ++ [b]) done h3 hk' (by omega) (by simp; omega), hd]
          simp
        · rw [if_neg hd, if_neg hd]
          have hA : lombardref11_Ahead.f a0 a1 a2 b.f0.f0 b.f0.f1 b.f0.f2 = some (aheadB a0 a1 a2 b.f0) := by
            unfold lombardref11_Ahead.f aheadB
            split
            · split <;> rfl
            · rfl
          rw [hA]
          simp only [Option.bind_some]
          have hd' : done = false := by simpa using hd
          by_cases ha : aheadB a0 a1 a2 b.f0 = true
          · rw [if_pos ha, if_pos ha, if_pos (by omega)]
            rw [if_pos (by simp; omega), set_l0 L hL a0 a1 a2 n k (i + 1) r _ true h3 hk' (by omega) (by simp; omega)]
            simp
          · rw [if_neg ha, if_neg ha, if_pos (by omega), set_l0 L hL a0 a1 a2 n k (i + 1) r (out ++ [b]) done h3 hk' (by omega) (by simp; omega), hd']
            simp
theorem set_f (L : List S82) (hL : 2 * L.length + 2 < 3518437208883) (a0 a1 : Int) (a2 : ByteArray) (n : Int) (k : Nat) (hk : L.length + 1 ≤ k) : lombardref11_Set.f k L a0 a1 a2 n = some (setL L a0 a1 a2 n) := by
  unfold lombardref11_Set.f
  have := set_l0 L (by omega) a0 a1 a2 n k 0 L [] (n == 0) rfl hk (Nat.zero_le _) (by simpa using hL)
  simpa [setL] using this
theorem wrong_f (a : S42) (k : Nat) : lombardref11_Wrong.f (k + 1) a.f0 a.f1 a.f2 = some (goodI a) := by
  have h := good_f a k
  unfold ledger_good.f at h
  unfold lombardref11_Wrong.f
  have hj : ∀ x y z w, lombardref11_Wrong.j0 (k + 1) x y z w = ledger_good.j0 (k + 1) x y z w := fun x y z w => by
    unfold lombardref11_Wrong.j0 ledger_good.j0
    rfl
  simp only [hj]
  exact h
end Go.Proofs.Ytoknlpecbdlbfaa.PL

/- The document's Move and Post, walked. -/
namespace Go.Proofs.Ytoknlpecbdlbfaa.PL
open Go Go.RowKit Go.Maps Go.Sort Go.Shelf Go.Proofs Go.Proofs.YtoknlpecbdlbfaaW.PrintWords Go.Proofs.YtoknlpecbdlbfaaW.PrintLast
/-- The document's Move. -/
def mvL (L : List S82) (e : S107) : List S82 × Int :=
  if checkI e ≠ 0 then (L, checkI e)
  else if wrap64 (getL L e.f0.f0 e.f0.f1 e.f0.f2 - e.f2) < 0 ∧ 0 < e.f0.f0 then (L, 20)
  else if wrap64 (getL L e.f0.f0 e.f0.f1 e.f0.f2 - e.f2) < -72057594037927936 ∨ 72057594037927936 < wrap64 (getL (setL L e.f0.f0 e.f0.f1 e.f0.f2 (wrap64 (getL L e.f0.f0 e.f0.f1 e.f0.f2 - e.f2))) e.f1.f0 e.f1.f1 e.f1.f2 + e.f2) then (L, 9)
  else (setL (setL L e.f0.f0 e.f0.f1 e.f0.f2 (wrap64 (getL L e.f0.f0 e.f0.f1 e.f0.f2 - e.f2))) e.f1.f0 e.f1.f1 e.f1.f2 (wrap64 (getL (setL L e.f0.f0 e.f0.f1 e.f0.f2 (wrap64 (getL L e.f0.f0 e.f0.f1 e.f0.f2 - e.f2))) e.f1.f0 e.f1.f1 e.f1.f2 + e.f2)), 0)
theorem length_setG (a0 a1 : Int) (a2 : ByteArray) (n : Int) : ∀ (L : List S82) (d : Bool), (setG a0 a1 a2 n L d).length ≤ L.length + 1
  | [], true => by simp [setG]
  | [], false => by simp [setG]
  | b :: r, d => by
    unfold setG
    split
    · have := length_setG a0 a1 a2 n r d; simp; omega
    · split
      · have := length_setG a0 a1 a2 n r true; simp; omega
      · split
        · have : ∀ L : List S82, (setG a0 a1 a2 n L true).length ≤ L.length := by
            intro L
            induction L with
            | nil => simp [setG]
            | cons b r ih => unfold setG; split <;> simp <;> omega
          have := this r
          simp; omega
        · have := length_setG a0 a1 a2 n r false; simp; omega
theorem length_setL (L : List S82) (a0 a1 : Int) (a2 : ByteArray) (n : Int) : (setL L a0 a1 a2 n).length ≤ L.length + 1 := length_setG a0 a1 a2 n L _
/-- The entry's block while Move runs. -/
def BX (G : Nat) (a0 a1 : Int) (a2 : ByteArray) (b0 b1 : Int) (b2 : ByteArray) (n : Int) (w' : World) : Prop :=
  w'.cell? ⟨G, 0, none⟩ = some (.int .i64 a0) ∧ w'.cell? ⟨G, 1, none⟩ = some (.int .i64 a1) ∧ w'.cell? ⟨G, 2, none⟩ = some (.string a2) ∧ w'.cell? ⟨G, 3, none⟩ = some (.int .i64 b0) ∧ w'.cell? ⟨G, 4, none⟩ = some (.int .i64 b1) ∧ w'.cell? ⟨G, 5, none⟩ = some (.string b2) ∧ w'.cell? ⟨G, 6, none⟩ = some (.int .i64 n)
theorem BX.below {G : Nat} {a0 a1 : Int} {a2 : ByteArray} {b0 b1 : Int} {b2 : ByteArray} {n : Int} {w w' : World} (h : BX G a0 a1 a2 b0 b1 b2 n w) (hb : Below w.heap.size w w') : BX G a0 a1 a2 b0 b1 b2 n w' := by
  obtain ⟨h0, h1, h2, h3, h4, h5, h6⟩ := h
  exact ⟨(hb.cell (World.block_lt_of_cell? w _ h0)).trans h0, (hb.cell (World.block_lt_of_cell? w _ h1)).trans h1, (hb.cell (World.block_lt_of_cell? w _ h2)).trans h2, (hb.cell (World.block_lt_of_cell? w _ h3)).trans h3, (hb.cell (World.block_lt_of_cell? w _ h4)).trans h4, (hb.cell (World.block_lt_of_cell? w _ h5)).trans h5, (hb.cell (World.block_lt_of_cell? w _ h6)).trans h6⟩
theorem wrong_any (a : S42) (w : World) : Calls Try.prog 72 #[.agg #[.int .i64 a.f0, .int .i64 a.f1, .string a.f2]] w fun e w' => e = .returned (.int .i64 (goodI a)) ∧ Below w.heap.size w w' :=
  lombardref11_Wrong.calls 1 _ _ _ _ w (wrong_f a 0)
theorem get_any {L : List S82} (hL : L.length < 9223372036854775807) {A : Option Addr} {c : Nat} {w : World} (hC : Kd.C k82 w A L.length L) (hc : L.length ≤ c) (a : S42) : Calls Try.prog 27 #[.slice A L.length c, .agg #[.int .i64 a.f0, .int .i64 a.f1, .string a.f2]] w fun e w' => e = .returned (.int .i64 (getL L a.f0 a.f1 a.f2)) ∧ Below w.heap.size w w' :=
  lombardref11_Get.calls (L.length + 1) A c L a.f0 a.f1 a.f2 _ w hC hc (get_f L hL _ _ _ _ (Nat.le_refl _))
theorem set_any {L : List S82} (hL : 2 * L.length + 2 < 3518437208883) {A : Option Addr} {c : Nat} {w : World} (hC : Kd.C k82 w A L.length L) (hc : L.length ≤ c) (a : S42) (n : Int) : Calls Try.prog 79 #[.slice A L.length c, .agg #[.int .i64 a.f0, .int .i64 a.f1, .string a.f2], .int .i64 n] w fun e w' => ∃ (A2 : Option Addr) (c2 : Nat), e = .returned (.slice A2 (setL L a.f0 a.f1 a.f2 n).length c2) ∧ Kd.C k82 w' A2 (setL L a.f0 a.f1 a.f2 n).length (setL L a.f0 a.f1 a.f2 n) ∧ (setL L a.f0 a.f1 a.f2 n).length ≤ c2 ∧ Below w.heap.size w w' := by
  refine (lombardref11_Set.calls (L.length + 1) A c L a.f0 a.f1 a.f2 n _ w hC hc (set_f L hL _ _ _ _ _ (Nat.le_refl _))).mono ?_
  rintro e w' ⟨v, rfl, hr, hb⟩
  obtain ⟨A2, c2, rfl, h1, h2⟩ := Kd.R_reads hr
  exact ⟨A2, c2, rfl, h2, h1, hb⟩
end Go.Proofs.Ytoknlpecbdlbfaa.PL

/- The document's Move, walked. -/
namespace Go.Proofs.Ytoknlpecbdlbfaa.PL
open Go Go.RowKit Go.Maps Go.Sort Go.Shelf Go.Proofs Go.Proofs.YtoknlpecbdlbfaaW.PrintWords Go.Proofs.YtoknlpecbdlbfaaW.PrintLast
set_option maxRecDepth 100000 in
set_option maxHeartbeats 2000000 in
theorem rmove_walk (A : Option Addr) (c : Nat) (L : List S82) (e : S107) (w : World) (hC : Kd.C k82 w A L.length L) (hc : L.length ≤ c) (hL : 2 * L.length + 8 < 3518437208883) (hck : checkI e = 0) :
    Calls Try.prog 57 #[.slice A L.length c, ev e] w fun o w' => ∃ (A' : Option Addr) (c' : Nat) (l' : List S82) (i' : Int), o = .returned (.tuple #[.slice A' l'.length c', .int .i64 i']) ∧ mvL L e = (l', i') ∧ Kd.C k82 w' A' l'.length l' ∧ l'.length ≤ c' ∧ Below w.heap.size w w' := by
  have hmv : ∃ r, mvL L e = r := ⟨_, rfl⟩
  obtain ⟨r0, hr0⟩ := hmv
  rw [hr0]
  unfold mvL at hr0
  rw [if_neg (fun h => h hck)] at hr0
  obtain ⟨hn1, hn2, hg0, hg1, hth⟩ := check_good hck
  obtain ⟨⟨a0, a1, a2⟩, ⟨b0, b1, b2⟩, n⟩ := e
  simp only at hr0 hn1 hn2 hth hg0 hg1
  obtain ⟨g1, hg1'⟩ : ∃ g, getL L a0 a1 a2 = g := ⟨_, rfl⟩
  rw [hg1'] at hr0
  obtain ⟨N, hN⟩ : ∃ N, setL L a0 a1 a2 (wrap64 (g1 - n)) = N := ⟨_, rfl⟩
  rw [hN] at hr0
  obtain ⟨g2, hg2'⟩ : ∃ g, getL N b0 b1 b2 = g := ⟨_, rfl⟩
  rw [hg2'] at hr0
  have hNl : N.length ≤ L.length + 1 := by rw [← hN]; exact length_setL _ _ _ _ _
  have HR := Lib.hid (And.intro hr0 (And.intro hC (And.intro hc (And.intro hL hNl))))
  obtain ⟨z, hz⟩ : ∃ z, decide (a0 > 0) = z := ⟨_, rfl⟩
  have hza : z = true ↔ 0 < a0 := by rw [← hz]; simp
  have HZ := Lib.hid hza
  have c1 : (n < 1) = False := eq_false (by omega)
  have c2 : decide (n > 1125899906842624) = false := by simp; omega
  have c3 : (a2.toList == b2.toList) = true := by simp [hth]
  have hstep : ∀ W w', (Hid (BX w.heap.size a0 a1 a2 b0 b1 b2 n W ∧ Below w.heap.size w W)) → Below W.heap.size W w' → (w'.cell? ⟨w.heap.size, 0, none⟩ = some (.int .i64 a0) ∧ w'.cell? ⟨w.heap.size, 1, none⟩ = some (.int .i64 a1) ∧ w'.cell? ⟨w.heap.size, 2, none⟩ = some (.string a2) ∧ w'.cell? ⟨w.heap.size, 3, none⟩ = some (.int .i64 b0) ∧ w'.cell? ⟨w.heap.size, 4, none⟩ = some (.int .i64 b1) ∧ w'.cell? ⟨w.heap.size, 5, none⟩ = some (.string b2) ∧ w'.cell? ⟨w.heap.size, 6, none⟩ = some (.int .i64 n) ∧ Hid (BX w.heap.size a0 a1 a2 b0 b1 b2 n w' ∧ Below w.heap.size w w')) := fun W w' hx hb => by
    have hx' := hx.out.1.below hb
    have hB' := hx.out.2.trans (hb.mono hx.out.2.size)
    have hh : Hid (BX w.heap.size a0 a1 a2 b0 b1 b2 n w' ∧ Below w.heap.size w w') := ⟨hx', hB'⟩
    obtain ⟨k0, k1, k2, k3, k4, k5, k6⟩ := hx'
    exact ⟨k0, k1, k2, k3, k4, k5, k6, hh⟩
  have HW0 := Lib.hid (show ∀ W, Hid (BX w.heap.size a0 a1 a2 b0 b1 b2 n W ∧ Below w.heap.size w W) → Calls Try.prog 72 #[.agg #[.int .i64 a0, .int .i64 a1, .string a2]] W fun e w' => e = .returned (.int .i64 0) ∧ (w'.cell? ⟨w.heap.size, 0, none⟩ = some (.int .i64 a0) ∧ w'.cell? ⟨w.heap.size, 1, none⟩ = some (.int .i64 a1) ∧ w'.cell? ⟨w.heap.size, 2, none⟩ = some (.string a2) ∧ w'.cell? ⟨w.heap.size, 3, none⟩ = some (.int .i64 b0) ∧ w'.cell? ⟨w.heap.size, 4, none⟩ = some (.int .i64 b1) ∧ w'.cell? ⟨w.heap.size, 5, none⟩ = some (.string b2) ∧ w'.cell? ⟨w.heap.size, 6, none⟩ = some (.int .i64 n) ∧ Hid (BX w.heap.size a0 a1 a2 b0 b1 b2 n w' ∧ Below w.heap.size w w')) from fun W hx => by
    have := wrong_any ⟨a0, a1, a2⟩ W
    rw [hg0] at this
    refine this.mono ?_
    rintro e w' ⟨he, hb⟩
    exact ⟨he, hstep W w' hx hb⟩)
  have HW1 := Lib.hid (show ∀ W, Hid (BX w.heap.size a0 a1 a2 b0 b1 b2 n W ∧ Below w.heap.size w W) → Calls Try.prog 72 #[.agg #[.int .i64 b0, .int .i64 b1, .string b2]] W fun e w' => e = .returned (.int .i64 0) ∧ (w'.cell? ⟨w.heap.size, 0, none⟩ = some (.int .i64 a0) ∧ w'.cell? ⟨w.heap.size, 1, none⟩ = some (.int .i64 a1) ∧ w'.cell? ⟨w.heap.size, 2, none⟩ = some (.string a2) ∧ w'.cell? ⟨w.heap.size, 3, none⟩ = some (.int .i64 b0) ∧ w'.cell? ⟨w.heap.size, 4, none⟩ = some (.int .i64 b1) ∧ w'.cell? ⟨w.heap.size, 5, none⟩ = some (.string b2) ∧ w'.cell? ⟨w.heap.size, 6, none⟩ = some (.int .i64 n) ∧ Hid (BX w.heap.size a0 a1 a2 b0 b1 b2 n w' ∧ Below w.heap.size w w')) from fun W hx => by
    have := wrong_any ⟨b0, b1, b2⟩ W
    rw [hg1] at this
    refine this.mono ?_
    rintro e w' ⟨he, hb⟩
    exact ⟨he, hstep W w' hx hb⟩)
  have HG1 := Lib.hid (show ∀ W, Hid (BX w.heap.size a0 a1 a2 b0 b1 b2 n W ∧ Below w.heap.size w W) → Calls Try.prog 27 #[.slice A L.length c, .agg #[.int .i64 a0, .int .i64 a1, .string a2]] W fun e w' => e = .returned (.int .i64 g1) ∧ (w'.cell? ⟨w.heap.size, 0, none⟩ = some (.int .i64 a0) ∧ w'.cell? ⟨w.heap.size, 1, none⟩ = some (.int .i64 a1) ∧ w'.cell? ⟨w.heap.size, 2, none⟩ = some (.string a2) ∧ w'.cell? ⟨w.heap.size, 3, none⟩ = some (.int .i64 b0) ∧ w'.cell? ⟨w.heap.size, 4, none⟩ = some (.int .i64 b1) ∧ w'.cell? ⟨w.heap.size, 5, none⟩ = some (.string b2) ∧ w'.cell? ⟨w.heap.size, 6, none⟩ = some (.int .i64 n) ∧ Hid (BX w.heap.size a0 a1 a2 b0 b1 b2 n w' ∧ Below w.heap.size w w')) from fun W hx => by
    have := get_any (L := L) (by omega) (Kd.C_below hC hx.out.2) hc ⟨a0, a1, a2⟩
    rw [hg1'] at this
    refine this.mono ?_
    rintro e w' ⟨he, hb⟩
    exact ⟨he, hstep W w' hx hb⟩)
  have HS1 := Lib.hid (show ∀ W, Hid (BX w.heap.size a0 a1 a2 b0 b1 b2 n W ∧ Below w.heap.size w W) → Calls Try.prog 79 #[.slice A L.length c, .agg #[.int .i64 a0, .int .i64 a1, .string a2], .int .i64 (wrap64 (g1 - n))] W fun e w' => ∃ (A2 : Option Addr) (c2 : Nat), e = .returned (.slice A2 N.length c2) ∧ (w'.cell? ⟨w.heap.size, 0, none⟩ = some (.int .i64 a0) ∧ w'.cell? ⟨w.heap.size, 1, none⟩ = some (.int .i64 a1) ∧ w'.cell? ⟨w.heap.size, 2, none⟩ = some (.string a2) ∧ w'.cell? ⟨w.heap.size, 3, none⟩ = some (.int .i64 b0) ∧ w'.cell? ⟨w.heap.size, 4, none⟩ = some (.int .i64 b1) ∧ w'.cell? ⟨w.heap.size, 5, none⟩ = some (.string b2) ∧ w'.cell? ⟨w.heap.size, 6, none⟩ = some (.int .i64 n) ∧ Hid (BX w.heap.size a0 a1 a2 b0 b1 b2 n w' ∧ Below w.heap.size w w' ∧ Kd.C k82 w' A2 N.length N ∧ N.length ≤ c2)) from fun W hx => by
    have := set_any (L := L) (by omega) (Kd.C_below hC hx.out.2) hc ⟨a0, a1, a2⟩ (wrap64 (g1 - n))
    rw [hN] at this
    refine this.mono ?_
    rintro e w' ⟨A2, c2, he, h1, h2, h3⟩
    obtain ⟨k0, k1, k2, k3, k4, k5, k6, hh⟩ := hstep W w' hx h3
    exact ⟨A2, c2, he, k0, k1, k2, k3, k4, k5, k6, ⟨hh.out.1, hh.out.2, h1, h2⟩⟩)
  have HG2 := Lib.hid (show ∀ (A2 : Option Addr) (c2 : Nat) (W : World), Hid (BX w.heap.size a0 a1 a2 b0 b1 b2 n W ∧ Below w.heap.size w W ∧ Kd.C k82 W A2 N.length N ∧ N.length ≤ c2) → Calls Try.prog 27 #[.slice A2 N.length c2, .agg #[.int .i64 b0, .int .i64 b1, .string b2]] W fun e w' => e = .returned (.int .i64 g2) ∧ (w'.cell? ⟨w.heap.size, 0, none⟩ = some (.int .i64 a0) ∧ w'.cell? ⟨w.heap.size, 1, none⟩ = some (.int .i64 a1) ∧ w'.cell? ⟨w.heap.size, 2, none⟩ = some (.string a2) ∧ w'.cell? ⟨w.heap.size, 3, none⟩ = some (.int .i64 b0) ∧ w'.cell? ⟨w.heap.size, 4, none⟩ = some (.int .i64 b1) ∧ w'.cell? ⟨w.heap.size, 5, none⟩ = some (.string b2) ∧ w'.cell? ⟨w.heap.size, 6, none⟩ = some (.int .i64 n) ∧ Hid (BX w.heap.size a0 a1 a2 b0 b1 b2 n w' ∧ Below w.heap.size w w' ∧ Kd.C k82 w' A2 N.length N ∧ N.length ≤ c2)) from fun A2 c2 W hx => by
    have := get_any (L := N) (by omega) hx.out.2.2.1 hx.out.2.2.2 ⟨b0, b1, b2⟩
    rw [hg2'] at this
    refine this.mono ?_
    rintro e w' ⟨he, hb⟩
    obtain ⟨k0, k1, k2, k3, k4, k5, k6, hh⟩ := hstep W w' ⟨hx.out.1, hx.out.2.1⟩ hb
    exact ⟨he, k0, k1, k2, k3, k4, k5, k6, ⟨hh.out.1, hh.out.2, Kd.C_below hx.out.2.2.1 hb, hx.out.2.2.2⟩⟩)
  have HS2 := Lib.hid (show ∀ (A2 : Option Addr) (c2 : Nat) (W : World), Hid (BX w.heap.size a0 a1 a2 b0 b1 b2 n W ∧ Below w.heap.size w W ∧ Kd.C k82 W A2 N.length N ∧ N.length ≤ c2) → Calls Try.prog 79 #[.slice A2 N.length c2, .agg #[.int .i64 b0, .int .i64 b1, .string b2], .int .i64 (wrap64 (g2 + n))] W fun e w' => ∃ (A3 : Option Addr) (c3 : Nat), e = .returned (.slice A3 (setL N b0 b1 b2 (wrap64 (g2 + n))).length c3) ∧ Hid (Kd.C k82 w' A3 (setL N b0 b1 b2 (wrap64 (g2 + n))).length (setL N b0 b1 b2 (wrap64 (g2 + n))) ∧ (setL N b0 b1 b2 (wrap64 (g2 + n))).length ≤ c3 ∧ Below w.heap.size w w') from fun A2 c2 W hx => by
    refine (set_any (L := N) (by omega) hx.out.2.2.1 hx.out.2.2.2 ⟨b0, b1, b2⟩ (wrap64 (g2 + n))).mono ?_
    rintro e w' ⟨A3, c3, he, h1, h2, h3⟩
    exact ⟨A3, c3, he, ⟨h1, h2, hx.out.2.1.trans (h3.mono hx.out.2.1.size)⟩⟩)
  clear hr0 hC hc hL hNl hza hn1 hn2 hg0 hg1 hth hck hg1' hN hg2' hstep
  have HX : Hid (BX w.heap.size a0 a1 a2 b0 b1 b2 n (w.alloc (.cells #[.int .i64 a0, .int .i64 a1, .string a2, .int .i64 b0, .int .i64 b1, .string b2, .int .i64 n] 47)) ∧ Below w.heap.size w (w.alloc (.cells #[.int .i64 a0, .int .i64 a1, .string a2, .int .i64 b0, .int .i64 b1, .string b2, .int .i64 n] 47))) := ⟨⟨by simp, by simp, by simp, by simp, by simp, by simp, by simp⟩, (Below.refl w.heap.size w).alloc (Nat.le_refl _) _⟩
  simp only [ev]
  go_enter Try.func57, Try.ntmps57
  go_wp2_with (first
    | (go_at_call_has 72 (Value.string a2); refine (HW0.out _ HX).mono ?_; rintro o w1 ⟨rfl, k0, k1, k2, k3, k4, k5, k6, HX1⟩)
    | (go_at_call_has 72 (Value.string b2); refine (HW1.out _ HX1).mono ?_; rintro o w2 ⟨rfl, k0, k1, k2, k3, k4, k5, k6, HX2⟩))
  have hX3 : Hid (BX w.heap.size a0 a1 a2 b0 b1 b2 n w2.drew ∧ Below w.heap.size w w2.drew) := ⟨HX2.out.1, HX2.out.2.drew⟩
  have hS1 : (w2.drew.cell? ⟨w.heap.size, 0, none⟩ = some (.int .i64 a0) ∧ w2.drew.cell? ⟨w.heap.size, 1, none⟩ = some (.int .i64 a1) ∧ w2.drew.cell? ⟨w.heap.size, 2, none⟩ = some (.string a2) ∧ w2.drew.cell? ⟨w.heap.size, 3, none⟩ = some (.int .i64 b0) ∧ w2.drew.cell? ⟨w.heap.size, 4, none⟩ = some (.int .i64 b1) ∧ w2.drew.cell? ⟨w.heap.size, 5, none⟩ = some (.string b2) ∧ w2.drew.cell? ⟨w.heap.size, 6, none⟩ = some (.int .i64 n) ∧ Hid (BX w.heap.size a0 a1 a2 b0 b1 b2 n w2.drew ∧ Below w.heap.size w w2.drew)) := ⟨k0, k1, k2, k3, k4, k5, k6, ⟨HX2.out.1, HX2.out.2.drew⟩⟩
  go_region_held3 (fun w' => (w'.cell? ⟨w.heap.size, 0, none⟩ = some (.int .i64 a0) ∧ w'.cell? ⟨w.heap.size, 1, none⟩ = some (.int .i64 a1) ∧ w'.cell? ⟨w.heap.size, 2, none⟩ = some (.string a2) ∧ w'.cell? ⟨w.heap.size, 3, none⟩ = some (.int .i64 b0) ∧ w'.cell? ⟨w.heap.size, 4, none⟩ = some (.int .i64 b1) ∧ w'.cell? ⟨w.heap.size, 5, none⟩ = some (.string b2) ∧ w'.cell? ⟨w.heap.size, 6, none⟩ = some (.int .i64 n) ∧ Hid (BX w.heap.size a0 a1 a2 b0 b1 b2 n w' ∧ Below w.heap.size w w')))
    (first | assumption)
    (first | (go_at_call 27; refine (HG1.out _ (by assumption)).mono ?_; rintro o w3 ⟨rfl, kk⟩))
  have HX3 := kk.2.2.2.2.2.2.2
  obtain ⟨l0, l1, l2, l3, l4, l5, l6, _⟩ := kk
  clear k0 k1 k2 k3 k4 k5 k6 hS1 hX3
  go_wp2_with (first
    | (go_at_call 79; refine (HS1.out _ HX3).mono ?_; rintro o w4 ⟨A2, c2, rfl, k0, k1, k2, k3, k4, k5, k6, HX4⟩))
  · go_ret2
    obtain ⟨h0, h1, h2, h3, h4⟩ := HR.out
    refine ⟨A, c, L, 20, rfl, ?_, Kd.C_below h1 HX3.out.2, h2, HX3.out.2⟩
    rw [← h0, if_pos ⟨by assumption, HZ.out.1 (by assumption)⟩]
  all_goals
    have hq : ¬ (wrap64 (g1 - n) < 0 ∧ 0 < a0) := by
      rintro ⟨q1, q2⟩
      first | omega | (have := HZ.out.2 q2; simp_all)
    have HQ := Lib.hid hq
    have hX5 : Hid (BX w.heap.size a0 a1 a2 b0 b1 b2 n w4.drew ∧ Below w.heap.size w w4.drew ∧ Kd.C k82 w4.drew A2 N.length N ∧ N.length ≤ c2) := ⟨HX4.out.1, HX4.out.2.1.drew, HX4.out.2.2.1, HX4.out.2.2.2⟩
    have hS5 : (w4.drew.cell? ⟨w.heap.size, 0, none⟩ = some (.int .i64 a0) ∧ w4.drew.cell? ⟨w.heap.size, 1, none⟩ = some (.int .i64 a1) ∧ w4.drew.cell? ⟨w.heap.size, 2, none⟩ = some (.string a2) ∧ w4.drew.cell? ⟨w.heap.size, 3, none⟩ = some (.int .i64 b0) ∧ w4.drew.cell? ⟨w.heap.size, 4, none⟩ = some (.int .i64 b1) ∧ w4.drew.cell? ⟨w.heap.size, 5, none⟩ = some (.string b2) ∧ w4.drew.cell? ⟨w.heap.size, 6, none⟩ = some (.int .i64 n) ∧ Hid (BX w.heap.size a0 a1 a2 b0 b1 b2 n w4.drew ∧ Below w.heap.size w w4.drew ∧ Kd.C k82 w4.drew A2 N.length N ∧ N.length ≤ c2)) := ⟨k0, k1, k2, k3, k4, k5, k6, hX5⟩
    clear hq
    go_region_held3 (fun w' => (w'.cell? ⟨w.heap.size, 0, none⟩ = some (.int .i64 a0) ∧ w'.cell? ⟨w.heap.size, 1, none⟩ = some (.int .i64 a1) ∧ w'.cell? ⟨w.heap.size, 2, none⟩ = some (.string a2) ∧ w'.cell? ⟨w.heap.size, 3, none⟩ = some (.int .i64 b0) ∧ w'.cell? ⟨w.heap.size, 4, none⟩ = some (.int .i64 b1) ∧ w'.cell? ⟨w.heap.size, 5, none⟩ = some (.string b2) ∧ w'.cell? ⟨w.heap.size, 6, none⟩ = some (.int .i64 n) ∧ Hid (BX w.heap.size a0 a1 a2 b0 b1 b2 n w' ∧ Below w.heap.size w w' ∧ Kd.C k82 w' A2 N.length N ∧ N.length ≤ c2)))
      (first | assumption)
      (first | (go_at_call 27; refine (HG2.out _ _ _ (by assumption)).mono ?_; rintro o w5 ⟨rfl, kk⟩))
    have HX5 := kk.2.2.2.2.2.2.2
    obtain ⟨m0, m1, m2, m3, m4, m5, m6, _⟩ := kk
    clear k0 k1 k2 k3 k4 k5 k6 hS5 hX5
    go_wp2_with (first
      | (go_at_call 79; refine (HS2.out _ _ _ HX5).mono ?_; rintro o w6 ⟨A3, c3, rfl, HX6⟩))
  all_goals first
    | (go_ret2
       obtain ⟨h0, h1, h2, h3, h4⟩ := HR.out
       refine ⟨A, c, L, 9, rfl, ?_, Kd.C_below h1 HX5.out.2.1, h2, HX5.out.2.1⟩
       rw [← h0, if_neg HQ.out, if_pos (by omega)])
    | (go_ret2
       obtain ⟨h0, h1, h2, h3, h4⟩ := HR.out
       refine ⟨A3, c3, _, 0, rfl, ?_, HX6.out.1, HX6.out.2.1, HX6.out.2.2⟩
       rw [← h0, if_neg HQ.out, if_neg (by omega)])
end Go.Proofs.Ytoknlpecbdlbfaa.PL

/- The document's Move at entries that are wrong, walked. -/
namespace Go.Proofs.Ytoknlpecbdlbfaa.PL
open Go Go.RowKit Go.Maps Go.Sort Go.Shelf Go.Proofs Go.Proofs.YtoknlpecbdlbfaaW.PrintWords Go.Proofs.YtoknlpecbdlbfaaW.PrintLast
set_option maxRecDepth 100000 in
set_option maxHeartbeats 2000000 in
theorem rmove_bad (A : Option Addr) (c len : Nat) (e : S107) (w : World) (hck : checkI e ≠ 0) :
    Calls Try.prog 57 #[.slice A len c, ev e] w fun o w' => o = .returned (.tuple #[.slice A len c, .int .i64 (checkI e)]) ∧ Below w.heap.size w w' := by
  obtain ⟨r0, hr0⟩ : ∃ r, checkI e = r := ⟨_, rfl⟩
  rw [hr0]
  rw [hr0] at hck
  unfold checkI at hr0
  obtain ⟨⟨a0, a1, a2⟩, ⟨b0, b1, b2⟩, n⟩ := e
  simp only at hr0
  obtain ⟨gf, hgf⟩ : ∃ g, goodI ⟨a0, a1, a2⟩ = g := ⟨_, rfl⟩
  obtain ⟨gt, hgt⟩ : ∃ g, goodI ⟨b0, b1, b2⟩ = g := ⟨_, rfl⟩
  rw [hgf, hgt] at hr0
  have hstep : ∀ W w', Hid (BX w.heap.size a0 a1 a2 b0 b1 b2 n W ∧ Below w.heap.size w W) → Below W.heap.size W w' → BX w.heap.size a0 a1 a2 b0 b1 b2 n w' ∧ Hid (BX w.heap.size a0 a1 a2 b0 b1 b2 n w' ∧ Below w.heap.size w w') := fun W w' hx hb => by
    have hx' := hx.out.1.below hb
    exact ⟨hx', ⟨hx', hx.out.2.trans (hb.mono hx.out.2.size)⟩⟩
  have HW0 := Lib.hid (show ∀ W, Hid (BX w.heap.size a0 a1 a2 b0 b1 b2 n W ∧ Below w.heap.size w W) → Calls Try.prog 72 #[.agg #[.int .i64 a0, .int .i64 a1, .string a2]] W fun e w' => e = .returned (.int .i64 gf) ∧ BX w.heap.size a0 a1 a2 b0 b1 b2 n w' ∧ Hid (BX w.heap.size a0 a1 a2 b0 b1 b2 n w' ∧ Below w.heap.size w w') from fun W hx => by
    have := wrong_any ⟨a0, a1, a2⟩ W
    rw [hgf] at this
    refine this.mono ?_
    rintro e w' ⟨he, hb⟩
    exact ⟨he, hstep W w' hx hb⟩)
  have HW1 := Lib.hid (show ∀ W, Hid (BX w.heap.size a0 a1 a2 b0 b1 b2 n W ∧ Below w.heap.size w W) → Calls Try.prog 72 #[.agg #[.int .i64 b0, .int .i64 b1, .string b2]] W fun e w' => e = .returned (.int .i64 gt) ∧ BX w.heap.size a0 a1 a2 b0 b1 b2 n w' ∧ Hid (BX w.heap.size a0 a1 a2 b0 b1 b2 n w' ∧ Below w.heap.size w w') from fun W hx => by
    have := wrong_any ⟨b0, b1, b2⟩ W
    rw [hgt] at this
    refine this.mono ?_
    rintro e w' ⟨he, hb⟩
    exact ⟨he, hstep W w' hx hb⟩)
  have HX0 : Hid (BX w.heap.size a0 a1 a2 b0 b1 b2 n (w.alloc (.cells #[.int .i64 a0, .int .i64 a1, .string a2, .int .i64 b0, .int .i64 b1, .string b2, .int .i64 n] 47)) ∧ Below w.heap.size w (w.alloc (.cells #[.int .i64 a0, .int .i64 a1, .string a2, .int .i64 b0, .int .i64 b1, .string b2, .int .i64 n] 47))) := ⟨⟨by simp, by simp, by simp, by simp, by simp, by simp, by simp⟩, (Below.refl w.heap.size w).alloc (Nat.le_refl _) _⟩
  clear hstep hgf hgt
  simp only [ev]
  by_cases q1 : n < 1
  · rw [if_pos (.inl q1)] at hr0
    subst hr0
    clear hck HW0 HW1
    go_enter Try.func57, Try.ntmps57
    go_wp2
    go_ret2
    exact ⟨rfl, HX0.out.2⟩
  by_cases q2 : 1125899906842624 < n
  · rw [if_pos (.inr q2)] at hr0
    subst hr0
    have q2' : n > 1125899906842624 := q2
    clear hck HW0 HW1 q2
    go_enter Try.func57, Try.ntmps57
    go_wp2
    go_ret2
    exact ⟨rfl, HX0.out.2⟩
  rw [if_neg (by omega)] at hr0
  have c1 : (n < 1) = False := eq_false q1
  have c2 : decide (n > 1125899906842624) = false := by simp; omega
  clear q1 q2
  by_cases q3 : gf = 0
  · rw [if_neg (fun h => h q3)] at hr0
    subst q3
    by_cases q4 : gt = 0
    · rw [if_neg (fun h => h q4)] at hr0
      subst q4
      by_cases q5 : a2.toList = b2.toList
      · rw [if_pos q5] at hr0
        exact absurd hr0.symm hck
      · rw [if_neg q5] at hr0
        subst hr0
        have c3 : (a2.toList == b2.toList) = false := by simp [q5]
        clear hck q5
        go_enter Try.func57, Try.ntmps57
        go_wp2_with (first
          | (go_at_call_has 72 (Value.string a2); refine (HW0.out _ HX0).mono ?_; rintro o w1 ⟨rfl, ⟨k0, k1, k2, k3, k4, k5, k6⟩, HX1⟩)
          | (go_at_call_has 72 (Value.string b2); refine (HW1.out _ HX1).mono ?_; rintro o w2 ⟨rfl, ⟨k0, k1, k2, k3, k4, k5, k6⟩, HX2⟩))
        go_ret2
        exact ⟨rfl, HX2.out.2⟩
    · rw [if_pos q4] at hr0
      subst hr0
      have c3 : (gt != 0) = true := by simp [q4]
      clear hck q4
      go_enter Try.func57, Try.ntmps57
      go_wp2_with (first
        | (go_at_call_has 72 (Value.string a2); refine (HW0.out _ HX0).mono ?_; rintro o w1 ⟨rfl, ⟨k0, k1, k2, k3, k4, k5, k6⟩, HX1⟩)
        | (go_at_call_has 72 (Value.string b2); refine (HW1.out _ HX1).mono ?_; rintro o w2 ⟨rfl, ⟨k0, k1, k2, k3, k4, k5, k6⟩, HX1⟩))
      go_ret2
      exact ⟨rfl, HX1.out.2⟩
  · rw [if_pos q3] at hr0
    subst hr0
    have c3 : (gf != 0) = true := by simp [q3]
    clear hck q3
    go_enter Try.func57, Try.ntmps57
    go_wp2_with (first
      | (go_at_call_has 72 (Value.string a2); refine (HW0.out _ HX0).mono ?_; rintro o w1 ⟨rfl, ⟨k0, k1, k2, k3, k4, k5, k6⟩, HX0⟩))
    go_ret2
    exact ⟨rfl, HX0.out.2⟩
/-- The document's Move, at every entry. -/
theorem rmove_any (A : Option Addr) (c : Nat) (L : List S82) (e : S107) (w : World) (hC : Kd.C k82 w A L.length L) (hc : L.length ≤ c) (hL : 2 * L.length + 8 < 3518437208883) :
    Calls Try.prog 57 #[.slice A L.length c, ev e] w fun o w' => ∃ (A' : Option Addr) (c' : Nat) (l' : List S82) (i' : Int), o = .returned (.tuple #[.slice A' l'.length c', .int .i64 i']) ∧ mvL L e = (l', i') ∧ Kd.C k82 w' A' l'.length l' ∧ l'.length ≤ c' ∧ Below w.heap.size w w' := by
  by_cases hck : checkI e = 0
  · exact rmove_walk A c L e w hC hc hL hck
  · refine (rmove_bad A c L.length e w hck).mono ?_
    rintro o w' ⟨rfl, hb⟩
    exact ⟨A, c, L, checkI e, rfl, by unfold mvL; rw [if_pos hck], Kd.C_below hC hb, hc, hb⟩
end Go.Proofs.Ytoknlpecbdlbfaa.PL

/- The document's Post, walked. -/
namespace Go.Proofs.Ytoknlpecbdlbfaa.PL
open Go Go.RowKit Go.Maps Go.Sort Go.Shelf Go.Proofs Go.Proofs.YtoknlpecbdlbfaaW.PrintWords Go.Proofs.YtoknlpecbdlbfaaW.PrintLast
/-- The document's entry as the program's. -/
def toE (e : S47) : S107 := ⟨⟨e.f0.f0, e.f0.f1, e.f0.f2⟩, ⟨e.f1.f0, e.f1.f1, e.f1.f2⟩, e.f2⟩
/-- The document's Post. -/
def pstL (L0 : List S82) : Nat → List S82 → List S107 → List S82 × Int × Int
  | i, out, [] => (out, i, 0)
  | i, out, e :: r => if (mvL out e).2 = 0 then pstL L0 (i + 1) (mvL out e).1 r else (L0, i, (mvL out e).2)
theorem length_mvL (L : List S82) (e : S107) : (mvL L e).1.length ≤ L.length + 2 := by
  unfold mvL
  split
  · simp
  · split
    · simp
    · split
      · simp
      · have h1 := length_setL L e.f0.f0 e.f0.f1 e.f0.f2 (wrap64 (getL L e.f0.f0 e.f0.f1 e.f0.f2 - e.f2))
        have h2 := length_setL (setL L e.f0.f0 e.f0.f1 e.f0.f2 (wrap64 (getL L e.f0.f0 e.f0.f1 e.f0.f2 - e.f2))) e.f1.f0 e.f1.f1 e.f1.f2 (wrap64 (getL (setL L e.f0.f0 e.f0.f1 e.f0.f2 (wrap64 (getL L e.f0.f0 e.f0.f1 e.f0.f2 - e.f2))) e.f1.f0 e.f1.f1 e.f1.f2 + e.f2))
        simp only
        omega
set_option maxRecDepth 100000 in
set_option maxHeartbeats 2000000 in
theorem rpost_walk (A B : Option Addr) (c d : Nat) (L : List S82) (xs : List S47) (w : World) (hC : Kd.C k82 w A L.length L) (hc : L.length ≤ c) (hX : Kd.C k47 w B xs.length xs) (hx : xs.length ≤ 4096) (hL : L.length ≤ 1000000) (R : List S82 × Int × Int) (hR : pstL L 0 L (xs.map toE) = R) :
    Calls Try.prog 18 #[.slice A L.length c, .slice B xs.length d] w fun o w' => ∃ (A' : Option Addr) (c' : Nat), o = .returned (.tuple #[.slice A' R.1.length c', .int .i64 R.2.1, .int .i64 R.2.2]) ∧ Kd.C k82 w' A' R.1.length R.1 ∧ R.1.length ≤ c' ∧ Below w.heap.size w w' := by
  have hn' : ((xs.length : Int) > 4096) = False := eq_false (by omega)
  have H0 := Lib.hid (And.intro hC (And.intro hc (And.intro hX (And.intro hx (And.intro hL hR)))))
  clear hC hc hX hx hL hR
  go_enter Try.func18, Try.ntmps18
  go_wp2
  go_loopg [7, 8, 9, 10] (xs.length + 1) (fun kq v7 v8 v9 v10 w' => ∃ (k : Nat) (out : List S82) (A1 : Option Addr) (c1 : Nat), v7 = .slice A1 out.length c1 ∧ v8 = .int .i64 k ∧ Hid (kq + k = xs.length + 1 ∧ k ≤ xs.length ∧ pstL L k out ((xs.drop k).map toE) = R ∧ Kd.C k82 w' A1 out.length out ∧ out.length ≤ c1 ∧ Below w.heap.size w w' ∧ out.length ≤ L.length + 2 * k))
  case atStart =>
    obtain ⟨h1, h2, h3, h4, h5, h6⟩ := H0.out
    exact ⟨0, L, A, c, rfl, rfl, ⟨rfl, Nat.zero_le _, h6, h1, h2, Below.refl _ _, Nat.le_refl _⟩⟩
  case round =>
    obtain ⟨k, out, A1, c1, rfl, rfl, HI⟩ := hrel
    by_cases hk : k < xs.length
    · have hX : Kd.C k47 wr B xs.length xs := Kd.C_below H0.out.2.2.1 HI.out.2.2.2.2.2.1
      obtain ⟨ad, eA, x0, x1, x2, x3, x4, x5, x6⟩ := at_T47 hX (k : Int) (by omega) (by omega)
      simp only [Int.toNat_natCast] at x0 x1 x2 x3 x4 x5 x6
      obtain ⟨⟨⟨a0, a1, a2⟩, ⟨b0, b1, b2⟩, n⟩, ha⟩ : ∃ a, rd_T47 xs (k : Int) = a := ⟨_, rfl⟩
      rw [ha] at x0 x1 x2 x3 x4 x5 x6
      subst eA
      have e2 : xs[k] = ⟨⟨a0, a1, a2⟩, ⟨b0, b1, b2⟩, n⟩ := by
        unfold rd_T47 at ha
        simpa [List.getD, hk] using ha
      have e1 : (xs.drop k).map toE = ⟨⟨a0, a1, a2⟩, ⟨b0, b1, b2⟩, n⟩ :: (xs.drop (k + 1)).map toE := by
        rw [List.drop_eq_getElem_cons hk, List.map_cons, e2]
        rfl
      have hl64 : wrap64 ((k : Int) + 1) = ((k + 1 : Nat) : Int) := by
        have h3 := H0.out.2.2.2.1
        rw [wrap_id (by omega) (by omega)]; rfl
      have hM := rmove_any A1 c1 out ⟨⟨a0, a1, a2⟩, ⟨b0, b1, b2⟩, n⟩ wr HI.out.2.2.2.1 HI.out.2.2.2.2.1 (by have h3 := H0.out.2.2.2.1; have h4 := H0.out.2.2.2.2.1; have h5 := HI.out.2.2.2.2.2.2; omega)
      simp only [ev] at hM
      have HM := Lib.hid hM
      have hlen := length_mvL out ⟨⟨a0, a1, a2⟩, ⟨b0, b1, b2⟩, n⟩
      obtain ⟨f, l1, hf⟩ : ∃ f l1, mvL out ⟨⟨a0, a1, a2⟩, ⟨b0, b1, b2⟩, n⟩ = (l1, f) := ⟨_, _, rfl⟩
      rw [hf] at hlen
      have HK := Lib.hid (And.intro hk (And.intro e1 (And.intro hl64 (And.intro hf hlen))))
      have p1 : (0 ≤ (k : Int)) = True := eq_true (by omega)
      have q1 : ((k : Int) < (xs.length : Int)) = True := eq_true (by omega)
      have HMM := Lib.hid (show Calls Try.prog 57 #[.slice A1 out.length c1, .agg #[.int .i64 a0, .int .i64 a1, .string a2, .int .i64 b0, .int .i64 b1, .string b2, .int .i64 n]] wr fun o w' => ∃ (A' : Option Addr) (c' : Nat), o = .returned (.tuple #[.slice A' l1.length c', .int .i64 f]) ∧ Hid (Kd.C k82 w' A' l1.length l1 ∧ l1.length ≤ c' ∧ Below wr.heap.size wr w') from by
        refine HM.out.mono ?_
        rintro o w' ⟨A', c', l', i', he, hm, h1, h2, h3⟩
        rw [hf] at hm
        injection hm with h5 h6
        subst h5
        subst h6
        exact ⟨A', c', he, ⟨h1, h2, h3⟩⟩)
      clear hX ha e2 e1 hl64 hM HM hf hlen
      by_cases f0 : f = 0
      · have f1 : (f != 0) = false := by simp [f0]
        have F0 := Lib.hid f0
        clear f0
        go_wp2_with (go_at_call 57; refine HMM.out.mono ?_; rintro o w2 ⟨A2, c2, rfl, H2⟩)
        go_roundg (xs.length - k)
        case measure => have := HI.out.1; have := HK.out.1; omega
        case rel =>
          obtain ⟨h1, h2, h3, h4, h5, h6, h7⟩ := HI.out
          obtain ⟨g1, g2, g3, g4, g5⟩ := HK.out
          refine ⟨k + 1, l1, A2, c2, rfl, by rw [g3], ⟨by omega, by omega, ?_, H2.out.1, H2.out.2.1, h6.trans (H2.out.2.2.mono h6.size), by omega⟩⟩
          rw [g2] at h3
          unfold pstL at h3
          rw [g4, F0.out, if_pos rfl] at h3
          exact h3
      · have f1 : (f != 0) = true := by simp [f0]
        have F0 := Lib.hid f0
        clear f0
        go_wp2_with (go_at_call 57; refine HMM.out.mono ?_; rintro o w2 ⟨A2, c2, rfl, H2⟩)
        go_ret3
        obtain ⟨h1, h2, h3, h4, h5, h6, h7⟩ := HI.out
        obtain ⟨g1, g2, g3, g4, g5⟩ := HK.out
        rw [g2] at h3
        unfold pstL at h3
        rw [g4, if_neg F0.out] at h3
        subst h3
        have hb := h6.trans (H2.out.2.2.mono h6.size)
        exact ⟨A, c, rfl, Kd.C_below H0.out.1 hb, H0.out.2.1, hb⟩
    · have hk' : (k < xs.length) = False := eq_false hk
      have HK := Lib.hid hk
      clear hk
      go_wp2
      go_ret3
      obtain ⟨h1, h2, h3, h4, h5, h6, h7⟩ := HI.out
      have e0 : xs.drop k = [] := List.drop_eq_nil_of_le (by have := HK.out; omega)
      have e1 : k = xs.length := by have := HK.out; omega
      rw [e0] at h3
      unfold pstL at h3
      simp only [List.map_nil] at h3
      subst h3
      exact ⟨A1, c1, by rw [e1]; rfl, h4, h5, h6⟩
end Go.Proofs.Ytoknlpecbdlbfaa.PL
