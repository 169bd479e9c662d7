/- NameSigns holds (the tied card): whatever text comes in, its signs, how many there are, and whether all its bytes are part of one, are as the document says. Conditions: the library's listed tables start as the program's text lays them. -/
import Derived.Test.YtbdcnfbidbffcaaDoorSNG19
import Derived.Test.YtbdcnfbidbffcaaDoorSNG12
import Derived.Test.YtbdcnfbidbffcaaDoorSNG16
import Derived.Lib.DecodeN
import Derived.Lib.RuneBytes
import Derived.Lib.TrimUEq
import Derived.Lib.SlicesS
import Derived.Test.YtbdcnfbidbffcaaDoorSNG18
import Derived.Test.YtbdcnfbidbffcaaDoorRows
import Derived.ProofKit
import Derived.LaidMore
import Derived.OpenShut
import Derived.ShutString
import Derived.SizedLaws
import Derived.Lib.LaidU8
import Derived.Deep.DeepLaidRun
import Derived.Test.YtbdcnfbidbffcaaDoorTie
import Derived.Test.YtbdcnfbidbffcaaDoorCards

set_option linter.unusedVariables false
set_option linter.unusedSimpArgs false
/- R.Signs and R.Check, plain. -/
set_option linter.unusedSimpArgs false
set_option linter.unusedVariables false
namespace Go.Proofs.YtbdcnfbidbffcaaDoor.NM
open Go Go.RowKit Go.NM Go.Proofs Go.Proofs.YtbdcnfbidbffcaaDoor.PL Go.Proofs.YtbdcnfbidbffcaaDoorW.PrintWords
def goodF (s : ByteArray) : Nat → Nat → Bool
  | 0, _ => true
  | f + 1, pos => if pos < s.size then (signR s pos).2.2 && goodF s f (pos + (Utf8.decode s pos).2) else true
def goodS (s : ByteArray) : Bool := goodF s s.size 0
def fstI (x : Nat × Nat) : Int := x.1
def sndI (x : Nat × Nat) : Int := x.2
theorem signsL_f (s : ByteArray) (hs : s.size ≤ 1000000) : ∀ (f pos k : Nat) (xs ps : List Int) (g : Bool), s.size ≤ pos + f → xs.length ≤ pos → ps.length ≤ pos → f + 5 ≤ k →
    lombardref04_Signs.l0 k s xs ps g (pos : Int) = some (xs ++ (sg s f pos).map fstI, ps ++ (sg s f pos).map sndI, g && goodF s f pos)
  | 0, pos, k, xs, ps, g, hf, hx, hp, hk => by
    obtain ⟨k, rfl⟩ : ∃ k', k = k' + 1 := ⟨k - 1, by omega⟩
    rw [lombardref04_Signs.l0, if_neg (by omega)]
    simp [sg, goodF]
  | f + 1, pos, k, xs, ps, g, hf, hx, hp, hk => by
    obtain ⟨k, rfl⟩ : ∃ k', k = k' + 1 := ⟨k - 1, by omega⟩
    by_cases hl : pos < s.size
    · have hwd := width_pos s pos hl
      have hsd := sign_decode s pos hl
      obtain ⟨k4, hk4⟩ : ∃ k4, k = k4 + 4 := ⟨k - 4, by omega⟩
      have hS : lombardref04_Sign.f k s (pos : Int) = some (signR s pos) := by rw [hk4]; exact Sign_f s pos k4 hs hl
      have hw : (Utf8.decode s pos).2 ≤ 4 := by
        rw [Go.Lib.decode_at]
        unfold Go.Lib.decodeN
        repeat' split
        all_goals exact Nat.le_of_ble_eq_true rfl
      have hwr : wrap64 ((pos : Int) + (signR s pos).2.1) = ((pos + (Utf8.decode s pos).2 : Nat) : Int) := by rw [hsd.2, w64 _ (by omega)]; rfl
      rw [lombardref04_Signs.l0, if_pos (by omega), hS]
      simp only [Option.bind_some]
      rw [if_pos (show xs.length < 17592186044416 by omega), if_pos (show ps.length < 17592186044416 by omega), hwr]
      have ih := fun g' => signsL_f s hs f (pos + (Utf8.decode s pos).2) k (xs ++ [(signR s pos).1]) (ps ++ [(pos : Int)]) g' (by omega) (by rw [List.length_append, List.length_singleton]; omega) (by rw [List.length_append, List.length_singleton]; omega) (by omega)
      have e1 : (if g = true then lombardref04_Signs.l0 k s (xs ++ [(signR s pos).1]) (ps ++ [(pos : Int)]) (signR s pos).2.2 ((pos + (Utf8.decode s pos).2 : Nat) : Int) else lombardref04_Signs.l0 k s (xs ++ [(signR s pos).1]) (ps ++ [(pos : Int)]) false ((pos + (Utf8.decode s pos).2 : Nat) : Int)) = lombardref04_Signs.l0 k s (xs ++ [(signR s pos).1]) (ps ++ [(pos : Int)]) (g && (signR s pos).2.2) ((pos + (Utf8.decode s pos).2 : Nat) : Int) := by
        cases g <;> rfl
      rw [e1, ih, sg_step s f pos hl, hsd.1]
      have e2 : goodF s (f + 1) pos = ((signR s pos).2.2 && goodF s f (pos + (Utf8.decode s pos).2)) := by rw [goodF, if_pos hl]
      rw [e2]
      simp [fstI, sndI, List.append_assoc, Bool.and_assoc]
    · rw [lombardref04_Signs.l0, if_neg (by omega), sg_end s _ pos hl]
      simp [goodF, hl]
theorem Signs_f (s : ByteArray) (hs : s.size ≤ 1000000) (k : Nat) (hk : s.size + 5 ≤ k) : lombardref04_Signs.f k s = some ((signs s).map fstI, (signs s).map sndI, goodS s) := by
  unfold lombardref04_Signs.f
  have := signsL_f s hs s.size 0 k [] [] true (by omega) (Nat.le_refl _) (Nat.le_refl _) hk
  rw [show ((0 : Nat) : Int) = 0 from rfl] at this
  rw [this]
  simp [signs, goodS]
end Go.Proofs.YtbdcnfbidbffcaaDoor.NM

/- A rune's bytes are read as that rune (plain Lean). -/
namespace Go.NM
open Go.Lib
def okR (c : Nat) : Prop := c < 55296 ∨ (57343 < c ∧ c ≤ 1114111)
theorem dec_ok (s : ByteArray) (i : Nat) : okR (Utf8.decode s i).1 := by
  rw [decode_at]
  have h0 := UInt8.toNat_lt (s.get! i)
  generalize (s.get! i).toNat = b0 at *
  unfold decodeN okR
  repeat' split
  all_goals (simp only; omega)
end Go.NM

/- The document's Text and Fold, plain; what is folded, as signs. -/
set_option linter.unusedSimpArgs false
set_option linter.unusedVariables false
namespace Go.Proofs.YtbdcnfbidbffcaaDoor.NM
open Go Go.RowKit Go.NM Go.Proofs Go.Proofs.YtbdcnfbidbffcaaDoor.PL Go.Proofs.YtbdcnfbidbffcaaDoorW.PrintWords
theorem sg_ok (s : ByteArray) : ∀ (f pos : Nat), ∀ x ∈ sg s f pos, okR x.1
  | 0, pos, x, h => by cases h
  | f + 1, pos, x, h => by
    rw [sg] at h
    split at h
    · rcases List.mem_cons.1 h with rfl | h
      · exact dec_ok s pos
      · exact sg_ok s f _ x h
    · cases h
theorem signs_ok (s : ByteArray) : ∀ x ∈ signs s, okR x.1 := sg_ok s s.size 0
theorem signs_len (s : ByteArray) : (signs s).length ≤ s.size := by
  have := sg_len s s.size 0
  unfold signs; omega
end Go.Proofs.YtbdcnfbidbffcaaDoor.NM

/- The document's Plain, plain. -/
set_option linter.unusedSimpArgs false
set_option linter.unusedVariables false
namespace Go.Proofs.YtbdcnfbidbffcaaDoor.NM
open Go Go.RowKit Go.NM Go.Proofs Go.Proofs.YtbdcnfbidbffcaaDoor.PL Go.Proofs.YtbdcnfbidbffcaaDoorW.PrintWords
def x3 (c : Nat) : Bs := if 97 ≤ c ∧ c ≤ 122 then [(c - 32).toUInt8] else []
def x2 (c : Nat) : Bs := if c = 32 ∨ c = 45 then [32] else []
def x1 (c : Nat) : Bs := if dgB c = true then [c.toUInt8] else []
end Go.Proofs.YtbdcnfbidbffcaaDoor.NM

/- name.Runes walked; the law NameSigns walked. -/
set_option linter.unusedSimpArgs false
set_option linter.unusedVariables false
namespace Go.Proofs.YtbdcnfbidbffcaaDoor.NM
open Go Go.RowKit Go.NM Go.Proofs Go.Proofs.YtbdcnfbidbffcaaDoor.PL Go.Proofs.YtbdcnfbidbffcaaDoorW.PrintWords
theorem good_no (a b c d : Int) (ha : 0 ≤ a) (hc : (signN a b c d).1 = 65533) (hn : ¬ (a = 239 ∧ b = 191 ∧ c = 189)) : (signN a b c d).2.2 = false := by
  unfold signN at *
  by_cases r1 : a < 128
  · rw [if_pos r1] at hc
    have : a = 65533 := hc
    omega
  rw [if_neg r1] at hc ⊢
  by_cases r2 : (194 ≤ a ∧ a < 224) ∧ tailP b
  · rw [if_pos r2] at hc
    have : (a - 192) * 64 + b - 128 = 65533 := hc
    unfold tailP at r2
    omega
  rw [if_neg r2] at hc ⊢
  by_cases r3 : (224 ≤ a ∧ a < 240) ∧ tailP b ∧ tailP c ∧ 2048 ≤ n3 a b c ∧ (n3 a b c < 55296 ∨ 57343 < n3 a b c)
  · rw [if_pos r3] at hc
    have : n3 a b c = 65533 := hc
    unfold tailP n3 at *
    omega
  rw [if_neg r3] at hc ⊢
  by_cases r4 : (240 ≤ a ∧ a < 245) ∧ tailP b ∧ tailP c ∧ tailP d ∧ 65536 ≤ n4 a b c d ∧ n4 a b c d < 1114112
  · rw [if_pos r4] at hc
    have : n4 a b c d = 65533 := hc
    omega
  rw [if_neg r4]
theorem good_yes (a b c d : Int) (hy : ¬ (signN a b c d).1 = 65533 ∨ (a = 239 ∧ b = 191 ∧ c = 189)) : (signN a b c d).2.2 = true := by
  unfold signN at *
  by_cases r1 : a < 128
  · rw [if_pos r1]
  rw [if_neg r1] at hy ⊢
  by_cases r2 : (194 ≤ a ∧ a < 224) ∧ tailP b
  · rw [if_pos r2]
  rw [if_neg r2] at hy ⊢
  by_cases r3 : (224 ≤ a ∧ a < 240) ∧ tailP b ∧ tailP c ∧ 2048 ≤ n3 a b c ∧ (n3 a b c < 55296 ∨ 57343 < n3 a b c)
  · rw [if_pos r3]
  rw [if_neg r3] at hy ⊢
  by_cases r4 : (240 ≤ a ∧ a < 245) ∧ tailP b ∧ tailP c ∧ tailP d ∧ 65536 ≤ n4 a b c d ∧ n4 a b c d < 1114112
  · rw [if_pos r4]
  rw [if_neg r4] at hy
  rcases hy with hy | ⟨rfl, rfl, rfl⟩
  · exact absurd rfl hy
  · exact absurd ⟨by decide, by decide, by decide, by decide, by decide⟩ r3
theorem pre3 (l : Bs) (p : Nat) (x y z : UInt8) : [x, y, z].isPrefixOf (l.drop p) = true ↔ l[p]? = some x ∧ l[p + 1]? = some y ∧ l[p + 2]? = some z := by
  have h0 : l[p]? = (l.drop p)[0]? := by rw [List.getElem?_drop, Nat.add_zero]
  have h1 : l[p + 1]? = (l.drop p)[1]? := by rw [List.getElem?_drop]
  have h2 : l[p + 2]? = (l.drop p)[2]? := by rw [List.getElem?_drop]
  rw [h0, h1, h2]
  match l.drop p with
  | [] => simp [List.isPrefixOf]
  | [a] => simp [List.isPrefixOf]
  | [a, b] => simp [List.isPrefixOf]
  | a :: b :: c :: t =>
    simp only [List.isPrefixOf, Bool.and_eq_true, beq_iff_eq, Bool.and_true, List.getElem?_cons_zero, List.getElem?_cons_succ, Option.some.injEq]
    constructor <;> rintro ⟨h1, h2, h3⟩ <;> exact ⟨h1.symm, h2.symm, h3.symm⟩
theorem byteAt_iff (s : ByteArray) (i : Nat) (x : UInt8) : s.data.toList[i]? = some x ↔ byteAt s i = (x.toNat : Int) := by
  unfold byteAt
  have hz := Lib.size_eq s
  by_cases h : i < s.size
  · rw [if_pos h, ← Lib.getD_get!', List.getD_eq_getElem?_getD, List.getElem?_eq_getElem (by omega), Option.getD_some]
    constructor
    · intro e; rw [Option.some.inj e]
    · intro e; rw [UInt8.toNat_inj.1 (Int.ofNat.inj e)]
  · rw [if_neg h, List.getElem?_eq_none (by omega)]
    constructor
    · intro e; cases e
    · intro e; omega
def mark : Bs := [239, 191, 189]
theorem good_step (s : ByteArray) (pos : Nat) (hp : pos < s.size) : (signR s pos).2.2 = !((((Utf8.decode s pos).1 : Int) == 65533) && !(Lib.hasPrefix (s.data.toList.drop pos) mark)) := by
  have h1 := (sign_decode s pos hp).1
  have ha : 0 ≤ byteAt s pos := by unfold byteAt; rw [if_pos hp]; omega
  have hpre : Lib.hasPrefix (s.data.toList.drop pos) mark = true ↔ byteAt s pos = 239 ∧ byteAt s (pos + 1) = 191 ∧ byteAt s (pos + 2) = 189 := by
    unfold Lib.hasPrefix mark
    rw [pre3, byteAt_iff, byteAt_iff, byteAt_iff]
    exact Iff.rfl
  unfold signR at *
  rw [← h1]
  by_cases hc : (signN (byteAt s pos) (byteAt s (pos + 1)) (byteAt s (pos + 2)) (byteAt s (pos + 3))).1 = 65533
  · by_cases hq : Lib.hasPrefix (s.data.toList.drop pos) mark = true
    · rw [good_yes _ _ _ _ (.inr (hpre.1 hq)), hq]
      simp
    · rw [good_no _ _ _ _ ha hc (fun h => hq (hpre.2 h)), Bool.eq_false_iff.2 hq, hc]
      rfl
  · rw [good_yes _ _ _ _ (.inl hc), beq_eq_false_iff_ne.2 hc]
    rfl
theorem goodF_end (s : ByteArray) (f pos : Nat) (h : ¬ pos < s.size) : goodF s f pos = true := by
  cases f with
  | zero => rfl
  | succ f => rw [goodF, if_neg h]
theorem info21 : (Tryd.prog.info? 21).map (fun i => (i.zero, i.size, i.bytes)) = some (some (.int .i32 0), 1, 4) := by kernel_rfl
theorem hp_c (s : ByteArray) (pos : Nat) (w : World) : Calls Tryd.prog 43 #[.string (s.extract pos s.size), .string ⟨#[239, 191, 189]⟩] w fun e w' => e = .returned (.bool (Lib.hasPrefix (s.data.toList.drop pos) mark)) ∧ w' = w := by
  have h := Tryd.strings_HasPrefix (s.extract pos s.size) ⟨#[239, 191, 189]⟩ w
  rw [Lib.extract_to_end] at h
  exact h
set_option maxHeartbeats 1000000 in
set_option maxRecDepth 1000000 in
theorem runes_walk (s : ByteArray) (w : World) (hs : s.size ≤ 1000000) :
    Calls Tryd.prog 22 #[.string s] w fun e w' => ∃ v, e = .returned (.tuple #[v, .bool (goodS s)]) ∧ Kd.R (Kd.int .i32) 21 w' w.heap.size (fun _ => True) v ((signs s).map fstI) ∧ Below w.heap.size w w' := by
  unfold goodS
  generalize hG : goodF s s.size 0 = G
  generalize hL : (signs s).map fstI = L
  obtain ⟨i0, hi, hz0, hz1, hz2⟩ := info_parts info21
  go_enter Tryd.func22, Tryd.ntmps22
  go_wp2_with (first | (at_make; refine wpList_make_own _ rfl _ _ 34 rfl w.heap.size 21 i0 (.int .i32 0) 1 Tryd.underlying34 hi hz0 hz1 .i64 .i64 _ s.size rfl rfl rfl (by rw [hz2]; omega) (by unfold maxLen; omega) (Nat.le_refl _) ?_; intro w1 hown hgrow))
  have hR0 : Kd.R (Kd.int .i32) 21 w1 w.heap.size (fun k => k ≠ w1.heap.size) (.slice (some ⟨w.heap.size, 0, none⟩) 0 s.size) [] := Kd.R_of_own (xs := []) hown (fun k hk => by
    have hlt := own_typed hown k hk
    obtain ⟨cells, hc⟩ := hlt
    have := (Array.getElem?_eq_some_iff.1 hc).1
    omega)
  go_loopw [4, 5] (fun v4 v5 wr => ∃ (pos fuel : Nat) (xs : List Int) (g : Bool), v5 = .bool g ∧ Aside0 (Kd.R (Kd.int .i32) 21 wr w.heap.size (fun k => k ≠ w1.heap.size) v4 xs) ∧ wr.heap[w1.heap.size]? = some (.stringIter s pos) ∧ Aside0 (Below w.heap.size w wr) ∧ Aside0 (xs ++ (sg s fuel pos).map fstI = L) ∧ Aside0 ((g && goodF s fuel pos) = G) ∧ Aside0 (s.size ≤ pos + fuel ∧ xs.length ≤ pos)) (fun _ _ wr => s.size - wr.iterPos w1.heap.size)
  case atStart =>
    refine ⟨0, s.size, [], true, rfl, ⟨Kd.R_alloc hR0 _⟩, ?_, ⟨((Below.refl _ w).grown hgrow (Nat.le_refl _) (fun k hk => by cases hk)).alloc hgrow.size _⟩, ⟨hL⟩, ⟨hG⟩, ⟨by omega, Nat.le_refl _⟩⟩
    have := World.iter_heap w1 s 0
    simpa using this
  case round =>
    obtain ⟨pos, fuel, xs, g, rfl, HO, hit, HB, HL, HG, HP⟩ := hrel
    have hsz : w1.heap.size < wr.heap.size := (Array.getElem?_eq_some_iff.1 hit).1
    have hsz0 : w.heap.size ≤ w1.heap.size := hgrow.size
    by_cases hp : pos < s.size
    · have hnx : ∀ ty, (Instr.next (.pointer (some ⟨w1.heap.size, 0, none⟩)) true ty).run Tryd.prog wr = _ := fun ty => Lib.run_next_any_at wr w1.heap.size s pos ty hit hp
      have hP := HP.out
      obtain ⟨f, rfl⟩ : ∃ f, fuel = f + 1 := ⟨fuel - 1, by omega⟩
      have hL2 := HL.out
      have hG2 := HG.out
      rw [sg_step s f pos hp, List.map_cons] at hL2
      rw [goodF, if_pos hp, good_step s pos hp] at hG2
      have hwd := width_pos s pos hp
      have hR2 : Kd.R (Kd.int .i32) 21 (wr.iterAt w1.heap.size s (pos + (Utf8.decode s pos).2)) w.heap.size (fun k => k ≠ w1.heap.size) u4 xs := Kd.R_move HO.out (fun k hk => Lib.iterAt_other wr w1.heap.size k s _ hk)
      have hit2 := Lib.iterAt_heap wr w1.heap.size s pos (pos + (Utf8.decode s pos).2) hit
      have hbw2 := Lib.below_iterAt HB.out (k := w1.heap.size) (by omega) s (pos + (Utf8.decode s pos).2)
      have hsz2 : w1.heap.size < (wr.iterAt w1.heap.size s (pos + (Utf8.decode s pos).2)).heap.size := by rw [Lib.iterAt_size]; omega
      generalize hc : Utf8.decode s pos = cw at *
      obtain ⟨c, wd⟩ := cw
      simp only at *
      generalize hw1 : wr.iterAt w1.heap.size s (pos + wd) = w2 at *
      have hne : some w1.heap.size ≠ Value.ownBlock u4 := fun e => HO.out.1 _ e.symm rfl
      have hfr : ∀ k, w2.heap.size ≤ k → k ≠ w1.heap.size := fun k hk e => by omega
      have hlen : (xs.length + 1) * 4 ≤ 140737488355328 := by omega
      have KP : s.size ≤ pos + wd + f ∧ (xs ++ [(c : Int)]).length ≤ pos + wd := by rw [List.length_append, List.length_singleton]; omega
      by_cases e : (c : Int) = 65533
      · have hcb : ((c : Int) == 65533) = true := beq_iff_eq.2 e
        obtain ⟨b, hb0⟩ : ∃ b, Lib.hasPrefix (s.data.toList.drop pos) mark = b := ⟨_, rfl⟩
        have hpp : (pos : Int) ≤ (s.size : Int) := by omega
        have hpc := fun w => hp_c s pos w
        rw [hb0] at hpc hG2
        rw [hcb] at hG2
        clear e
        cases b
        · have hG3 : (false && goodF s f (pos + wd)) = G := by rw [← hG2]; cases g <;> rfl
          go_wp2_with (first | ((with_reducible refine gate_builtin (b := .append) (xs := #[.tmp 17, .tmp 19]) rfl ?_); at_builtin; refine Kd.R_append (Kd.int .i32) (w0 := w) w.heap.size rfl (.tmp 17) (.tmp 19) 34 21 (.int .i32 0) 4 rfl Tryd.underlying34 info21 rfl (by decide) (by omega) u4 xs (c : Int) [.int .i32 (c : Int)] (fun k => k ≠ w1.heap.size) (fun _ => False) rfl rfl ?aP (fun _ hk => hk.elim) ?aF ?aO ?aB ?aS ?aL ?_; (case aP => exact rfl); (case aB => exact hbw2); (case aF => exact hfr); (case aO => exact hR2); (case aS => exact hbw2.size); (case aL => exact hlen); intro v1 W1 ho hb hg hat; have hitA := (hg.block _ hsz2 hne).trans hit2) | (go_at_call 43; refine (hpc _).mono ?_; rintro e W3 ⟨rfl, rfl⟩))
          go_roundw
          case rel => exact ⟨pos + wd, f, xs ++ [(c : Int)], false, rfl, ⟨ho⟩, hitA, ⟨hb⟩, ⟨by rw [← hL2, List.append_assoc]; rfl⟩, ⟨hG3⟩, ⟨KP⟩⟩
          case measure =>
            simp only [World.iterPos, hitA, hit]
            omega
        · have hG3 : (g && goodF s f (pos + wd)) = G := hG2
          go_wp2_with (first | ((with_reducible refine gate_builtin (b := .append) (xs := #[.tmp 17, .tmp 19]) rfl ?_); at_builtin; refine Kd.R_append (Kd.int .i32) (w0 := w) w.heap.size rfl (.tmp 17) (.tmp 19) 34 21 (.int .i32 0) 4 rfl Tryd.underlying34 info21 rfl (by decide) (by omega) u4 xs (c : Int) [.int .i32 (c : Int)] (fun k => k ≠ w1.heap.size) (fun _ => False) rfl rfl ?aP (fun _ hk => hk.elim) ?aF ?aO ?aB ?aS ?aL ?_; (case aP => exact rfl); (case aB => exact hbw2); (case aF => exact hfr); (case aO => exact hR2); (case aS => exact hbw2.size); (case aL => exact hlen); intro v1 W1 ho hb hg hat; have hitA := (hg.block _ hsz2 hne).trans hit2) | (go_at_call 43; refine (hpc _).mono ?_; rintro e W3 ⟨rfl, rfl⟩))
          go_roundw
          case rel => exact ⟨pos + wd, f, xs ++ [(c : Int)], g, rfl, ⟨ho⟩, hitA, ⟨hb⟩, ⟨by rw [← hL2, List.append_assoc]; rfl⟩, ⟨hG3⟩, ⟨KP⟩⟩
          case measure =>
            simp only [World.iterPos, hitA, hit]
            omega
      · have hcb : ((c : Int) == 65533) = false := beq_eq_false_iff_ne.2 e
        rw [hcb] at hG2
        have hG3 : (g && goodF s f (pos + wd)) = G := hG2
        clear e
        go_wp2_with (first | ((with_reducible refine gate_builtin (b := .append) (xs := #[.tmp 17, .tmp 19]) rfl ?_); at_builtin; refine Kd.R_append (Kd.int .i32) (w0 := w) w.heap.size rfl (.tmp 17) (.tmp 19) 34 21 (.int .i32 0) 4 rfl Tryd.underlying34 info21 rfl (by decide) (by omega) u4 xs (c : Int) [.int .i32 (c : Int)] (fun k => k ≠ w1.heap.size) (fun _ => False) rfl rfl ?aP (fun _ hk => hk.elim) ?aF ?aO ?aB ?aS ?aL ?_; (case aP => exact rfl); (case aB => exact hbw2); (case aF => exact hfr); (case aO => exact hR2); (case aS => exact hbw2.size); (case aL => exact hlen); intro v1 W1 ho hb hg hat; have hitA := (hg.block _ hsz2 hne).trans hit2))
        go_roundw
        case rel => exact ⟨pos + wd, f, xs ++ [(c : Int)], g, rfl, ⟨ho⟩, hitA, ⟨hb⟩, ⟨by rw [← hL2, List.append_assoc]; rfl⟩, ⟨hG3⟩, ⟨KP⟩⟩
        case measure =>
          simp only [World.iterPos, hitA, hit]
          omega
    · have hnx : ∀ ty, (Instr.next (.pointer (some ⟨w1.heap.size, 0, none⟩)) true ty).run Tryd.prog wr = _ := fun ty => Lib.run_next_end_at wr w1.heap.size s pos ty hit hp
      have hL2 := HL.out
      have hG2 := HG.out
      rw [sg_end s fuel pos hp, List.map_nil, List.append_nil] at hL2
      rw [goodF_end s fuel pos hp, Bool.and_true] at hG2
      subst hL2
      subst hG2
      go_wp2
      go_ret2
      exact ⟨_, rfl, Kd.R_mono HO.out (fun _ _ => trivial), HB.out⟩
theorem rd_nn (L : List (Nat × Nat)) (h : ∀ x ∈ L, okR x.1) (i : Int) : 0 ≤ rd (L.map fstI) i ∧ rd (L.map fstI) i ≤ 1114111 := by
  unfold rd
  rw [List.getD_eq_getElem?_getD, List.getElem?_map]
  cases e : L[i.toNat]? with
  | none => exact ⟨Int.le_refl _, by decide⟩
  | some x =>
    have := h x (List.mem_of_getElem? e)
    unfold okR at this
    show 0 ≤ (x.1 : Int) ∧ (x.1 : Int) ≤ 1114111
    omega
set_option maxHeartbeats 1000000 in
set_option maxRecDepth 1000000 in
theorem signs_walk (s : ByteArray) (w : World) (hE : Env w) : Calls Tryd.prog 8 #[.string s] w fun e w' => e = .returned (.bool true) ∧ Below w.heap.size w w' := by
  by_cases h1 : s.size > 2000
  · have d1 : decide (2000 < s.size) = true := decide_eq_true h1
    have d1' : decide ((2000 : Int) < (s.size : Int)) = true := decide_eq_true (by omega)
    go_enter Tryd.func8, Tryd.ntmps8
    go_wp2_with (first | (go_at_call 11; refine (awake_walk _ (by exact hE)).mono ?_; rintro e W3 ⟨rfl, b3⟩))
    go_ret
    exact ⟨rfl, b3⟩
  have d1 : decide (2000 < s.size) = false := decide_eq_false h1
  have d1' : decide ((2000 : Int) < (s.size : Int)) = false := decide_eq_false (by omega)
  have c1 := fun w => runes_walk s w (by omega)
  have c2 := fun w => lombardref04_Signs.calls (s.size + 5) s ((signs s).map fstI) ((signs s).map sndI) (goodS s) w (Signs_f s (by omega) _ (Nat.le_refl _))
  have c3 := fun w => count_walk s w (by omega)
  have hr := rd_nn (signs s) (signs_ok s)
  have hn : countS s = (((signs s).map fstI).length : Int) := by unfold countS; rw [List.length_map]
  have hlb : ((signs s).map fstI).length ≤ 2000 := by have := signs_len s; rw [List.length_map]; omega
  rw [hn] at c3
  clear hn
  generalize (signs s).map fstI = L at *
  generalize (signs s).map sndI = P at *
  generalize goodS s = G at *
  have hgg : (G != G) = false := bne_eq_false_iff_eq.2 rfl
  have hll : ((L.length : Int) != (L.length : Int)) = false := bne_eq_false_iff_eq.2 rfl
  have HR := Aside0.mk hr
  have HLB := Aside0.mk hlb
  clear hr hlb
  go_enter Tryd.func8, Tryd.ntmps8
  go_wp2_with (first
    | (have Y := b2; go_at_call 21; refine (c3 _).mono ?_; rintro e W3 ⟨rfl, b3⟩; have B3 := B2.trans (b3.mono B2.size))
    | (have Y := b1; go_at_call 23; refine (c2 _).mono ?_; rintro e W2 ⟨v2, v3, rfl, R2, R3, b2⟩; have B2 := b1.trans (b2.mono b1.size); obtain ⟨A2, k2, rfl⟩ := Kd.R_slice R2)
    | (go_at_call 22; refine (c1 _).mono ?_; rintro e W1 ⟨v1, rfl, R1, b1⟩; obtain ⟨A1, k1, rfl⟩ := Kd.R_slice R1))
  have Q1 := Kd.R_below (Kd.R_below R1 b2) b3
  have Q2 := Kd.R_below R2 b3
  go_loopg [8] (L.length + 1) (fun kq v8 w' => ∃ x : Int, v8 = .int .i64 x ∧ Aside0 (0 ≤ x ∧ x ≤ (L.length : Int) ∧ (L.length : Int) + 1 ≤ x + kq) ∧ Aside0 (Kd.R (Kd.int .i32) 21 w' w.heap.size (fun _ => True) (.slice A1 L.length k1) L) ∧ Aside0 (Kd.R (Kd.int .i64) 3 w' W1.heap.size (fun k_ => some k_ ≠ Value.ownBlock v3) (.slice A2 L.length k2) L) ∧ Aside0 (Below w.heap.size w w'))
  case atStart => exact ⟨0, rfl, ⟨by omega⟩, ⟨Q1⟩, ⟨Q2⟩, ⟨B3⟩⟩
  case round =>
    obtain ⟨x, rfl, HX, H1, H2, HB⟩ := hrel
    obtain ⟨x0, x1, x2⟩ := HX.out
    cases gk with
    | zero => omega
    | succ k0 =>
      by_cases a1 : x < (L.length : Int)
      · have q1 : decide (x < (L.length : Int)) = true := decide_eq_true a1
        obtain ⟨ad1, e1, r1⟩ := Kd.at_int (Kd.R_reads' H1.out).2.2 x x0 a1
        obtain ⟨ad2, e2, r2⟩ := Kd.at_int (Kd.R_reads' H2.out).2.2 x x0 a1
        subst e1
        subst e2
        obtain ⟨z0, z1⟩ := HR.out x
        have hlb := HLB.out
        have hwr : wrap64 (x + 1) = x + 1 := w64 _ (by omega)
        have hwz : wrap64 (rd L x) = rd L x := w64 _ (by omega)
        have hzz : (rd L x != rd L x) = false := bne_eq_false_iff_eq.2 rfl
        have p0 : (0 ≤ x) = True := eq_true x0
        have pq : (x < (L.length : Int)) = True := eq_true a1
        have KX : 0 ≤ x + 1 ∧ x + 1 ≤ (L.length : Int) ∧ (L.length : Int) + 1 ≤ x + 1 + (k0 : Int) := by omega
        clear a1 x0 x1 x2 HX z0 z1 hlb
        go_wp2
        go_region
        go_wp2
        go_roundg k0
        case measure => omega
        case rel => exact ⟨x + 1, congrArg (Value.int .i64) hwr, ⟨KX⟩, ⟨by (with_reducible repeat (first | apply Kd.R_alloc | apply Kd.R_drewN | apply Kd.R_drew)); exact H1.out⟩, ⟨by (with_reducible repeat (first | apply Kd.R_alloc | apply Kd.R_drewN | apply Kd.R_drew)); exact H2.out⟩, ⟨by repeat (first | (with_reducible first | exact HB.out | apply below_alloc | apply pw_below_drewN | apply below_drew1) | exact HB.out)⟩⟩
      · have q1 : decide (x < (L.length : Int)) = false := decide_eq_false a1
        clear a1 x0 x1 x2 HX
        go_wp2_with (first | (go_at_call 11; refine (awake_walk _ (hE.below HB.out)).mono ?_; rintro e W4 ⟨rfl, b4⟩))
        go_ret
        exact ⟨rfl, HB.out.trans (b4.mono HB.out.size)⟩
end Go.Proofs.YtbdcnfbidbffcaaDoor.NM

/- The row's frame: laid variables and the world's shape give Env. -/
set_option linter.unusedSimpArgs false
set_option linter.unusedVariables false
namespace Go.Proofs.YtbdcnfbidbffcaaDoor.NM
open Go Go.RowKit Go.Proofs
variable {H : Type} {enc : TypeId × Value → H}
theorem change_and_shaped {a : Assume} {C : Checked} {os : Os} {f : FuncId} {fn : Func} {s : ChangeSpec} {conds : List PathCond} {apart fresh handsOn again : Bool} {X : World → Array Value → Prop}
    (hX : ∀ (w w' : World) (args : Array Value), w.heap = w'.heap → X w args → X w' args)
    (own : ownKnob C.prog.godebug = none) (started : os.Started) (noInit : C.prog.inits.idxOf? f = none) (hfn : C.prog.funcs[f]? = some fn)
    (witness : ∃ (w : World) (tape : Tape) (i : Input), w.os = os ∧ (w.forCall tape i).Shaped C.prog ∧ i.vars = [] ∧ Input.okWide C.prog (w.forCall tape i) .any w.heap.size f i ∧
      ((s.pre enc C.prog fn conds apart (w.forCall tape i).memory i.args ∧ X (w.forCall tape i).memory i.args) ∧ sizedMet enc C.prog fn (OpenSpec.ofChange s) apart (w.forCall tape i).memory i.args) ∧ a.holds C.prog (lone (Frame.enter C.prog f i.args .normal) [] (w.forCall tape i)))
    (contract : ∀ (W : World) (base : Nat) (args : Array Value) (ds gs : List (DataW H)) (before : List MemPlace),
      (∀ (j : Nat) t v, fn.params[j]? = some t → args[j]? = some v → Value.okWide C.prog W .any base t v) →
      DataW.Whole enc C.prog fn.params.toList s.vars apart W args.toList ds gs before →
      X W args → W.ShapedOpen C.prog →
      Calls C.prog f args W fun e W' => ∃ v, e = .returned v ∧ s.post enc C.prog fn apart fresh handsOn again W args v W') :
    ReturnsInHanded a C os f .any (fun w args => (s.pre enc C.prog fn conds apart w args ∧ X w args) ∧ sizedMet enc C.prog fn (OpenSpec.ofChange s) apart w args) (s.post enc C.prog fn apart fresh handsOn again) := by
  refine returnsInHanded_of_calls own started noInit witness ?_
  intro w tape i _ hsh _ hok hpre hholds
  obtain ⟨_, _, _, fn', hfn', _, _, _, _, hval⟩ := hok
  have e : fn' = fn := Option.some.inj (hfn'.symm.trans hfn)
  subst e
  obtain ⟨⟨⟨ds, gs, before, hw, hc⟩, hx⟩, hz⟩ := hpre
  have hw' := DataW.Whole.of_heap (w' := w.forCall tape i) (by rfl) hw
  refine (contract (w.forCall tape i) w.heap.size i.args ds gs before hval hw' (hX _ _ _ (by rfl) hx) hsh).mono fun e W' ⟨v, he, hp⟩ => ?_
  subst he
  exact ChangeSpec.post_blind hp
theorem sp_data : (Rows.laid_strings_asciiSpace : DataW Unit) = Lib.tabData .u8 Lib.asciiSpaceTab := by kernel_rfl
theorem no_handles : (Rows.nameChecksRow.laid.all fun x => x.2.handleName?.isNone) = true := by kernel_rfl
theorem env_of {W : World} (hL : laidMetH Tryd.prog Rows.nameChecksRow.laid W) (hsh : W.ShapedOpen Tryd.prog) : Env W := by
  rw [MakeChecks.laidMetH_plain _ _ _ no_handles] at hL
  have hr := Lib.laidMet.reads hL (n := "strings.asciiSpace") (d := Rows.laid_strings_asciiSpace) (.tail _ (.tail _ (.head _)))
  rw [sp_data] at hr
  refine ⟨?_, Tryd.laysM146.s1_3 W hsh⟩
  obtain ⟨g, t, cs, fuel, p, hg, hty, hvar, hd⟩ := hr
  obtain rfl := Option.some.inj ((show Tryd.prog.globalNamed "strings.asciiSpace" = some 0 by kernel_rfl).symm.trans hg)
  obtain rfl := Option.some.inj ((show (Tryd.prog.globals[0]?).map (·.type) = some 75 by kernel_rfl).symm.trans hty)
  unfold Lib.TabIs
  rw [hvar, ← Lib.cells_of_tab Tryd.underlying75 Tryd.underlying5 (by kernel_rfl) (by kernel_rfl) hd]
end Go.Proofs.YtbdcnfbidbffcaaDoor.NM

namespace Go.Proofs.YtbdcnfbidbffcaaDoor.NM
open Go Go.RowKit Go.Proofs
/-- The witness: the settled world with two blocks more, the four variables holding what their initialisers lay. -/
noncomputable def laidWorld (os : Os) : World :=
  let N := (World.settled Tryd.prog os).heap.size
  let w0 := World.holding Tryd.prog os ⟨#[.cells (Lib.whiteT.map fun (z : Nat) => Value.int .u16 (z : Int)).toArray (Tryd.lays261_ren.t 198), .cells #[.slice (some ⟨N, 0, none⟩) 7 7, .slice none 0 0, .int .i64 2] (Tryd.lays261_ren.t 196)], #[], []⟩
  let put (h : Array Obj) (g : Nat) (cs : Array Value) : Array Obj := h.modify g fun
    | .cells _ t frozen => .cells cs t frozen
    | o => o
  { w0 with heap := put (put (put (put w0.heap 0 (Lib.asciiSpaceTab.map fun z => Value.int .u8 z).toArray) 3 (Lib.firstTab.map fun z => Value.int .u8 z).toArray)
      4 ((List.range 16).flatMap fun i => [Value.int .u8 (Lib.accLo i), Value.int .u8 (Lib.accHi i)]).toArray) 1 #[.pointer (some ⟨N + 1, 0, none⟩)] }
theorem door_met (os : Os) (args : Array Value) : laidMetH Tryd.prog Rows.nameChecksRow.laid ((laidWorld os).forCall (fun _ _ => 0) ⟨#[], args, []⟩).memory := by
  rw [MakeChecks.laidMetH_plain _ _ _ no_handles]
  exact laidMet_of_run3 10 (by kernel_rfl) (by kernel_rfl) (by kernel_rfl)
end Go.Proofs.YtbdcnfbidbffcaaDoor.NM

/- NameSigns holds (the row): whatever text comes in, its signs, how many there are, and whether all its bytes are part of one, are as the document says. -/
namespace Go.Proofs.YtbdcnfbidbffcaaDoor.nameSigns
open Go Go.RowKit Go.ChangeShapes Go.WideShapes Go.ChangeAt Go.Proofs
open Go.ChangeMaps (open_string shut_string)
set_option linter.unusedVariables false
theorem laidOut : laidOutB Tryd.prog = true := by kernel_rfl
theorem own : ownKnob Tryd.prog.godebug = none := by kernel_rfl
theorem laid_eq : Rows.nameSignsRow.laid = Rows.nameChecksRow.laid := rfl
set_option maxRecDepth 100000 in
theorem lifted (os : Os) (started : os.Started) (H : Type) (enc : TypeId × Value → H) :
    ReturnsInHanded {} Tryd.checked os 8 .any (fun w args => (Rows.nameSignsSpec.pre enc Tryd.prog Tryd.f8 [] false w args ∧ laidMetH Tryd.prog Rows.nameSignsRow.laid w) ∧ sizedMet enc Tryd.prog Tryd.f8 (OpenSpec.ofChange Rows.nameSignsSpec) false w args)
      (Rows.nameSignsSpec.post enc Tryd.prog Tryd.f8 false true false false) := by
  refine NM.change_and_shaped (C := Tryd.checked) (X := fun w _ => laidMetH Tryd.prog Rows.nameSignsRow.laid w) (fun _ _ _ hh h => h.of_heap hh) own started (by kernel_rfl) Tryd.func8
    (ChangeSpec.witness_shaped (enc := enc) (C := Tryd.checked) (os := os) (X := fun w _ => laidMetH Tryd.prog Rows.nameSignsRow.laid w) false (NM.laidWorld os) #[.string ByteArray.empty] 8 rfl (World.shaped_of_RefB (by kernel_rfl) (by kernel_rfl)) (by kernel_rfl) (by kernel_rfl) (by kernel_rfl) (by rw [laid_eq]; exact NM.door_met os _)) ?_
  intro W base args ds gs before hval0 hW hL hsh
  have hval : ∀ (j : Nat) t v, Tryd.f8.params[j]? = some t → args[j]? = some v → Value.okWide Tryd.prog W .any base t v := hval0
  have hW' := hW
  obtain ⟨p, q, hA0, hV, rfl, hfz, hnd⟩ := hW
  have hA : DataW.TrodAll enc Tryd.prog W 0 (fun _ => true) true Tryd.f8.params.toList args.toList ds p := hA0
  rw [Tryd.params8] at hA hval
  obtain ⟨v0, vs0, d0, ds0, p0, q0, hargs, rfl, rfl, h0, r0⟩ := trodAll_cons hA
  obtain ⟨rfl, rfl, rfl⟩ := trodAll_nil r0
  obtain rfl : args = #[v0] := by cases args; simp_all
  obtain ⟨rfl, rfl⟩ := trodVars_none hV
  have k0 := h0
  have lt0 : ∀ x ∈ p0, x.block < W.heap.size := by obtain ⟨m, hm⟩ := k0; exact DataW.trod_lt m _ _ _ hm
  obtain ⟨x0, rfl, rfl, rfl, y0⟩ := open_string Tryd.underlying9 (hval 0 9 v0 rfl rfl) h0
  clear hA0 hval0
  have hE := NM.env_of (laid_eq ▸ hL) hsh
  refine (NM.signs_walk x0 W  hE).mono fun e W' ⟨he, bel⟩ => ?_
  subst he
  exact ⟨_, rfl, _, _, _, [], _, [], hW', trodAll_mk1 (shut_bool Tryd.underlying4 _), (trodAll_cons_mk (Below.trod laidOut (by kernel_rfl) (of_decide_eq_true (by kernel_rfl)) k0 bel lt0) trodAll_mk0), rfl, bel.frame _, fun h => by cases h⟩
theorem over : Rows.NameSignsSaid :=
  OpenClaim.holds_of_wide 8 Tryd.f8 rfl rfl rfl rfl rfl rfl rfl ⟨rfl, rfl, rfl, rfl, rfl⟩ rfl rfl rfl rfl rfl (by kernel_rfl) Tryd.func8 (by kernel_rfl)
    (of_decide_eq_true (by kernel_rfl)) (by unfold Func.isWrapper; first | (rw [if_pos (by decide +kernel)]; kernel_rfl) | (rw [if_neg (by decide +kernel)]; exact ⟨rfl, rfl⟩))
    (fun os started H enc _ => lifted os started H enc)
end Go.Proofs.YtbdcnfbidbffcaaDoor.nameSigns

namespace Go.Proofs.YtbdcnfbidbffcaaDoor
open Go
theorem nameSigns_holds : Rows.NameSignsCardSaid :=
  Claim7.holds_tied_plain_at .later [] [.data, .listed, .data, .pinned] true (true, "832b96fbe1c870795fcee04c664b50ab1e904139e6756e501b0b00adef925e31") false
    nameSigns.over (fun _ h => by cases h) (by kernel_rfl) (fun _ h => by cases h) nameSigns_row_tie rfl ⟨rfl, rfl⟩ (by kernel_rfl) rfl
    (fun f fn hf hfn => by
      obtain rfl : f = 8 := Option.some.inj ((show Tryd.prog.funcNamed "lombard/lombardlaw04.NameSigns" = some 8 by kernel_rfl).symm.trans hf) |>.symm
      obtain rfl : fn = Tryd.f8 := (Option.some.inj (Tryd.func8.symm.trans hfn)).symm
      exact ⟨by kernel_rfl, fun j t ht => by
        rw [Tryd.params8] at ht
        have hm : t ∈ [9] := by simpa using Array.mem_of_getElem? ht
        have hall : ([9].all fun u => !Tryd.prog.wantsStandIn u) = true := by kernel_rfl
        exact (show Tryd.prog.wantsStandIn t = false by simpa using List.all_eq_true.1 hall t hm)⟩)
    (by kernel_rfl)
#print axioms nameSigns_holds
end Go.Proofs.YtbdcnfbidbffcaaDoor
