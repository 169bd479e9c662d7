/- NameFolds holds (the tied card): whatever two texts come in, each is shown in small letters as the document says, and both are the same just if the document folds them to one. Conditions: the library's listed tables start as the program's text lays them. -/
import Derived.Test.YtbdcnfbidbffcaaDoorSNF21
import Derived.Test.YtbdcnfbidbffcaaDoorSNF12
import Derived.Test.YtbdcnfbidbffcaaDoorSNF17
import Derived.Lib.DecodeN
import Derived.Lib.RuneBytes
import Derived.Lib.TrimUEq
import Derived.Test.YtbdcnfbidbffcaaDoorSNF18
import Derived.Lib.SlicesS
import Derived.Test.YtbdcnfbidbffcaaDoorSNF20
import Derived.Test.YtbdcnfbidbffcaaDoorRows
import Derived.ProofKit
import Derived.LaidMore
import Derived.OpenShut
import Derived.ShutString
import Derived.SizedLaws
import Derived.Lib.LaidU8
import Derived.Deep.DeepLaidRun
import Derived.Test.YtbdcnfbidbffcaaDoorTie
import Derived.Test.YtbdcnfbidbffcaaDoorCards

set_option linter.unusedVariables false
set_option linter.unusedSimpArgs false
/- R.Signs and R.Check, plain. -/
set_option linter.unusedSimpArgs false
set_option linter.unusedVariables false
namespace Go.Proofs.YtbdcnfbidbffcaaDoor.NM
open Go Go.RowKit Go.NM Go.Proofs Go.Proofs.YtbdcnfbidbffcaaDoor.PL Go.Proofs.YtbdcnfbidbffcaaDoorW.PrintWords
def goodF (s : ByteArray) : Nat → Nat → Bool
  | 0, _ => true
  | f + 1, pos => if pos < s.size then (signR s pos).2.2 && goodF s f (pos + (Utf8.decode s pos).2) else true
def goodS (s : ByteArray) : Bool := goodF s s.size 0
def fstI (x : Nat × Nat) : Int := x.1
def sndI (x : Nat × Nat) : Int := x.2
theorem signsL_f (s : ByteArray) (hs : s.size ≤ 1000000) : ∀ (f pos k : Nat) (xs ps : List Int) (g : Bool), s.size ≤ pos + f → xs.length ≤ pos → ps.length ≤ pos → f + 5 ≤ k →
    lombardref04_Signs.l0 k s xs ps g (pos : Int) = some (xs ++ (sg s f pos).map fstI, ps ++ (sg s f pos).map sndI, g && goodF s f pos)
  | 0, pos, k, xs, ps, g, hf, hx, hp, hk => by
    obtain ⟨k, rfl⟩ : ∃ k', k = k' + 1 := ⟨k - 1, by omega⟩
    rw [lombardref04_Signs.l0, if_neg (by omega)]
    simp [sg, goodF]
  | f + 1, pos, k, xs, ps, g, hf, hx, hp, hk => by
    obtain ⟨k, rfl⟩ : ∃ k', k = k' + 1 := ⟨k - 1, by omega⟩
    by_cases hl : pos < s.size
    · have hwd := width_pos s pos hl
      have hsd := sign_decode s pos hl
      obtain ⟨k4, hk4⟩ : ∃ k4, k = k4 + 4 := ⟨k - 4, by omega⟩
      have hS : lombardref04_Sign.f k s (pos : Int) = some (signR s pos) := by rw [hk4]; exact Sign_f s pos k4 hs hl
      have hw : (Utf8.decode s pos).2 ≤ 4 := by
        rw [Go.Lib.decode_at]
        unfold Go.Lib.decodeN
        repeat' split
        all_goals exact Nat.le_of_ble_eq_true rfl
      have hwr : wrap64 ((pos : Int) + (signR s pos).2.1) = ((pos + (Utf8.decode s pos).2 : Nat) : Int) := by rw [hsd.2, w64 _ (by omega)]; rfl
      rw [lombardref04_Signs.l0, if_pos (by omega), hS]
      simp only [Option.bind_some]
      rw [if_pos (show xs.length < 17592186044416 by omega), if_pos (show ps.length < 17592186044416 by omega), hwr]
      have ih := fun g' => signsL_f s hs f (pos + (Utf8.decode s pos).2) k (xs ++ [(signR s pos).1]) (ps ++ [(pos : Int)]) g' (by omega) (by rw [List.length_append, List.length_singleton]; omega) (by rw [List.length_append, List.length_singleton]; omega) (by omega)
      have e1 : (if g = true then lombardref04_Signs.l0 k s (xs ++ [(signR s pos).1]) (ps ++ [(pos : Int)]) (signR s pos).2.2 ((pos + (Utf8.decode s pos).2 : Nat) : Int) else lombardref04_Signs.l0 k s (xs ++ [(signR s pos).1]) (ps ++ [(pos : Int)]) false ((pos + (Utf8.decode s pos).2 : Nat) : Int)) = lombardref04_Signs.l0 k s (xs ++ [(signR s pos).1]) (ps ++ [(pos : Int)]) (g && (signR s pos).2.2) ((pos + (Utf8.decode s pos).2 : Nat) : Int) := by
        cases g <;> rfl
      rw [e1, ih, sg_step s f pos hl, hsd.1]
      have e2 : goodF s (f + 1) pos = ((signR s pos).2.2 && goodF s f (pos + (Utf8.decode s pos).2)) := by rw [goodF, if_pos hl]
      rw [e2]
      simp [fstI, sndI, List.append_assoc, Bool.and_assoc]
    · rw [lombardref04_Signs.l0, if_neg (by omega), sg_end s _ pos hl]
      simp [goodF, hl]
theorem Signs_f (s : ByteArray) (hs : s.size ≤ 1000000) (k : Nat) (hk : s.size + 5 ≤ k) : lombardref04_Signs.f k s = some ((signs s).map fstI, (signs s).map sndI, goodS s) := by
  unfold lombardref04_Signs.f
  have := signsL_f s hs s.size 0 k [] [] true (by omega) (Nat.le_refl _) (Nat.le_refl _) hk
  rw [show ((0 : Nat) : Int) = 0 from rfl] at this
  rw [this]
  simp [signs, goodS]
theorem rd_at (xs : List Int) (i : Nat) (x : Int) (h : xs[i]? = some x) : rd xs (i : Int) = x := by
  unfold rd
  rw [show ((i : Int)).toNat = i from rfl, List.getD_eq_getElem?_getD, h]
  rfl
end Go.Proofs.YtbdcnfbidbffcaaDoor.NM

/- A rune's bytes are read as that rune (plain Lean). -/
namespace Go.NM
open Go.Lib
def okR (c : Nat) : Prop := c < 55296 ∨ (57343 < c ∧ c ≤ 1114111)
theorem enc1 (c : Nat) (h : c ≤ 127) : encodeRune (c : Int) = [c.toUInt8] := by
  unfold encodeRune
  rw [encodeRuneZ_one (by omega) (by omega)]
  rfl
theorem enc2 (c : Nat) (h : 128 ≤ c) (h2 : c ≤ 2047) : encodeRune (c : Int) = [(192 + c / 64).toUInt8, (128 + c % 64).toUInt8] := by
  unfold encodeRune
  rw [encodeRuneZ_two (by omega) (by omega)]
  rfl
theorem enc3 (c : Nat) (h : (2048 ≤ c ∧ c < 55296) ∨ (57343 < c ∧ c ≤ 65535)) : encodeRune (c : Int) = [(224 + c / 4096).toUInt8, (128 + c / 64 % 64).toUInt8, (128 + c % 64).toUInt8] := by
  unfold encodeRune
  rw [encodeRuneZ_three (by omega)]
  rfl
theorem enc4 (c : Nat) (h : 65536 ≤ c) (h2 : c ≤ 1114111) : encodeRune (c : Int) = [(240 + c / 262144).toUInt8, (128 + c / 4096 % 64).toUInt8, (128 + c / 64 % 64).toUInt8, (128 + c % 64).toUInt8] := by
  unfold encodeRune
  rw [encodeRuneZ_four (by omega) (by omega)]
  rfl
theorem dec_ok (s : ByteArray) (i : Nat) : okR (Utf8.decode s i).1 := by
  rw [decode_at]
  have h0 := UInt8.toNat_lt (s.get! i)
  generalize (s.get! i).toNat = b0 at *
  unfold decodeN okR
  repeat' split
  all_goals (simp only; omega)
end Go.NM

/- The document's Text and Fold, plain; what is folded, as signs. -/
set_option linter.unusedSimpArgs false
set_option linter.unusedVariables false
namespace Go.Proofs.YtbdcnfbidbffcaaDoor.NM
open Go Go.RowKit Go.NM Go.Proofs Go.Proofs.YtbdcnfbidbffcaaDoor.PL Go.Proofs.YtbdcnfbidbffcaaDoorW.PrintWords
theorem tdv (a b : Nat) : Int.tdiv (a : Int) (b : Int) = ((a / b : Nat) : Int) := by
  rw [Int.tdiv_eq_ediv_of_nonneg (by omega)]; rfl
theorem tmd (a b : Nat) : Int.tmod (a : Int) (b : Int) = ((a % b : Nat) : Int) := by
  rw [Int.tmod_eq_emod_of_nonneg (by omega)]; rfl
theorem son1 {x : Int} {a : Nat} (h : x = a) : strOfNums [x] = ⟨[a.toUInt8].toArray⟩ := by subst h; rfl
theorem son2 {x y : Int} {a b : Nat} (h : x = a) (h2 : y = b) : strOfNums [x, y] = ⟨[a.toUInt8, b.toUInt8].toArray⟩ := by subst h; subst h2; rfl
theorem son3 {x y z : Int} {a b c : Nat} (h : x = a) (h2 : y = b) (h3 : z = c) : strOfNums [x, y, z] = ⟨[a.toUInt8, b.toUInt8, c.toUInt8].toArray⟩ := by subst h; subst h2; subst h3; rfl
theorem son4 {x y z u : Int} {a b c d : Nat} (h : x = a) (h2 : y = b) (h3 : z = c) (h4 : u = d) : strOfNums [x, y, z, u] = ⟨[a.toUInt8, b.toUInt8, c.toUInt8, d.toUInt8].toArray⟩ := by subst h; subst h2; subst h3; subst h4; rfl
theorem w64n (n : Nat) (h : n ≤ 2000000) : wrap64 (n : Int) = (n : Int) := w64 _ (by omega)
theorem Text_f (c : Nat) (hv : okR c) : lombardref04_Text.f (c : Int) = some ⟨(Lib.encodeRune (c : Int)).toArray⟩ := by
  unfold okR at hv
  have l1 : c / 64 ≤ 2000000 := by omega
  have l2 : c / 4096 ≤ 2000000 := by omega
  have l3 : c / 262144 ≤ 2000000 := by omega
  have hD : Int.tdiv (c : Int) 64 = ((c / 64 : Nat) : Int) := tdv c 64
  have hM : Int.tmod (c : Int) 64 = ((c % 64 : Nat) : Int) := tmd c 64
  have hD2 : Int.tdiv (c : Int) 4096 = ((c / 4096 : Nat) : Int) := tdv c 4096
  have hD3 : Int.tdiv (c : Int) 262144 = ((c / 262144 : Nat) : Int) := tdv c 262144
  have hM1 : Int.tmod ((c / 64 : Nat) : Int) 64 = ((c / 64 % 64 : Nat) : Int) := tmd _ 64
  have hM2 : Int.tmod ((c / 4096 : Nat) : Int) 64 = ((c / 4096 % 64 : Nat) : Int) := tmd _ 64
  unfold lombardref04_Text.f
  rw [hD, hM, hD2, hD3, w64n _ l1, w64n _ l2, w64n _ l3, hM1, hM2]
  clear hD hM hD2 hD3 hM1 hM2
  by_cases h1 : c ≤ 127
  · rw [enc1 c h1, if_pos (by omega)]
    exact congrArg some (son1 (by omega))
  by_cases h2 : c ≤ 2047
  · rw [enc2 c (by omega) h2, if_neg (by omega), if_pos (by omega)]
    exact congrArg some (son2 (by rw [w64 _ (by omega)]; omega) (by rw [w64 _ (by omega)]; omega))
  by_cases h3 : c ≤ 65535
  · rw [enc3 c (by omega), if_neg (by omega), if_neg (by omega), if_pos (by omega)]
    exact congrArg some (son3 (by rw [w64 _ (by omega)]; omega) (by rw [w64 _ (by omega)]; omega) (by rw [w64 _ (by omega)]; omega))
  · rw [enc4 c (by omega) (by omega), if_neg (by omega), if_neg (by omega), if_neg (by omega)]
    exact congrArg some (son4 (by rw [w64 _ (by omega)]; omega) (by rw [w64 _ (by omega)]; omega) (by rw [w64 _ (by omega)]; omega) (by rw [w64 _ (by omega)]; omega))
def lowc (c : Nat) : Nat := (loN c).toNat
theorem lowc_eq (c : Nat) : loN c = (lowc c : Int) := by have := loN_nat c; unfold lowc; omega
theorem loN_lt (c : Nat) (h : c < 384) : loN c < 416 := by unfold loN; repeat' split; all_goals omega
theorem lowc_ok (c : Nat) (h : okR c) : okR (lowc c) := by
  by_cases h1 : c < 384
  · have := loN_lt c h1; have := loN_nat c
    unfold okR lowc; omega
  · have := loN_big c (by omega)
    unfold okR lowc at *; omega
theorem rlow_k (c : Nat) : ∀ k, 7 ≤ k → lombardref04_low.f k (c : Int) = some (lowc c : Int)
  | k, h => by
    induction k with
    | zero => omega
    | succ k ih =>
      by_cases h7 : k = 6
      · subst h7
        rw [rlow_f, lowc_eq]
      · exact lombardref04_low.mono _ _ _ (ih (by omega))
theorem bapp (A B : Bs) : (⟨A.toArray⟩ : ByteArray) ++ ⟨B.toArray⟩ = ⟨(A ++ B).toArray⟩ := by
  apply ByteArray.ext
  simp
theorem bsize (A : Bs) : (⟨A.toArray⟩ : ByteArray).size = A.length := by
  show A.toArray.size = _
  simp
theorem sg_ok (s : ByteArray) : ∀ (f pos : Nat), ∀ x ∈ sg s f pos, okR x.1
  | 0, pos, x, h => by cases h
  | f + 1, pos, x, h => by
    rw [sg] at h
    split at h
    · rcases List.mem_cons.1 h with rfl | h
      · exact dec_ok s pos
      · exact sg_ok s f _ x h
    · cases h
theorem signs_ok (s : ByteArray) : ∀ x ∈ signs s, okR x.1 := sg_ok s s.size 0
theorem foldl_f : ∀ (r : List (Nat × Nat)) (D : List Int) (A : Bs) (k : Nat), (∀ x ∈ r, okR x.1) → D.length + r.length ≤ 1000000 → A.length + 4 * r.length ≤ 100000000 → r.length + 8 ≤ k →
    lombardref04_Fold.l0 k (D ++ r.map fstI) ⟨A.toArray⟩ (D.length : Int) = some ⟨(A ++ foldL r).toArray⟩
  | [], D, A, k, _, _, _, hk => by
    obtain ⟨k, rfl⟩ : ∃ k', k = k' + 1 := ⟨k - 1, by omega⟩
    rw [lombardref04_Fold.l0, if_neg (by simp)]
    simp [foldL]
  | (c, p) :: r, D, A, k, ho, hd, ha, hk => by
    obtain ⟨k, rfl⟩ : ∃ k', k = k' + 1 := ⟨k - 1, by omega⟩
    rw [List.length_cons] at hd ha hk
    have hx : rd (D ++ ((c, p) :: r).map fstI) (D.length : Int) = (c : Int) := rd_at _ _ _ (by simp [fstI])
    have hT := Text_f (lowc c) (lowc_ok c (ho (c, p) (List.mem_cons_self ..)))
    have hE := encode_le (lowc c : Int)
    have ih := foldl_f r (D ++ [(c : Int)]) (A ++ Lib.encodeRune (lowc c : Int)) k (fun x h => ho x (List.mem_cons_of_mem _ h)) (by rw [List.length_append, List.length_singleton]; omega) (by rw [List.length_append]; omega) (by omega)
    have e1 : D ++ [(c : Int)] ++ r.map fstI = D ++ ((c, p) :: r).map fstI := by simp [fstI]
    have e2 : ((D ++ [(c : Int)]).length : Int) = (D.length : Int) + 1 := by rw [List.length_append, List.length_singleton]; rfl
    rw [e1, e2] at ih
    rw [lombardref04_Fold.l0, if_pos (by simp; omega), if_pos (by omega), hx, rlow_k c k (by omega), Option.bind_some, hT, Option.bind_some, bsize, bsize, if_pos (by omega), bapp, w64 _ (by omega), ih, foldL, lowc_eq, List.append_assoc]
theorem signs_len (s : ByteArray) : (signs s).length ≤ s.size := by
  have := sg_len s s.size 0
  unfold signs; omega
theorem Fold_f (s : ByteArray) (hs : s.size ≤ 1000000) (k : Nat) (hk : s.size + 8 ≤ k) : lombardref04_Fold.f k s = some (foldT s) := by
  have hl := signs_len s
  unfold lombardref04_Fold.f
  rw [Signs_f s hs k (by omega), Option.bind_some]
  exact foldl_f (signs s) [] [] k (signs_ok s) (by simp; omega) (by simp; omega) (by omega)
theorem rfold_c (s : ByteArray) (w : World) (hs : s.size ≤ 1000000) : Calls Tryd.prog 19 #[.string s] w fun e w' => e = .returned (.string (foldT s)) ∧ Below w.heap.size w w' :=
  lombardref04_Fold.calls _ s _ w (Fold_f s hs _ (Nat.le_refl _))
end Go.Proofs.YtbdcnfbidbffcaaDoor.NM

/- The document's Plain, plain. -/
set_option linter.unusedSimpArgs false
set_option linter.unusedVariables false
namespace Go.Proofs.YtbdcnfbidbffcaaDoor.NM
open Go Go.RowKit Go.NM Go.Proofs Go.Proofs.YtbdcnfbidbffcaaDoor.PL Go.Proofs.YtbdcnfbidbffcaaDoorW.PrintWords
def x3 (c : Nat) : Bs := if 97 ≤ c ∧ c ≤ 122 then [(c - 32).toUInt8] else []
def x1 (c : Nat) : Bs := if dgB c = true then [c.toUInt8] else []
end Go.Proofs.YtbdcnfbidbffcaaDoor.NM

/- The laws NameFolds, NamePlain and NameOnce walked. -/
set_option linter.unusedSimpArgs false
set_option linter.unusedVariables false
namespace Go.Proofs.YtbdcnfbidbffcaaDoor.NM
open Go Go.RowKit Go.NM Go.Proofs Go.Proofs.YtbdcnfbidbffcaaDoor.PL Go.Proofs.YtbdcnfbidbffcaaDoorW.PrintWords
def sameB (s t : ByteArray) : Bool := (foldT s).toList == (foldT t).toList
theorem self_beq (F : ByteArray) : (F.toList == F.toList) = true := (Lib.bytes_beq_iff F F).2 rfl
set_option maxHeartbeats 1000000 in
set_option maxRecDepth 1000000 in
theorem same_walk (s t : ByteArray) (w : World) (hs : s.size ≤ 1000000) (ht : t.size ≤ 35000000) :
    Calls Tryd.prog 20 #[.string s, .string t] w fun e w' => e = .returned (.bool (sameB s t)) ∧ Below w.heap.size w w' := by
  unfold sameB
  have c1 : ∀ w, Calls Tryd.prog 18 #[.string s] w fun e w' => e = .returned (.string (foldT s)) ∧ Below w.heap.size w w' := fun w => fold_walk s w (by omega)
  have c2 : ∀ w, Calls Tryd.prog 18 #[.string t] w fun e w' => e = .returned (.string (foldT t)) ∧ Below w.heap.size w w' := fun w => fold_walk t w (by omega)
  generalize foldT s = F at *
  generalize foldT t = G at *
  go_enter Tryd.func20, Tryd.ntmps20
  go_wp2_with (first
    | (have B0 := b1; go_at_call 18; refine (c2 _).mono ?_; rintro e W2 ⟨rfl, b2⟩; have B2 := b1.trans (b2.mono b1.size))
    | (go_at_call 18; refine (c1 _).mono ?_; rintro e W1 ⟨rfl, b1⟩))
  go_ret
  exact ⟨rfl, B2⟩
set_option maxHeartbeats 1000000 in
set_option maxRecDepth 1000000 in
theorem folds_walk (s t : ByteArray) (w : World) (hE : Env w) : Calls Tryd.prog 6 #[.string s, .string t] w fun e w' => e = .returned (.bool true) ∧ Below w.heap.size w w' := by
  by_cases h1 : s.size > 600
  · have d1 : decide (600 < s.size) = true := decide_eq_true h1
    have d1' : decide ((600 : Int) < (s.size : Int)) = true := decide_eq_true (by omega)
    go_enter Tryd.func6, Tryd.ntmps6
    go_wp2_with (first | (go_at_call 11; refine (awake_walk _ (by exact hE)).mono ?_; rintro e W3 ⟨rfl, b3⟩))
    go_ret
    exact ⟨rfl, b3⟩
  have d1 : decide (600 < s.size) = false := decide_eq_false h1
  have d1' : decide ((600 : Int) < (s.size : Int)) = false := decide_eq_false (by omega)
  by_cases h2 : t.size > 600
  · have d2 : decide (600 < t.size) = true := decide_eq_true h2
    have d2' : decide ((600 : Int) < (t.size : Int)) = true := decide_eq_true (by omega)
    go_enter Tryd.func6, Tryd.ntmps6
    go_wp2_with (first | (go_at_call 11; refine (awake_walk _ (by exact hE)).mono ?_; rintro e W3 ⟨rfl, b3⟩))
    go_ret
    exact ⟨rfl, b3⟩
  have d2 : decide (600 < t.size) = false := decide_eq_false h2
  have d2' : decide ((600 : Int) < (t.size : Int)) = false := decide_eq_false (by omega)
  have c1 : ∀ w, Calls Tryd.prog 18 #[.string s] w fun e w' => e = .returned (.string (foldT s)) ∧ Below w.heap.size w w' := fun w => fold_walk s w (by omega)
  have c2 := fun w => rfold_c s w (by omega)
  have c3 := fun w => same_walk s t w (by omega) (by omega)
  have c4 := fun w => rfold_c t w (by omega)
  unfold sameB at c3
  generalize foldT s = F at *
  generalize foldT t = G at *
  have hF := self_beq F
  obtain ⟨b, hb⟩ : ∃ b, (F.toList == G.toList) = b := ⟨_, rfl⟩
  rw [hb] at c3
  have hbb : (b == b) = true := beq_iff_eq.2 rfl
  go_enter Tryd.func6, Tryd.ntmps6
  go_wp2_with (first
    | (have Y := B5; go_at_call 11; refine (awake_walk _ (hE.below B5)).mono ?_; rintro e W6 ⟨rfl, b6⟩; have B6 := B5.trans (b6.mono B5.size))
    | (have Y := B4; go_at_call 19; refine (c4 _).mono ?_; rintro e W5 ⟨rfl, b5⟩; have B5 := B4.trans (b5.mono B4.size))
    | (have Y := B3; go_at_call 19; refine (c2 _).mono ?_; rintro e W4 ⟨rfl, b4⟩; have B4 := B3.trans (b4.mono B3.size))
    | (have Y := B2; go_at_call 20; refine (c3 _).mono ?_; rintro e W3 ⟨rfl, b3⟩; have B3 := B2.trans (b3.mono B2.size))
    | (have Y := b1; go_at_call 19; refine (c2 _).mono ?_; rintro e W2 ⟨rfl, b2⟩; have B2 := b1.trans (b2.mono b1.size))
    | (go_at_call 18; refine (c1 _).mono ?_; rintro e W1 ⟨rfl, b1⟩))
  go_ret
  exact ⟨rfl, B6⟩
/-! What is folded is folded no more. -/
end Go.Proofs.YtbdcnfbidbffcaaDoor.NM

/- The row's frame: laid variables and the world's shape give Env. -/
set_option linter.unusedSimpArgs false
set_option linter.unusedVariables false
namespace Go.Proofs.YtbdcnfbidbffcaaDoor.NM
open Go Go.RowKit Go.Proofs
variable {H : Type} {enc : TypeId × Value → H}
theorem change_and_shaped {a : Assume} {C : Checked} {os : Os} {f : FuncId} {fn : Func} {s : ChangeSpec} {conds : List PathCond} {apart fresh handsOn again : Bool} {X : World → Array Value → Prop}
    (hX : ∀ (w w' : World) (args : Array Value), w.heap = w'.heap → X w args → X w' args)
    (own : ownKnob C.prog.godebug = none) (started : os.Started) (noInit : C.prog.inits.idxOf? f = none) (hfn : C.prog.funcs[f]? = some fn)
    (witness : ∃ (w : World) (tape : Tape) (i : Input), w.os = os ∧ (w.forCall tape i).Shaped C.prog ∧ i.vars = [] ∧ Input.okWide C.prog (w.forCall tape i) .any w.heap.size f i ∧
      ((s.pre enc C.prog fn conds apart (w.forCall tape i).memory i.args ∧ X (w.forCall tape i).memory i.args) ∧ sizedMet enc C.prog fn (OpenSpec.ofChange s) apart (w.forCall tape i).memory i.args) ∧ a.holds C.prog (lone (Frame.enter C.prog f i.args .normal) [] (w.forCall tape i)))
    (contract : ∀ (W : World) (base : Nat) (args : Array Value) (ds gs : List (DataW H)) (before : List MemPlace),
      (∀ (j : Nat) t v, fn.params[j]? = some t → args[j]? = some v → Value.okWide C.prog W .any base t v) →
      DataW.Whole enc C.prog fn.params.toList s.vars apart W args.toList ds gs before →
      X W args → W.ShapedOpen C.prog →
      Calls C.prog f args W fun e W' => ∃ v, e = .returned v ∧ s.post enc C.prog fn apart fresh handsOn again W args v W') :
    ReturnsInHanded a C os f .any (fun w args => (s.pre enc C.prog fn conds apart w args ∧ X w args) ∧ sizedMet enc C.prog fn (OpenSpec.ofChange s) apart w args) (s.post enc C.prog fn apart fresh handsOn again) := by
  refine returnsInHanded_of_calls own started noInit witness ?_
  intro w tape i _ hsh _ hok hpre hholds
  obtain ⟨_, _, _, fn', hfn', _, _, _, _, hval⟩ := hok
  have e : fn' = fn := Option.some.inj (hfn'.symm.trans hfn)
  subst e
  obtain ⟨⟨⟨ds, gs, before, hw, hc⟩, hx⟩, hz⟩ := hpre
  have hw' := DataW.Whole.of_heap (w' := w.forCall tape i) (by rfl) hw
  refine (contract (w.forCall tape i) w.heap.size i.args ds gs before hval hw' (hX _ _ _ (by rfl) hx) hsh).mono fun e W' ⟨v, he, hp⟩ => ?_
  subst he
  exact ChangeSpec.post_blind hp
theorem sp_data : (Rows.laid_strings_asciiSpace : DataW Unit) = Lib.tabData .u8 Lib.asciiSpaceTab := by kernel_rfl
theorem no_handles : (Rows.nameChecksRow.laid.all fun x => x.2.handleName?.isNone) = true := by kernel_rfl
theorem env_of {W : World} (hL : laidMetH Tryd.prog Rows.nameChecksRow.laid W) (hsh : W.ShapedOpen Tryd.prog) : Env W := by
  rw [MakeChecks.laidMetH_plain _ _ _ no_handles] at hL
  have hr := Lib.laidMet.reads hL (n := "strings.asciiSpace") (d := Rows.laid_strings_asciiSpace) (.tail _ (.tail _ (.head _)))
  rw [sp_data] at hr
  refine ⟨?_, Tryd.laysM146.s1_3 W hsh⟩
  obtain ⟨g, t, cs, fuel, p, hg, hty, hvar, hd⟩ := hr
  obtain rfl := Option.some.inj ((show Tryd.prog.globalNamed "strings.asciiSpace" = some 0 by kernel_rfl).symm.trans hg)
  obtain rfl := Option.some.inj ((show (Tryd.prog.globals[0]?).map (·.type) = some 75 by kernel_rfl).symm.trans hty)
  unfold Lib.TabIs
  rw [hvar, ← Lib.cells_of_tab Tryd.underlying75 Tryd.underlying5 (by kernel_rfl) (by kernel_rfl) hd]
end Go.Proofs.YtbdcnfbidbffcaaDoor.NM

namespace Go.Proofs.YtbdcnfbidbffcaaDoor.NM
open Go Go.RowKit Go.Proofs
/-- The witness: the settled world with two blocks more, the four variables holding what their initialisers lay. -/
noncomputable def laidWorld (os : Os) : World :=
  let N := (World.settled Tryd.prog os).heap.size
  let w0 := World.holding Tryd.prog os ⟨#[.cells (Lib.whiteT.map fun (z : Nat) => Value.int .u16 (z : Int)).toArray (Tryd.lays261_ren.t 198), .cells #[.slice (some ⟨N, 0, none⟩) 7 7, .slice none 0 0, .int .i64 2] (Tryd.lays261_ren.t 196)], #[], []⟩
  let put (h : Array Obj) (g : Nat) (cs : Array Value) : Array Obj := h.modify g fun
    | .cells _ t frozen => .cells cs t frozen
    | o => o
  { w0 with heap := put (put (put (put w0.heap 0 (Lib.asciiSpaceTab.map fun z => Value.int .u8 z).toArray) 3 (Lib.firstTab.map fun z => Value.int .u8 z).toArray)
      4 ((List.range 16).flatMap fun i => [Value.int .u8 (Lib.accLo i), Value.int .u8 (Lib.accHi i)]).toArray) 1 #[.pointer (some ⟨N + 1, 0, none⟩)] }
theorem door_met (os : Os) (args : Array Value) : laidMetH Tryd.prog Rows.nameChecksRow.laid ((laidWorld os).forCall (fun _ _ => 0) ⟨#[], args, []⟩).memory := by
  rw [MakeChecks.laidMetH_plain _ _ _ no_handles]
  exact laidMet_of_run3 10 (by kernel_rfl) (by kernel_rfl) (by kernel_rfl)
end Go.Proofs.YtbdcnfbidbffcaaDoor.NM

/- NameFolds holds (the row): whatever two texts come in, each is shown in small letters as the document says, and both are the same just if the document folds them to one. -/
namespace Go.Proofs.YtbdcnfbidbffcaaDoor.nameFolds
open Go Go.RowKit Go.ChangeShapes Go.WideShapes Go.ChangeAt Go.Proofs
open Go.ChangeMaps (open_string shut_string)
set_option linter.unusedVariables false
theorem laidOut : laidOutB Tryd.prog = true := by kernel_rfl
theorem own : ownKnob Tryd.prog.godebug = none := by kernel_rfl
theorem laid_eq : Rows.nameFoldsRow.laid = Rows.nameChecksRow.laid := rfl
set_option maxRecDepth 100000 in
theorem lifted (os : Os) (started : os.Started) (H : Type) (enc : TypeId × Value → H) :
    ReturnsInHanded {} Tryd.checked os 6 .any (fun w args => (Rows.nameFoldsSpec.pre enc Tryd.prog Tryd.f6 [] false w args ∧ laidMetH Tryd.prog Rows.nameFoldsRow.laid w) ∧ sizedMet enc Tryd.prog Tryd.f6 (OpenSpec.ofChange Rows.nameFoldsSpec) false w args)
      (Rows.nameFoldsSpec.post enc Tryd.prog Tryd.f6 false true false false) := by
  refine NM.change_and_shaped (C := Tryd.checked) (X := fun w _ => laidMetH Tryd.prog Rows.nameFoldsRow.laid w) (fun _ _ _ hh h => h.of_heap hh) own started (by kernel_rfl) Tryd.func6
    (ChangeSpec.witness_shaped (enc := enc) (C := Tryd.checked) (os := os) (X := fun w _ => laidMetH Tryd.prog Rows.nameFoldsRow.laid w) false (NM.laidWorld os) #[.string ByteArray.empty, .string ByteArray.empty] 8 rfl (World.shaped_of_RefB (by kernel_rfl) (by kernel_rfl)) (by kernel_rfl) (by kernel_rfl) (by kernel_rfl) (by rw [laid_eq]; exact NM.door_met os _)) ?_
  intro W base args ds gs before hval0 hW hL hsh
  have hval : ∀ (j : Nat) t v, Tryd.f6.params[j]? = some t → args[j]? = some v → Value.okWide Tryd.prog W .any base t v := hval0
  have hW' := hW
  obtain ⟨p, q, hA0, hV, rfl, hfz, hnd⟩ := hW
  have hA : DataW.TrodAll enc Tryd.prog W 0 (fun _ => true) true Tryd.f6.params.toList args.toList ds p := hA0
  rw [Tryd.params6] at hA hval
  obtain ⟨v0, vs0, d0, ds0, p0, q0, hargs, rfl, rfl, h0, r0⟩ := trodAll_cons hA
  obtain ⟨v1, vs1, d1, ds1, p1, q1, rfl, rfl, rfl, h1, r1⟩ := trodAll_cons r0
  obtain ⟨rfl, rfl, rfl⟩ := trodAll_nil r1
  obtain rfl : args = #[v0, v1] := by cases args; simp_all
  obtain ⟨rfl, rfl⟩ := trodVars_none hV
  have k0 := h0
  have lt0 : ∀ x ∈ p0, x.block < W.heap.size := by obtain ⟨m, hm⟩ := k0; exact DataW.trod_lt m _ _ _ hm
  obtain ⟨x0, rfl, rfl, rfl, y0⟩ := open_string Tryd.underlying9 (hval 0 9 v0 rfl rfl) h0
  have k1 := h1
  have lt1 : ∀ x ∈ p1, x.block < W.heap.size := by obtain ⟨m, hm⟩ := k1; exact DataW.trod_lt m _ _ _ hm
  obtain ⟨x1, rfl, rfl, rfl, y1⟩ := open_string Tryd.underlying9 (hval 1 9 v1 rfl rfl) h1
  clear hA0 hval0
  have hE := NM.env_of (laid_eq ▸ hL) hsh
  refine (NM.folds_walk x0 x1 W  hE).mono fun e W' ⟨he, bel⟩ => ?_
  subst he
  exact ⟨_, rfl, _, _, _, [], _, [], hW', trodAll_mk1 (shut_bool Tryd.underlying4 _), (trodAll_cons_mk (Below.trod laidOut (by kernel_rfl) (of_decide_eq_true (by kernel_rfl)) k0 bel lt0) (trodAll_cons_mk (Below.trod laidOut (by kernel_rfl) (of_decide_eq_true (by kernel_rfl)) k1 bel lt1) trodAll_mk0)), rfl, bel.frame _, fun h => by cases h⟩
theorem over : Rows.NameFoldsSaid :=
  OpenClaim.holds_of_wide 6 Tryd.f6 rfl rfl rfl rfl rfl rfl rfl ⟨rfl, rfl, rfl, rfl, rfl⟩ rfl rfl rfl rfl rfl (by kernel_rfl) Tryd.func6 (by kernel_rfl)
    (of_decide_eq_true (by kernel_rfl)) (by unfold Func.isWrapper; first | (rw [if_pos (by decide +kernel)]; kernel_rfl) | (rw [if_neg (by decide +kernel)]; exact ⟨rfl, rfl⟩))
    (fun os started H enc _ => lifted os started H enc)
end Go.Proofs.YtbdcnfbidbffcaaDoor.nameFolds

namespace Go.Proofs.YtbdcnfbidbffcaaDoor
open Go
theorem nameFolds_holds : Rows.NameFoldsCardSaid :=
  Claim7.holds_tied_plain_at .later [] [.data, .listed, .data, .pinned] true (true, "832b96fbe1c870795fcee04c664b50ab1e904139e6756e501b0b00adef925e31") false
    nameFolds.over (fun _ h => by cases h) (by kernel_rfl) (fun _ h => by cases h) nameFolds_row_tie rfl ⟨rfl, rfl⟩ (by kernel_rfl) rfl
    (fun f fn hf hfn => by
      obtain rfl : f = 6 := Option.some.inj ((show Tryd.prog.funcNamed "lombard/lombardlaw04.NameFolds" = some 6 by kernel_rfl).symm.trans hf) |>.symm
      obtain rfl : fn = Tryd.f6 := (Option.some.inj (Tryd.func6.symm.trans hfn)).symm
      exact ⟨by kernel_rfl, fun j t ht => by
        rw [Tryd.params6] at ht
        have hm : t ∈ [9, 9] := by simpa using Array.mem_of_getElem? ht
        have hall : ([9, 9].all fun u => !Tryd.prog.wantsStandIn u) = true := by kernel_rfl
        exact (show Tryd.prog.wantsStandIn t = false by simpa using List.all_eq_true.1 hall t hm)⟩)
    (by kernel_rfl)
#print axioms nameFolds_holds
end Go.Proofs.YtbdcnfbidbffcaaDoor
