/- NamePlain holds (the tied card): whatever text comes in, it is shown in plain letters as the document says, and so are the first letters of its words. Conditions: the library's listed tables start as the program's text lays them. -/
import Derived.Test.YtbdcnfbidbffcaaDoorSNP22
import Derived.Test.YtbdcnfbidbffcaaDoorSNP12
import Derived.Test.YtbdcnfbidbffcaaDoorSNP17
import Derived.Lib.DecodeN
import Derived.Lib.RuneBytes
import Derived.Lib.TrimUEq
import Derived.Test.YtbdcnfbidbffcaaDoorSNP19
import Derived.Lib.SlicesS
import Derived.Test.YtbdcnfbidbffcaaDoorSNP21
import Derived.Test.YtbdcnfbidbffcaaDoorRows
import Derived.ProofKit
import Derived.LaidMore
import Derived.OpenShut
import Derived.ShutString
import Derived.SizedLaws
import Derived.Lib.LaidU8
import Derived.Deep.DeepLaidRun
import Derived.Test.YtbdcnfbidbffcaaDoorTie
import Derived.Test.YtbdcnfbidbffcaaDoorCards

set_option linter.unusedVariables false
set_option linter.unusedSimpArgs false
/- R.Signs and R.Check, plain. -/
set_option linter.unusedSimpArgs false
set_option linter.unusedVariables false
namespace Go.Proofs.YtbdcnfbidbffcaaDoor.NM
open Go Go.RowKit Go.NM Go.Proofs Go.Proofs.YtbdcnfbidbffcaaDoor.PL Go.Proofs.YtbdcnfbidbffcaaDoorW.PrintWords
def goodF (s : ByteArray) : Nat → Nat → Bool
  | 0, _ => true
  | f + 1, pos => if pos < s.size then (signR s pos).2.2 && goodF s f (pos + (Utf8.decode s pos).2) else true
def goodS (s : ByteArray) : Bool := goodF s s.size 0
def fstI (x : Nat × Nat) : Int := x.1
def sndI (x : Nat × Nat) : Int := x.2
theorem signsL_f (s : ByteArray) (hs : s.size ≤ 1000000) : ∀ (f pos k : Nat) (xs ps : List Int) (g : Bool), s.size ≤ pos + f → xs.length ≤ pos → ps.length ≤ pos → f + 5 ≤ k →
    lombardref04_Signs.l0 k s xs ps g (pos : Int) = some (xs ++ (sg s f pos).map fstI, ps ++ (sg s f pos).map sndI, g && goodF s f pos)
  | 0, pos, k, xs, ps, g, hf, hx, hp, hk => by
    obtain ⟨k, rfl⟩ : ∃ k', k = k' + 1 := ⟨k - 1, by omega⟩
    rw [lombardref04_Signs.l0, if_neg (by omega)]
    simp [sg, goodF]
  | f + 1, pos, k, xs, ps, g, hf, hx, hp, hk => by
    obtain ⟨k, rfl⟩ : ∃ k', k = k' + 1 := ⟨k - 1, by omega⟩
    by_cases hl : pos < s.size
    · have hwd := width_pos s pos hl
      have hsd := sign_decode s pos hl
      obtain ⟨k4, hk4⟩ : ∃ k4, k = k4 + 4 := ⟨k - 4, by omega⟩
      have hS : lombardref04_Sign.f k s (pos : Int) = some (signR s pos) := by rw [hk4]; exact Sign_f s pos k4 hs hl
      have hw : (Utf8.decode s pos).2 ≤ 4 := by
        rw [Go.Lib.decode_at]
        unfold Go.Lib.decodeN
        repeat' split
        all_goals exact Nat.le_of_ble_eq_true rfl
      have hwr : wrap64 ((pos : Int) + (signR s pos).2.1) = ((pos + (Utf8.decode s pos).2 : Nat) : Int) := by rw [hsd.2, w64 _ (by omega)]; rfl
      rw [lombardref04_Signs.l0, if_pos (by omega), hS]
      simp only [Option.bind_some]
      rw [if_pos (show xs.length < 17592186044416 by omega), if_pos (show ps.length < 17592186044416 by omega), hwr]
      have ih := fun g' => signsL_f s hs f (pos + (Utf8.decode s pos).2) k (xs ++ [(signR s pos).1]) (ps ++ [(pos : Int)]) g' (by omega) (by rw [List.length_append, List.length_singleton]; omega) (by rw [List.length_append, List.length_singleton]; omega) (by omega)
      have e1 : (if g = true then lombardref04_Signs.l0 k s (xs ++ [(signR s pos).1]) (ps ++ [(pos : Int)]) (signR s pos).2.2 ((pos + (Utf8.decode s pos).2 : Nat) : Int) else lombardref04_Signs.l0 k s (xs ++ [(signR s pos).1]) (ps ++ [(pos : Int)]) false ((pos + (Utf8.decode s pos).2 : Nat) : Int)) = lombardref04_Signs.l0 k s (xs ++ [(signR s pos).1]) (ps ++ [(pos : Int)]) (g && (signR s pos).2.2) ((pos + (Utf8.decode s pos).2 : Nat) : Int) := by
        cases g <;> rfl
      rw [e1, ih, sg_step s f pos hl, hsd.1]
      have e2 : goodF s (f + 1) pos = ((signR s pos).2.2 && goodF s f (pos + (Utf8.decode s pos).2)) := by rw [goodF, if_pos hl]
      rw [e2]
      simp [fstI, sndI, List.append_assoc, Bool.and_assoc]
    · rw [lombardref04_Signs.l0, if_neg (by omega), sg_end s _ pos hl]
      simp [goodF, hl]
theorem Signs_f (s : ByteArray) (hs : s.size ≤ 1000000) (k : Nat) (hk : s.size + 5 ≤ k) : lombardref04_Signs.f k s = some ((signs s).map fstI, (signs s).map sndI, goodS s) := by
  unfold lombardref04_Signs.f
  have := signsL_f s hs s.size 0 k [] [] true (by omega) (Nat.le_refl _) (Nat.le_refl _) hk
  rw [show ((0 : Nat) : Int) = 0 from rfl] at this
  rw [this]
  simp [signs, goodS]
theorem rdigit_f (c : Int) : lombardref04_digit.f c = some (dgB c) := by
  unfold lombardref04_digit.f dgB
  split
  all_goals apply congrArg some
  all_goals rw [Bool.eq_iff_iff]
  all_goals simp only [decide_eq_true_eq, reduceCtorEq, false_iff, true_iff, iff_true, iff_false, Bool.false_eq_true] at *
  all_goals omega
theorem rd_at (xs : List Int) (i : Nat) (x : Int) (h : xs[i]? = some x) : rd xs (i : Int) = x := by
  unfold rd
  rw [show ((i : Int)).toNat = i from rfl, List.getD_eq_getElem?_getD, h]
  rfl
end Go.Proofs.YtbdcnfbidbffcaaDoor.NM

/- A rune's bytes are read as that rune (plain Lean). -/
namespace Go.NM
open Go.Lib
def okR (c : Nat) : Prop := c < 55296 ∨ (57343 < c ∧ c ≤ 1114111)
theorem u8n (n : Nat) (h : n < 256) : (n.toUInt8).toNat = n := by
  show n % 2 ^ 8 = n
  omega
theorem enc1 (c : Nat) (h : c ≤ 127) : encodeRune (c : Int) = [c.toUInt8] := by
  unfold encodeRune
  rw [encodeRuneZ_one (by omega) (by omega)]
  rfl
theorem enc2 (c : Nat) (h : 128 ≤ c) (h2 : c ≤ 2047) : encodeRune (c : Int) = [(192 + c / 64).toUInt8, (128 + c % 64).toUInt8] := by
  unfold encodeRune
  rw [encodeRuneZ_two (by omega) (by omega)]
  rfl
theorem enc3 (c : Nat) (h : (2048 ≤ c ∧ c < 55296) ∨ (57343 < c ∧ c ≤ 65535)) : encodeRune (c : Int) = [(224 + c / 4096).toUInt8, (128 + c / 64 % 64).toUInt8, (128 + c % 64).toUInt8] := by
  unfold encodeRune
  rw [encodeRuneZ_three (by omega)]
  rfl
theorem enc4 (c : Nat) (h : 65536 ≤ c) (h2 : c ≤ 1114111) : encodeRune (c : Int) = [(240 + c / 262144).toUInt8, (128 + c / 4096 % 64).toUInt8, (128 + c / 64 % 64).toUInt8, (128 + c % 64).toUInt8] := by
  unfold encodeRune
  rw [encodeRuneZ_four (by omega) (by omega)]
  rfl
theorem getD_pre (pre l : List UInt8) (k : Nat) : (pre ++ l).getD (pre.length + k) 0 = l.getD k 0 := by
  simp [List.getD, List.getElem?_append_right]
theorem dec_enc (s : ByteArray) (pre post : List UInt8) (c : Nat) (hv : okR c) (h : s.data.toList = pre ++ (encodeRune (c : Int) ++ post)) :
    Utf8.decode s pre.length = (c, (encodeRune (c : Int)).length) := by
  have g0 := getD_pre pre (encodeRune (c : Int) ++ post) 0
  rw [Nat.add_zero] at g0
  rw [decode_N, h, g0, getD_pre, getD_pre, getD_pre, List.length_append, Nat.add_sub_cancel_left]
  unfold okR at hv
  by_cases h1 : c ≤ 127
  · rw [enc1 c h1]
    show decodeN _ (c.toUInt8).toNat _ _ _ = _
    rw [u8n c (by omega)]
    unfold decodeN
    rw [if_pos (by omega)]
    rfl
  by_cases h2 : c ≤ 2047
  · rw [enc2 c (by omega) h2]
    show decodeN (post.length + 1 + 1) ((192 + c / 64).toUInt8).toNat ((128 + c % 64).toUInt8).toNat _ _ = (c, 2)
    rw [u8n _ (by omega), u8n _ (by omega)]
    unfold decodeN
    rw [if_neg (by omega), if_pos (by omega), if_pos (by omega)]
    exact congrArg (fun x => (x, 2)) (by omega)
  by_cases h3 : c ≤ 65535
  · rw [enc3 c (by omega)]
    show decodeN (post.length + 1 + 1 + 1) ((224 + c / 4096).toUInt8).toNat ((128 + c / 64 % 64).toUInt8).toNat ((128 + c % 64).toUInt8).toNat _ = (c, 3)
    rw [u8n _ (by omega), u8n _ (by omega), u8n _ (by omega)]
    unfold decodeN
    have e : (224 + c / 4096) % 16 * 4096 + (128 + c / 64 % 64) % 64 * 64 + (128 + c % 64) % 64 = c := by omega
    rw [e, if_neg (by omega), if_neg (by omega), if_pos (by omega), if_pos (by omega)]
  · rw [enc4 c (by omega) (by omega)]
    show decodeN (post.length + 1 + 1 + 1 + 1) ((240 + c / 262144).toUInt8).toNat ((128 + c / 4096 % 64).toUInt8).toNat ((128 + c / 64 % 64).toUInt8).toNat ((128 + c % 64).toUInt8).toNat = (c, 4)
    rw [u8n _ (by omega), u8n _ (by omega), u8n _ (by omega), u8n _ (by omega)]
    unfold decodeN
    have e : (240 + c / 262144) % 8 * 262144 + (128 + c / 4096 % 64) % 64 * 4096 + (128 + c / 64 % 64) % 64 * 64 + (128 + c % 64) % 64 = c := by omega
    rw [e, if_neg (by omega), if_neg (by omega), if_neg (by omega), if_pos (by omega), if_pos (by omega)]
theorem dec_ok (s : ByteArray) (i : Nat) : okR (Utf8.decode s i).1 := by
  rw [decode_at]
  have h0 := UInt8.toNat_lt (s.get! i)
  generalize (s.get! i).toNat = b0 at *
  unfold decodeN okR
  repeat' split
  all_goals (simp only; omega)
/-- The bytes of a list of runes, and these read back. -/
def encL : List Nat → List UInt8
  | [] => []
  | c :: l => encodeRune (c : Int) ++ encL l
def rdL (s : ByteArray) : Nat → Nat → List Nat
  | 0, _ => []
  | f + 1, pos => if pos < s.size then (Utf8.decode s pos).1 :: rdL s f (pos + (Utf8.decode s pos).2) else []
theorem enc_pos (c : Int) : 1 ≤ (encodeRune c).length := by
  have := (runeCells_le c).1
  rw [runeCells_length] at this
  exact this
theorem rd_enc (s : ByteArray) : ∀ (l : List Nat) (pre : List UInt8) (f : Nat), (∀ c ∈ l, okR c) → s.data.toList = pre ++ encL l → s.size ≤ pre.length + f → rdL s f pre.length = l
  | [], pre, f, _, h, hf => by
    have hs : s.size = pre.length := by
      have := congrArg List.length h
      simpa [encL] using this
    cases f with
    | zero => rfl
    | succ f => rw [rdL, if_neg (by omega)]
  | c :: l, pre, f, hv, h, hf => by
    have hp := enc_pos (c : Int)
    have hs : s.size = pre.length + ((encodeRune (c : Int)).length + (encL l).length) := by
      have := congrArg List.length h
      simpa [encL] using this
    obtain ⟨f, rfl⟩ : ∃ f', f = f' + 1 := ⟨f - 1, by omega⟩
    have d := dec_enc s pre (encL l) c (hv c (List.mem_cons_self ..)) h
    rw [rdL, if_pos (by omega), d]
    have ih := rd_enc s l (pre ++ encodeRune (c : Int)) f (fun x hx => hv x (List.mem_cons_of_mem _ hx)) (by rw [h, encL, List.append_assoc]) (by rw [List.length_append]; omega)
    rw [List.length_append] at ih
    show c :: rdL s f (pre.length + (encodeRune (c : Int)).length) = _
    rw [ih]
end Go.NM

/- The document's Text and Fold, plain; what is folded, as signs. -/
set_option linter.unusedSimpArgs false
set_option linter.unusedVariables false
namespace Go.Proofs.YtbdcnfbidbffcaaDoor.NM
open Go Go.RowKit Go.NM Go.Proofs Go.Proofs.YtbdcnfbidbffcaaDoor.PL Go.Proofs.YtbdcnfbidbffcaaDoorW.PrintWords
theorem son1 {x : Int} {a : Nat} (h : x = a) : strOfNums [x] = ⟨[a.toUInt8].toArray⟩ := by subst h; rfl
def lowc (c : Nat) : Nat := (loN c).toNat
theorem lowc_eq (c : Nat) : loN c = (lowc c : Int) := by have := loN_nat c; unfold lowc; omega
theorem loN_lt (c : Nat) (h : c < 384) : loN c < 416 := by unfold loN; repeat' split; all_goals omega
theorem lowc_ok (c : Nat) (h : okR c) : okR (lowc c) := by
  by_cases h1 : c < 384
  · have := loN_lt c h1; have := loN_nat c
    unfold okR lowc; omega
  · have := loN_big c (by omega)
    unfold okR lowc at *; omega
theorem rlow_k (c : Nat) : ∀ k, 7 ≤ k → lombardref04_low.f k (c : Int) = some (lowc c : Int)
  | k, h => by
    induction k with
    | zero => omega
    | succ k ih =>
      by_cases h7 : k = 6
      · subst h7
        rw [rlow_f, lowc_eq]
      · exact lombardref04_low.mono _ _ _ (ih (by omega))
theorem foldL_enc : ∀ l : List (Nat × Nat), foldL l = encL (l.map fun x => lowc x.1)
  | [] => rfl
  | (c, p) :: l => by rw [foldL, foldL_enc l, lowc_eq]; rfl
theorem bapp (A B : Bs) : (⟨A.toArray⟩ : ByteArray) ++ ⟨B.toArray⟩ = ⟨(A ++ B).toArray⟩ := by
  apply ByteArray.ext
  simp
theorem bsize (A : Bs) : (⟨A.toArray⟩ : ByteArray).size = A.length := by
  show A.toArray.size = _
  simp
theorem sg_ok (s : ByteArray) : ∀ (f pos : Nat), ∀ x ∈ sg s f pos, okR x.1
  | 0, pos, x, h => by cases h
  | f + 1, pos, x, h => by
    rw [sg] at h
    split at h
    · rcases List.mem_cons.1 h with rfl | h
      · exact dec_ok s pos
      · exact sg_ok s f _ x h
    · cases h
theorem signs_len (s : ByteArray) : (signs s).length ≤ s.size := by
  have := sg_len s s.size 0
  unfold signs; omega
theorem sg_codes (s : ByteArray) : ∀ (f pos : Nat), (sg s f pos).map Prod.fst = rdL s f pos
  | 0, _ => rfl
  | f + 1, pos => by
    rw [sg, rdL]
    split
    · rw [List.map_cons, sg_codes s f]
    · rfl
/-- What is folded has the small forms of the text's signs. -/
theorem codes_fold (s : ByteArray) : (signs (foldT s)).map Prod.fst = (signs s).map fun x => lowc x.1 := by
  unfold signs
  rw [sg_codes]
  have h := rd_enc (foldT s) ((sg s s.size 0).map fun x => lowc x.1) [] (foldT s).size ?_ ?_ (by simp)
  · exact h
  · intro c hc
    obtain ⟨x, hx, rfl⟩ := List.mem_map.1 hc
    exact lowc_ok _ (sg_ok s _ _ x hx)
  · show (foldS s).toArray.toList = _
    rw [List.toList_toArray]
    exact foldL_enc _
end Go.Proofs.YtbdcnfbidbffcaaDoor.NM

/- The document's Plain, plain. -/
set_option linter.unusedSimpArgs false
set_option linter.unusedVariables false
namespace Go.Proofs.YtbdcnfbidbffcaaDoor.NM
open Go Go.RowKit Go.NM Go.Proofs Go.Proofs.YtbdcnfbidbffcaaDoor.PL Go.Proofs.YtbdcnfbidbffcaaDoorW.PrintWords
def gr (c : Nat) : Bs := (plN c).map upB
theorem pg_small : ∀ n, n < 416 → ((lombardref04_plain.f 16 (n : Nat)).bind fun t => lombardref04_great.f 16 t) = some ⟨(gr n).toArray⟩ := by decide +kernel
theorem plain_miss (k : Nat) (x : Int) (L : List Int) (T : List ByteArray) (i : Nat) (hi : i < L.length) (hL : L.length ≤ 100) (hne : rd L (i : Int) ≠ x) :
    lombardref04_plain.l0 (k + 1) x L T (i : Int) = lombardref04_plain.l0 k x L T ((i + 1 : Nat) : Int) := by
  rw [lombardref04_plain.l0, if_pos (by omega), if_pos (by omega), if_neg hne, w64 _ (by omega)]
  rfl
theorem pg_big (n : Nat) (h : 416 ≤ n) : lombardref04_plain.f 16 (n : Int) = some ⟨#[]⟩ := by
  unfold lombardref04_plain.f
  generalize hT : ([(⟨#[97, 101]⟩ : ByteArray), _, _, _, _, _, _, _, _] : List ByteArray) = T
  have m := fun (k i : Nat) (hi : i < 9) => plain_miss k (n : Int) [228, 230, 246, 248, 339, 252, 223, 254, 229] T i hi (by decide)
  have q : ∀ i, i < 9 → rd [228, 230, 246, 248, 339, 252, 223, 254, 229] (i : Nat) < 416 := by decide
  have m' := fun (k i : Nat) (hi : i < 9) => m k i hi (by have := q i hi; omega)
  show lombardref04_plain.l0 (15 + 1) (n : Int) _ T ((0 : Nat) : Int) = _
  rw [m' 15 0 (by decide), m' 14 1 (by decide), m' 13 2 (by decide), m' 12 3 (by decide), m' 11 4 (by decide), m' 10 5 (by decide), m' 9 6 (by decide), m' 8 7 (by decide), m' 7 8 (by decide)]
  rw [lombardref04_plain.l0, if_neg (by decide), if_pos (by omega), lombardref04_plain.j1, decide_eq_false (show ¬ (n : Int) ≤ 255 by omega), if_neg (by decide), if_pos (by omega), if_neg (by omega)]
theorem gr_big (n : Nat) (h : 384 ≤ n) : gr n = [] := by
  unfold gr plN
  rw [if_neg (by omega), if_neg (by omega), if_neg (by omega), if_neg (by omega), if_neg (by omega), if_neg (by omega), if_neg (by omega), if_neg (by omega)]
  rfl
theorem leo {α : Type} {g : Nat → Option α} (h : ∀ k, LeO (g k) (g (k + 1))) {a : Nat} {r : α} (ha : g a = some r) : ∀ k, a ≤ k → g k = some r := by
  intro k hk
  induction k with
  | zero => exact (Nat.le_zero.1 hk) ▸ ha
  | succ k ih =>
    by_cases e : a = k + 1
    · exact e ▸ ha
    · exact h k _ (ih (by omega))
theorem pg_f (n : Nat) (k : Nat) (hk : 16 ≤ k) : ((lombardref04_plain.f k (n : Int)).bind fun t => lombardref04_great.f k t) = some ⟨(gr n).toArray⟩ := by
  have h16 : ((lombardref04_plain.f 16 (n : Int)).bind fun t => lombardref04_great.f 16 t) = some ⟨(gr n).toArray⟩ := by
    by_cases h : n < 416
    · exact pg_small n h
    · rw [pg_big n (by omega), gr_big n (by omega)]
      rfl
  obtain ⟨t, h1, h2⟩ := Option.bind_eq_some_iff.mp h16
  exact Option.bind_eq_some_iff.mpr ⟨t, leo (lombardref04_plain.mono _) h1 k hk, leo (lombardref04_great.mono _) h2 k hk⟩
def x4 (c : Nat) : Bs := if 128 ≤ c then gr c else []
def x3 (c : Nat) : Bs := if 97 ≤ c ∧ c ≤ 122 then [(c - 32).toUInt8] else []
def x2 (c : Nat) : Bs := if c = 32 ∨ c = 45 then [32] else []
def x1 (c : Nat) : Bs := if dgB c = true then [c.toUInt8] else []
theorem gr_le (c : Nat) : (gr c).length ≤ 4 := by unfold gr; rw [List.length_map]; exact plN_le c
theorem x_le (c : Nat) : (x4 c).length ≤ 4 ∧ (x3 c).length ≤ 1 ∧ (x2 c).length ≤ 1 ∧ (x1 c).length ≤ 1 := by
  have := gr_le c
  refine ⟨?_, ?_, ?_, ?_⟩
  · unfold x4; split
    · exact this
    · exact Nat.zero_le _
  · unfold x3; split <;> simp
  · unfold x2; split <;> simp
  · unfold x1; split <;> simp
theorem J5 (k : Nat) (L : List Int) (A : Bs) (i : Int) (c : Nat) (hk : 16 ≤ k) (hA : A.length ≤ 100000000) (hi : 0 ≤ i ∧ i ≤ 100000000) :
    lombardref04_Plain.j5 (k + 1) L ⟨A.toArray⟩ i (c : Int) = lombardref04_Plain.l0 k L ⟨(A ++ x4 c).toArray⟩ (i + 1) := by
  have hl := (x_le c).1
  rw [lombardref04_Plain.j5, w64 _ (by omega)]
  unfold x4 at *
  by_cases h : 128 ≤ c
  · rw [if_pos (by omega), if_pos h]
    rw [if_pos h] at hl
    obtain ⟨t, h1, h2⟩ := Option.bind_eq_some_iff.mp (pg_f c k hk)
    rw [h1, Option.bind_some, h2, Option.bind_some, bsize, bsize, if_pos (by omega), bapp]
  · rw [if_neg (by omega), if_neg h, List.append_nil]
theorem J4 (k : Nat) (L : List Int) (A : Bs) (i : Int) (c : Nat) (b : Bool) (hk : 16 ≤ k) (hA : A.length ≤ 100000000 - 1) (hi : 0 ≤ i ∧ i ≤ 100000000) (hb : b = decide (97 ≤ c ∧ c ≤ 122)) :
    lombardref04_Plain.j4 (k + 2) L ⟨A.toArray⟩ i (c : Int) b = lombardref04_Plain.l0 k L ⟨(A ++ x3 c ++ x4 c).toArray⟩ (i + 1) := by
  have hl := (x_le c).2.1
  subst hb
  rw [lombardref04_Plain.j4]
  unfold x3 at *
  by_cases h : 97 ≤ c ∧ c ≤ 122
  · rw [decide_eq_true h, if_pos rfl, if_pos h, Option.bind_some]
    have e : strOfNums [wrap64 ((c : Int) - 32) % 256] = ⟨[(c - 32).toUInt8].toArray⟩ := son1 (by rw [w64 _ (by omega)]; omega)
    rw [e, bsize, bsize, List.length_singleton, if_pos (by omega), bapp, J5 k L _ i c hk (by rw [List.length_append, List.length_singleton]; omega) hi]
  · rw [decide_eq_false h, if_neg (by decide), if_neg h, List.append_nil, J5 k L A i c hk (by omega) hi]
theorem J3 (k : Nat) (L : List Int) (A : Bs) (i : Int) (c : Nat) (hk : 16 ≤ k) (hA : A.length ≤ 100000000 - 1) (hi : 0 ≤ i ∧ i ≤ 100000000) :
    lombardref04_Plain.j3 (k + 3) L ⟨A.toArray⟩ i (c : Int) = lombardref04_Plain.l0 k L ⟨(A ++ x3 c ++ x4 c).toArray⟩ (i + 1) := by
  rw [lombardref04_Plain.j3]
  by_cases h : 97 ≤ c
  · rw [if_pos (by omega), J4 k L A i c _ hk hA hi]
    rw [decide_eq_decide]; omega
  · rw [if_neg (by omega), J4 k L A i c _ hk hA hi]
    exact (decide_eq_false (by omega)).symm
theorem J2 (k : Nat) (L : List Int) (A : Bs) (i : Int) (c : Nat) (b : Bool) (hk : 16 ≤ k) (hA : A.length ≤ 100000000 - 2) (hi : 0 ≤ i ∧ i ≤ 100000000) (hb : b = decide (c = 32 ∨ c = 45)) :
    lombardref04_Plain.j2 (k + 4) L ⟨A.toArray⟩ i (c : Int) b = lombardref04_Plain.l0 k L ⟨(A ++ x2 c ++ x3 c ++ x4 c).toArray⟩ (i + 1) := by
  subst hb
  rw [lombardref04_Plain.j2]
  unfold x2
  by_cases h : c = 32 ∨ c = 45
  · have e : (⟨A.toArray⟩ : ByteArray) ++ (⟨#[32]⟩ : ByteArray) = ⟨(A ++ [32]).toArray⟩ := bapp A [32]
    rw [decide_eq_true h, if_pos rfl, if_pos h, bsize, if_pos (by omega), e, J3 k L _ i c hk (by rw [List.length_append, List.length_singleton]; omega) hi]
  · rw [decide_eq_false h, if_neg (by decide), if_neg h, List.append_nil, J3 k L A i c hk (by omega) hi]
theorem J1p (k : Nat) (L : List Int) (A : Bs) (i : Int) (c : Nat) (hk : 16 ≤ k) (hA : A.length ≤ 100000000 - 2) (hi : 0 ≤ i ∧ i ≤ 100000000) :
    lombardref04_Plain.j1 (k + 5) L ⟨A.toArray⟩ i (c : Int) = lombardref04_Plain.l0 k L ⟨(A ++ x2 c ++ x3 c ++ x4 c).toArray⟩ (i + 1) := by
  rw [lombardref04_Plain.j1]
  by_cases h : c = 32
  · rw [if_pos (by omega), J2 k L A i c _ hk hA hi]
    exact (decide_eq_true (.inl h)).symm
  · rw [if_neg (by omega), J2 k L A i c _ hk hA hi]
    by_cases h2 : c = 45
    · subst h2; rfl
    · rw [decide_eq_false (by omega)]
      exact beq_eq_false_iff_ne.mpr (by omega)
theorem L0p (k : Nat) (D R : List Int) (A : Bs) (c : Nat) (hk : 16 ≤ k) (hA : A.length ≤ 100000000 - 3) (hi : D.length ≤ 100000000) :
    lombardref04_Plain.l0 (k + 6) (D ++ (c : Int) :: R) ⟨A.toArray⟩ (D.length : Int) = lombardref04_Plain.l0 k (D ++ (c : Int) :: R) ⟨(A ++ x1 (lowc c) ++ x2 (lowc c) ++ x3 (lowc c) ++ x4 (lowc c)).toArray⟩ ((D.length : Int) + 1) := by
  have hx : rd (D ++ (c : Int) :: R) (D.length : Int) = (c : Int) := rd_at _ _ _ (by simp)
  generalize hL : D ++ (c : Int) :: R = L at *
  have hlen : (D.length : Int) < (L.length : Int) := by rw [← hL]; simp; omega
  rw [lombardref04_Plain.l0, if_pos hlen, if_pos (by omega), hx, rlow_k c _ (by omega), Option.bind_some, rdigit_f, Option.bind_some]
  unfold x1
  by_cases h : dgB (lowc c) = true
  · have hd : 48 ≤ lowc c ∧ lowc c ≤ 57 := by unfold dgB at h; simp at h; omega
    have e : strOfNums [(lowc c : Int) % 256] = ⟨[(lowc c).toUInt8].toArray⟩ := son1 (by omega)
    rw [if_pos h, if_pos h, Option.bind_some, e, bsize, bsize, List.length_singleton, if_pos (by omega), bapp, J1p k L _ _ _ hk (by rw [List.length_append, List.length_singleton]; omega) (by omega)]
  · rw [if_neg h, if_neg h, List.append_nil, J1p k L A _ _ hk (by omega) (by omega)]
def stepU (c : Nat) : Bs := (plStep c).map upB
theorem step_small : ∀ n, n < 384 → x1 (lowc n) ++ x2 (lowc n) ++ x3 (lowc n) ++ x4 (lowc n) = stepU (lowc n) := by decide +kernel
theorem step_eq (c : Nat) : x1 (lowc c) ++ x2 (lowc c) ++ x3 (lowc c) ++ x4 (lowc c) = stepU (lowc c) := by
  by_cases h : c < 384
  · exact step_small c h
  · have e : lowc c = c := by have := loN_big c (by omega); unfold lowc; omega
    rw [e]
    have hg := gr_big c (by omega)
    unfold stepU plStep x1 x2 x3 x4
    have h0 : ¬ dgB c = true := by unfold dgB; simp; omega
    rw [if_neg h0, if_neg (show ¬ (c = 32 ∨ c = 45) by omega), if_neg (show ¬ (97 ≤ c ∧ c ≤ 122) by omega), if_pos (show 128 ≤ c by omega), hg, if_neg (by omega), if_neg (by omega), if_pos (by omega)]
    exact hg.symm
def stepL (l : List Nat) : Bs := l.flatMap fun c => stepU (lowc c)
theorem stepU_le (c : Nat) : (stepU c).length ≤ 4 := by unfold stepU; rw [List.length_map]; exact plStep_le c
theorem plainl_f : ∀ (r : List (Nat × Nat)) (D : List Int) (A : Bs) (k : Nat), D.length + r.length ≤ 1000000 → A.length + 4 * r.length ≤ 50000000 → 6 * r.length + 17 ≤ k →
    lombardref04_Plain.l0 k (D ++ r.map fstI) ⟨A.toArray⟩ (D.length : Int) = some ⟨(A ++ stepL (r.map Prod.fst)).toArray⟩
  | [], D, A, k, _, _, hk => by
    obtain ⟨k, rfl⟩ : ∃ k', k = k' + 1 := ⟨k - 1, by omega⟩
    rw [lombardref04_Plain.l0, if_neg (by simp)]
    simp [stepL]
  | (c, p) :: r, D, A, k, hd, ha, hk => by
    rw [List.length_cons] at hd ha hk
    obtain ⟨k, rfl⟩ : ∃ k', k = k' + 6 := ⟨k - 6, by omega⟩
    have hs := stepU_le (lowc c)
    have ih := plainl_f r (D ++ [(c : Int)]) (A ++ stepU (lowc c)) k (by rw [List.length_append, List.length_singleton]; omega) (by rw [List.length_append]; omega) (by omega)
    have e1 : D ++ [(c : Int)] ++ r.map fstI = D ++ (c : Int) :: r.map fstI := by simp
    have e2 : ((D ++ [(c : Int)]).length : Int) = (D.length : Int) + 1 := by rw [List.length_append, List.length_singleton]; rfl
    have e3 : ((c, p) :: r).map fstI = (c : Int) :: r.map fstI := rfl
    rw [e1, e2] at ih
    rw [e3, L0p k D _ A c (by omega) (by omega) (by omega), List.append_assoc, List.append_assoc, List.append_assoc, ← List.append_assoc (x2 (lowc c)), ← List.append_assoc (x1 (lowc c)), ← List.append_assoc (x1 (lowc c)), step_eq, ih, List.append_assoc]
    rfl
theorem plL_codes : ∀ l : List (Nat × Nat), (plL l).map upB = (l.map Prod.fst).flatMap stepU
  | [] => rfl
  | (c, p) :: l => by
    rw [plL, List.map_append, plL_codes l, List.map_cons, List.flatMap_cons]
    rfl
theorem plainS_codes (s : ByteArray) : plainS s = stepL ((signs s).map Prod.fst) := by
  unfold plainS
  rw [plL_codes, codes_fold]
  unfold stepL
  rw [List.flatMap_map, List.flatMap_map]
theorem Plain_f (s : ByteArray) (hs : s.size ≤ 1000000) (k : Nat) (hk : 6 * s.size + 17 ≤ k) : lombardref04_Plain.f k s = some (plainT s) := by
  have hl := signs_len s
  unfold lombardref04_Plain.f
  rw [Signs_f s hs k (by omega), Option.bind_some]
  have := plainl_f (signs s) [] [] k (by simp; omega) (by simp; omega) (by omega)
  rw [List.nil_append, List.nil_append, ← plainS_codes] at this
  exact this
theorem rplain_c (s : ByteArray) (w : World) (hs : s.size ≤ 1000000) : Calls Tryd.prog 13 #[.string s] w fun e w' => e = .returned (.string (plainT s)) ∧ Below w.heap.size w w' :=
  lombardref04_Plain.calls _ s _ w (Plain_f s hs _ (Nat.le_refl _))
end Go.Proofs.YtbdcnfbidbffcaaDoor.NM

/- The document's Short, plain. -/
set_option linter.unusedSimpArgs false
set_option linter.unusedVariables false
namespace Go.Proofs.YtbdcnfbidbffcaaDoor.NM
open Go Go.RowKit Go.NM Go.Proofs Go.Proofs.YtbdcnfbidbffcaaDoor.PL Go.Proofs.YtbdcnfbidbffcaaDoorW.PrintWords
/-- The first letters of words; true: a word may begin here. -/
def sh : Bool → Bs → Bs
  | _, [] => []
  | b, x :: l => if x = 32 then sh true l else if b = true then x :: sh false l else sh false l
theorem sh_no : ∀ (l : Bs), (∀ x ∈ l, x ≠ 32) → sh false l = []
  | [], _ => rfl
  | x :: l, h => by
    rw [sh, if_neg (h x (List.mem_cons_self ..)), if_neg (by decide)]
    exact sh_no l fun y hy => h y (List.mem_cons_of_mem _ hy)
theorem sh_one : ∀ (l : Bs), (∀ x ∈ l, x ≠ 32) → sh true l = l.take 1
  | [], _ => rfl
  | x :: l, h => by
    rw [sh, if_neg (h x (List.mem_cons_self ..)), if_pos rfl, sh_no l fun y hy => h y (List.mem_cons_of_mem _ hy)]
    rfl
theorem sh_app0 : ∀ (a b : Bs), (∀ x ∈ a, x ≠ 32) → sh false (a ++ 32 :: b) = sh true b
  | [], b, _ => by rw [List.nil_append, sh, if_pos rfl]
  | x :: a, b, h => by
    rw [List.cons_append, sh, if_neg (h x (List.mem_cons_self ..)), if_neg (by decide)]
    exact sh_app0 a b fun y hy => h y (List.mem_cons_of_mem _ hy)
theorem sh_app (a b : Bs) (h : ∀ x ∈ a, x ≠ 32) : sh true (a ++ 32 :: b) = a.take 1 ++ sh true b := by
  cases a with
  | nil => rw [List.nil_append, sh, if_pos rfl]; rfl
  | cons x a =>
    rw [List.cons_append, sh, if_neg (h x (List.mem_cons_self ..)), if_pos rfl, sh_app0 a b fun y hy => h y (List.mem_cons_of_mem _ hy)]
    rfl
theorem words_sh : ∀ (k : Nat) (p : ByteArray), Lib.countB p sp1 = k → firsts (Lib.splitB sp1 0 k p) = sh true p.data.toList
  | 0, p, h => by
    rcases Lib.indexB_cases p sp1 with hix | ⟨i, hix, hr⟩
    · rw [Lib.splitB_zero, firsts, firsts, List.append_nil]
      refine (sh_one _ fun x hx e => ?_).symm
      have hi : Lib.indexByte p.data.toList 32 = -1 := (Lib.index_one _ _).symm.trans hix
      obtain ⟨j, hj⟩ := List.mem_iff_getElem?.1 hx
      exact Lib.indexByte_none hi j (by rw [hj, e])
    · rw [Lib.countB_hit p sp1 i (by decide) hix] at h
      omega
  | k + 1, p, h => by
    rcases Lib.indexB_cases p sp1 with hix | ⟨i, hix, hr⟩
    · rw [Lib.countB_miss p sp1 hix] at h
      omega
    · have hc := Lib.countB_hit p sp1 i (by decide) hix
      rw [Lib.splitB_hit sp1 0 k p i hix, firsts, words_sh k _ (by omega)]
      have hi : Lib.indexByte p.data.toList 32 = i := (Lib.index_one _ _).symm.trans hix
      obtain ⟨g1, g2⟩ := Lib.indexByte_some hi
      have e1 : (p.extract (i + sp1.size) p.size).data.toList = p.data.toList.drop (i + 1) := Lib.extract_to_end p (i + 1)
      have e2 : (p.extract 0 (i + 0)).data.toList = p.data.toList.take i := by
        rw [ByteArray.data_extract, Array.toList_extract]
        simp
      rw [e1, e2]
      have hlt := (List.getElem?_eq_some_iff.1 g1).1
      have e3 : p.data.toList = p.data.toList.take i ++ 32 :: p.data.toList.drop (i + 1) := by
        have e4 : p.data.toList.drop i = 32 :: p.data.toList.drop (i + 1) := by rw [List.drop_eq_getElem_cons hlt, (List.getElem?_eq_some_iff.1 g1).2]
        rw [← e4, List.take_append_drop]
      conv => rhs; rw [e3]
      refine (sh_app _ _ fun x hx e => ?_).symm
      obtain ⟨j, hj⟩ := List.mem_iff_getElem?.1 hx
      rw [List.getElem?_take] at hj
      split at hj
      · exact g2 j (by assumption) (by rw [hj, e])
      · cases hj
theorem short_sh (s : ByteArray) : shortS s = sh true (plainS s) := by
  unfold shortS words
  rw [words_sh _ _ rfl]
  show sh true (plainS s).toArray.toList = _
  rw [List.toList_toArray]
theorem bt_get (l : Bs) (i : Nat) (x : UInt8) (h : l[i]? = some x) : bt ⟨l.toArray⟩ (i : Int) = (x.toNat : Int) := by
  obtain ⟨hl, hx⟩ := List.getElem?_eq_some_iff.1 h
  unfold bt
  rw [dif_pos (show ((i : Int)).toNat < (⟨l.toArray⟩ : ByteArray).size by rw [bsize]; exact hl)]
  show (((l.toArray)[i]'(by simpa using hl)).toNat : Int) = _
  simp [hx]
theorem ext_one (l : Bs) (i : Nat) (x : UInt8) (h : l[i]? = some x) : (⟨l.toArray⟩ : ByteArray).extract i (i + 1) = ⟨[x].toArray⟩ := by
  obtain ⟨hl, hx⟩ := List.getElem?_eq_some_iff.1 h
  apply ByteArray.ext
  apply Array.toList_inj.1
  rw [ext1 l i hl, List.getD_eq_getElem?_getD, h]
  rfl
def spc (D : Bs) : Bool := match D.getLast? with | none => true | some x => x == 32
theorem spc_snoc (D : Bs) (x : UInt8) : spc (D ++ [x]) = (x == 32) := by unfold spc; simp
theorem shl_f : ∀ (r D A : Bs) (k : Nat), D.length + r.length ≤ 50000000 → A.length + r.length ≤ 100000000 → r.length + 1 ≤ k →
    lombardref04_Short.l0 k ⟨(D ++ r).toArray⟩ ⟨A.toArray⟩ (D.length : Int) = some ⟨(A ++ sh (spc D) r).toArray⟩
  | [], D, A, k, _, _, hk => by
    obtain ⟨k, rfl⟩ : ∃ k', k = k' + 1 := ⟨k - 1, by omega⟩
    rw [lombardref04_Short.l0, if_neg (by rw [bsize]; simp), sh, List.append_nil]
  | x :: r, D, A, k, hd, ha, hk => by
    obtain ⟨k, rfl⟩ : ∃ k', k = k' + 1 := ⟨k - 1, by omega⟩
    rw [List.length_cons] at hd ha hk
    have hx := bt_get (D ++ x :: r) D.length x (by simp)
    have he := ext_one (D ++ x :: r) D.length x (by simp)
    have hw : wrap64 ((D.length : Int) + 1) = ((D.length + 1 : Nat) : Int) := by rw [w64 _ (by omega)]; rfl
    have hsz : (⟨(D ++ x :: r).toArray⟩ : ByteArray).size = D.length + (r.length + 1) := by rw [bsize]; simp
    have ih := fun A' h => shl_f r (D ++ [x]) A' k (by rw [List.length_append, List.length_singleton]; omega) h (by omega)
    rw [List.append_assoc, List.singleton_append, List.length_append, List.length_singleton, spc_snoc] at ih
    rw [lombardref04_Short.l0, if_pos (by rw [hsz]; omega), if_pos (by omega), hx, hw]
    by_cases h32 : x = 32
    · subst h32
      rw [if_pos (show (((32 : UInt8).toNat : Nat) : Int) = 32 from rfl), ih A (by omega), sh, if_pos rfl]
      rfl
    have hn : ¬ (x.toNat : Int) = 32 := fun h => h32 (UInt8.toNat_inj.1 (Int.ofNat.inj h))
    have hbf : (x == 32) = false := beq_eq_false_iff_ne.mpr h32
    rw [hbf] at ih
    have iA := ih A (by omega)
    have iB := ih (A ++ [x]) (by rw [List.length_append, List.length_singleton]; omega)
    have t1 : ((D.length : Nat) : Int).toNat = D.length := rfl
    have t2 : ((D.length + 1 : Nat) : Int).toNat = D.length + 1 := rfl
    rw [if_neg hn, t1, t2, he, bsize A, bsize [x], bapp, iA, iB, List.length_singleton]
    have pos : (if ((D.length : Nat) : Int) ≤ ((D.length + 1 : Nat) : Int) then (if ((D.length + 1 : Nat) : Int) ≤ ((⟨(D ++ x :: r).toArray⟩ : ByteArray).size : Int) then (if A.length + 1 ≤ 9223372036854775807 then some (⟨(A ++ [x] ++ sh false r).toArray⟩ : ByteArray) else none) else none) else none) = some ⟨(A ++ x :: sh false r).toArray⟩ := by
      rw [if_pos (by omega), if_pos (by rw [hsz]; omega), if_pos (by omega), List.append_assoc]
      rfl
    rw [pos, sh, if_neg h32]
    rcases List.eq_nil_or_concat D with h | ⟨D', y, h⟩
    · subst h
      rw [if_pos (show ((([] : Bs).length : Nat) : Int) = 0 from rfl), if_pos (show spc [] = true from rfl)]
    · rw [List.concat_eq_append] at h
      have hl : D.length = D'.length + 1 := by rw [h]; simp
      have hy := bt_get (D ++ x :: r) D'.length y (by rw [h]; simp)
      have hw2 : wrap64 ((D.length : Int) - 1) = (D'.length : Int) := by rw [w64 _ (by omega)]; omega
      have hs : spc D = (y == 32) := by rw [h, spc_snoc]
      rw [if_neg (by omega), hw2, if_pos (by omega), if_pos (by rw [hsz]; omega), hy, hs]
      by_cases h2 : y = 32
      · subst h2
        rw [if_pos (show (((32 : UInt8).toNat : Nat) : Int) = 32 from rfl), if_pos (show ((32 : UInt8) == 32) = true from rfl)]
      · have hn2 : ¬ (y.toNat : Int) = 32 := fun h => h2 (UInt8.toNat_inj.1 (Int.ofNat.inj h))
        rw [if_neg hn2, if_neg (by rw [beq_eq_false_iff_ne.mpr h2]; decide)]
theorem Short_f (s : ByteArray) (hs : s.size ≤ 1000000) : lombardref04_Short.f (6 * s.size + 17 + 16 * s.size) s = some ⟨(shortS s).toArray⟩ := by
  have hp := plainT_size s
  unfold lombardref04_Short.f
  rw [Plain_f s hs _ (by omega), Option.bind_some, short_sh]
  have hl : (plainT s).size = (plainS s).length := bsize _
  exact shl_f (plainS s) [] [] _ (by simp; omega) (by simp; omega) (by omega)
theorem rshort_c (s : ByteArray) (w : World) (hs : s.size ≤ 1000000) : Calls Tryd.prog 15 #[.string s] w fun e w' => e = .returned (.string ⟨(shortS s).toArray⟩) ∧ Below w.heap.size w w' :=
  lombardref04_Short.calls _ s _ w (Short_f s hs)
end Go.Proofs.YtbdcnfbidbffcaaDoor.NM

/- The laws NameFolds, NamePlain and NameOnce walked. -/
set_option linter.unusedSimpArgs false
set_option linter.unusedVariables false
namespace Go.Proofs.YtbdcnfbidbffcaaDoor.NM
open Go Go.RowKit Go.NM Go.Proofs Go.Proofs.YtbdcnfbidbffcaaDoor.PL Go.Proofs.YtbdcnfbidbffcaaDoorW.PrintWords
theorem self_beq (F : ByteArray) : (F.toList == F.toList) = true := (Lib.bytes_beq_iff F F).2 rfl
set_option maxHeartbeats 1000000 in
set_option maxRecDepth 1000000 in
theorem plains_walk (s : ByteArray) (w : World) (hE : Env w) : Calls Tryd.prog 4 #[.string s] w fun e w' => e = .returned (.bool true) ∧ Below w.heap.size w w' := by
  by_cases h1 : s.size > 600
  · have d1 : decide (600 < s.size) = true := decide_eq_true h1
    have d1' : decide ((600 : Int) < (s.size : Int)) = true := decide_eq_true (by omega)
    go_enter Tryd.func4, Tryd.ntmps4
    go_wp2_with (first | (go_at_call 11; refine (awake_walk _ (by exact hE)).mono ?_; rintro e W3 ⟨rfl, b3⟩))
    go_ret
    exact ⟨rfl, b3⟩
  have d1 : decide (600 < s.size) = false := decide_eq_false h1
  have d1' : decide ((600 : Int) < (s.size : Int)) = false := decide_eq_false (by omega)
  have c1 : ∀ w, Env w → Calls Tryd.prog 12 #[.string s] w fun e w' => e = .returned (.string (plainT s)) ∧ Below w.heap.size w w' := fun w hw => Plain_walk s w (by omega) hw
  have c2 := fun w => rplain_c s w (by omega)
  have c3 := fun w (hw : Env w) => Short_walk s w (by omega) hw
  have c4 := fun w => rshort_c s w (by omega)
  generalize plainT s = F at *
  generalize (⟨(shortS s).toArray⟩ : ByteArray) = G at *
  have hF := self_beq F
  have hG := self_beq G
  go_enter Tryd.func4, Tryd.ntmps4
  go_wp2_with (first
    | (have Y := B4; go_at_call 11; refine (awake_walk _ (hE.below B4)).mono ?_; rintro e W5 ⟨rfl, b5⟩; have B5 := B4.trans (b5.mono B4.size))
    | (have Y := B3; go_at_call 15; refine (c4 _).mono ?_; rintro e W4 ⟨rfl, b4⟩; have B4 := B3.trans (b4.mono B3.size))
    | (have Y := B2; go_at_call 14; refine (c3 _ (hE.below B2)).mono ?_; rintro e W3 ⟨rfl, b3⟩; have B3 := B2.trans (b3.mono B2.size))
    | (have Y := b1; go_at_call 13; refine (c2 _).mono ?_; rintro e W2 ⟨rfl, b2⟩; have B2 := b1.trans (b2.mono b1.size))
    | (go_at_call 12; refine (c1 _ hE).mono ?_; rintro e W1 ⟨rfl, b1⟩))
  go_ret
  exact ⟨rfl, B5⟩
/-! What is folded is folded no more. -/
end Go.Proofs.YtbdcnfbidbffcaaDoor.NM

/- The row's frame: laid variables and the world's shape give Env. -/
set_option linter.unusedSimpArgs false
set_option linter.unusedVariables false
namespace Go.Proofs.YtbdcnfbidbffcaaDoor.NM
open Go Go.RowKit Go.Proofs
variable {H : Type} {enc : TypeId × Value → H}
theorem change_and_shaped {a : Assume} {C : Checked} {os : Os} {f : FuncId} {fn : Func} {s : ChangeSpec} {conds : List PathCond} {apart fresh handsOn again : Bool} {X : World → Array Value → Prop}
    (hX : ∀ (w w' : World) (args : Array Value), w.heap = w'.heap → X w args → X w' args)
    (own : ownKnob C.prog.godebug = none) (started : os.Started) (noInit : C.prog.inits.idxOf? f = none) (hfn : C.prog.funcs[f]? = some fn)
    (witness : ∃ (w : World) (tape : Tape) (i : Input), w.os = os ∧ (w.forCall tape i).Shaped C.prog ∧ i.vars = [] ∧ Input.okWide C.prog (w.forCall tape i) .any w.heap.size f i ∧
      ((s.pre enc C.prog fn conds apart (w.forCall tape i).memory i.args ∧ X (w.forCall tape i).memory i.args) ∧ sizedMet enc C.prog fn (OpenSpec.ofChange s) apart (w.forCall tape i).memory i.args) ∧ a.holds C.prog (lone (Frame.enter C.prog f i.args .normal) [] (w.forCall tape i)))
    (contract : ∀ (W : World) (base : Nat) (args : Array Value) (ds gs : List (DataW H)) (before : List MemPlace),
      (∀ (j : Nat) t v, fn.params[j]? = some t → args[j]? = some v → Value.okWide C.prog W .any base t v) →
      DataW.Whole enc C.prog fn.params.toList s.vars apart W args.toList ds gs before →
      X W args → W.ShapedOpen C.prog →
      Calls C.prog f args W fun e W' => ∃ v, e = .returned v ∧ s.post enc C.prog fn apart fresh handsOn again W args v W') :
    ReturnsInHanded a C os f .any (fun w args => (s.pre enc C.prog fn conds apart w args ∧ X w args) ∧ sizedMet enc C.prog fn (OpenSpec.ofChange s) apart w args) (s.post enc C.prog fn apart fresh handsOn again) := by
  refine returnsInHanded_of_calls own started noInit witness ?_
  intro w tape i _ hsh _ hok hpre hholds
  obtain ⟨_, _, _, fn', hfn', _, _, _, _, hval⟩ := hok
  have e : fn' = fn := Option.some.inj (hfn'.symm.trans hfn)
  subst e
  obtain ⟨⟨⟨ds, gs, before, hw, hc⟩, hx⟩, hz⟩ := hpre
  have hw' := DataW.Whole.of_heap (w' := w.forCall tape i) (by rfl) hw
  refine (contract (w.forCall tape i) w.heap.size i.args ds gs before hval hw' (hX _ _ _ (by rfl) hx) hsh).mono fun e W' ⟨v, he, hp⟩ => ?_
  subst he
  exact ChangeSpec.post_blind hp
theorem sp_data : (Rows.laid_strings_asciiSpace : DataW Unit) = Lib.tabData .u8 Lib.asciiSpaceTab := by kernel_rfl
theorem no_handles : (Rows.nameChecksRow.laid.all fun x => x.2.handleName?.isNone) = true := by kernel_rfl
theorem env_of {W : World} (hL : laidMetH Tryd.prog Rows.nameChecksRow.laid W) (hsh : W.ShapedOpen Tryd.prog) : Env W := by
  rw [MakeChecks.laidMetH_plain _ _ _ no_handles] at hL
  have hr := Lib.laidMet.reads hL (n := "strings.asciiSpace") (d := Rows.laid_strings_asciiSpace) (.tail _ (.tail _ (.head _)))
  rw [sp_data] at hr
  refine ⟨?_, Tryd.laysM146.s1_3 W hsh⟩
  obtain ⟨g, t, cs, fuel, p, hg, hty, hvar, hd⟩ := hr
  obtain rfl := Option.some.inj ((show Tryd.prog.globalNamed "strings.asciiSpace" = some 0 by kernel_rfl).symm.trans hg)
  obtain rfl := Option.some.inj ((show (Tryd.prog.globals[0]?).map (·.type) = some 75 by kernel_rfl).symm.trans hty)
  unfold Lib.TabIs
  rw [hvar, ← Lib.cells_of_tab Tryd.underlying75 Tryd.underlying5 (by kernel_rfl) (by kernel_rfl) hd]
end Go.Proofs.YtbdcnfbidbffcaaDoor.NM

namespace Go.Proofs.YtbdcnfbidbffcaaDoor.NM
open Go Go.RowKit Go.Proofs
/-- The witness: the settled world with two blocks more, the four variables holding what their initialisers lay. -/
noncomputable def laidWorld (os : Os) : World :=
  let N := (World.settled Tryd.prog os).heap.size
  let w0 := World.holding Tryd.prog os ⟨#[.cells (Lib.whiteT.map fun (z : Nat) => Value.int .u16 (z : Int)).toArray (Tryd.lays261_ren.t 198), .cells #[.slice (some ⟨N, 0, none⟩) 7 7, .slice none 0 0, .int .i64 2] (Tryd.lays261_ren.t 196)], #[], []⟩
  let put (h : Array Obj) (g : Nat) (cs : Array Value) : Array Obj := h.modify g fun
    | .cells _ t frozen => .cells cs t frozen
    | o => o
  { w0 with heap := put (put (put (put w0.heap 0 (Lib.asciiSpaceTab.map fun z => Value.int .u8 z).toArray) 3 (Lib.firstTab.map fun z => Value.int .u8 z).toArray)
      4 ((List.range 16).flatMap fun i => [Value.int .u8 (Lib.accLo i), Value.int .u8 (Lib.accHi i)]).toArray) 1 #[.pointer (some ⟨N + 1, 0, none⟩)] }
theorem door_met (os : Os) (args : Array Value) : laidMetH Tryd.prog Rows.nameChecksRow.laid ((laidWorld os).forCall (fun _ _ => 0) ⟨#[], args, []⟩).memory := by
  rw [MakeChecks.laidMetH_plain _ _ _ no_handles]
  exact laidMet_of_run3 10 (by kernel_rfl) (by kernel_rfl) (by kernel_rfl)
end Go.Proofs.YtbdcnfbidbffcaaDoor.NM

/- NamePlain holds (the row): whatever text comes in, it is shown in plain letters as the document says, and so are the first letters of its words. -/
namespace Go.Proofs.YtbdcnfbidbffcaaDoor.namePlain
open Go Go.RowKit Go.ChangeShapes Go.WideShapes Go.ChangeAt Go.Proofs
open Go.ChangeMaps (open_string shut_string)
set_option linter.unusedVariables false
theorem laidOut : laidOutB Tryd.prog = true := by kernel_rfl
theorem own : ownKnob Tryd.prog.godebug = none := by kernel_rfl
theorem laid_eq : Rows.namePlainRow.laid = Rows.nameChecksRow.laid := rfl
set_option maxRecDepth 100000 in
theorem lifted (os : Os) (started : os.Started) (H : Type) (enc : TypeId × Value → H) :
    ReturnsInHanded {} Tryd.checked os 4 .any (fun w args => (Rows.namePlainSpec.pre enc Tryd.prog Tryd.f4 [] false w args ∧ laidMetH Tryd.prog Rows.namePlainRow.laid w) ∧ sizedMet enc Tryd.prog Tryd.f4 (OpenSpec.ofChange Rows.namePlainSpec) false w args)
      (Rows.namePlainSpec.post enc Tryd.prog Tryd.f4 false true false false) := by
  refine NM.change_and_shaped (C := Tryd.checked) (X := fun w _ => laidMetH Tryd.prog Rows.namePlainRow.laid w) (fun _ _ _ hh h => h.of_heap hh) own started (by kernel_rfl) Tryd.func4
    (ChangeSpec.witness_shaped (enc := enc) (C := Tryd.checked) (os := os) (X := fun w _ => laidMetH Tryd.prog Rows.namePlainRow.laid w) false (NM.laidWorld os) #[.string ByteArray.empty] 8 rfl (World.shaped_of_RefB (by kernel_rfl) (by kernel_rfl)) (by kernel_rfl) (by kernel_rfl) (by kernel_rfl) (by rw [laid_eq]; exact NM.door_met os _)) ?_
  intro W base args ds gs before hval0 hW hL hsh
  have hval : ∀ (j : Nat) t v, Tryd.f4.params[j]? = some t → args[j]? = some v → Value.okWide Tryd.prog W .any base t v := hval0
  have hW' := hW
  obtain ⟨p, q, hA0, hV, rfl, hfz, hnd⟩ := hW
  have hA : DataW.TrodAll enc Tryd.prog W 0 (fun _ => true) true Tryd.f4.params.toList args.toList ds p := hA0
  rw [Tryd.params4] at hA hval
  obtain ⟨v0, vs0, d0, ds0, p0, q0, hargs, rfl, rfl, h0, r0⟩ := trodAll_cons hA
  obtain ⟨rfl, rfl, rfl⟩ := trodAll_nil r0
  obtain rfl : args = #[v0] := by cases args; simp_all
  obtain ⟨rfl, rfl⟩ := trodVars_none hV
  have k0 := h0
  have lt0 : ∀ x ∈ p0, x.block < W.heap.size := by obtain ⟨m, hm⟩ := k0; exact DataW.trod_lt m _ _ _ hm
  obtain ⟨x0, rfl, rfl, rfl, y0⟩ := open_string Tryd.underlying9 (hval 0 9 v0 rfl rfl) h0
  clear hA0 hval0
  have hE := NM.env_of (laid_eq ▸ hL) hsh
  refine (NM.plains_walk x0 W  hE).mono fun e W' ⟨he, bel⟩ => ?_
  subst he
  exact ⟨_, rfl, _, _, _, [], _, [], hW', trodAll_mk1 (shut_bool Tryd.underlying4 _), (trodAll_cons_mk (Below.trod laidOut (by kernel_rfl) (of_decide_eq_true (by kernel_rfl)) k0 bel lt0) trodAll_mk0), rfl, bel.frame _, fun h => by cases h⟩
theorem over : Rows.NamePlainSaid :=
  OpenClaim.holds_of_wide 4 Tryd.f4 rfl rfl rfl rfl rfl rfl rfl ⟨rfl, rfl, rfl, rfl, rfl⟩ rfl rfl rfl rfl rfl (by kernel_rfl) Tryd.func4 (by kernel_rfl)
    (of_decide_eq_true (by kernel_rfl)) (by unfold Func.isWrapper; first | (rw [if_pos (by decide +kernel)]; kernel_rfl) | (rw [if_neg (by decide +kernel)]; exact ⟨rfl, rfl⟩))
    (fun os started H enc _ => lifted os started H enc)
end Go.Proofs.YtbdcnfbidbffcaaDoor.namePlain

namespace Go.Proofs.YtbdcnfbidbffcaaDoor
open Go
theorem namePlain_holds : Rows.NamePlainCardSaid :=
  Claim7.holds_tied_plain_at .later [] [.data, .listed, .data, .pinned] true (true, "832b96fbe1c870795fcee04c664b50ab1e904139e6756e501b0b00adef925e31") false
    namePlain.over (fun _ h => by cases h) (by kernel_rfl) (fun _ h => by cases h) namePlain_row_tie rfl ⟨rfl, rfl⟩ (by kernel_rfl) rfl
    (fun f fn hf hfn => by
      obtain rfl : f = 4 := Option.some.inj ((show Tryd.prog.funcNamed "lombard/lombardlaw04.NamePlain" = some 4 by kernel_rfl).symm.trans hf) |>.symm
      obtain rfl : fn = Tryd.f4 := (Option.some.inj (Tryd.func4.symm.trans hfn)).symm
      exact ⟨by kernel_rfl, fun j t ht => by
        rw [Tryd.params4] at ht
        have hm : t ∈ [9] := by simpa using Array.mem_of_getElem? ht
        have hall : ([9].all fun u => !Tryd.prog.wantsStandIn u) = true := by kernel_rfl
        exact (show Tryd.prog.wantsStandIn t = false by simpa using List.all_eq_true.1 hall t hm)⟩)
    (by kernel_rfl)
#print axioms namePlain_holds
end Go.Proofs.YtbdcnfbidbffcaaDoor
