/- NameChecks holds (the tied card): whatever text comes in, the program's Check and the document's tell the same, and the chapter's examples hold. Conditions: the library's listed tables start as the program's text lays them. -/
import Derived.Test.YtbdcnfbidbffcaaDoorSNC19
import Derived.Test.YtbdcnfbidbffcaaDoorSNC20
import Derived.Test.YtbdcnfbidbffcaaDoorSNC18
import Derived.Test.YtbdcnfbidbffcaaDoorRows
import Derived.ProofKit
import Derived.LaidMore
import Derived.OpenShut
import Derived.ShutString
import Derived.SizedLaws
import Derived.Lib.LaidU8
import Derived.Deep.DeepLaidRun
import Derived.Test.YtbdcnfbidbffcaaDoorTie
import Derived.Test.YtbdcnfbidbffcaaDoorCards

set_option linter.unusedVariables false
set_option linter.unusedSimpArgs false
/- R.Signs and R.Check, plain. -/
set_option linter.unusedSimpArgs false
set_option linter.unusedVariables false
namespace Go.Proofs.YtbdcnfbidbffcaaDoor.NM
open Go Go.RowKit Go.NM Go.Proofs Go.Proofs.YtbdcnfbidbffcaaDoor.PL Go.Proofs.YtbdcnfbidbffcaaDoorW.PrintWords
def goodF (s : ByteArray) : Nat → Nat → Bool
  | 0, _ => true
  | f + 1, pos => if pos < s.size then (signR s pos).2.2 && goodF s f (pos + (Utf8.decode s pos).2) else true
def goodS (s : ByteArray) : Bool := goodF s s.size 0
def fstI (x : Nat × Nat) : Int := x.1
def sndI (x : Nat × Nat) : Int := x.2
theorem signsL_f (s : ByteArray) (hs : s.size ≤ 1000000) : ∀ (f pos k : Nat) (xs ps : List Int) (g : Bool), s.size ≤ pos + f → xs.length ≤ pos → ps.length ≤ pos → f + 5 ≤ k →
    lombardref04_Signs.l0 k s xs ps g (pos : Int) = some (xs ++ (sg s f pos).map fstI, ps ++ (sg s f pos).map sndI, g && goodF s f pos)
  | 0, pos, k, xs, ps, g, hf, hx, hp, hk => by
    obtain ⟨k, rfl⟩ : ∃ k', k = k' + 1 := ⟨k - 1, by omega⟩
    rw [lombardref04_Signs.l0, if_neg (by omega)]
    simp [sg, goodF]
  | f + 1, pos, k, xs, ps, g, hf, hx, hp, hk => by
    obtain ⟨k, rfl⟩ : ∃ k', k = k' + 1 := ⟨k - 1, by omega⟩
    by_cases hl : pos < s.size
    · have hwd := width_pos s pos hl
      have hsd := sign_decode s pos hl
      obtain ⟨k4, hk4⟩ : ∃ k4, k = k4 + 4 := ⟨k - 4, by omega⟩
      have hS : lombardref04_Sign.f k s (pos : Int) = some (signR s pos) := by rw [hk4]; exact Sign_f s pos k4 hs hl
      have hw : (Utf8.decode s pos).2 ≤ 4 := by
        rw [Go.Lib.decode_at]
        unfold Go.Lib.decodeN
        repeat' split
        all_goals exact Nat.le_of_ble_eq_true rfl
      have hwr : wrap64 ((pos : Int) + (signR s pos).2.1) = ((pos + (Utf8.decode s pos).2 : Nat) : Int) := by rw [hsd.2, w64 _ (by omega)]; rfl
      rw [lombardref04_Signs.l0, if_pos (by omega), hS]
      simp only [Option.bind_some]
      rw [if_pos (show xs.length < 17592186044416 by omega), if_pos (show ps.length < 17592186044416 by omega), hwr]
      have ih := fun g' => signsL_f s hs f (pos + (Utf8.decode s pos).2) k (xs ++ [(signR s pos).1]) (ps ++ [(pos : Int)]) g' (by omega) (by rw [List.length_append, List.length_singleton]; omega) (by rw [List.length_append, List.length_singleton]; omega) (by omega)
      have e1 : (if g = true then lombardref04_Signs.l0 k s (xs ++ [(signR s pos).1]) (ps ++ [(pos : Int)]) (signR s pos).2.2 ((pos + (Utf8.decode s pos).2 : Nat) : Int) else lombardref04_Signs.l0 k s (xs ++ [(signR s pos).1]) (ps ++ [(pos : Int)]) false ((pos + (Utf8.decode s pos).2 : Nat) : Int)) = lombardref04_Signs.l0 k s (xs ++ [(signR s pos).1]) (ps ++ [(pos : Int)]) (g && (signR s pos).2.2) ((pos + (Utf8.decode s pos).2 : Nat) : Int) := by
        cases g <;> rfl
      rw [e1, ih, sg_step s f pos hl, hsd.1]
      have e2 : goodF s (f + 1) pos = ((signR s pos).2.2 && goodF s f (pos + (Utf8.decode s pos).2)) := by rw [goodF, if_pos hl]
      rw [e2]
      simp [fstI, sndI, List.append_assoc, Bool.and_assoc]
    · rw [lombardref04_Signs.l0, if_neg (by omega), sg_end s _ pos hl]
      simp [goodF, hl]
theorem Signs_f (s : ByteArray) (hs : s.size ≤ 1000000) (k : Nat) (hk : s.size + 5 ≤ k) : lombardref04_Signs.f k s = some ((signs s).map fstI, (signs s).map sndI, goodS s) := by
  unfold lombardref04_Signs.f
  have := signsL_f s hs s.size 0 k [] [] true (by omega) (Nat.le_refl _) (Nat.le_refl _) hk
  rw [show ((0 : Nat) : Int) = 0 from rfl] at this
  rw [this]
  simp [signs, goodS]
theorem rascii_f (c : Int) : lombardref04_ascii.f c = some (decide ((97 ≤ c ∧ c ≤ 122) ∨ (65 ≤ c ∧ c ≤ 90))) := by
  unfold lombardref04_ascii.f
  repeat' split
  all_goals apply congrArg some
  all_goals rw [Bool.eq_iff_iff]
  all_goals simp only [decide_eq_true_eq, reduceCtorEq, false_iff, true_iff, iff_true, iff_false, Bool.false_eq_true] at *
  all_goals omega
theorem rletter_f (c : Int) : lombardref04_letter.f c = some (ltB c) := by
  unfold lombardref04_letter.f ltB
  rw [rascii_f, Option.bind_some]
  repeat' split
  all_goals apply congrArg some
  all_goals rw [Bool.eq_iff_iff]
  all_goals simp only [decide_eq_true_eq, reduceCtorEq, false_iff, true_iff, iff_true, iff_false, Bool.false_eq_true, bne_iff_ne] at *
  all_goals omega
theorem rdigit_f (c : Int) : lombardref04_digit.f c = some (dgB c) := by
  unfold lombardref04_digit.f dgB
  split
  all_goals apply congrArg some
  all_goals rw [Bool.eq_iff_iff]
  all_goals simp only [decide_eq_true_eq, reduceCtorEq, false_iff, true_iff, iff_true, iff_false, Bool.false_eq_true] at *
  all_goals omega
theorem rjoint_f (c : Int) : lombardref04_joint.f c = some (jtB c) := by
  unfold lombardref04_joint.f jtB
  repeat' split
  all_goals simp_all
  all_goals rfl
theorem rd_at (xs : List Int) (i : Nat) (x : Int) (h : xs[i]? = some x) : rd xs (i : Int) = x := by
  unfold rd
  rw [show ((i : Int)).toNat = i from rfl, List.getD_eq_getElem?_getD, h]
  rfl
def lastN (d : List (Nat × Nat)) : Int := match d.getLast? with | some x => x.1 | none => 32
theorem lastN_snoc (d : List (Nat × Nat)) (x : Nat × Nat) : lastN (d ++ [x]) = x.1 := by unfold lastN; simp
theorem check_end (s : ByteArray) (d : List (Nat × Nat)) (hd : signs s = d) (hs : d.length ≤ 200) (f pos k : Nat) (hp : ¬ pos < s.size) :
    lombardref04_Check.l0 (k + 1) s ((signs s).map fstI) ((signs s).map sndI) (d.length : Int) = some (chkFrom s (f + 1) pos d.length (lastN d)) := by
  subst hd
  rw [lombardref04_Check.l0, if_neg (by rw [List.length_map]; omega), chkFrom, if_neg hp, List.length_map]
  rcases List.eq_nil_or_concat (signs s) with h | ⟨d', x, h⟩
  · rw [h]; rfl
  · rw [List.concat_eq_append] at h
    rw [h, lastN_snoc]
    have hl : (d' ++ [x]).length = d'.length + 1 := by simp
    have hw : wrap64 (((d' ++ [x]).length : Int) - 1) = (d'.length : Int) := by
      rw [h] at hs
      rw [w64 _ (by omega)]; omega
    rw [hw, if_neg (by omega), if_pos (by omega), if_pos (by omega)]
    rw [rd_at _ d'.length (x.1 : Int) (by simp [fstI])]
    by_cases hx : (x.1 : Int) = 32
    · rw [if_pos hx, if_pos (.inr hx)]
    · rw [if_neg hx, if_neg (by omega)]
theorem J1 (s : ByteArray) (d : List (Nat × Nat)) (L P : List Int) (c pos : Int) (k : Nat) (hn : d.length ≤ 200) (hL : ∀ (i : Nat) (x : Nat × Nat), d[i]? = some x → L[i]? = some (fstI x)) (hLl : d.length < L.length) (hPl : d.length < P.length) (hP : rd P (d.length : Int) = pos) :
    lombardref04_Check.j1 (k + 1) s L P (d.length : Int) c false = if 0 < d.length ∧ c = 32 ∧ jtB (lastN d) = true ∧ lastN d ≠ 46 ∧ lastN d ≠ 38 then some (pos, 11) else lombardref04_Check.l0 k s L P ((d.length + 1 : Nat) : Int) := by
  have hw1 : wrap64 ((d.length : Int) + 1) = ((d.length + 1 : Nat) : Int) := by rw [w64 _ (by omega)]; rfl
  rw [lombardref04_Check.j1, hw1, if_neg (by decide)]
  rcases List.eq_nil_or_concat d with h | ⟨d', x, h⟩
  · subst h
    rw [if_neg (by simp), if_neg (by simp)]
  · rw [List.concat_eq_append] at h
    have hl : d.length = d'.length + 1 := by rw [h]; simp
    have hx : d[d'.length]? = some x := by rw [h]; simp
    have hw : wrap64 ((d.length : Int) - 1) = (d'.length : Int) := by rw [w64 _ (by omega)]; omega
    have hla : lastN d = fstI x := by rw [h, lastN_snoc]; rfl
    rw [hw, if_pos (show (d.length : Int) > 0 by omega), rd_at L d'.length _ (hL _ _ hx), hla, hP, rjoint_f, Option.bind_some]
    generalize fstI x = l
    by_cases h1 : c = 32
    · rw [if_pos h1, if_pos (by omega), if_pos (by omega)]
      by_cases h2 : jtB l = true
      · rw [if_pos h2]
        by_cases h3 : l = 46
        · rw [if_pos h3, if_neg (fun h => h.2.2.2.1 h3)]
        · rw [if_neg h3]
          by_cases h4 : l = 38
          · rw [if_pos h4, if_neg (fun h => h.2.2.2.2 h4)]
          · rw [if_neg h4, if_pos (by omega), if_pos (by omega), if_pos ⟨by omega, h1, h2, h3, h4⟩]
      · rw [if_neg h2, if_neg (fun h => h2 h.2.2.1)]
    · rw [if_neg h1, if_neg (fun h => h1 h.2.1)]
theorem lt32 {c : Int} (h : ltB c = true) : c ≠ 32 := by rintro rfl; exact absurd h (by decide)
theorem dg32 {c : Int} (h : dgB c = true) : c ≠ 32 := by rintro rfl; exact absurd h (by decide)
theorem checkL_f (s : ByteArray) (hs : s.size ≤ 160) : ∀ (f pos k : Nat) (d : List (Nat × Nat)), signs s = d ++ sg s f pos → s.size ≤ pos + f → d.length ≤ 40 → 2 * f + 3 ≤ k →
    lombardref04_Check.l0 k s ((signs s).map fstI) ((signs s).map sndI) (d.length : Int) = some (chkFrom s (f + 1) pos d.length (lastN d)) := by
  intro f
  induction f with
  | zero =>
    intro pos k d hd hf hn hk
    obtain ⟨k, rfl⟩ : ∃ k', k = k' + 1 := ⟨k - 1, by omega⟩
    exact check_end s d (by rw [hd]; simp [sg]) (by omega) 0 pos k (by omega)
  | succ f ih =>
    intro pos k d hd hf hn hk
    by_cases hp : pos < s.size
    · obtain ⟨k, rfl⟩ : ∃ k', k = k' + 2 := ⟨k - 2, by omega⟩
      rw [sg_step s f pos hp] at hd
      have hwd := width_pos s pos hp
      have hcf : ∀ l : Int, chkFrom s (f + 1 + 1) pos d.length l = (if (d.length : Int) = 40 then ((pos : Int), 2)
       else if ltB (Utf8.decode s pos).1 = false ∧ ((d.length : Int) = 0 ∨ dgB (Utf8.decode s pos).1 = false ∧ jtB (Utf8.decode s pos).1 = false) then ((pos : Int), 11)
       else if ((Utf8.decode s pos).1 : Int) = 32 ∧ jtB l = true ∧ l ≠ 46 ∧ l ≠ 38 then ((pos : Int), 11)
       else chkFrom s (f + 1) (pos + (Utf8.decode s pos).2) ((d.length : Int) + 1) (Utf8.decode s pos).1) := fun l => by rw [chkFrom, if_pos hp]
      rw [hcf]
      clear hcf
      generalize hc : Utf8.decode s pos = cw at *
      obtain ⟨c, wd⟩ := cw
      simp only at *
      have hLl : d.length < ((signs s).map fstI).length := by rw [hd]; simp
      have hPl : d.length < ((signs s).map sndI).length := by rw [hd]; simp
      have hLc : rd ((signs s).map fstI) (d.length : Int) = (c : Int) := rd_at _ _ _ (by rw [hd]; simp [fstI])
      have hPc : rd ((signs s).map sndI) (d.length : Int) = (pos : Int) := rd_at _ _ _ (by rw [hd]; simp [sndI])
      have hLi : ∀ (i : Nat) (x : Nat × Nat), d[i]? = some x → ((signs s).map fstI)[i]? = some (fstI x) := by
        intro i x hi
        have hlt := (List.getElem?_eq_some_iff.1 hi).1
        rw [hd, List.getElem?_map, List.getElem?_append_left hlt, hi]
        rfl
      rw [lombardref04_Check.l0, if_pos (by omega), if_pos (by omega)]
      by_cases h40 : (d.length : Int) = 40
      · rw [if_pos h40, if_pos h40, if_pos (by omega), hPc]
      rw [if_neg h40, if_neg h40, hLc, rletter_f, rdigit_f, rjoint_f]
      simp only [Option.bind_some]
      have nxt := ih (pos + wd) k (d ++ [(c, pos)]) (by rw [hd]; simp) (by omega) (by simp; omega) (by omega)
      rw [lastN_snoc] at nxt
      have hdl : (d ++ [(c, pos)]).length = d.length + 1 := by simp
      rw [hdl] at nxt
      have e1 : ((d.length + 1 : Nat) : Int) = (d.length : Int) + 1 := rfl
      have j := J1 s d _ _ (c : Int) pos k (by omega) hLi hLl hPl hPc
      rw [nxt] at j
      have jt : lombardref04_Check.j1 (k + 1) s ((signs s).map fstI) ((signs s).map sndI) (d.length : Int) (c : Int) true = some ((pos : Int), 11) := by
        rw [lombardref04_Check.j1, if_pos rfl, if_pos (by omega), if_pos (by omega), hPc]
      by_cases hL : ltB c = true
      · have h32 := lt32 hL
        rw [if_pos hL, j, if_neg (fun h => h32 h.2.1), if_neg (by rw [hL]; simp), if_neg (fun h => h32 h.1)]
        rfl
      · have hL' := Bool.eq_false_iff.mpr hL
        rw [if_neg hL]
        by_cases h0 : (d.length : Int) = 0
        · rw [if_pos h0, jt, if_pos ⟨hL', .inl h0⟩]
        · rw [if_neg h0]
          by_cases hD : dgB c = true
          · have h32 := dg32 hD
            rw [if_pos hD, j, if_neg (fun h => h32 h.2.1), if_neg (fun h => h.2.elim h0 (fun h => absurd (hD.symm.trans h.1) (by decide))), if_neg (fun h => h32 h.1)]
            rfl
          · have hD' := Bool.eq_false_iff.mpr hD
            rw [if_neg hD]
            by_cases hJ : jtB c = true
            · rw [hJ, Bool.not_true, j]
              by_cases hz : (c : Int) = 32 ∧ jtB (lastN d) = true ∧ lastN d ≠ 46 ∧ lastN d ≠ 38
              · rw [if_pos ⟨by omega, hz⟩, if_neg (fun h => h.2.elim h0 (fun h => absurd h.2 (by decide))), if_pos hz]
              · rw [if_neg (fun h => hz h.2), if_neg (fun h => h.2.elim h0 (fun h => absurd h.2 (by decide))), if_neg hz]
                rfl
            · have hJ' := Bool.eq_false_iff.mpr hJ
              rw [hJ', Bool.not_false, jt, if_pos ⟨hL', .inr ⟨hD', rfl⟩⟩]
    · obtain ⟨k, rfl⟩ : ∃ k', k = k' + 1 := ⟨k - 1, by omega⟩
      exact check_end s d (by rw [hd, sg_end s _ pos hp]; simp) (by omega) (f + 1) pos k hp
theorem check_f (s : ByteArray) : ∃ k, lombardref04_Check.f k s = some (chk s) := by
  by_cases h : s.size > 160
  · refine ⟨0, ?_⟩
    unfold lombardref04_Check.f chk
    rw [if_pos (by omega), if_pos h]
  · refine ⟨2 * s.size + 5, ?_⟩
    unfold lombardref04_Check.f chk
    rw [if_neg (by omega), if_neg h, Signs_f s (by omega) _ (by omega), Option.bind_some]
    exact checkL_f s (by omega) s.size 0 _ [] rfl (by omega) (Nat.zero_le _) (by omega)
end Go.Proofs.YtbdcnfbidbffcaaDoor.NM

/- The law NameChecks walked. -/
set_option linter.unusedSimpArgs false
set_option linter.unusedVariables false
namespace Go.Proofs.YtbdcnfbidbffcaaDoor.NM
open Go Go.RowKit Go.Proofs Go.Proofs.YtbdcnfbidbffcaaDoor.PL Go.Proofs.YtbdcnfbidbffcaaDoorW.PrintWords
theorem rcheck_c (s : ByteArray) (w : World) : Calls Tryd.prog 10 #[.string s] w fun e w' => e = .returned (.tuple #[.int .i64 (chk s).1, .int .i64 (chk s).2]) ∧ Below w.heap.size w w' := by
  obtain ⟨k, hk⟩ := check_f s
  exact lombardref04_Check.calls k s _ _ w hk
set_option maxHeartbeats 1000000 in
set_option maxRecDepth 1000000 in
theorem checks_walk (s : ByteArray) (w : World) (hE : Env w) : Calls Tryd.prog 3 #[.string s] w fun e w' => e = .returned (.bool true) ∧ Below w.heap.size w w' := by
  obtain ⟨a, ha⟩ : ∃ a, (chk s).1 = a := ⟨_, rfl⟩
  obtain ⟨b, hb⟩ : ∃ b, (chk s).2 = b := ⟨_, rfl⟩
  have c1 := fun w => check_walk s w
  have c2 := fun w => rcheck_c s w
  rw [ha, hb] at c1 c2
  go_enter Tryd.func3, Tryd.ntmps3
  go_wp2_with (first
    | (go_at_call 9; refine (c1 _).mono ?_; rintro e W1 ⟨rfl, b1⟩)
    | (go_at_call 10; refine (c2 _).mono ?_; rintro e W2 ⟨rfl, b2⟩; have B2 := b1.trans (b2.mono b1.size))
    | (go_at_call 11; refine (awake_walk _ (hE.below B2)).mono ?_; rintro e W3 ⟨rfl, b3⟩; have B3 := B2.trans (b3.mono B2.size)))
  go_ret
  exact ⟨rfl, B3⟩
end Go.Proofs.YtbdcnfbidbffcaaDoor.NM

/- The row's frame: laid variables and the world's shape give Env. -/
set_option linter.unusedSimpArgs false
set_option linter.unusedVariables false
namespace Go.Proofs.YtbdcnfbidbffcaaDoor.NM
open Go Go.RowKit Go.Proofs
variable {H : Type} {enc : TypeId × Value → H}
theorem change_and_shaped {a : Assume} {C : Checked} {os : Os} {f : FuncId} {fn : Func} {s : ChangeSpec} {conds : List PathCond} {apart fresh handsOn again : Bool} {X : World → Array Value → Prop}
    (hX : ∀ (w w' : World) (args : Array Value), w.heap = w'.heap → X w args → X w' args)
    (own : ownKnob C.prog.godebug = none) (started : os.Started) (noInit : C.prog.inits.idxOf? f = none) (hfn : C.prog.funcs[f]? = some fn)
    (witness : ∃ (w : World) (tape : Tape) (i : Input), w.os = os ∧ (w.forCall tape i).Shaped C.prog ∧ i.vars = [] ∧ Input.okWide C.prog (w.forCall tape i) .any w.heap.size f i ∧
      ((s.pre enc C.prog fn conds apart (w.forCall tape i).memory i.args ∧ X (w.forCall tape i).memory i.args) ∧ sizedMet enc C.prog fn (OpenSpec.ofChange s) apart (w.forCall tape i).memory i.args) ∧ a.holds C.prog (lone (Frame.enter C.prog f i.args .normal) [] (w.forCall tape i)))
    (contract : ∀ (W : World) (base : Nat) (args : Array Value) (ds gs : List (DataW H)) (before : List MemPlace),
      (∀ (j : Nat) t v, fn.params[j]? = some t → args[j]? = some v → Value.okWide C.prog W .any base t v) →
      DataW.Whole enc C.prog fn.params.toList s.vars apart W args.toList ds gs before →
      X W args → W.ShapedOpen C.prog →
      Calls C.prog f args W fun e W' => ∃ v, e = .returned v ∧ s.post enc C.prog fn apart fresh handsOn again W args v W') :
    ReturnsInHanded a C os f .any (fun w args => (s.pre enc C.prog fn conds apart w args ∧ X w args) ∧ sizedMet enc C.prog fn (OpenSpec.ofChange s) apart w args) (s.post enc C.prog fn apart fresh handsOn again) := by
  refine returnsInHanded_of_calls own started noInit witness ?_
  intro w tape i _ hsh _ hok hpre hholds
  obtain ⟨_, _, _, fn', hfn', _, _, _, _, hval⟩ := hok
  have e : fn' = fn := Option.some.inj (hfn'.symm.trans hfn)
  subst e
  obtain ⟨⟨⟨ds, gs, before, hw, hc⟩, hx⟩, hz⟩ := hpre
  have hw' := DataW.Whole.of_heap (w' := w.forCall tape i) (by rfl) hw
  refine (contract (w.forCall tape i) w.heap.size i.args ds gs before hval hw' (hX _ _ _ (by rfl) hx) hsh).mono fun e W' ⟨v, he, hp⟩ => ?_
  subst he
  exact ChangeSpec.post_blind hp
theorem sp_data : (Rows.laid_strings_asciiSpace : DataW Unit) = Lib.tabData .u8 Lib.asciiSpaceTab := by kernel_rfl
theorem no_handles : (Rows.nameChecksRow.laid.all fun x => x.2.handleName?.isNone) = true := by kernel_rfl
theorem env_of {W : World} (hL : laidMetH Tryd.prog Rows.nameChecksRow.laid W) (hsh : W.ShapedOpen Tryd.prog) : Env W := by
  rw [MakeChecks.laidMetH_plain _ _ _ no_handles] at hL
  have hr := Lib.laidMet.reads hL (n := "strings.asciiSpace") (d := Rows.laid_strings_asciiSpace) (.tail _ (.tail _ (.head _)))
  rw [sp_data] at hr
  refine ⟨?_, Tryd.laysM146.s1_3 W hsh⟩
  obtain ⟨g, t, cs, fuel, p, hg, hty, hvar, hd⟩ := hr
  obtain rfl := Option.some.inj ((show Tryd.prog.globalNamed "strings.asciiSpace" = some 0 by kernel_rfl).symm.trans hg)
  obtain rfl := Option.some.inj ((show (Tryd.prog.globals[0]?).map (·.type) = some 75 by kernel_rfl).symm.trans hty)
  unfold Lib.TabIs
  rw [hvar, ← Lib.cells_of_tab Tryd.underlying75 Tryd.underlying5 (by kernel_rfl) (by kernel_rfl) hd]
end Go.Proofs.YtbdcnfbidbffcaaDoor.NM

namespace Go.Proofs.YtbdcnfbidbffcaaDoor.NM
open Go Go.RowKit Go.Proofs
/-- The witness: the settled world with two blocks more, the four variables holding what their initialisers lay. -/
noncomputable def laidWorld (os : Os) : World :=
  let N := (World.settled Tryd.prog os).heap.size
  let w0 := World.holding Tryd.prog os ⟨#[.cells (Lib.whiteT.map fun (z : Nat) => Value.int .u16 (z : Int)).toArray (Tryd.lays261_ren.t 198), .cells #[.slice (some ⟨N, 0, none⟩) 7 7, .slice none 0 0, .int .i64 2] (Tryd.lays261_ren.t 196)], #[], []⟩
  let put (h : Array Obj) (g : Nat) (cs : Array Value) : Array Obj := h.modify g fun
    | .cells _ t frozen => .cells cs t frozen
    | o => o
  { w0 with heap := put (put (put (put w0.heap 0 (Lib.asciiSpaceTab.map fun z => Value.int .u8 z).toArray) 3 (Lib.firstTab.map fun z => Value.int .u8 z).toArray)
      4 ((List.range 16).flatMap fun i => [Value.int .u8 (Lib.accLo i), Value.int .u8 (Lib.accHi i)]).toArray) 1 #[.pointer (some ⟨N + 1, 0, none⟩)] }
theorem door_met (os : Os) (args : Array Value) : laidMetH Tryd.prog Rows.nameChecksRow.laid ((laidWorld os).forCall (fun _ _ => 0) ⟨#[], args, []⟩).memory := by
  rw [MakeChecks.laidMetH_plain _ _ _ no_handles]
  exact laidMet_of_run3 10 (by kernel_rfl) (by kernel_rfl) (by kernel_rfl)
end Go.Proofs.YtbdcnfbidbffcaaDoor.NM

/- NameChecks holds (the row): whatever text comes in, the program's Check and the document's tell the same, and the chapter's examples hold. -/
namespace Go.Proofs.YtbdcnfbidbffcaaDoor.nameChecks
open Go Go.RowKit Go.ChangeShapes Go.WideShapes Go.ChangeAt Go.Proofs
open Go.ChangeMaps (open_string shut_string)
set_option linter.unusedVariables false
theorem laidOut : laidOutB Tryd.prog = true := by kernel_rfl
theorem own : ownKnob Tryd.prog.godebug = none := by kernel_rfl
set_option maxRecDepth 100000 in
theorem lifted (os : Os) (started : os.Started) (H : Type) (enc : TypeId × Value → H) :
    ReturnsInHanded {} Tryd.checked os 3 .any (fun w args => (Rows.nameChecksSpec.pre enc Tryd.prog Tryd.f3 [] false w args ∧ laidMetH Tryd.prog Rows.nameChecksRow.laid w) ∧ sizedMet enc Tryd.prog Tryd.f3 (OpenSpec.ofChange Rows.nameChecksSpec) false w args)
      (Rows.nameChecksSpec.post enc Tryd.prog Tryd.f3 false true false false) := by
  refine NM.change_and_shaped (C := Tryd.checked) (X := fun w _ => laidMetH Tryd.prog Rows.nameChecksRow.laid w) (fun _ _ _ hh h => h.of_heap hh) own started (by kernel_rfl) Tryd.func3
    (ChangeSpec.witness_shaped (enc := enc) (C := Tryd.checked) (os := os) (X := fun w _ => laidMetH Tryd.prog Rows.nameChecksRow.laid w) false (NM.laidWorld os) #[.string ByteArray.empty] 8 rfl (World.shaped_of_RefB (by kernel_rfl) (by kernel_rfl)) (by kernel_rfl) (by kernel_rfl) (by kernel_rfl) (NM.door_met os _)) ?_
  intro W base args ds gs before hval0 hW hL hsh
  have hval : ∀ (j : Nat) t v, Tryd.f3.params[j]? = some t → args[j]? = some v → Value.okWide Tryd.prog W .any base t v := hval0
  have hW' := hW
  obtain ⟨p, q, hA0, hV, rfl, hfz, hnd⟩ := hW
  have hA : DataW.TrodAll enc Tryd.prog W 0 (fun _ => true) true Tryd.f3.params.toList args.toList ds p := hA0
  rw [Tryd.params3] at hA hval
  obtain ⟨v0, vs0, d0, ds0, p0, q0, hargs, rfl, rfl, h0, r0⟩ := trodAll_cons hA
  obtain ⟨rfl, rfl, rfl⟩ := trodAll_nil r0
  obtain rfl : args = #[v0] := by cases args; simp_all
  obtain ⟨rfl, rfl⟩ := trodVars_none hV
  have k0 := h0
  have lt0 : ∀ x ∈ p0, x.block < W.heap.size := by obtain ⟨m, hm⟩ := k0; exact DataW.trod_lt m _ _ _ hm
  obtain ⟨x0, rfl, rfl, rfl, y0⟩ := open_string Tryd.underlying9 (hval 0 9 v0 rfl rfl) h0
  clear hA0 hval0
  have hE := NM.env_of hL hsh
  refine (NM.checks_walk x0 W hE).mono fun e W' ⟨he, bel⟩ => ?_
  subst he
  exact ⟨_, rfl, _, _, _, [], _, [], hW', trodAll_mk1 (shut_bool Tryd.underlying4 _), (trodAll_cons_mk (Below.trod laidOut (by kernel_rfl) (of_decide_eq_true (by kernel_rfl)) k0 bel lt0) trodAll_mk0), rfl, bel.frame _, fun h => by cases h⟩
theorem over : Rows.NameChecksSaid :=
  OpenClaim.holds_of_wide 3 Tryd.f3 rfl rfl rfl rfl rfl rfl rfl ⟨rfl, rfl, rfl, rfl, rfl⟩ rfl rfl rfl rfl rfl (by kernel_rfl) Tryd.func3 (by kernel_rfl)
    (of_decide_eq_true (by kernel_rfl)) (by unfold Func.isWrapper; first | (rw [if_pos (by decide +kernel)]; kernel_rfl) | (rw [if_neg (by decide +kernel)]; exact ⟨rfl, rfl⟩))
    (fun os started H enc _ => lifted os started H enc)
end Go.Proofs.YtbdcnfbidbffcaaDoor.nameChecks

namespace Go.Proofs.YtbdcnfbidbffcaaDoor
open Go
theorem nameChecks_holds : Rows.NameChecksCardSaid :=
  Claim7.holds_tied_plain_at .later [] [.data, .listed, .data, .pinned] true (true, "832b96fbe1c870795fcee04c664b50ab1e904139e6756e501b0b00adef925e31") false
    nameChecks.over (fun _ h => by cases h) (by kernel_rfl) (fun _ h => by cases h) nameChecks_row_tie rfl ⟨rfl, rfl⟩ (by kernel_rfl) rfl
    (fun f fn hf hfn => by
      obtain rfl : f = 3 := Option.some.inj ((show Tryd.prog.funcNamed "lombard/lombardlaw04.NameChecks" = some 3 by kernel_rfl).symm.trans hf) |>.symm
      obtain rfl : fn = Tryd.f3 := (Option.some.inj (Tryd.func3.symm.trans hfn)).symm
      exact ⟨by kernel_rfl, fun j t ht => by
        rw [Tryd.params3] at ht
        have hm : t ∈ [9] := by simpa using Array.mem_of_getElem? ht
        have hall : ([9].all fun u => !Tryd.prog.wantsStandIn u) = true := by kernel_rfl
        exact (show Tryd.prog.wantsStandIn t = false by simpa using List.all_eq_true.1 hall t hm)⟩)
    (by kernel_rfl)
#print axioms nameChecks_holds
end Go.Proofs.YtbdcnfbidbffcaaDoor
