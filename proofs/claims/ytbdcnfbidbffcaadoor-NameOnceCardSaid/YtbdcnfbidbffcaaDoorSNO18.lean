/- NameOnce holds (the tied card): whatever two texts come in, what is folded is folded no more and has as many signs, and texts that are the same have one plain form. Conditions: the library's listed tables start as the program's text lays them. -/
import Derived.Test.YtbdcnfbidbffcaaDoorSNO17
import Derived.Lib.SlicesS
import Derived.Test.YtbdcnfbidbffcaaDoorSNO16
import Derived.Test.YtbdcnfbidbffcaaDoorRows
import Derived.ProofKit
import Derived.LaidMore
import Derived.OpenShut
import Derived.ShutString
import Derived.SizedLaws
import Derived.Lib.LaidU8
import Derived.Deep.DeepLaidRun
import Derived.Test.YtbdcnfbidbffcaaDoorTie
import Derived.Test.YtbdcnfbidbffcaaDoorCards

set_option linter.unusedVariables false
set_option linter.unusedSimpArgs false
/- The laws NameFolds, NamePlain and NameOnce walked. -/
set_option linter.unusedSimpArgs false
set_option linter.unusedVariables false
namespace Go.Proofs.YtbdcnfbidbffcaaDoor.NM
open Go Go.RowKit Go.NM Go.Proofs Go.Proofs.YtbdcnfbidbffcaaDoor.PL Go.Proofs.YtbdcnfbidbffcaaDoorW.PrintWords
def sameB (s t : ByteArray) : Bool := (foldT s).toList == (foldT t).toList
theorem sameB_iff (s t : ByteArray) : sameB s t = true ↔ foldT s = foldT t := Lib.bytes_beq_iff _ _
theorem self_beq (F : ByteArray) : (F.toList == F.toList) = true := (Lib.bytes_beq_iff F F).2 rfl
set_option maxHeartbeats 1000000 in
set_option maxRecDepth 1000000 in
theorem same_walk (s t : ByteArray) (w : World) (hs : s.size ≤ 1000000) (ht : t.size ≤ 35000000) :
    Calls Tryd.prog 20 #[.string s, .string t] w fun e w' => e = .returned (.bool (sameB s t)) ∧ Below w.heap.size w w' := by
  unfold sameB
  have c1 : ∀ w, Calls Tryd.prog 18 #[.string s] w fun e w' => e = .returned (.string (foldT s)) ∧ Below w.heap.size w w' := fun w => fold_walk s w (by omega)
  have c2 : ∀ w, Calls Tryd.prog 18 #[.string t] w fun e w' => e = .returned (.string (foldT t)) ∧ Below w.heap.size w w' := fun w => fold_walk t w (by omega)
  generalize foldT s = F at *
  generalize foldT t = G at *
  go_enter Tryd.func20, Tryd.ntmps20
  go_wp2_with (first
    | (have B0 := b1; go_at_call 18; refine (c2 _).mono ?_; rintro e W2 ⟨rfl, b2⟩; have B2 := b1.trans (b2.mono b1.size))
    | (go_at_call 18; refine (c1 _).mono ?_; rintro e W1 ⟨rfl, b1⟩))
  go_ret
  exact ⟨rfl, B2⟩
/-! What is folded is folded no more. -/
theorem encL_codes (l : List (Nat × Nat)) : foldL l = encL ((l.map Prod.fst).map lowc) := by
  rw [foldL_enc, List.map_map]
  rfl
theorem fold_once (s : ByteArray) : foldT (foldT s) = foldT s := by
  have h : foldS (foldT s) = foldS s := by
    unfold foldS
    rw [encL_codes, encL_codes, codes_fold, List.map_map, List.map_map]
    congr 1
    apply List.map_congr_left
    intro x _
    exact low_low x.1
  show (⟨(foldS (foldT s)).toArray⟩ : ByteArray) = ⟨(foldS s).toArray⟩
  rw [h]
theorem count_once (s : ByteArray) : countS (foldT s) = countS s := by
  have h := congrArg List.length (codes_fold s)
  rw [List.length_map, List.length_map] at h
  unfold countS
  rw [h]
theorem plain_same {s t : ByteArray} (h : foldT s = foldT t) : plainT s = plainT t := by
  unfold plainT plainS
  rw [h]
theorem foldT_le (s : ByteArray) : (foldT s).size ≤ 4 * s.size := foldT_size s
set_option maxHeartbeats 1000000 in
set_option maxRecDepth 1000000 in
theorem once_walk (s t : ByteArray) (w : World) (hE : Env w) : Calls Tryd.prog 7 #[.string s, .string t] w fun e w' => e = .returned (.bool true) ∧ Below w.heap.size w w' := by
  by_cases h1 : s.size > 1000
  · have d1 : decide (1000 < s.size) = true := decide_eq_true h1
    have d1' : decide ((1000 : Int) < (s.size : Int)) = true := decide_eq_true (by omega)
    go_enter Tryd.func7, Tryd.ntmps7
    go_wp2_with (first | (go_at_call 11; refine (awake_walk _ (by exact hE)).mono ?_; rintro e W3 ⟨rfl, b3⟩))
    go_ret
    exact ⟨rfl, b3⟩
  have d1 : decide (1000 < s.size) = false := decide_eq_false h1
  have d1' : decide ((1000 : Int) < (s.size : Int)) = false := decide_eq_false (by omega)
  by_cases h2 : t.size > 1000
  · have d2 : decide (1000 < t.size) = true := decide_eq_true h2
    have d2' : decide ((1000 : Int) < (t.size : Int)) = true := decide_eq_true (by omega)
    go_enter Tryd.func7, Tryd.ntmps7
    go_wp2_with (first | (go_at_call 11; refine (awake_walk _ (by exact hE)).mono ?_; rintro e W3 ⟨rfl, b3⟩))
    go_ret
    exact ⟨rfl, b3⟩
  have d2 : decide (1000 < t.size) = false := decide_eq_false h2
  have d2' : decide ((1000 : Int) < (t.size : Int)) = false := decide_eq_false (by omega)
  have hfs := foldT_le s
  have c1 : ∀ w, Calls Tryd.prog 18 #[.string s] w fun e w' => e = .returned (.string (foldT s)) ∧ Below w.heap.size w w' := fun w => fold_walk s w (by omega)
  have c2 : ∀ w, Calls Tryd.prog 18 #[.string (foldT s)] w fun e w' => e = .returned (.string (foldT s)) ∧ Below w.heap.size w w' := fun w => by
    have h : Calls Tryd.prog 18 #[.string (foldT s)] w fun e w' => e = .returned (.string (foldT (foldT s))) ∧ Below w.heap.size w w' := fold_walk (foldT s) w (by omega)
    rw [fold_once] at h
    exact h
  have c3 : ∀ w, Calls Tryd.prog 21 #[.string (foldT s)] w fun e w' => e = .returned (.int .i64 (countS s)) ∧ Below w.heap.size w w' := fun w => by
    have h := count_walk (foldT s) w (by omega)
    rw [count_once] at h
    exact h
  have c4 := fun w => count_walk s w (by omega)
  have c5 : ∀ w, Calls Tryd.prog 20 #[.string s, .string (foldT s)] w fun e w' => e = .returned (.bool true) ∧ Below w.heap.size w w' := fun w => by
    have h := same_walk s (foldT s) w (by omega) (by omega)
    rw [(sameB_iff s (foldT s)).2 (fold_once s).symm] at h
    exact h
  have c6 := fun w => same_walk s t w (by omega) (by omega)
  have c7 : ∀ w, Env w → Calls Tryd.prog 12 #[.string s] w fun e w' => e = .returned (.string (plainT s)) ∧ Below w.heap.size w w' := fun w hw => Plain_walk s w (by omega) hw
  have c8 : ∀ w, Env w → Calls Tryd.prog 12 #[.string t] w fun e w' => e = .returned (.string (plainT t)) ∧ Below w.heap.size w w' := fun w hw => Plain_walk t w (by omega) hw
  have hF := self_beq (foldT s)
  have hP := self_beq (plainT s)
  by_cases hs : foldT s = foldT t
  · rw [(sameB_iff s t).2 hs] at c6
    rw [← plain_same hs] at c8
    clear hs
    generalize foldT s = F at *
    generalize plainT s = G at *
    generalize countS s = n at *
    have hn : (n == n) = true := beq_iff_eq.2 rfl
    go_enter Tryd.func7, Tryd.ntmps7
    go_wp2_with (first
      | (have Y := B8; go_at_call 11; refine (awake_walk _ (hE.below B8)).mono ?_; rintro e W9 ⟨rfl, b9⟩; have B9 := B8.trans (b9.mono B8.size))
      | (have Y := B7; go_at_call 12; refine (c8 _ (hE.below B7)).mono ?_; rintro e W8 ⟨rfl, b8⟩; have B8 := B7.trans (b8.mono B7.size))
      | (have Y := B6; go_at_call 12; refine (c7 _ (hE.below B6)).mono ?_; rintro e W7 ⟨rfl, b7⟩; have B7 := B6.trans (b7.mono B6.size))
      | (have Y := B5; go_at_call 20; refine (c6 _).mono ?_; rintro e W6 ⟨rfl, b6⟩; have B6 := B5.trans (b6.mono B5.size))
      | (have Y := B4; go_at_call 20; refine (c5 _).mono ?_; rintro e W5 ⟨rfl, b5⟩; have B5 := B4.trans (b5.mono B4.size))
      | (have Y := B3; go_at_call 21; refine (c4 _).mono ?_; rintro e W4 ⟨rfl, b4⟩; have B4 := B3.trans (b4.mono B3.size))
      | (have Y := B2; go_at_call 21; refine (c3 _).mono ?_; rintro e W3 ⟨rfl, b3⟩; have B3 := B2.trans (b3.mono B2.size))
      | (have Y := b1; go_at_call 18; refine (c2 _).mono ?_; rintro e W2 ⟨rfl, b2⟩; have B2 := b1.trans (b2.mono b1.size))
      | (go_at_call 18; refine (c1 _).mono ?_; rintro e W1 ⟨rfl, b1⟩))
    go_ret
    exact ⟨rfl, B9⟩
  · rw [Bool.eq_false_iff.2 fun h => hs ((sameB_iff s t).1 h)] at c6
    clear hs
    generalize foldT s = F at *
    generalize plainT s = G at *
    generalize countS s = n at *
    have hn : (n == n) = true := beq_iff_eq.2 rfl
    go_enter Tryd.func7, Tryd.ntmps7
    go_wp2_with (first
      | (have Y := B6; go_at_call 11; refine (awake_walk _ (hE.below B6)).mono ?_; rintro e W9 ⟨rfl, b9⟩; have B9 := B6.trans (b9.mono B6.size))
      | (have Y := B5; go_at_call 20; refine (c6 _).mono ?_; rintro e W6 ⟨rfl, b6⟩; have B6 := B5.trans (b6.mono B5.size))
      | (have Y := B4; go_at_call 20; refine (c5 _).mono ?_; rintro e W5 ⟨rfl, b5⟩; have B5 := B4.trans (b5.mono B4.size))
      | (have Y := B3; go_at_call 21; refine (c4 _).mono ?_; rintro e W4 ⟨rfl, b4⟩; have B4 := B3.trans (b4.mono B3.size))
      | (have Y := B2; go_at_call 21; refine (c3 _).mono ?_; rintro e W3 ⟨rfl, b3⟩; have B3 := B2.trans (b3.mono B2.size))
      | (have Y := b1; go_at_call 18; refine (c2 _).mono ?_; rintro e W2 ⟨rfl, b2⟩; have B2 := b1.trans (b2.mono b1.size))
      | (go_at_call 18; refine (c1 _).mono ?_; rintro e W1 ⟨rfl, b1⟩))
    go_ret
    exact ⟨rfl, B9⟩
end Go.Proofs.YtbdcnfbidbffcaaDoor.NM

/- The row's frame: laid variables and the world's shape give Env. -/
set_option linter.unusedSimpArgs false
set_option linter.unusedVariables false
namespace Go.Proofs.YtbdcnfbidbffcaaDoor.NM
open Go Go.RowKit Go.Proofs
variable {H : Type} {enc : TypeId × Value → H}
theorem change_and_shaped {a : Assume} {C : Checked} {os : Os} {f : FuncId} {fn : Func} {s : ChangeSpec} {conds : List PathCond} {apart fresh handsOn again : Bool} {X : World → Array Value → Prop}
    (hX : ∀ (w w' : World) (args : Array Value), w.heap = w'.heap → X w args → X w' args)
    (own : ownKnob C.prog.godebug = none) (started : os.Started) (noInit : C.prog.inits.idxOf? f = none) (hfn : C.prog.funcs[f]? = some fn)
    (witness : ∃ (w : World) (tape : Tape) (i : Input), w.os = os ∧ (w.forCall tape i).Shaped C.prog ∧ i.vars = [] ∧ Input.okWide C.prog (w.forCall tape i) .any w.heap.size f i ∧
      ((s.pre enc C.prog fn conds apart (w.forCall tape i).memory i.args ∧ X (w.forCall tape i).memory i.args) ∧ sizedMet enc C.prog fn (OpenSpec.ofChange s) apart (w.forCall tape i).memory i.args) ∧ a.holds C.prog (lone (Frame.enter C.prog f i.args .normal) [] (w.forCall tape i)))
    (contract : ∀ (W : World) (base : Nat) (args : Array Value) (ds gs : List (DataW H)) (before : List MemPlace),
      (∀ (j : Nat) t v, fn.params[j]? = some t → args[j]? = some v → Value.okWide C.prog W .any base t v) →
      DataW.Whole enc C.prog fn.params.toList s.vars apart W args.toList ds gs before →
      X W args → W.ShapedOpen C.prog →
      Calls C.prog f args W fun e W' => ∃ v, e = .returned v ∧ s.post enc C.prog fn apart fresh handsOn again W args v W') :
    ReturnsInHanded a C os f .any (fun w args => (s.pre enc C.prog fn conds apart w args ∧ X w args) ∧ sizedMet enc C.prog fn (OpenSpec.ofChange s) apart w args) (s.post enc C.prog fn apart fresh handsOn again) := by
  refine returnsInHanded_of_calls own started noInit witness ?_
  intro w tape i _ hsh _ hok hpre hholds
  obtain ⟨_, _, _, fn', hfn', _, _, _, _, hval⟩ := hok
  have e : fn' = fn := Option.some.inj (hfn'.symm.trans hfn)
  subst e
  obtain ⟨⟨⟨ds, gs, before, hw, hc⟩, hx⟩, hz⟩ := hpre
  have hw' := DataW.Whole.of_heap (w' := w.forCall tape i) (by rfl) hw
  refine (contract (w.forCall tape i) w.heap.size i.args ds gs before hval hw' (hX _ _ _ (by rfl) hx) hsh).mono fun e W' ⟨v, he, hp⟩ => ?_
  subst he
  exact ChangeSpec.post_blind hp
theorem sp_data : (Rows.laid_strings_asciiSpace : DataW Unit) = Lib.tabData .u8 Lib.asciiSpaceTab := by kernel_rfl
theorem no_handles : (Rows.nameChecksRow.laid.all fun x => x.2.handleName?.isNone) = true := by kernel_rfl
theorem env_of {W : World} (hL : laidMetH Tryd.prog Rows.nameChecksRow.laid W) (hsh : W.ShapedOpen Tryd.prog) : Env W := by
  rw [MakeChecks.laidMetH_plain _ _ _ no_handles] at hL
  have hr := Lib.laidMet.reads hL (n := "strings.asciiSpace") (d := Rows.laid_strings_asciiSpace) (.tail _ (.tail _ (.head _)))
  rw [sp_data] at hr
  refine ⟨?_, Tryd.laysM146.s1_3 W hsh⟩
  obtain ⟨g, t, cs, fuel, p, hg, hty, hvar, hd⟩ := hr
  obtain rfl := Option.some.inj ((show Tryd.prog.globalNamed "strings.asciiSpace" = some 0 by kernel_rfl).symm.trans hg)
  obtain rfl := Option.some.inj ((show (Tryd.prog.globals[0]?).map (·.type) = some 75 by kernel_rfl).symm.trans hty)
  unfold Lib.TabIs
  rw [hvar, ← Lib.cells_of_tab Tryd.underlying75 Tryd.underlying5 (by kernel_rfl) (by kernel_rfl) hd]
end Go.Proofs.YtbdcnfbidbffcaaDoor.NM

namespace Go.Proofs.YtbdcnfbidbffcaaDoor.NM
open Go Go.RowKit Go.Proofs
/-- The witness: the settled world with two blocks more, the four variables holding what their initialisers lay. -/
noncomputable def laidWorld (os : Os) : World :=
  let N := (World.settled Tryd.prog os).heap.size
  let w0 := World.holding Tryd.prog os ⟨#[.cells (Lib.whiteT.map fun (z : Nat) => Value.int .u16 (z : Int)).toArray (Tryd.lays261_ren.t 198), .cells #[.slice (some ⟨N, 0, none⟩) 7 7, .slice none 0 0, .int .i64 2] (Tryd.lays261_ren.t 196)], #[], []⟩
  let put (h : Array Obj) (g : Nat) (cs : Array Value) : Array Obj := h.modify g fun
    | .cells _ t frozen => .cells cs t frozen
    | o => o
  { w0 with heap := put (put (put (put w0.heap 0 (Lib.asciiSpaceTab.map fun z => Value.int .u8 z).toArray) 3 (Lib.firstTab.map fun z => Value.int .u8 z).toArray)
      4 ((List.range 16).flatMap fun i => [Value.int .u8 (Lib.accLo i), Value.int .u8 (Lib.accHi i)]).toArray) 1 #[.pointer (some ⟨N + 1, 0, none⟩)] }
theorem door_met (os : Os) (args : Array Value) : laidMetH Tryd.prog Rows.nameChecksRow.laid ((laidWorld os).forCall (fun _ _ => 0) ⟨#[], args, []⟩).memory := by
  rw [MakeChecks.laidMetH_plain _ _ _ no_handles]
  exact laidMet_of_run3 10 (by kernel_rfl) (by kernel_rfl) (by kernel_rfl)
end Go.Proofs.YtbdcnfbidbffcaaDoor.NM

/- NameOnce holds (the row): whatever two texts come in, what is folded is folded no more and has as many signs, and texts that are the same have one plain form. -/
namespace Go.Proofs.YtbdcnfbidbffcaaDoor.nameOnce
open Go Go.RowKit Go.ChangeShapes Go.WideShapes Go.ChangeAt Go.Proofs
open Go.ChangeMaps (open_string shut_string)
set_option linter.unusedVariables false
theorem laidOut : laidOutB Tryd.prog = true := by kernel_rfl
theorem own : ownKnob Tryd.prog.godebug = none := by kernel_rfl
theorem laid_eq : Rows.nameOnceRow.laid = Rows.nameChecksRow.laid := rfl
set_option maxRecDepth 100000 in
theorem lifted (os : Os) (started : os.Started) (H : Type) (enc : TypeId × Value → H) :
    ReturnsInHanded {} Tryd.checked os 7 .any (fun w args => (Rows.nameOnceSpec.pre enc Tryd.prog Tryd.f7 [] false w args ∧ laidMetH Tryd.prog Rows.nameOnceRow.laid w) ∧ sizedMet enc Tryd.prog Tryd.f7 (OpenSpec.ofChange Rows.nameOnceSpec) false w args)
      (Rows.nameOnceSpec.post enc Tryd.prog Tryd.f7 false true false false) := by
  refine NM.change_and_shaped (C := Tryd.checked) (X := fun w _ => laidMetH Tryd.prog Rows.nameOnceRow.laid w) (fun _ _ _ hh h => h.of_heap hh) own started (by kernel_rfl) Tryd.func7
    (ChangeSpec.witness_shaped (enc := enc) (C := Tryd.checked) (os := os) (X := fun w _ => laidMetH Tryd.prog Rows.nameOnceRow.laid w) false (NM.laidWorld os) #[.string ByteArray.empty, .string ByteArray.empty] 8 rfl (World.shaped_of_RefB (by kernel_rfl) (by kernel_rfl)) (by kernel_rfl) (by kernel_rfl) (by kernel_rfl) (by rw [laid_eq]; exact NM.door_met os _)) ?_
  intro W base args ds gs before hval0 hW hL hsh
  have hval : ∀ (j : Nat) t v, Tryd.f7.params[j]? = some t → args[j]? = some v → Value.okWide Tryd.prog W .any base t v := hval0
  have hW' := hW
  obtain ⟨p, q, hA0, hV, rfl, hfz, hnd⟩ := hW
  have hA : DataW.TrodAll enc Tryd.prog W 0 (fun _ => true) true Tryd.f7.params.toList args.toList ds p := hA0
  rw [Tryd.params7] at hA hval
  obtain ⟨v0, vs0, d0, ds0, p0, q0, hargs, rfl, rfl, h0, r0⟩ := trodAll_cons hA
  obtain ⟨v1, vs1, d1, ds1, p1, q1, rfl, rfl, rfl, h1, r1⟩ := trodAll_cons r0
  obtain ⟨rfl, rfl, rfl⟩ := trodAll_nil r1
  obtain rfl : args = #[v0, v1] := by cases args; simp_all
  obtain ⟨rfl, rfl⟩ := trodVars_none hV
  have k0 := h0
  have lt0 : ∀ x ∈ p0, x.block < W.heap.size := by obtain ⟨m, hm⟩ := k0; exact DataW.trod_lt m _ _ _ hm
  obtain ⟨x0, rfl, rfl, rfl, y0⟩ := open_string Tryd.underlying9 (hval 0 9 v0 rfl rfl) h0
  have k1 := h1
  have lt1 : ∀ x ∈ p1, x.block < W.heap.size := by obtain ⟨m, hm⟩ := k1; exact DataW.trod_lt m _ _ _ hm
  obtain ⟨x1, rfl, rfl, rfl, y1⟩ := open_string Tryd.underlying9 (hval 1 9 v1 rfl rfl) h1
  clear hA0 hval0
  have hE := NM.env_of (laid_eq ▸ hL) hsh
  refine (NM.once_walk x0 x1 W  hE).mono fun e W' ⟨he, bel⟩ => ?_
  subst he
  exact ⟨_, rfl, _, _, _, [], _, [], hW', trodAll_mk1 (shut_bool Tryd.underlying4 _), (trodAll_cons_mk (Below.trod laidOut (by kernel_rfl) (of_decide_eq_true (by kernel_rfl)) k0 bel lt0) (trodAll_cons_mk (Below.trod laidOut (by kernel_rfl) (of_decide_eq_true (by kernel_rfl)) k1 bel lt1) trodAll_mk0)), rfl, bel.frame _, fun h => by cases h⟩
theorem over : Rows.NameOnceSaid :=
  OpenClaim.holds_of_wide 7 Tryd.f7 rfl rfl rfl rfl rfl rfl rfl ⟨rfl, rfl, rfl, rfl, rfl⟩ rfl rfl rfl rfl rfl (by kernel_rfl) Tryd.func7 (by kernel_rfl)
    (of_decide_eq_true (by kernel_rfl)) (by unfold Func.isWrapper; first | (rw [if_pos (by decide +kernel)]; kernel_rfl) | (rw [if_neg (by decide +kernel)]; exact ⟨rfl, rfl⟩))
    (fun os started H enc _ => lifted os started H enc)
end Go.Proofs.YtbdcnfbidbffcaaDoor.nameOnce

namespace Go.Proofs.YtbdcnfbidbffcaaDoor
open Go
theorem nameOnce_holds : Rows.NameOnceCardSaid :=
  Claim7.holds_tied_plain_at .later [] [.data, .listed, .data, .pinned] true (true, "832b96fbe1c870795fcee04c664b50ab1e904139e6756e501b0b00adef925e31") false
    nameOnce.over (fun _ h => by cases h) (by kernel_rfl) (fun _ h => by cases h) nameOnce_row_tie rfl ⟨rfl, rfl⟩ (by kernel_rfl) rfl
    (fun f fn hf hfn => by
      obtain rfl : f = 7 := Option.some.inj ((show Tryd.prog.funcNamed "lombard/lombardlaw04.NameOnce" = some 7 by kernel_rfl).symm.trans hf) |>.symm
      obtain rfl : fn = Tryd.f7 := (Option.some.inj (Tryd.func7.symm.trans hfn)).symm
      exact ⟨by kernel_rfl, fun j t ht => by
        rw [Tryd.params7] at ht
        have hm : t ∈ [9, 9] := by simpa using Array.mem_of_getElem? ht
        have hall : ([9, 9].all fun u => !Tryd.prog.wantsStandIn u) = true := by kernel_rfl
        exact (show Tryd.prog.wantsStandIn t = false by simpa using List.all_eq_true.1 hall t hm)⟩)
    (by kernel_rfl)
#print axioms nameOnce_holds
end Go.Proofs.YtbdcnfbidbffcaaDoor
