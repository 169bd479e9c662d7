/- Part 19 of the proof's texts: what the theorem needs of them. -/
import Derived.Test.YtbdcnfbidbffcaaDoorSNG18
import Derived.Laws.IdiomStrings
import Derived.Lib.SplitLaws
import Derived.Lib.DecodeN
import Derived.Test.YtbdcnfbidbffcaaDoorSNG16

set_option linter.unusedVariables false
set_option linter.unusedSimpArgs false
/- name.Plain's walk. -/
set_option linter.unusedSimpArgs false
set_option linter.unusedVariables false
namespace Go.Proofs.YtbdcnfbidbffcaaDoor.NM
open Go Go.RowKit Go.Proofs Go.Proofs.YtbdcnfbidbffcaaDoor.PL Go.Proofs.YtbdcnfbidbffcaaDoorW.PrintWords
theorem buAt_below {B b : Nat} {p : Value} {bs : List Value} {w w' : World} (h : Lib.BuilderAt 45 5 B b p bs w) (hb : Below w.heap.size w w') : Lib.BuilderAt 45 5 B b p bs w' := by
  obtain ⟨hB, v, hbk, hown, hne⟩ := h
  refine ⟨hB, v, (hb.block _ (bu_lt hbk)).trans hbk, ⟨hown.1, ?_⟩, hne⟩
  rcases hown.2 with hn | ⟨g, cap, cur, hv, hbg, hg, rest⟩
  · exact .inl hn
  · exact .inr ⟨g, cap, cur, hv, hbg, (hb.block _ (bu_lt hg)).trans hg, rest⟩
theorem bu_below {B b : Nat} {l : Bs} {w w' : World} (h : Bu B b l w) (hb : Below w.heap.size w w') : Bu B b l w' :=
  h.elim (fun x => .inl (buAt_below x hb)) (fun x => .inr (buAt_below x hb))
def plStep (c : Nat) : Bs :=
  if c < 128 ∧ (ltB c = true ∨ dgB c = true) then Lib.encodeRune c
  else if c = 32 ∨ c = 45 then [32]
  else if 128 ≤ c then plN c else []
def plL : List (Nat × Nat) → Bs
  | [] => []
  | (c, _) :: l => plStep c ++ plL l
def upB (b : UInt8) : UInt8 := if 97 ≤ b.toNat ∧ b.toNat ≤ 122 then b - 32 else b
def foldT (s : ByteArray) : ByteArray := ⟨(foldS s).toArray⟩
def plainS (s : ByteArray) : Bs := (plL (signs (foldT s))).map upB
theorem plN_le (c : Nat) : (plN c).length ≤ 4 := by
  unfold plN trim1
  repeat' split
  all_goals first | decide | (simp only [List.length_cons, List.length_nil]; omega)
theorem plStep_le (c : Nat) : (plStep c).length ≤ 4 := by
  unfold plStep
  repeat' split
  · exact encode_le _
  · decide
  · exact plN_le c
  · decide
theorem foldL_le : ∀ (l : List (Nat × Nat)), (foldL l).length ≤ 4 * l.length
  | [] => Nat.le_refl _
  | (c, _) :: l => by
    rw [foldL, List.length_append, List.length_cons]
    have := foldL_le l
    have := encode_le (loN c)
    omega
theorem sg_len (s : ByteArray) : ∀ (f pos : Nat), (sg s f pos).length ≤ s.size - pos
  | 0, pos => Nat.zero_le _
  | f + 1, pos => by
    by_cases h : pos < s.size
    · rw [sg_step s f pos h, List.length_cons]
      have := sg_len s f (pos + (Utf8.decode s pos).2)
      have := width_pos s pos h
      omega
    · rw [sg_end s _ pos h]; exact Nat.zero_le _
theorem foldT_size (s : ByteArray) : (foldT s).size ≤ 4 * s.size := by
  show (foldS s).toArray.size ≤ _
  rw [List.size_toArray]
  have := foldL_le (signs s)
  have h2 := sg_len s s.size 0
  unfold foldS
  unfold signs at *
  omega
theorem rnd {wq : World} {r i : Nat} {l : Bs} (h : ∀ j, j < l.length → wq.cell? ⟨r, j, none⟩ = some (.int .u8 ((if j < i then upB (l.getD j 0) else l.getD j 0).toNat : Nat))) (hx : upB (l.getD i 0) = l.getD i 0) :
    ∀ j, j < l.length → wq.cell? ⟨r, j, none⟩ = some (.int .u8 ((if j < i + 1 then upB (l.getD j 0) else l.getD j 0).toNat : Nat)) := by
  intro j hj
  rw [h j hj]
  by_cases h1 : j < i
  · rw [if_pos h1, if_pos (by omega)]
  · rw [if_neg h1]
    by_cases h2 : j = i
    · subst h2
      rw [if_pos (by omega), hx]
    · rw [if_neg (by omega)]
theorem up_sub {x : UInt8} (h : 97 ≤ x.toNat) (h2 : x.toNat ≤ 122) : ((upB x).toNat : Int) = (x.toNat : Int) - 32 := by
  unfold upB
  rw [if_pos ⟨h, h2⟩]
  have := UInt8.toNat_sub_of_le x 32 (by rw [UInt8.le_iff_toNat_le]; show 32 ≤ x.toNat; omega)
  rw [this]
  show ((x.toNat - 32 : Nat) : Int) = _
  omega
theorem rnd2 {wq : World} {r i : Nat} {l : Bs} {v : Int} (h : ∀ j, j < l.length → wq.cell? ⟨r, j, none⟩ = some (.int .u8 ((if j < i then upB (l.getD j 0) else l.getD j 0).toNat : Nat))) (hi : i < l.length) (hx : ((upB (l.getD i 0)).toNat : Int) = v) :
    ∀ j, j < l.length → (wq.setCell ⟨r, i, none⟩ (.int .u8 v)).cell? ⟨r, j, none⟩ = some (.int .u8 ((if j < i + 1 then upB (l.getD j 0) else l.getD j 0).toNat : Nat)) := by
  intro j hj
  by_cases h2 : j = i
  · subst h2
    rw [World.cell?_setCell_same _ _ _ (h j hj), if_pos (by omega), hx]
  · rw [World.cell?_setCell_other, h j hj]
    · by_cases h1 : j < i
      · rw [if_pos h1, if_pos (by omega)]
      · rw [if_neg h1, if_neg (by omega)]
    · intro e
      exact h2 (by injection e with _ e2; exact e2.symm)
theorem cells_map {wq : World} {r i : Nat} {l : Bs} (h : ∀ j, j < l.length → wq.cell? ⟨r, j, none⟩ = some (.int .u8 ((if j < i then upB (l.getD j 0) else l.getD j 0).toNat : Nat))) (hi : l.length ≤ i) :
    ∀ j (hj : j < (l.map upB).length), wq.cell? ((⟨r, 0, none⟩ : Addr).add j) = some (.int .u8 (((l.map upB)[j].toNat : Nat) : Int)) := by
  intro j hj
  have hj' : j < l.length := by simpa using hj
  have := h j hj'
  rw [if_pos (by omega)] at this
  rw [show (⟨r, 0, none⟩ : Addr).add j = ⟨r, j, none⟩ by simp [Addr.add]; exact fun h => h.symm, this, List.getElem_map, List.getD_eq_getElem?_getD, List.getElem?_eq_getElem hj']
  rfl
theorem bytes_cells (w : World) (l : Bs) : ∀ j, j < l.length → (Lib.bytesWorld w 5 ⟨l.toArray⟩).cell? ⟨w.heap.size, j, none⟩ = some (.int .u8 ((l.getD j 0).toNat : Nat)) := by
  intro j hj
  exact Lib.bytesWorld_cell w 5 ⟨l.toArray⟩ j (by show j < l.toArray.size; rw [List.size_toArray]; exact hj)
theorem bytes_frozen (w : World) (l : Bs) : ∀ j, j < l.length → (Lib.bytesWorld w 5 ⟨l.toArray⟩).frozen? ⟨w.heap.size, j, none⟩ = false := by
  intro j hj
  have h1 := Lib.bytesWorld_at_new w 5 ⟨l.toArray⟩
  have h2 : l.length ≤ (Lib.bytesCells w 5 ⟨l.toArray⟩).size := by
    unfold Lib.bytesCells
    rw [Array.size_append, Array.size_map, List.size_toArray]
    omega
  unfold World.frozen?
  rw [h1]
  simp
  omega
set_option maxHeartbeats 4000000 in
set_option maxRecDepth 1000000 in
theorem Plain_walk (s : ByteArray) (w : World) (hs : s.size ≤ 1000000) (hE : Env w) :
    Calls Tryd.prog 12 #[.string s] w fun e w' => e = .returned (.string ⟨(plainS s).toArray⟩) ∧ Below w.heap.size w w' := by
  unfold plainS
  have hfs := foldT_size s
  generalize hv : plL (signs (foldT s)) = v
  go_enter Tryd.func12, Tryd.ntmps12
  go_wp2_with (go_at_call 18; refine (fold_walk s _ (by omega)).mono ?_)
  rintro e W ⟨rfl, bF⟩
  have bW : Below w.heap.size w W := ((Below.refl _ w).alloc (Nat.le_refl _) _).trans (bF.mono (by simp))
  have hBW : Bu w.heap.size w.heap.size [] W := bu_below (Lib.fresh_isBuilder 45 5 w) bF
  have hWs : w.heap.size < W.heap.size := by have := bF.size; simp at this; omega
  rw [show (⟨(foldS s).toArray⟩ : ByteArray) = foldT s from rfl]
  generalize hF : foldT s = F at *
  go_wp2
  go_loopw [] (fun wr => ∃ (pos fuel : Nat) (acc : Bs), Bu w.heap.size w.heap.size acc wr ∧ wr.heap[W.heap.size]? = some (.stringIter F pos) ∧ Below w.heap.size w wr ∧ acc ++ plL (sg F fuel pos) = v ∧ F.size ≤ pos + fuel ∧ acc.length ≤ 4 * (min pos F.size)) (fun wr => F.size - wr.iterPos W.heap.size)
  case atStart =>
    refine ⟨0, F.size, [], bu_alloc hBW _, ?_, bW.alloc (by omega) _, by rw [← hv]; rfl, by omega, by simp⟩
    have := World.iter_heap W F 0
    simpa using this
  case round =>
    obtain ⟨pos, fuel, acc, hI, hit, hbw, hacc, hfu, hal⟩ := hrel
    have hsz : W.heap.size < wr.heap.size := (Array.getElem?_eq_some_iff.1 hit).1
    by_cases hp : pos < F.size
    · have hnx : ∀ ty, (Instr.next (.pointer (some ⟨W.heap.size, 0, none⟩)) true ty).run Tryd.prog wr = _ := fun ty => Lib.run_next_any_at wr W.heap.size F pos ty hit hp
      obtain ⟨f, rfl⟩ : ∃ f, fuel = f + 1 := ⟨fuel - 1, by omega⟩
      rw [sg_step F f pos hp, plL] at hacc
      have hwd := width_pos F pos hp
      have hd1 := decode_le F pos
      have hI2 := bu_iter hI hit (pos + (Utf8.decode F pos).2)
      have hit2 := Lib.iterAt_heap wr W.heap.size F pos (pos + (Utf8.decode F pos).2) hit
      have hbw2 := Lib.below_iterAt hbw (k := W.heap.size) (by omega) F (pos + (Utf8.decode F pos).2)
      have hsz2 : W.heap.size < (wr.iterAt W.heap.size F (pos + (Utf8.decode F pos).2)).heap.size := by rw [Lib.iterAt_size]; omega
      generalize hc : Utf8.decode F pos = cw at *
      obtain ⟨c, wd⟩ := cw
      simp only at *
      generalize hw1 : wr.iterAt W.heap.size F (pos + wd) = w1 at *
      have hel := encode_le c
      have hst := plStep_le c
      by_cases h128 : c < 128
      · have d128 : decide ((c : Int) < 128) = true := decide_eq_true (by omega)
        by_cases hL : ltB c = true
        · have hS : plStep c = Lib.encodeRune c := if_pos ⟨h128, .inl hL⟩
          rw [hS] at hacc
          go_wp2_with (first | (first | (go_at_call 24; refine (letter_c _ _).mono ?_; rintro e W1 ⟨rfl, ⟨nd, rfl⟩⟩) | (go_at_call 25; refine (digit_c _ _).mono ?_; rintro e W1 ⟨rfl, ⟨nd, rfl⟩⟩)) | (go_at_call 30; refine (wr_any (l := acc) (by omega) (by omega) (bu_drew hI2 _) (by omega) (by simp only [World.heap_drewN]; omega)).mono ?_; rintro e W2 ⟨⟨nn, rfl⟩, h1, b1, k1⟩))
          go_roundw
          case rel => exact ⟨pos + wd, f, acc ++ Lib.encodeRune c, .inr h1, k1.iter (w := w1.drewN _) hit2 (by omega), (hbw2.trans (Drawn0.below' ⟨⟨_, rfl⟩⟩)).trans b1, by rw [← hacc, List.append_assoc], by omega, by rw [List.length_append]; omega⟩
          case measure =>
            simp only [World.iterPos, World.heap_drewN, k1.iter (w := w1.drewN _) hit2 (by omega), hit]
            omega
        replace hL := Bool.eq_false_iff.mpr hL
        by_cases hD : dgB c = true
        · have hS : plStep c = Lib.encodeRune c := if_pos ⟨h128, .inr hD⟩
          rw [hS] at hacc
          go_wp2_with (first | (first | (go_at_call 24; refine (letter_c _ _).mono ?_; rintro e W1 ⟨rfl, ⟨nd, rfl⟩⟩) | (go_at_call 25; refine (digit_c _ _).mono ?_; rintro e W1 ⟨rfl, ⟨nd, rfl⟩⟩)) | (go_at_call 30; refine (wr_any (l := acc) (by omega) (by omega) (bu_drew hI2 _) (by omega) (by simp only [World.heap_drewN]; omega)).mono ?_; rintro e W2 ⟨⟨nn, rfl⟩, h1, b1, k1⟩))
          go_roundw
          case rel => exact ⟨pos + wd, f, acc ++ Lib.encodeRune c, .inr h1, k1.iter (w := w1.drewN _) hit2 (by omega), (hbw2.trans (Drawn0.below' ⟨⟨_, rfl⟩⟩)).trans b1, by rw [← hacc, List.append_assoc], by omega, by rw [List.length_append]; omega⟩
          case measure =>
            simp only [World.iterPos, World.heap_drewN, k1.iter (w := w1.drewN _) hit2 (by omega), hit]
            omega
        replace hD := Bool.eq_false_iff.mpr hD
        have hS0 : ¬ (c < 128 ∧ (ltB c = true ∨ dgB c = true)) := by rw [hL, hD]; simp
        by_cases h32 : c = 32 ∨ c = 45
        · have hS : plStep c = [32] := by unfold plStep; rw [if_neg hS0, if_pos h32]
          rw [hS] at hacc
          rcases h32 with rfl | rfl
          · skip
            go_wp2_with (first | (first | (go_at_call 24; refine (letter_c _ _).mono ?_; rintro e W1 ⟨rfl, ⟨nd, rfl⟩⟩) | (go_at_call 25; refine (digit_c _ _).mono ?_; rintro e W1 ⟨rfl, ⟨nd, rfl⟩⟩)) | (go_at_call 31; refine (wb_any (l := acc) (c := 32) (bu_drew hI2 _) (by omega) (by simp only [World.heap_drewN]; omega)).mono ?_; rintro e W2 ⟨rfl, h1, b1, k1⟩))
            go_roundw
            case rel => exact ⟨pos + wd, f, acc ++ [32], .inr h1, k1.iter (w := w1.drewN _) hit2 (by omega), (hbw2.trans (Drawn0.below' ⟨⟨_, rfl⟩⟩)).trans b1, by rw [← hacc, List.append_assoc], by omega, by rw [List.length_append, show ([32] : Bs).length = 1 from rfl]; omega⟩
            case measure =>
              simp only [World.iterPos, World.heap_drewN, k1.iter (w := w1.drewN _) hit2 (by omega), hit]
              omega
          · skip
            go_wp2_with (first | (first | (go_at_call 24; refine (letter_c _ _).mono ?_; rintro e W1 ⟨rfl, ⟨nd, rfl⟩⟩) | (go_at_call 25; refine (digit_c _ _).mono ?_; rintro e W1 ⟨rfl, ⟨nd, rfl⟩⟩)) | (go_at_call 31; refine (wb_any (l := acc) (c := 32) (bu_drew hI2 _) (by omega) (by simp only [World.heap_drewN]; omega)).mono ?_; rintro e W2 ⟨rfl, h1, b1, k1⟩))
            go_roundw
            case rel => exact ⟨pos + wd, f, acc ++ [32], .inr h1, k1.iter (w := w1.drewN _) hit2 (by omega), (hbw2.trans (Drawn0.below' ⟨⟨_, rfl⟩⟩)).trans b1, by rw [← hacc, List.append_assoc], by omega, by rw [List.length_append, show ([32] : Bs).length = 1 from rfl]; omega⟩
            case measure =>
              simp only [World.iterPos, World.heap_drewN, k1.iter (w := w1.drewN _) hit2 (by omega), hit]
              omega
        have e32 : ((c : Int) == 32) = false := beq_eq_false_iff_ne.mpr (by omega)
        have e45 : ((c : Int) == 45) = false := beq_eq_false_iff_ne.mpr (by omega)
        have g128 : decide (128 ≤ (c : Int)) = false := decide_eq_false (by omega)
        have hS : plStep c = [] := by unfold plStep; rw [if_neg hS0, if_neg h32, if_neg (by omega)]
        rw [hS, List.nil_append] at hacc
        go_wp2_with (first | (go_at_call 24; refine (letter_c _ _).mono ?_; rintro e W1 ⟨rfl, ⟨nd, rfl⟩⟩) | (go_at_call 25; refine (digit_c _ _).mono ?_; rintro e W1 ⟨rfl, ⟨nd, rfl⟩⟩))
        go_roundw
        case rel => exact ⟨pos + wd, f, acc, bu_drew hI2 _, hit2, hbw2.trans (Drawn0.below' ⟨⟨_, rfl⟩⟩), hacc, by omega, by omega⟩
        case measure =>
          simp only [World.iterPos, World.heap_drewN, hit2, hit]
          omega
      · have d128 : decide ((c : Int) < 128) = false := decide_eq_false (by omega)
        have e32 : ((c : Int) == 32) = false := beq_eq_false_iff_ne.mpr (by omega)
        have e45 : ((c : Int) == 45) = false := beq_eq_false_iff_ne.mpr (by omega)
        have g128 : decide (128 ≤ (c : Int)) = true := decide_eq_true (by omega)
        have hS : plStep c = plN c := by unfold plStep; rw [if_neg (fun h => h128 h.1), if_neg (by omega), if_pos (by omega)]
        have hpl := plN_le c
        rw [hS] at hacc
        have hE1 : Env w1 := hE.below hbw2
        go_wp2_with (go_at_call 33; refine (plain_walk c _ hE1).mono ?_; rintro e W2 ⟨rfl, bp⟩)
        have hit3 : W2.heap[W.heap.size]? = some (.stringIter F (pos + wd)) := (bp.block _ (by omega)).trans hit2
        have hI3 : Bu w.heap.size w.heap.size acc W2 := bu_below hI2 bp
        have hsz3 : w.heap.size ≤ W2.heap.size := by have := bp.size; omega
        have hbw3 : Below w.heap.size w W2 := hbw2.trans (bp.mono (by omega))
        go_wp2_with (go_at_call 32; refine (ws_any (l := acc) hI3 (by show acc.length + (plN c).toArray.size ≤ _; rw [List.size_toArray]; omega) hsz3).mono ?_; rintro e W3 ⟨⟨nn, rfl⟩, h1, b1, k1⟩)
        go_roundw
        case rel => exact ⟨pos + wd, f, acc ++ plN c, .inr h1, k1.iter hit3 (by omega), (hbw3).trans b1, by rw [← hacc, List.append_assoc], by omega, by rw [List.length_append]; omega⟩
        case measure =>
          simp only [World.iterPos, World.heap_drewN, k1.iter hit3 (by omega), hit]
          omega
    · have hnx : ∀ ty, (Instr.next (.pointer (some ⟨W.heap.size, 0, none⟩)) true ty).run Tryd.prog wr = _ := fun ty => Lib.run_next_end_at wr W.heap.size F pos ty hit hp
      rw [sg_end F fuel pos hp, plL, List.append_nil] at hacc
      subst hacc
      go_wp2_with (go_at_call 34; refine (Tryd.Builder_String_any_k w.heap.size w.heap.size acc _ (Lib.IsBuilderF.of hI) (by omega)).mono ?_)
      rintro e W1 ⟨rfl, _, b1, _⟩
      go_wp2
      have bW1 : Below w.heap.size w W1 := hbw.trans b1
      have hW1 : w.heap.size ≤ W1.heap.size := bW1.size
      rw [Lib.run_convert_string_bytes W1 9 43 5 _ Tryd.underlying9 Tryd.underlying43 Tryd.underlying5]
      simp only [Result.andThen]
      rw [Oper.upon_value]
      have hbB : Below w.heap.size w (Lib.bytesWorld W1 5 ⟨acc.toArray⟩) := bW1.trans ((bytesWorld_below W1 5 _).mono hW1)
      have hcB := Aside0.mk (bytes_cells W1 acc)
      have hfB := Aside0.mk (bytes_frozen W1 acc)
      rw [show (⟨acc.toArray⟩ : ByteArray).size = acc.length from List.size_toArray ..]
      have hnle : acc.length ≤ 16000000 := by omega
      generalize grownCap W1 acc.length 0 5 = cap
      generalize Lib.bytesWorld W1 5 ⟨acc.toArray⟩ = WB at *
      generalize hr : W1.heap.size = r at *
      go_wp2
      go_loopw [46] (fun v46 wq => ∃ i : Nat, v46 = .int .i64 i ∧ i ≤ acc.length ∧ Aside0 (∀ j, j < acc.length → wq.cell? ⟨r, j, none⟩ = some (.int .u8 ((if j < i then upB (acc.getD j 0) else acc.getD j 0).toNat : Nat))) ∧ Aside0 (∀ j, j < acc.length → wq.frozen? ⟨r, j, none⟩ = false) ∧ Below w.heap.size w wq) (fun v46 _ => acc.length - (match v46 with | .int _ i => i.toNat | _ => 0))
      case atStart => exact ⟨0, rfl, Nat.zero_le _, ⟨fun j hj => by rw [if_neg (Nat.not_lt_zero j)]; exact hcB.out j hj⟩, hfB, hbB⟩
      case round =>
        obtain ⟨i, rfl, hin, hcc, hff, hbq⟩ := hrel
        by_cases hi : i < acc.length
        · have di : decide ((i : Int) < (acc.length : Int)) = true := decide_eq_true (by omega)
          have din : decide (i < acc.length) = true := decide_eq_true (by omega)
          have hci := hcc.out i hi
          have hfi := hff.out i hi
          rw [if_neg (Nat.lt_irrefl i)] at hci
          have hx := (acc.getD i 0).toNat_lt
          generalize hxe : acc.getD i 0 = x at *
          by_cases h97 : 97 ≤ x.toNat
          · have d97 : decide (97 ≤ (x.toNat : Int)) = true := decide_eq_true (by omega)
            have d97n : decide (97 ≤ x.toNat) = true := decide_eq_true (by omega)
            by_cases h122 : x.toNat ≤ 122
            · have d122 : decide ((x.toNat : Int) ≤ 122) = true := decide_eq_true (by omega)
              have d122n : decide (x.toNat ≤ 122) = true := decide_eq_true (by omega)
              have hw8 : ((x.toNat : Int) - 32) % 256 = (x.toNat : Int) - 32 := by omega
              go_wp2
              go_roundw
              case rel => exact ⟨i + 1, rfl, hi, ⟨rnd2 hcc.out hi (by rw [hxe]; exact up_sub h97 h122)⟩, ⟨fun j hj => by rw [World.frozen?_setCell]; exact hff.out j hj⟩, hbq.setCell (p := ⟨r, i, none⟩) hW1 _⟩
              case measure => show acc.length - ((i : Int) + 1).toNat < acc.length - ((i : Nat) : Int).toNat; omega
            · have d122 : decide ((x.toNat : Int) ≤ 122) = false := decide_eq_false (by omega)
              have d122n : decide (x.toNat ≤ 122) = false := decide_eq_false (by omega)
              go_wp2
              go_roundw
              case rel => exact ⟨i + 1, rfl, hi, ⟨rnd hcc.out (by rw [hxe]; exact if_neg (by omega))⟩, hff, hbq⟩
              case measure => show acc.length - ((i : Int) + 1).toNat < acc.length - ((i : Nat) : Int).toNat; omega
          · have d97 : decide (97 ≤ (x.toNat : Int)) = false := decide_eq_false (by omega)
            have d97n : decide (97 ≤ x.toNat) = false := decide_eq_false (by omega)
            go_wp2
            go_roundw
            case rel => exact ⟨i + 1, rfl, hi, ⟨rnd hcc.out (by rw [hxe]; exact if_neg (by omega))⟩, hff, hbq⟩
            case measure => show acc.length - ((i : Int) + 1).toNat < acc.length - ((i : Nat) : Int).toNat; omega
        · have di : decide ((i : Int) < (acc.length : Int)) = false := decide_eq_false (by omega)
          have din : decide (i < acc.length) = false := decide_eq_false (by omega)
          have hconv := run_convert_bytes_back (P := Tryd.prog) wr 43 9 5 ⟨r, 0, none⟩ cap (acc.map upB) Tryd.underlying43 Tryd.underlying5 Tryd.underlying9 (cells_map hcc.out (by omega))
          rw [List.length_map] at hconv
          go_wp2
          go_ret
          exact ⟨rfl, hbq⟩
end Go.Proofs.YtbdcnfbidbffcaaDoor.NM

/- name.Short's walk. -/
set_option linter.unusedSimpArgs false
set_option linter.unusedVariables false
namespace Go.Proofs.YtbdcnfbidbffcaaDoor.NM
open Go Go.RowKit Go.Proofs Go.Proofs.YtbdcnfbidbffcaaDoor.PL Go.Proofs.YtbdcnfbidbffcaaDoorW.PrintWords
def sp1 : ByteArray := ⟨#[32]⟩
/-- The first letter of each word. -/
def firsts : List ByteArray → Bs
  | [] => []
  | t :: l => t.data.toList.take 1 ++ firsts l
def words (p : ByteArray) : List ByteArray := Lib.splitB sp1 0 (Lib.countB p sp1) p
def plainT (s : ByteArray) : ByteArray := ⟨(plainS s).toArray⟩
def shortS (s : ByteArray) : Bs := firsts (words (plainT s))
theorem words_len (p : ByteArray) : (words p).length = Lib.countB p sp1 + 1 := Lib.splitB_all sp1 (Nat.le_refl 1) 0 _ p rfl
theorem plL_le : ∀ (l : List (Nat × Nat)), (plL l).length ≤ 4 * l.length
  | [] => Nat.le_refl _
  | (c, _) :: l => by
    rw [plL, List.length_append, List.length_cons]
    have := plL_le l
    have := plStep_le c
    omega
theorem plainT_size (s : ByteArray) : (plainT s).size ≤ 16 * s.size := by
  show (plainS s).toArray.size ≤ _
  rw [List.size_toArray]
  unfold plainS
  rw [List.length_map]
  have := plL_le (signs (foldT s))
  have h2 := sg_len (foldT s) (foldT s).size 0
  have h3 := foldT_size s
  unfold signs at *
  omega
theorem words_le (p : ByteArray) : (words p).length ≤ p.size + 1 := by
  rw [words_len]
  have := Lib.countB_le sp1 (Nat.le_refl 1) _ p (Nat.le_refl _)
  omega
theorem firsts_take : ∀ (l : List ByteArray) (i : Nat) (h : i < l.length), firsts (l.take (i + 1)) = firsts (l.take i) ++ (l[i]).data.toList.take 1
  | t :: l, 0, h => by simp [firsts]
  | t :: l, i + 1, h => by
    rw [List.take_succ_cons, List.take_succ_cons, firsts, firsts, firsts_take l i (by simpa using h), List.append_assoc]
    rfl
theorem firsts_le : ∀ (l : List ByteArray), (firsts l).length ≤ l.length
  | [] => Nat.le_refl _
  | t :: l => by
    rw [firsts, List.length_append, List.length_cons]
    have := firsts_le l
    have : (t.data.toList.take 1).length ≤ 1 := List.length_take_le ..
    omega
set_option maxHeartbeats 1000000 in
set_option maxRecDepth 1000000 in
theorem Short_walk (s : ByteArray) (w : World) (hs : s.size ≤ 1000000) (hE : Env w) :
    Calls Tryd.prog 14 #[.string s] w fun e w' => e = .returned (.string ⟨(shortS s).toArray⟩) ∧ Below w.heap.size w w' := by
  unfold shortS
  have hps := plainT_size s
  have hwl := words_le (plainT s)
  have hwc := words_len (plainT s)
  go_enter Tryd.func14, Tryd.ntmps14
  go_wp2_with (go_at_call 12; refine (Plain_walk s _ hs (hE.below ((Below.refl _ w).alloc (Nat.le_refl _) _))).mono ?_)
  rintro e W ⟨rfl, bF⟩
  have bW : Below w.heap.size w W := ((Below.refl _ w).alloc (Nat.le_refl _) _).trans (bF.mono (by simp))
  have hBW : Bu w.heap.size w.heap.size [] W := bu_below (Lib.fresh_isBuilder 45 5 w) bF
  have hWs : w.heap.size < W.heap.size := by have := bF.size; simp at this; omega
  rw [show (⟨(plainS s).toArray⟩ : ByteArray) = plainT s from rfl]
  generalize hF : plainT s = F at *
  obtain ⟨m, hm⟩ := (hE.below bW).len
  go_wp2_with (go_at_call 38; refine (Tryd.strings_Split F sp1 m _ (by omega) hm (Nat.le_refl 1)).mono ?_)
  rintro e W1 ⟨rfl, rfl⟩
  rw [show Lib.splitB sp1 0 (Lib.countB F sp1) F = words F from rfl, ← hwc]
  clear hwc
  generalize hL : words F = L at *
  have bW1 : Below w.heap.size w (W.alloc (.cells (L.map Value.string).toArray 9)) := bW.alloc (by omega) _
  have hBW1 : Bu w.heap.size w.heap.size [] (W.alloc (.cells (L.map Value.string).toArray 9)) := bu_alloc hBW _
  have hcl : (W.alloc (.cells (L.map Value.string).toArray 9)).heap[W.heap.size]? = some (.cells (L.map Value.string).toArray 9 (0, 0)) := by show (W.heap.push _)[W.heap.size]? = _; simp
  generalize W.alloc (.cells (L.map Value.string).toArray 9) = W1 at *
  generalize hr : W.heap.size = r at *
  go_wp2
  go_loopw [10] (fun v10 wq => ∃ i : Nat, v10 = .int .i64 i ∧ i ≤ L.length ∧ Bu w.heap.size w.heap.size (firsts (L.take i)) wq ∧ wq.heap[r]? = some (.cells (L.map Value.string).toArray 9 (0, 0)) ∧ Below w.heap.size w wq) (fun v10 _ => L.length - (match v10 with | .int _ i => i.toNat | _ => 0))
  case atStart => exact ⟨0, rfl, Nat.zero_le _, by rw [List.take_zero]; exact hBW1, hcl, bW1⟩
  case round =>
    obtain ⟨i, rfl, hin, hI, hcc, hbq⟩ := hrel
    have hsz : r < wr.heap.size := bu_lt hcc
    by_cases hi : i < L.length
    · have di : decide ((i : Int) < (L.length : Int)) = true := decide_eq_true (by omega)
      have din : decide (i < L.length) = true := decide_eq_true (by omega)
      have hci : wr.cell? ⟨r, i, none⟩ = some (.string L[i]) := by
        rw [Lib.cell_of_heap hcc]
        simp [hi]
      have hft := firsts_take L i hi
      have hfl := firsts_le (L.take i)
      rw [List.length_take] at hfl
      generalize hx : L[i] = x at *
      by_cases hz : x = ⟨#[]⟩
      · subst hz
        go_wp2
        go_roundw
        case rel => exact ⟨i + 1, rfl, hi, by rw [hft]; simpa using hI, hcc, hbq⟩
        case measure => show L.length - ((i : Int) + 1).toNat < L.length - ((i : Nat) : Int).toNat; omega
      · obtain ⟨c, t, hct⟩ : ∃ c t, x.data.toList = c :: t := by
          cases h : x.data.toList with
          | nil => exact absurd (ByteArray.ext (Array.toList_inj.1 (by rw [h]))) hz
          | cons c t => exact ⟨c, t, rfl⟩
        have hne : (!x.toList.isEmpty) = true := by rw [ByteArray.toList_eq, hct]; rfl
        have hsz0 : 0 < x.size := by
          show 0 < x.data.size
          rw [← Array.length_toList, hct]
          exact Nat.succ_pos _
        have hx0 : x[0] = c := by
          have : x.data.toList[0]? = some c := by rw [hct]; rfl
          show x.data[0] = c
          rw [Array.getElem?_toList] at this
          rw [Array.getElem?_eq_getElem hsz0] at this
          exact Option.some.inj this
        go_wp2_with (go_at_call 31; refine (wb_any (l := firsts (L.take i)) (c := c) hI (by omega) (by omega)).mono ?_; rintro e W2 ⟨rfl, h1, b1, k1⟩)
        go_roundw
        case rel => exact ⟨i + 1, rfl, hi, by rw [hft, hct]; exact .inr h1, k1 r _ hcc (by intro e; have := Option.some.inj e; omega) (by intro c' fz e; injection e with _ e2; exact absurd e2 (by decide)), hbq.trans b1⟩
        case measure => show L.length - ((i : Int) + 1).toNat < L.length - ((i : Nat) : Int).toNat; omega
    · have di : decide ((i : Int) < (L.length : Int)) = false := decide_eq_false (by omega)
      have din : decide (i < L.length) = false := decide_eq_false (by omega)
      rw [List.take_of_length_le (by omega)] at hI
      go_wp2_with (go_at_call 34; refine (Tryd.Builder_String_any_k w.heap.size w.heap.size (firsts L) _ (Lib.IsBuilderF.of hI) (by omega)).mono ?_)
      rintro e W1 ⟨rfl, _, b1, _⟩
      go_wp2
      go_ret
      subst hL
      subst hF
      exact ⟨rfl, hbq.trans b1⟩
end Go.Proofs.YtbdcnfbidbffcaaDoor.NM

/- name.Fit's walk. -/
set_option linter.unusedSimpArgs false
set_option linter.unusedVariables false
namespace Go.Proofs.YtbdcnfbidbffcaaDoor.NM
open Go Go.RowKit Go.Proofs Go.Proofs.YtbdcnfbidbffcaaDoor.PL Go.Proofs.YtbdcnfbidbffcaaDoorW.PrintWords
/-- How many columns fit, and the place behind them. -/
def cutW (m : Int) : List (Nat × Nat) → Int → Int × Nat
  | [], n => (n, 0)
  | (c, p) :: l, n => if m < n + wdN c then (n, p) else cutW m l (n + wdN c)
def blanksT (n : Nat) : ByteArray := ⟨(Lib.repeatL [32] n).toArray⟩
def fitS (s : ByteArray) (wd : Int) : ByteArray :=
  if wd < 0 ∨ 4096 < wd then ⟨#[]⟩
  else if widthS s ≤ wd then s ++ blanksT (wd - widthS s).toNat
  else if wd = 0 then ⟨#[]⟩
  else s.extract 0 (cutW (wd - 1) (signs s) 0).2 ++ ⟨#[46]⟩ ++ blanksT (wd - 1 - (cutW (wd - 1) (signs s) 0).1).toNat
theorem sumW_nn : ∀ l, 0 ≤ sumW l
  | [] => Int.le_refl _
  | (c, _) :: l => by have := sumW_nn l; have := wdN_le c; rw [sumW]; omega
theorem blanks_size (k : Nat) : (blanksT k).size = k := by
  show (Lib.repeatL [32] k).toArray.size = k
  rw [List.size_toArray, Lib.repeatL_length]
  exact Nat.mul_one k
theorem extract_le (s : ByteArray) (i j : Nat) : (s.extract i j).size ≤ s.size := by
  rw [ByteArray.size_extract]; omega
theorem repeat_c (k : Nat) (w : World) (hk : k ≤ 4096) : Calls Tryd.prog 39 #[.string ⟨#[32]⟩, .int .i64 (k : Int)] w fun e w' => e = .returned (.string (blanksT k)) ∧ Below w.heap.size w w' :=
  Tryd.strings_Repeat ⟨#[32]⟩ k w (by omega) (by show 1 * k ≤ _; omega)
theorem wrap_two {wd n : Int} {k : Nat} (h : wd - 1 - n = (k : Int)) (h0 : 0 ≤ wd) (h1 : wd ≤ 4096 ∧ k ≤ 4096) : IntKind.i64.wrap (IntKind.i64.wrap (wd - 1) - n) = (k : Int) := by
  rw [IntKind.wrap_i64, IntKind.wrap_i64]
  omega
theorem repeat_v (k : Nat) (w : World) {v : Value} (hv : v = .int .i64 (k : Int)) (hk : k ≤ 4096) : Calls Tryd.prog 39 #[.string ⟨#[32]⟩, v] w fun e w' => e = .returned (.string (blanksT k)) ∧ Below w.heap.size w w' := by
  subst hv
  exact repeat_c k w hk
set_option maxHeartbeats 400000 in
set_option maxRecDepth 1000000 in
theorem Fit_walk (s : ByteArray) (wd : Int) (w : World) (hs : s.size ≤ 1000000) :
    Calls Tryd.prog 16 #[.string s, .int .i64 wd] w fun e w' => e = .returned (.string (fitS s wd)) ∧ Below w.heap.size w w' := by
  unfold fitS
  by_cases h0 : wd < 0
  · rw [if_pos (.inl h0)]
    have d0 : decide (wd < 0) = true := decide_eq_true h0
    go_enter Tryd.func16, Tryd.ntmps16
    go_wp2
    go_ret
    exact ⟨rfl, Below.refl _ _⟩
  have d0 : decide (wd < 0) = false := decide_eq_false h0
  by_cases h1 : 4096 < wd
  · rw [if_pos (.inr h1)]
    have d1 : decide (4096 < wd) = true := decide_eq_true h1
    go_enter Tryd.func16, Tryd.ntmps16
    go_wp2
    go_ret
    exact ⟨rfl, Below.refl _ _⟩
  rw [if_neg (by omega)]
  have d1 : decide (4096 < wd) = false := decide_eq_false h1
  have hwn := sumW_nn (signs s)
  change 0 ≤ widthS s at hwn
  by_cases h2 : widthS s ≤ wd
  · rw [if_pos h2]
    have d2 : decide (widthS s ≤ wd) = true := decide_eq_true h2
    obtain ⟨k, hk⟩ : ∃ k : Nat, wd - widthS s = (k : Int) := ⟨(wd - widthS s).toNat, by omega⟩
    rw [hk, show ((k : Nat) : Int).toNat = k from rfl]
    have hbk := blanks_size k
    go_enter Tryd.func16, Tryd.ntmps16
    go_wp2_with (first | (go_at_call 17; refine (width_walk s _ (by omega)).mono ?_; rintro e W1 ⟨rfl, b1⟩) | (go_at_call 39; refine (repeat_c k _ (by omega)).mono ?_; rintro e W2 ⟨rfl, b2⟩))
    go_ret
    exact ⟨rfl, b1.trans (b2.mono b1.size)⟩
  rw [if_neg h2]
  have d2 : decide (widthS s ≤ wd) = false := decide_eq_false h2
  by_cases h3 : wd = 0
  · subst h3
    rw [if_pos rfl]
    go_enter Tryd.func16, Tryd.ntmps16
    go_wp2_with (first | (go_at_call 17; refine (width_walk s _ (by omega)).mono ?_; rintro e W1 ⟨rfl, b1⟩))
    go_ret
    exact ⟨rfl, b1⟩
  rw [if_neg h3]
  have d3 : (wd == 0) = false := beq_eq_false_iff_ne.mpr h3
  generalize hv : cutW (wd - 1) (signs s) 0 = v
  go_enter Tryd.func16, Tryd.ntmps16
  go_wp2_with (first | (go_at_call 17; refine (width_walk s _ (by omega)).mono ?_; rintro e W1 ⟨rfl, b1⟩))
  go_loopw [6, 7] (fun v6 v7 wr => ∃ (pos fuel : Nat) (n : Int), v6 = .int .i64 n ∧ v7 = .int .i64 0 ∧ wr.heap[W1.heap.size]? = some (.stringIter s pos) ∧ Below w.heap.size w wr ∧ cutW (wd - 1) (sg s fuel pos) n = v ∧ s.size ≤ pos + fuel ∧ 0 ≤ n ∧ n ≤ wd - 1) (fun _ _ wr => s.size - wr.iterPos W1.heap.size)
  case atStart =>
    refine ⟨0, s.size, 0, rfl, rfl, ?_, b1.alloc b1.size _, hv, by omega, by omega, by omega⟩
    have := World.iter_heap W1 s 0
    simpa using this
  case round =>
    obtain ⟨pos, fuel, n, rfl, rfl, hit, hbw, hacc, hfu, hn0, hn1⟩ := hrel
    have hsz : W1.heap.size < wr.heap.size := (Array.getElem?_eq_some_iff.1 hit).1
    have hsz0 : w.heap.size ≤ W1.heap.size := b1.size
    by_cases hp : pos < s.size
    · have hnx : ∀ ty, (Instr.next (.pointer (some ⟨W1.heap.size, 0, none⟩)) true ty).run Tryd.prog wr = _ := fun ty => Lib.run_next_any_at wr W1.heap.size s pos ty hit hp
      obtain ⟨f, rfl⟩ : ∃ f, fuel = f + 1 := ⟨fuel - 1, by omega⟩
      rw [sg_step s f pos hp, cutW] at hacc
      have hwd := width_pos s pos hp
      have hit2 := Lib.iterAt_heap wr W1.heap.size s pos (pos + (Utf8.decode s pos).2) hit
      have hbw2 := Lib.below_iterAt hbw (k := W1.heap.size) (by omega) s (pos + (Utf8.decode s pos).2)
      have hsz2 : W1.heap.size < (wr.iterAt W1.heap.size s (pos + (Utf8.decode s pos).2)).heap.size := by rw [Lib.iterAt_size]; omega
      generalize hc : Utf8.decode s pos = cw at *
      obtain ⟨c, ww⟩ := cw
      simp only at *
      generalize hw1 : wr.iterAt W1.heap.size s (pos + ww) = w1 at *
      have hbd : ∀ k, Below w.heap.size w (w1.drewN k) := fun k => hbw2.trans (Drawn0.below' ⟨⟨k, rfl⟩⟩)
      have hle := wdN_le c
      by_cases hcut : wd - 1 < n + wdN c
      · rw [if_pos hcut] at hacc
        have dc : decide (wd - 1 < n + wdN c) = true := decide_eq_true hcut
        subst hacc
        obtain ⟨k, hk⟩ : ∃ k : Nat, wd - 1 - n = (k : Int) := ⟨(wd - 1 - n).toNat, by omega⟩
        have hkw : IntKind.i64.wrap (IntKind.i64.wrap (wd - 1) - n) = (k : Int) := wrap_two hk (by omega) (by omega)
        have hbk := blanks_size k
        have hel := extract_le s 0 pos
        have hp' : (pos : Int) ≤ (s.size : Int) := by omega
        go_wp2_with (first | (go_at_call 40; refine (wide_c _ _).mono ?_; rintro e W2 ⟨rfl, ⟨nd, rfl⟩⟩))
        go_region_with (go_at_call 39; refine (repeat_v k _ (by first | with_reducible rfl | with_reducible exact congrArg (Value.int .i64) hkw) (by omega)).mono ?_; rintro e W3 ⟨rfl, b3⟩)
        all_goals
          go_wp2
          go_ret
          exact ⟨by first | rfl | (rw [hk]; rfl), by first | exact hbd _ |exact (hbd _).trans (b3.mono (by simp only [World.heap_drewN, World.drew_drewN]; omega))⟩
      · rw [if_neg hcut] at hacc
        have dc : decide (wd - 1 < n + wdN c) = false := decide_eq_false hcut
        go_wp2_with (first | (go_at_call 40; refine (wide_c _ _).mono ?_; rintro e W2 ⟨rfl, ⟨nd, rfl⟩⟩))
        go_roundw
        case rel => exact ⟨pos + ww, f, n + wdN c, rfl, rfl, hit2, by first | exact hbw2 | exact hbd _, hacc, by omega, by omega, by omega⟩
        case measure =>
          simp only [World.iterPos, World.heap_drewN, hit2, hit]
          omega
    · have hnx : ∀ ty, (Instr.next (.pointer (some ⟨W1.heap.size, 0, none⟩)) true ty).run Tryd.prog wr = _ := fun ty => Lib.run_next_end_at wr W1.heap.size s pos ty hit hp
      rw [sg_end s fuel pos hp, cutW] at hacc
      subst hacc
      obtain ⟨k, hk⟩ : ∃ k : Nat, wd - 1 - n = (k : Int) := ⟨(wd - 1 - n).toNat, by omega⟩
      have hkw : IntKind.i64.wrap (IntKind.i64.wrap (wd - 1) - n) = (k : Int) := wrap_two hk (by omega) (by omega)
      have hbk := blanks_size k
      have hel := extract_le s 0 0
      go_wp2
      go_region_with (go_at_call 39; refine (repeat_v k _ (by first | with_reducible rfl | with_reducible exact congrArg (Value.int .i64) hkw) (by omega)).mono ?_; rintro e W3 ⟨rfl, b3⟩)
      all_goals
        go_wp2
        go_ret
        exact ⟨by first | rfl | (rw [hk]; rfl), hbw.drew.trans (b3.mono (by show w.heap.size ≤ wr.heap.size; omega))⟩
end Go.Proofs.YtbdcnfbidbffcaaDoor.NM

/- The chapter's examples. -/
set_option linter.unusedSimpArgs false
set_option linter.unusedVariables false
namespace Go.Proofs.YtbdcnfbidbffcaaDoor.NM
open Go Go.RowKit Go.Proofs Go.Proofs.YtbdcnfbidbffcaaDoor.PL Go.Proofs.YtbdcnfbidbffcaaDoorW.PrintWords
def bank : ByteArray := ⟨#[66, 97, 110, 107, 32, 38, 32, 67, 111]⟩
def muel : ByteArray := ⟨#[77, 195, 188, 108, 108, 101, 114, 45, 195, 150, 108]⟩
def sixl : ByteArray := ⟨#[97, 98, 99, 100, 101, 102]⟩
def zhong : ByteArray := ⟨#[228, 184, 173]⟩
theorem chk_bank : chk bank = (9, 0) := by decide +kernel
theorem plain_muel : plainS muel = [77, 85, 69, 76, 76, 69, 82, 32, 79, 69, 76] := by decide +kernel
theorem short_muel : shortS muel = [77, 79] := by decide +kernel
theorem fit_sixl : fitS sixl 4 = ⟨#[97, 98, 99, 46]⟩ := by decide +kernel
theorem width_zhong : widthS zhong = 2 := by decide +kernel
set_option maxHeartbeats 1000000 in
set_option maxRecDepth 1000000 in
theorem awake_walk (w : World) (hE : Env w) : Calls Tryd.prog 11 #[] w fun e w' => e = .returned (.bool true) ∧ Below w.heap.size w w' := by
  have e1 : (⟨#[66, 97, 110, 107, 32, 38, 32, 67, 111]⟩ : ByteArray) = bank := rfl
  have e2 : (⟨#[77, 195, 188, 108, 108, 101, 114, 45, 195, 150, 108]⟩ : ByteArray) = muel := rfl
  have e3 : (⟨#[97, 98, 99, 100, 101, 102]⟩ : ByteArray) = sixl := rfl
  have e4 : (⟨#[228, 184, 173]⟩ : ByteArray) = zhong := rfl
  go_enter Tryd.func11, Tryd.ntmps11
  go_wp2_with (first
    | (go_at_call 9; refine (check_walk bank _).mono ?_; rw [chk_bank]; rintro e W1 ⟨rfl, b1⟩)
    | (go_at_call 12; refine (Plain_walk muel _ (by decide) (hE.below b1)).mono ?_; rw [plain_muel]; rintro e W2 ⟨rfl, b2⟩; have B2 := b1.trans (b2.mono b1.size))
    | (go_at_call 14; refine (Short_walk muel _ (by decide) (hE.below B2)).mono ?_; rw [short_muel]; rintro e W3 ⟨rfl, b3⟩; have B3 := B2.trans (b3.mono B2.size))
    | (go_at_call 16; refine (Fit_walk sixl 4 _ (by decide)).mono ?_; rw [fit_sixl]; rintro e W4 ⟨rfl, b4⟩; have B4 := B3.trans (b4.mono B3.size))
    | (go_at_call 17; refine (width_walk zhong _ (by decide)).mono ?_; rw [width_zhong]; rintro e W5 ⟨rfl, b5⟩; have B5 := B4.trans (b5.mono B4.size)))
  go_ret
  exact ⟨rfl, B5⟩
end Go.Proofs.YtbdcnfbidbffcaaDoor.NM

/- A text's signs: the document's way and the model's are one. -/
namespace Go.NM
def tailP (n : Int) : Prop := 128 ≤ n ∧ n < 192
instance (n : Int) : Decidable (tailP n) := by unfold tailP; exact inferInstance
def n3 (a b c : Int) : Int := (a - 224) * 4096 + (b - 128) * 64 + c - 128
def n4 (a b c d : Int) : Int := (a - 240) * 262144 + (b - 128) * 4096 + (c - 128) * 64 + d - 128
/-- lombardref04.Sign, of four numbers. -/
def signN (a b c d : Int) : Int × Int × Bool :=
  if a < 128 then (a, 1, true)
  else if (194 ≤ a ∧ a < 224) ∧ tailP b then ((a - 192) * 64 + b - 128, 2, true)
  else if (224 ≤ a ∧ a < 240) ∧ tailP b ∧ tailP c ∧ 2048 ≤ n3 a b c ∧ (n3 a b c < 55296 ∨ 57343 < n3 a b c) then (n3 a b c, 3, true)
  else if (240 ≤ a ∧ a < 245) ∧ tailP b ∧ tailP c ∧ tailP d ∧ 65536 ≤ n4 a b c d ∧ n4 a b c d < 1114112 then (n4 a b c d, 4, true)
  else (65533, 1, false)
theorem sign_n (n b0 b1 b2 b3 : Nat) (b c d : Int) (h0 : b0 < 256) (h1 : b1 < 256) (h2 : b2 < 256) (h3 : b3 < 256) (hb : (1 < n ∧ b = b1) ∨ (¬ 1 < n ∧ b = -1)) (hc : (2 < n ∧ c = b2) ∨ (¬ 2 < n ∧ c = -1)) (hd : (3 < n ∧ d = b3) ∨ (¬ 3 < n ∧ d = -1)) :
    (signN b0 b c d).1 = ((Go.Lib.decodeN n b0 b1 b2 b3).1 : Int) ∧ (signN b0 b c d).2.1 = ((Go.Lib.decodeN n b0 b1 b2 b3).2 : Int) := by
  unfold signN Go.Lib.decodeN
  by_cases r1 : b0 < 128
  · rw [if_pos (by omega), if_pos r1]; exact ⟨rfl, rfl⟩
  rw [if_neg (by omega), if_neg r1]
  by_cases r2 : b0 / 32 = 6 ∧ (1 < n ∧ b1 / 64 = 2)
  · rw [if_pos r2]
    by_cases r3 : b0 % 32 * 64 + b1 % 64 ≥ 128
    · rw [if_pos r3, if_pos (by unfold tailP; omega)]
      constructor
      · show (((b0 : Nat) : Int) - 192) * 64 + b - 128 = ((b0 % 32 * 64 + b1 % 64 : Nat) : Int)
        omega
      · rfl
    · rw [if_neg r3, if_neg (by unfold tailP; omega), if_neg (by omega), if_neg (by omega)]; exact ⟨rfl, rfl⟩
  rw [if_neg r2, if_neg (by unfold tailP; omega)]
  by_cases r4 : b0 / 16 = 14 ∧ (1 < n ∧ b1 / 64 = 2) ∧ (2 < n ∧ b2 / 64 = 2)
  · rw [if_pos r4]
    have e : n3 b0 b c = ((b0 % 16 * 4096 + b1 % 64 * 64 + b2 % 64 : Nat) : Int) := by unfold n3; omega
    rw [e]
    generalize b0 % 16 * 4096 + b1 % 64 * 64 + b2 % 64 = m at *
    by_cases r5 : m ≥ 2048 ∧ (m < 55296 ∨ (57344 ≤ m ∧ m ≤ 1114111))
    · rw [if_pos r5, if_pos (by unfold tailP; omega)]; exact ⟨rfl, rfl⟩
    · rw [if_neg r5, if_neg (by unfold n3 at e; omega), if_neg (by omega)]; exact ⟨rfl, rfl⟩
  rw [if_neg r4, if_neg (by unfold tailP; omega)]
  by_cases r6 : b0 / 8 = 30 ∧ (1 < n ∧ b1 / 64 = 2) ∧ (2 < n ∧ b2 / 64 = 2) ∧ (3 < n ∧ b3 / 64 = 2)
  · rw [if_pos r6]
    have e : n4 b0 b c d = ((b0 % 8 * 262144 + b1 % 64 * 4096 + b2 % 64 * 64 + b3 % 64 : Nat) : Int) := by unfold n4; omega
    rw [e]
    have hb0 : b0 % 8 * 262144 ≤ b0 % 8 * 262144 + b1 % 64 * 4096 + b2 % 64 * 64 + b3 % 64 := by omega
    have hm : (b0 < 245 ∨ 1310720 ≤ b0 % 8 * 262144 + b1 % 64 * 4096 + b2 % 64 * 64 + b3 % 64) := by omega
    generalize b0 % 8 * 262144 + b1 % 64 * 4096 + b2 % 64 * 64 + b3 % 64 = m at *
    by_cases r7 : m ≥ 65536 ∧ (m < 55296 ∨ (57344 ≤ m ∧ m ≤ 1114111))
    · rw [if_pos r7, if_pos (by unfold tailP; omega)]; exact ⟨rfl, rfl⟩
    · rw [if_neg r7, if_neg (by omega)]; exact ⟨rfl, rfl⟩
  rw [if_neg r6, if_neg (by unfold tailP; omega)]
  exact ⟨rfl, rfl⟩
/-- A byte of a text; -1 behind its end. -/
def byteAt (s : ByteArray) (i : Nat) : Int := if i < s.size then ((s.get! i).toNat : Int) else -1
def signR (s : ByteArray) (i : Nat) : Int × Int × Bool := signN (byteAt s i) (byteAt s (i + 1)) (byteAt s (i + 2)) (byteAt s (i + 3))
theorem sign_decode (s : ByteArray) (i : Nat) (hi : i < s.size) : (signR s i).1 = ((Utf8.decode s i).1 : Int) ∧ (signR s i).2.1 = ((Utf8.decode s i).2 : Int) := by
  rw [Go.Lib.decode_at]
  unfold signR
  have e0 : byteAt s i = (((s.get! i).toNat : Nat) : Int) := if_pos hi
  rw [e0]
  refine sign_n _ _ _ _ _ _ _ _ (s.get! i).toNat_lt (s.get! (i + 1)).toNat_lt (s.get! (i + 2)).toNat_lt (s.get! (i + 3)).toNat_lt ?_ ?_ ?_ <;> unfold byteAt
  · by_cases h : i + 1 < s.size
    · rw [if_pos h]; exact .inl ⟨by omega, rfl⟩
    · rw [if_neg h]; exact .inr ⟨by omega, rfl⟩
  · by_cases h : i + 2 < s.size
    · rw [if_pos h]; exact .inl ⟨by omega, rfl⟩
    · rw [if_neg h]; exact .inr ⟨by omega, rfl⟩
  · by_cases h : i + 3 < s.size
    · rw [if_pos h]; exact .inl ⟨by omega, rfl⟩
    · rw [if_neg h]; exact .inr ⟨by omega, rfl⟩
end Go.NM

/- R.Sign and R.Signs: they give the text's signs. -/
set_option linter.unusedSimpArgs false
set_option linter.unusedVariables false
namespace Go.Proofs.YtbdcnfbidbffcaaDoor.NM
open Go Go.RowKit Go.NM Go.Proofs Go.Proofs.YtbdcnfbidbffcaaDoor.PL Go.Proofs.YtbdcnfbidbffcaaDoorW.PrintWords
theorem w64 (n : Int) (h : -9223372036854775808 ≤ n ∧ n ≤ 9223372036854775807) : wrap64 n = n := by unfold wrap64; omega
theorem tail_f (x : Int) : lombardref04_tail.f x = some (decide (tailP x)) := by
  unfold lombardref04_tail.f
  by_cases h : x ≥ 128
  · rw [if_pos h]; apply congrArg some; rw [Bool.eq_iff_iff]; simp only [decide_eq_true_eq]; unfold tailP; omega
  · rw [if_neg h]; apply congrArg some; rw [eq_comm, decide_eq_false_iff_not]; unfold tailP; omega
theorem get_at (s : ByteArray) (i : Nat) (h : i < s.size) : s.get! i = s[i]'h := by
  show s.data[i]! = s.data[i]'h
  exact getElem!_pos s.data i h
theorem at_f (s : ByteArray) (i : Nat) (hs : s.size ≤ 1000000) : lombardref04_at.f s (i : Int) = some (byteAt s i) := by
  unfold lombardref04_at.f byteAt
  by_cases h : i < s.size
  · rw [if_pos (by omega), if_pos (by omega), if_pos h]
    have hb : bt s (i : Int) = ((s.get! i).toNat : Int) := by
      unfold bt
      rw [dif_pos (show ((i : Int)).toNat < s.size by omega), get_at s i h]
      simp only [Int.toNat_natCast]
    have h2 := (s.get! i).toNat_lt
    rw [hb]
    apply congrArg some
    unfold wrap64
    omega
  · rw [if_neg (by omega), if_neg h]
theorem SJ3 {a b c d : Int} (k : Nat) (t : Bool) (ha : 0 ≤ a ∧ a ≤ 255) (hb : -1 ≤ b ∧ b ≤ 255) (hc : -1 ≤ c ∧ c ≤ 255) (hd : -1 ≤ d ∧ d ≤ 255) :
    lombardref04_Sign.j3 (k + 1) a b c d t = some (if t = true ∧ 65536 ≤ n4 a b c d ∧ n4 a b c d < 1114112 then (n4 a b c d, 4, true) else (65533, 1, false)) := by
  have hw : (wrap64 ((wrap64 ((wrap64 ((wrap64 ((wrap64 ((wrap64 (a - 240)) * 262144)) + (wrap64 ((wrap64 (b - 128)) * 4096)))) + (wrap64 ((wrap64 (c - 128)) * 64)))) + d)) - 128)) = n4 a b c d := by
    rw [w64 (a - 240) (by omega), w64 (b - 128) (by omega), w64 (c - 128) (by omega)]
    rw [w64 ((a - 240) * 262144) (by omega), w64 ((b - 128) * 4096) (by omega), w64 ((c - 128) * 64) (by omega)]
    rw [w64 ((a - 240) * 262144 + (b - 128) * 4096) (by omega)]
    rw [w64 ((a - 240) * 262144 + (b - 128) * 4096 + (c - 128) * 64) (by omega)]
    rw [w64 ((a - 240) * 262144 + (b - 128) * 4096 + (c - 128) * 64 + d) (by omega)]
    rw [w64 _ (by omega)]
    rfl
  simp only [lombardref04_Sign.j3]
  rw [hw]
  generalize n4 a b c d = m
  cases t
  · simp
  · by_cases h1 : 65536 ≤ m
    · by_cases h2 : m < 1114112 <;> simp [h1, h2]
    · simp [h1]
theorem SJ2 {a b c d : Int} (k : Nat) (ha : 0 ≤ a ∧ a ≤ 255) (hb : -1 ≤ b ∧ b ≤ 255) (hc : -1 ≤ c ∧ c ≤ 255) (hd : -1 ≤ d ∧ d ≤ 255) :
    lombardref04_Sign.j2 (k + 2) a b c d = some (if (240 ≤ a ∧ a < 245) ∧ tailP b ∧ tailP c ∧ tailP d ∧ 65536 ≤ n4 a b c d ∧ n4 a b c d < 1114112 then (n4 a b c d, 4, true) else (65533, 1, false)) := by
  simp only [lombardref04_Sign.j2]
  simp only [tail_f, Option.bind_some, decide_eq_true_eq, SJ3 k _ ha hb hc hd]
  by_cases h1 : 240 ≤ a
  · by_cases h2 : a < 245
    · by_cases h3 : tailP b
      · by_cases h4 : tailP c
        · simp [h1, h2, h3, h4]
        · simp [h1, h2, h3, h4]
      · simp [h1, h2, h3]
    · simp [h1, h2]
  · simp [h1]
theorem SJ1 {a b c d : Int} (k : Nat) (t : Bool) (ha : 0 ≤ a ∧ a ≤ 255) (hb : -1 ≤ b ∧ b ≤ 255) (hc : -1 ≤ c ∧ c ≤ 255) (hd : -1 ≤ d ∧ d ≤ 255) :
    lombardref04_Sign.j1 (k + 3) a b c d t = some (if t = true ∧ 2048 ≤ n3 a b c ∧ (n3 a b c < 55296 ∨ 57343 < n3 a b c) then (n3 a b c, 3, true) else if (240 ≤ a ∧ a < 245) ∧ tailP b ∧ tailP c ∧ tailP d ∧ 65536 ≤ n4 a b c d ∧ n4 a b c d < 1114112 then (n4 a b c d, 4, true) else (65533, 1, false)) := by
  have hw : (wrap64 ((wrap64 ((wrap64 ((wrap64 ((wrap64 (a - 224)) * 4096)) + (wrap64 ((wrap64 (b - 128)) * 64)))) + c)) - 128)) = n3 a b c := by
    rw [w64 (a - 224) (by omega), w64 (b - 128) (by omega)]
    rw [w64 ((a - 224) * 4096) (by omega), w64 ((b - 128) * 64) (by omega)]
    rw [w64 ((a - 224) * 4096 + (b - 128) * 64) (by omega)]
    rw [w64 ((a - 224) * 4096 + (b - 128) * 64 + c) (by omega)]
    rw [w64 _ (by omega)]
    rfl
  simp only [lombardref04_Sign.j1]
  rw [hw, SJ2 k ha hb hc hd]
  generalize n3 a b c = m
  cases t
  · simp
  · by_cases h1 : 2048 ≤ m
    · by_cases h2 : m < 55296
      · simp [h1, h2]
      · by_cases h3 : 57343 < m <;> simp [h1, h2, h3]
    · simp [h1]
theorem Sign_f (s : ByteArray) (i k : Nat) (hs : s.size ≤ 1000000) (hi : i < s.size) : lombardref04_Sign.f (k + 4) s (i : Int) = some (signR s i) := by
  have rg : ∀ j, -1 ≤ byteAt s j ∧ byteAt s j ≤ 255 := by
    intro j
    unfold byteAt
    have := (s.get! j).toNat_lt
    split <;> omega
  have r0 : 0 ≤ byteAt s i := by unfold byteAt; rw [if_pos hi]; omega
  have w1 : wrap64 ((i : Int) + 1) = ((i + 1 : Nat) : Int) := by rw [w64 _ (by omega)]; rfl
  have w2 : wrap64 ((i : Int) + 2) = ((i + 2 : Nat) : Int) := by rw [w64 _ (by omega)]; rfl
  have w3 : wrap64 ((i : Int) + 3) = ((i + 3 : Nat) : Int) := by rw [w64 _ (by omega)]; rfl
  unfold lombardref04_Sign.f signR
  rw [w1, w2, w3]
  simp only [at_f s _ hs, Option.bind_some]
  have h0 := rg i
  have h1 := rg (i + 1)
  have h2 := rg (i + 2)
  have h3 := rg (i + 3)
  generalize byteAt s i = a at *
  generalize byteAt s (i + 1) = b at *
  generalize byteAt s (i + 2) = c at *
  generalize byteAt s (i + 3) = d at *
  have hw : wrap64 ((wrap64 ((wrap64 ((wrap64 (a - 192)) * 64)) + b)) - 128) = (a - 192) * 64 + b - 128 := by
    rw [w64 (a - 192) (by omega), w64 ((a - 192) * 64) (by omega), w64 ((a - 192) * 64 + b) (by omega), w64 _ (by omega)]
  unfold lombardref04_Sign.j0 signN
  simp only [tail_f, Option.bind_some, decide_eq_true_eq, SJ1 k _ ⟨r0, h0.2⟩ h1 h2 h3, hw]
  by_cases c1 : a < 128
  · simp [c1]
  · by_cases c2 : 194 ≤ a
    · by_cases c3 : a < 224
      · by_cases c4 : tailP b
        · simp [c1, c2, c3, c4]
        · simp [c1, c2, c3, c4, show ¬ (224 ≤ a) by omega]
      · by_cases c5 : a < 240
        · by_cases c4 : tailP b <;> by_cases c6 : tailP c <;> simp [c1, c2, c3, c4, c5, c6, show 224 ≤ a by omega]
        · simp [c1, c2, c3, c5, show 224 ≤ a by omega]
    · simp [c1, c2, show ¬ (224 ≤ a) by omega]
end Go.Proofs.YtbdcnfbidbffcaaDoor.NM
