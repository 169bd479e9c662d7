/- LedgerNobody holds: whatever entries and whatever account come in, no ledger (nil, or one that New did not make) posts, has, tells or clones anything; and the chapter's example holds. No condition on the inputs. -/
import Derived.Test.YtoknlpecbdlbfaaG5
import Derived.Test.YtoknlpecbdlbfaaRows
import Derived.WalkKit
import Derived.ProofKit
import Derived.OpenShut
import Derived.ShutString
import Derived.ChangeOld
import Derived.Below
import Derived.SizedLaws

-- LedgerNobody, walked.
namespace Go.Proofs.Ytoknlpecbdlbfaa.PL
open Go Go.RowKit Go.Maps Go.Sort Go.Shelf Go.Proofs Go.Proofs.YtoknlpecbdlbfaaW.PrintWords Go.Proofs.YtoknlpecbdlbfaaW.PrintLast
theorem NoLG.below {w w' : World} {p : Value} (h : NoLG w p) (hb : Below w.heap.size w w') : NoLG w' p := by
  rcases h with rfl | ⟨g, rfl, hc⟩
  · exact .inl rfl
  · exact .inr ⟨g, rfl, cell_keep hb hc⟩
theorem of_any (a0 a1 : Int) (a2 : ByteArray) (w : World) : Calls Try.prog 26 #[.agg #[.int .i64 a0, .int .i64 a1, .string a2]] w fun e w' => e = .returned (.agg #[.int .i64 a0, .int .i64 a1, .string a2]) ∧ Below w.heap.size w w' :=
  lombardlaw11_of.calls a0 a1 a2 a0 a1 a2 w rfl
/-- a's own cells, at the block k. -/
def A3 (a0 a1 : Int) (a2 : ByteArray) (k : Nat) (W : World) : Prop := W.cell? ⟨k, 0, none⟩ = some (.int .i64 a0) ∧ W.cell? ⟨k, 1, none⟩ = some (.int .i64 a1) ∧ W.cell? ⟨k, 2, none⟩ = some (.string a2)
theorem A3.below {a0 a1 : Int} {a2 : ByteArray} {k : Nat} {w w' : World} (h : A3 a0 a1 a2 k w) (hb : Below w.heap.size w w') : A3 a0 a1 a2 k w' := ⟨cell_keep hb h.1, cell_keep hb h.2.1, cell_keep hb h.2.2⟩
theorem all_none {w : World} {p : Value} (h : NoLG w p) : Calls Try.prog 23 #[p] w fun o w' => ∃ (A : Option Addr) (c : Nat), o = .returned (.slice A 0 c) ∧ Below w.heap.size w w' :=
  (all_no h).slice.mono (fun o w' ⟨A, c, h1, h2⟩ => ⟨A, c, h1, h2.2.1⟩)
theorem things_none {w : World} {p : Value} (h : NoLG w p) : Calls Try.prog 32 #[p] w fun o w' => ∃ (A : Option Addr) (c : Nat), o = .returned (.slice A 0 c) ∧ Below w.heap.size w w' := by
  refine (things_walk p w [] (all_no h) (by simp)).mono ?_
  rintro o w' ⟨v, rfl, h1, h2⟩
  obtain ⟨A, c, rfl, _, _⟩ := Kd.R_reads h1
  exact ⟨A, c, rfl, h2⟩
theorem held_none {w : World} {p : Value} (h : NoLG w p) (o : Int) (t : ByteArray) : Calls Try.prog 28 #[p, .int .i64 o, .string t] w fun e w' => e = .returned (.int .i64 0) ∧ Below w.heap.size w w' :=
  held_walk p w [] o t (all_no h) (by simp)
theorem out_none {w : World} {p : Value} (h : NoLG w p) (t : ByteArray) : Calls Try.prog 30 #[p, .string t] w fun e w' => e = .returned (.int .i64 0) ∧ Below w.heap.size w w' :=
by
  have h1 := out_walk p w [] t (all_no h) (by simp)
  have e : wrap64 (-heldL [] 0 t) = 0 := by kernel_rfl
  rw [e] at h1
  exact h1
theorem cell_at {W : World} {k : Nat} {cs : Array Value} {t : TypeId} {f : Nat × Nat} (h : W.heap[k]? = some (.cells cs t f)) (i : Nat) : W.cell? ⟨k, i, none⟩ = cs[i]? := by
  unfold World.cell?
  rw [h]
  rfl
/-- What the walk of LedgerNobody has laid. -/
structure NS (w : World) (a0 a1 : Int) (a2 : ByteArray) (p : Value) (W : World) : Prop where
  a3 : A3 a0 a1 a2 w.heap.size W
  c0 : W.cell? ⟨w.heap.size + 1, 0, none⟩ = some (.map none)
  c1 : W.cell? ⟨w.heap.size + 1 + 1, 0, none⟩ = some (.pointer none)
  c2 : W.cell? ⟨w.heap.size + 1 + 1, 1, none⟩ = some (.pointer (some ⟨w.heap.size + 1, 0, none⟩))
  no : NoLG W p
  bl : Below w.heap.size w W
theorem NS.below {w : World} {a0 a1 : Int} {a2 : ByteArray} {p : Value} {W W' : World} (h : NS w a0 a1 a2 p W) (hb : Below W.heap.size W W') : NS w a0 a1 a2 p W' :=
  ⟨h.a3.below hb, cell_keep hb h.c0, cell_keep hb h.c1, cell_keep hb h.c2, h.no.below hb, h.bl.trans (hb.mono h.bl.size)⟩
theorem NS.new {w : World} {a0 a1 : Int} {a2 : ByteArray} : NS w a0 a1 a2 (.pointer none) (((w.alloc (.cells #[.int .i64 a0, .int .i64 a1, .string a2] 45)).alloc (.cells #[.map none] 62)).alloc (.cells #[.pointer none, .pointer (some ⟨w.heap.size + 1, 0, none⟩)] 25)) := by
  have e1 : (w.alloc (.cells #[.int .i64 a0, .int .i64 a1, .string a2] 45)).heap.size = w.heap.size + 1 := by simp
  have e2 : ((w.alloc (.cells #[.int .i64 a0, .int .i64 a1, .string a2] 45)).alloc (.cells #[.map none] 62)).heap.size = w.heap.size + 1 + 1 := by simp
  have hA := (Go.MapKept.heap_alloc w (.cells #[.int .i64 a0, .int .i64 a1, .string a2] 45)).1
  have hB := (Go.MapKept.heap_alloc (w.alloc (.cells #[.int .i64 a0, .int .i64 a1, .string a2] 45)) (.cells #[.map none] 62))
  have hC := (Go.MapKept.heap_alloc ((w.alloc (.cells #[.int .i64 a0, .int .i64 a1, .string a2] 45)).alloc (.cells #[.map none] 62)) (.cells #[.pointer none, .pointer (some ⟨w.heap.size + 1, 0, none⟩)] 25))
  have hb : Below w.heap.size w (((w.alloc (.cells #[.int .i64 a0, .int .i64 a1, .string a2] 45)).alloc (.cells #[.map none] 62)).alloc (.cells #[.pointer none, .pointer (some ⟨w.heap.size + 1, 0, none⟩)] 25)) := (((Below.refl _ _).alloc (Nat.le_refl _) _).alloc (by simp) _).alloc (by simp; omega) _
  rw [e1] at hB
  rw [e2] at hC
  have h1 := (hC.2 w.heap.size (by omega)).trans ((hB.2 w.heap.size (by omega)).trans hA)
  have h2 := (hC.2 (w.heap.size + 1) (by omega)).trans hB.1
  have h3 := hC.1
  clear hA hB hC e1 e2
  generalize (((w.alloc (.cells #[.int .i64 a0, .int .i64 a1, .string a2] 45)).alloc (.cells #[.map none] 62)).alloc (.cells #[.pointer none, .pointer (some ⟨w.heap.size + 1, 0, none⟩)] 25)) = W at h1 h2 h3 hb ⊢
  exact ⟨⟨cell_at h1 0, cell_at h1 1, cell_at h1 2⟩, cell_at h2 0, cell_at h3 0, cell_at h3 1, .inl rfl, hb⟩
theorem NS.at {w : World} {a0 a1 : Int} {a2 : ByteArray} {W : World} (h : NS w a0 a1 a2 (.pointer none) W) {k : Nat} (hk : k < 2) : ∃ p, W.cell? ⟨w.heap.size + 1 + 1, k, none⟩ = some p ∧ NS w a0 a1 a2 p W := by
  have h2 : k = 0 ∨ k = 1 := by omega
  rcases h2 with rfl | rfl
  · exact ⟨_, h.c1, h⟩
  · exact ⟨_, h.c2, h.a3, h.c0, h.c1, h.c2, .inr ⟨_, rfl, h.c0⟩, h.bl⟩
set_option maxRecDepth 100000 in
set_option maxHeartbeats 2000000 in
theorem nobody_walk (A : Option Addr) (c : Nat) (xs : List S47) (a : S45) (w : World) (hq : QS 72 Q47 xs) (hr : Kd.C k47 w A xs.length xs) (hc : xs.length ≤ c) :
    Calls Try.prog 7 #[.slice A xs.length c, .agg #[.int .i64 a.f0, .int .i64 a.f1, .string a.f2]] w fun e w' => e = .returned (.bool true) ∧ Below w.heap.size w w' := by
  obtain ⟨a0, a1, a2⟩ := a
  have HP := Lib.hid (And.intro hq.1 (And.intro hr hc))
  clear hq hr hc
  go_enter Try.func7, Try.ntmps7
  go_wp2
  go_loopg [6, 7, 8, 13] 3 (fun kq v6 v7 v8 v13 w' => ∃ k : Nat, v13 = .int .i64 k ∧ Hid (kq + k = 3 ∧ k ≤ 2 ∧ NS w a0 a1 a2 (.pointer none) w'))
  case atStart => exact ⟨0, rfl, ⟨rfl, by omega, NS.new⟩⟩
  case round =>
    obtain ⟨k, rfl, HI⟩ := hrel
    by_cases hk : k < 2
    · obtain ⟨p, x0, hS⟩ := HI.out.2.2.at hk
      have S1 := Lib.hid hS
      obtain ⟨y0, y1, y2⟩ := hS.a3
      clear hS
      have hX := Lib.hid (Kd.C_below HP.out.2.1 HI.out.2.2.bl)
      have p1 : (0 ≤ (k : Int)) = True := eq_true (by omega)
      have q1 : ((k : Int) < 2) = True := eq_true (by omega)
      have hl64 : wrap64 ((k : Int) + 1) = ((k + 1 : Nat) : Int) := by
        rw [wrap_id (by omega) (by omega)]; rfl
      have HK := Lib.hid hk
      have Hw := Lib.hid hl64
      clear hk hl64
      go_wp2_with (first
        | (go_at_call 24; refine (clone_no S9.out.no).mono ?_; rintro e w10 ⟨rfl, rfl⟩)
        | (go_at_call 30; refine (out_none S8.out.no _).mono ?_; rintro e w9 ⟨rfl, H9⟩; have S9 := Lib.hid (S8.out.below H9); clear H9)
        | (go_at_call 28; refine (held_none S7.out.no _ _).mono ?_; rintro e w8 ⟨rfl, H8⟩; have S8 := Lib.hid (S7.out.below H8); obtain ⟨y0, y1, y2⟩ := S8.out.a3; clear H8)
        | (go_at_call 32; refine (things_none S6.out.no).mono ?_; rintro e w7 ⟨A7, c7', rfl, H7⟩; have S7 := Lib.hid (S6.out.below H7); obtain ⟨y0, y1, y2⟩ := S7.out.a3; clear H7)
        | (go_at_call 23; refine (all_none S5.out.no).mono ?_; rintro e w6 ⟨A6, c6, rfl, H6⟩; have S6 := Lib.hid (S5.out.below H6); clear H6)
        | (go_at_call 25; refine (balance_no S4.out.no _ _ _).mono ?_; rintro e w5 ⟨rfl, H5⟩; have S5 := Lib.hid (S4.out.below H5); clear H5)
        | (go_at_call 26; refine (of_any _ _ _ _).mono ?_; rintro e w4 ⟨rfl, H4⟩; have S4 := Lib.hid (S2.out.below H4); clear H4)
        | (go_at_call 19; refine (post_no S2.out.no _).mono ?_; rintro e w3 ⟨rfl, rfl⟩)
        | (go_at_call 20; refine (entries_any A c xs _ hX.out HP.out.2.2 (by have := HP.out.1; omega)).mono ?_; rintro e w2 ⟨A2, c2, rfl, H2⟩; have S2 := Lib.hid (S1.out.below H2.out.2); obtain ⟨y0, y1, y2⟩ := S2.out.a3; clear H2))
      go_roundg (2 - k)
      case measure => have := HI.out.1; have := HK.out; omega
      case rel =>
        have h9 := S9.out
        refine ⟨k + 1, by rw [Hw.out], ⟨by have := HI.out.1; have := HK.out; omega, HK.out, h9.a3, h9.c0, h9.c1, h9.c2, .inl rfl, h9.bl⟩⟩
    · have hk' : ((k : Int) < 2) = False := eq_false (by omega)
      clear hk
      go_wp2_with (go_at_call 16; refine (awake_walk _).mono ?_; rintro e w2 ⟨rfl, H2⟩; replace H2 := Lib.hid H2)
      go_ret
      exact ⟨rfl, HI.out.2.2.bl.trans (H2.out.mono HI.out.2.2.bl.size)⟩
theorem nobody_row (A : Option Addr) (c : Nat) (xs : List S47) (a : S45) (w : World) (hq : QS 72 Q47 xs) (hr : Kd.C k47 w A xs.length xs) (hc : xs.length ≤ c) (_ : Q45 a) :
    Calls Try.prog 7 #[.slice A xs.length c, .agg #[.int .i64 a.f0, .int .i64 a.f1, .string a.f2]] w fun e w' => e = .returned (.bool true) ∧ Below w.heap.size w w' := nobody_walk A c xs a w hq hr hc
end Go.Proofs.Ytoknlpecbdlbfaa.PL

/- LedgerNobody's row. -/
namespace Go.Proofs.Ytoknlpecbdlbfaa.ledgerNobody
open Go Go.RowKit Go.ChangeShapes Go.WideShapes Go.ChangeAt Go.Proofs
open Go.ChangeMaps (open_string shut_string)
set_option linter.unusedVariables false
theorem own : ownKnob Try.prog.godebug = none := by kernel_rfl
set_option maxRecDepth 100000 in
theorem lifted (os : Os) (started : os.Started) (H : Type) (enc : TypeId × Value → H) :
    ReturnsInHanded {} Try.checked os 7 .any (Rows.ledgerNobodySpec.pre6 enc Try.prog Try.f7 Rows.ledgerNobodyRow.domain false) (Rows.ledgerNobodySpec.post enc Try.prog Try.f7 false true false false) := by
  refine returnsInHanded_of_change_sized (C := Try.checked) own started (by kernel_rfl) Try.func7
    (ChangeSpec.witness6 (enc := enc) (C := Try.checked) false ⟨#[], #[.slice none 0 0, .agg #[.int .i64 0, .int .i64 0, .string ByteArray.empty]], []⟩ 8 (by kernel_rfl) (by kernel_rfl) (by kernel_rfl) (by kernel_rfl)) ?_
  intro W base args ds gs before hval0 hW hcnd hsz0 _
  have hsz : (DataW.weightsEach Try.prog (Try.f7.params.toList ++ Rows.ledgerNobodySpec.plain.varTypes Try.prog) (ds ++ gs)).all (· ≤ reachBytes) = true := hsz0
  have hval : ∀ (j : Nat) t v, Try.f7.params[j]? = some t → args[j]? = some v → Value.okWide Try.prog W .any base t v := hval0
  have hW' := hW
  obtain ⟨p, q, hA0, hV, rfl, hfz, hnd⟩ := hW
  have hA : DataW.TrodAll enc Try.prog W 0 (fun _ => true) true Try.f7.params.toList args.toList ds p := hA0
  rw [Try.params7] at hA hval hsz
  obtain ⟨v0, vs0, d0, ds0, p0, q0, hargs, rfl, rfl, h0, r0⟩ := trodAll_cons hA
  obtain ⟨v1, vs1, d1, ds1, p1, q1, rfl, rfl, rfl, h1, r1⟩ := trodAll_cons r0
  obtain ⟨rfl, rfl, rfl⟩ := trodAll_nil r1
  obtain rfl : args = #[v0, v1] := by cases args; simp_all
  obtain ⟨rfl, rfl⟩ := trodVars_none hV
  have k0 := h0
  have lt0 : ∀ x ∈ p0, x.block < W.heap.size := by obtain ⟨m, hm⟩ := k0; exact DataW.trod_lt m _ _ _ hm
  have sm0 : PL.Small 30 d0 := PL.small_arg hsz (j := 0) rfl rfl
  obtain ⟨a0, len0, cap0, rfl⟩ := okWide_slice Try.underlying30 (hval 0 30 v0 rfl rfl)
  obtain ⟨x0, rfl, hc0, hC0, hq0⟩ := PL.opened PL.opens30 h0 sm0
  have k1 := h1
  have lt1 : ∀ x ∈ p1, x.block < W.heap.size := by obtain ⟨m, hm⟩ := k1; exact DataW.trod_lt m _ _ _ hm
  have sm1 : PL.Small 45 d1 := PL.small_arg hsz (j := 1) rfl rfl
  obtain ⟨x1, rfl, hq1⟩ := PL.opened45 (hval 1 45 v1 rfl rfl) h1 sm1
  clear hA0 hval0 hsz0 hsz
  refine (PL.nobody_row a0 cap0 x0 x1 W hq0 hC0 hc0 hq1).mono fun e W' ⟨he, bel⟩ => ?_
  subst he
  exact ⟨_, rfl, _, _, _, [], _, [], hW', trodAll_mk1 (shut_bool Try.underlying4 _), (trodAll_cons_mk (Below.trod PL.laidOut (by kernel_rfl) (of_decide_eq_true (by kernel_rfl)) k0 bel lt0) (trodAll_cons_mk (Below.trod PL.laidOut (by kernel_rfl) (of_decide_eq_true (by kernel_rfl)) k1 bel lt1) trodAll_mk0)), rfl, bel.frame _, fun h => by cases h⟩
theorem over : Rows.ledgerNobodyRow.holds Try.pinned (OpenSpec.ofChange Rows.ledgerNobodySpec) :=
  OpenClaim.holds_of_wide 7 Try.f7 rfl rfl rfl rfl rfl rfl rfl ⟨rfl, rfl, rfl, rfl, rfl⟩ rfl rfl rfl rfl rfl (by kernel_rfl) Try.func7 (by kernel_rfl)
    (of_decide_eq_true (by kernel_rfl)) (by unfold Func.isWrapper; first | (rw [if_pos (by decide +kernel)]; kernel_rfl) | (rw [if_neg (by decide +kernel)]; exact ⟨rfl, rfl⟩))
    (fun os started H enc _ => lifted os started H enc)
theorem proved : Rows.LedgerNobodySaid := over
end Go.Proofs.Ytoknlpecbdlbfaa.ledgerNobody
namespace Go.Proofs.Ytoknlpecbdlbfaa
/-- The row, under a short name, for the claim. -/
theorem ledgerNobody_holds : Rows.LedgerNobodySaid := ledgerNobody.proved
end Go.Proofs.Ytoknlpecbdlbfaa
