/- LedgerTells holds: whatever posts, account, owner and thing come in (more than forty posts, or more than three hundred entries, are let go, as the statement says), the program's ledger and the document's list tell the same behind all posts: what the account has, what the owner has of the thing, what came from outside, and which things there are; and the chapter's example holds. No condition on the inputs. -/
import Derived.Test.YtoknlpecbdlbfaaG5
import Derived.Test.YtoknlpecbdlbfaaRows
import Derived.WalkKit
import Derived.ProofKit
import Derived.OpenShut
import Derived.ShutString
import Derived.ChangeOld
import Derived.Below
import Derived.SizedLaws

-- LedgerNobody, walked.
namespace Go.Proofs.Ytoknlpecbdlbfaa.PL
open Go Go.RowKit Go.Maps Go.Sort Go.Shelf Go.Proofs Go.Proofs.YtoknlpecbdlbfaaW.PrintWords Go.Proofs.YtoknlpecbdlbfaaW.PrintLast
theorem NoLG.below {w w' : World} {p : Value} (h : NoLG w p) (hb : Below w.heap.size w w') : NoLG w' p := by
  rcases h with rfl | ⟨g, rfl, hc⟩
  · exact .inl rfl
  · exact .inr ⟨g, rfl, cell_keep hb hc⟩
theorem of_any (a0 a1 : Int) (a2 : ByteArray) (w : World) : Calls Try.prog 26 #[.agg #[.int .i64 a0, .int .i64 a1, .string a2]] w fun e w' => e = .returned (.agg #[.int .i64 a0, .int .i64 a1, .string a2]) ∧ Below w.heap.size w w' :=
  lombardlaw11_of.calls a0 a1 a2 a0 a1 a2 w rfl
/-- a's own cells, at the block k. -/
def A3 (a0 a1 : Int) (a2 : ByteArray) (k : Nat) (W : World) : Prop := W.cell? ⟨k, 0, none⟩ = some (.int .i64 a0) ∧ W.cell? ⟨k, 1, none⟩ = some (.int .i64 a1) ∧ W.cell? ⟨k, 2, none⟩ = some (.string a2)
theorem A3.below {a0 a1 : Int} {a2 : ByteArray} {k : Nat} {w w' : World} (h : A3 a0 a1 a2 k w) (hb : Below w.heap.size w w') : A3 a0 a1 a2 k w' := ⟨cell_keep hb h.1, cell_keep hb h.2.1, cell_keep hb h.2.2⟩
theorem all_none {w : World} {p : Value} (h : NoLG w p) : Calls Try.prog 23 #[p] w fun o w' => ∃ (A : Option Addr) (c : Nat), o = .returned (.slice A 0 c) ∧ Below w.heap.size w w' :=
  (all_no h).slice.mono (fun o w' ⟨A, c, h1, h2⟩ => ⟨A, c, h1, h2.2.1⟩)
theorem things_none {w : World} {p : Value} (h : NoLG w p) : Calls Try.prog 32 #[p] w fun o w' => ∃ (A : Option Addr) (c : Nat), o = .returned (.slice A 0 c) ∧ Below w.heap.size w w' := by
  refine (things_walk p w [] (all_no h) (by simp)).mono ?_
  rintro o w' ⟨v, rfl, h1, h2⟩
  obtain ⟨A, c, rfl, _, _⟩ := Kd.R_reads h1
  exact ⟨A, c, rfl, h2⟩
theorem held_none {w : World} {p : Value} (h : NoLG w p) (o : Int) (t : ByteArray) : Calls Try.prog 28 #[p, .int .i64 o, .string t] w fun e w' => e = .returned (.int .i64 0) ∧ Below w.heap.size w w' :=
  held_walk p w [] o t (all_no h) (by simp)
theorem out_none {w : World} {p : Value} (h : NoLG w p) (t : ByteArray) : Calls Try.prog 30 #[p, .string t] w fun e w' => e = .returned (.int .i64 0) ∧ Below w.heap.size w w' :=
by
  have h1 := out_walk p w [] t (all_no h) (by simp)
  have e : wrap64 (-heldL [] 0 t) = 0 := by kernel_rfl
  rw [e] at h1
  exact h1
theorem cell_at {W : World} {k : Nat} {cs : Array Value} {t : TypeId} {f : Nat × Nat} (h : W.heap[k]? = some (.cells cs t f)) (i : Nat) : W.cell? ⟨k, i, none⟩ = cs[i]? := by
  unfold World.cell?
  rw [h]
  rfl
/-- What the walk of LedgerNobody has laid. -/
structure NS (w : World) (a0 a1 : Int) (a2 : ByteArray) (p : Value) (W : World) : Prop where
  a3 : A3 a0 a1 a2 w.heap.size W
  c0 : W.cell? ⟨w.heap.size + 1, 0, none⟩ = some (.map none)
  c1 : W.cell? ⟨w.heap.size + 1 + 1, 0, none⟩ = some (.pointer none)
  c2 : W.cell? ⟨w.heap.size + 1 + 1, 1, none⟩ = some (.pointer (some ⟨w.heap.size + 1, 0, none⟩))
  no : NoLG W p
  bl : Below w.heap.size w W
theorem NS.below {w : World} {a0 a1 : Int} {a2 : ByteArray} {p : Value} {W W' : World} (h : NS w a0 a1 a2 p W) (hb : Below W.heap.size W W') : NS w a0 a1 a2 p W' :=
  ⟨h.a3.below hb, cell_keep hb h.c0, cell_keep hb h.c1, cell_keep hb h.c2, h.no.below hb, h.bl.trans (hb.mono h.bl.size)⟩
theorem NS.new {w : World} {a0 a1 : Int} {a2 : ByteArray} : NS w a0 a1 a2 (.pointer none) (((w.alloc (.cells #[.int .i64 a0, .int .i64 a1, .string a2] 45)).alloc (.cells #[.map none] 62)).alloc (.cells #[.pointer none, .pointer (some ⟨w.heap.size + 1, 0, none⟩)] 25)) := by
  have e1 : (w.alloc (.cells #[.int .i64 a0, .int .i64 a1, .string a2] 45)).heap.size = w.heap.size + 1 := by simp
  have e2 : ((w.alloc (.cells #[.int .i64 a0, .int .i64 a1, .string a2] 45)).alloc (.cells #[.map none] 62)).heap.size = w.heap.size + 1 + 1 := by simp
  have hA := (Go.MapKept.heap_alloc w (.cells #[.int .i64 a0, .int .i64 a1, .string a2] 45)).1
  have hB := (Go.MapKept.heap_alloc (w.alloc (.cells #[.int .i64 a0, .int .i64 a1, .string a2] 45)) (.cells #[.map none] 62))
  have hC := (Go.MapKept.heap_alloc ((w.alloc (.cells #[.int .i64 a0, .int .i64 a1, .string a2] 45)).alloc (.cells #[.map none] 62)) (.cells #[.pointer none, .pointer (some ⟨w.heap.size + 1, 0, none⟩)] 25))
  have hb : Below w.heap.size w (((w.alloc (.cells #[.int .i64 a0, .int .i64 a1, .string a2] 45)).alloc (.cells #[.map none] 62)).alloc (.cells #[.pointer none, .pointer (some ⟨w.heap.size + 1, 0, none⟩)] 25)) := (((Below.refl _ _).alloc (Nat.le_refl _) _).alloc (by simp) _).alloc (by simp; omega) _
  rw [e1] at hB
  rw [e2] at hC
  have h1 := (hC.2 w.heap.size (by omega)).trans ((hB.2 w.heap.size (by omega)).trans hA)
  have h2 := (hC.2 (w.heap.size + 1) (by omega)).trans hB.1
  have h3 := hC.1
  clear hA hB hC e1 e2
  generalize (((w.alloc (.cells #[.int .i64 a0, .int .i64 a1, .string a2] 45)).alloc (.cells #[.map none] 62)).alloc (.cells #[.pointer none, .pointer (some ⟨w.heap.size + 1, 0, none⟩)] 25)) = W at h1 h2 h3 hb ⊢
  exact ⟨⟨cell_at h1 0, cell_at h1 1, cell_at h1 2⟩, cell_at h2 0, cell_at h3 0, cell_at h3 1, .inl rfl, hb⟩
theorem NS.at {w : World} {a0 a1 : Int} {a2 : ByteArray} {W : World} (h : NS w a0 a1 a2 (.pointer none) W) {k : Nat} (hk : k < 2) : ∃ p, W.cell? ⟨w.heap.size + 1 + 1, k, none⟩ = some p ∧ NS w a0 a1 a2 p W := by
  have h2 : k = 0 ∨ k = 1 := by omega
  rcases h2 with rfl | rfl
  · exact ⟨_, h.c1, h⟩
  · exact ⟨_, h.c2, h.a3, h.c0, h.c1, h.c2, .inr ⟨_, rfl, h.c0⟩, h.bl⟩
set_option maxRecDepth 100000 in
set_option maxHeartbeats 2000000 in
theorem nobody_walk (A : Option Addr) (c : Nat) (xs : List S47) (a : S45) (w : World) (hq : QS 72 Q47 xs) (hr : Kd.C k47 w A xs.length xs) (hc : xs.length ≤ c) :
    Calls Try.prog 7 #[.slice A xs.length c, .agg #[.int .i64 a.f0, .int .i64 a.f1, .string a.f2]] w fun e w' => e = .returned (.bool true) ∧ Below w.heap.size w w' := by
  obtain ⟨a0, a1, a2⟩ := a
  have HP := Lib.hid (And.intro hq.1 (And.intro hr hc))
  clear hq hr hc
  go_enter Try.func7, Try.ntmps7
  go_wp2
  go_loopg [6, 7, 8, 13] 3 (fun kq v6 v7 v8 v13 w' => ∃ k : Nat, v13 = .int .i64 k ∧ Hid (kq + k = 3 ∧ k ≤ 2 ∧ NS w a0 a1 a2 (.pointer none) w'))
  case atStart => exact ⟨0, rfl, ⟨rfl, by omega, NS.new⟩⟩
  case round =>
    obtain ⟨k, rfl, HI⟩ := hrel
    by_cases hk : k < 2
    · obtain ⟨p, x0, hS⟩ := HI.out.2.2.at hk
      have S1 := Lib.hid hS
      obtain ⟨y0, y1, y2⟩ := hS.a3
      clear hS
      have hX := Lib.hid (Kd.C_below HP.out.2.1 HI.out.2.2.bl)
      have p1 : (0 ≤ (k : Int)) = True := eq_true (by omega)
      have q1 : ((k : Int) < 2) = True := eq_true (by omega)
      have hl64 : wrap64 ((k : Int) + 1) = ((k + 1 : Nat) : Int) := by
        rw [wrap_id (by omega) (by omega)]; rfl
      have HK := Lib.hid hk
      have Hw := Lib.hid hl64
      clear hk hl64
      go_wp2_with (first
        | (go_at_call 24; refine (clone_no S9.out.no).mono ?_; rintro e w10 ⟨rfl, rfl⟩)
        | (go_at_call 30; refine (out_none S8.out.no _).mono ?_; rintro e w9 ⟨rfl, H9⟩; have S9 := Lib.hid (S8.out.below H9); clear H9)
        | (go_at_call 28; refine (held_none S7.out.no _ _).mono ?_; rintro e w8 ⟨rfl, H8⟩; have S8 := Lib.hid (S7.out.below H8); obtain ⟨y0, y1, y2⟩ := S8.out.a3; clear H8)
        | (go_at_call 32; refine (things_none S6.out.no).mono ?_; rintro e w7 ⟨A7, c7', rfl, H7⟩; have S7 := Lib.hid (S6.out.below H7); obtain ⟨y0, y1, y2⟩ := S7.out.a3; clear H7)
        | (go_at_call 23; refine (all_none S5.out.no).mono ?_; rintro e w6 ⟨A6, c6, rfl, H6⟩; have S6 := Lib.hid (S5.out.below H6); clear H6)
        | (go_at_call 25; refine (balance_no S4.out.no _ _ _).mono ?_; rintro e w5 ⟨rfl, H5⟩; have S5 := Lib.hid (S4.out.below H5); clear H5)
        | (go_at_call 26; refine (of_any _ _ _ _).mono ?_; rintro e w4 ⟨rfl, H4⟩; have S4 := Lib.hid (S2.out.below H4); clear H4)
        | (go_at_call 19; refine (post_no S2.out.no _).mono ?_; rintro e w3 ⟨rfl, rfl⟩)
        | (go_at_call 20; refine (entries_any A c xs _ hX.out HP.out.2.2 (by have := HP.out.1; omega)).mono ?_; rintro e w2 ⟨A2, c2, rfl, H2⟩; have S2 := Lib.hid (S1.out.below H2.out.2); obtain ⟨y0, y1, y2⟩ := S2.out.a3; clear H2))
      go_roundg (2 - k)
      case measure => have := HI.out.1; have := HK.out; omega
      case rel =>
        have h9 := S9.out
        refine ⟨k + 1, by rw [Hw.out], ⟨by have := HI.out.1; have := HK.out; omega, HK.out, h9.a3, h9.c0, h9.c1, h9.c2, .inl rfl, h9.bl⟩⟩
    · have hk' : ((k : Int) < 2) = False := eq_false (by omega)
      clear hk
      go_wp2_with (go_at_call 16; refine (awake_walk _).mono ?_; rintro e w2 ⟨rfl, H2⟩; replace H2 := Lib.hid H2)
      go_ret
      exact ⟨rfl, HI.out.2.2.bl.trans (H2.out.mono HI.out.2.2.bl.size)⟩
theorem nobody_row (A : Option Addr) (c : Nat) (xs : List S47) (a : S45) (w : World) (hq : QS 72 Q47 xs) (hr : Kd.C k47 w A xs.length xs) (hc : xs.length ≤ c) (_ : Q45 a) :
    Calls Try.prog 7 #[.slice A xs.length c, .agg #[.int .i64 a.f0, .int .i64 a.f1, .string a.f2]] w fun e w' => e = .returned (.bool true) ∧ Below w.heap.size w w' := nobody_walk A c xs a w hq hr hc
end Go.Proofs.Ytoknlpecbdlbfaa.PL

-- LedgerTells, walked.
namespace Go.Proofs.Ytoknlpecbdlbfaa.PL
open Go Go.RowKit Go.Maps Go.Sort Go.Shelf Go.Proofs Go.Proofs.YtoknlpecbdlbfaaW.PrintWords Go.Proofs.YtoknlpecbdlbfaaW.PrintLast
theorem A3.grown {a0 a1 : Int} {a2 : ByteArray} {k b : Nat} {w w' : World} (h : A3 a0 a1 a2 k w) (hg : w.grownBy w' (some b)) (hk : k ≠ b) : A3 a0 a1 a2 k w' := by
  have e : ∀ {i : Nat} {v : Value}, w.cell? ⟨k, i, none⟩ = some v → w'.cell? ⟨k, i, none⟩ = some v := fun hc => (World.cell?_of_block (hg.block _ (World.block_lt_of_cell? w _ hc) (by simpa using hk))).trans hc
  exact ⟨e h.1, e h.2.1, e h.2.2⟩
/-- What stands behind the posts of LedgerTells. -/
structure TS (w : World) (g b : Nat) (L : List S82) (A : Option Addr) (c : Nat) (M : List (S42 × Int)) (a0 a1 : Int) (a2 : ByteArray) (W : World) : Prop where
  lg : LG W g b M
  rep : Rep M L
  hC : Kd.C k82 W A L.length L
  hc : L.length ≤ c
  len : L.length ≤ 1000000
  a3 : A3 a0 a1 a2 w.heap.size W
  below : Below w.heap.size w W
theorem TS.step {w : World} {g b : Nat} {L : List S82} {A : Option Addr} {c : Nat} {M : List (S42 × Int)} {a0 a1 : Int} {a2 : ByteArray} {W W' : World} (h : TS w g b L A c M a0 a1 a2 W) (hb : Below W.heap.size W W') : TS w g b L A c M a0 a1 a2 W' :=
  ⟨h.lg.below hb, h.rep, Kd.C_below h.hC hb, h.hc, h.len, h.a3.below hb, h.below.trans (hb.mono h.below.size)⟩
section
variable {w : World} {g b : Nat} {L : List S82} {A : Option Addr} {c : Nat} {M : List (S42 × Int)} {a0 a1 : Int} {a2 : ByteArray} {W : World} (h : TS w g b L A c M a0 a1 a2 W)
include h
theorem TS.balance (hq : Q45 ⟨a0, a1, a2⟩) : Calls Try.prog 25 #[.pointer (some ⟨g, 0, none⟩), .agg #[.int .i64 a0, .int .i64 a1, .string a2]] W fun e w' => e = .returned (.int .i64 (getL L a0 a1 a2)) ∧ TS w g b L A c M a0 a1 a2 w' ∧ A3 a0 a1 a2 w.heap.size w' := by
  refine (balance_any h.lg (a := ⟨a0, a1, a2⟩) ⟨hq.1, hq.2.1, by have h5 : a2.size ≤ 140737488351232 := hq.2.2; show a2.size ≤ maxLen; unfold maxLen; omega⟩).mono ?_
  rintro e w' ⟨rfl, hb⟩
  refine ⟨?_, h.step hb, (h.step hb).a3⟩
  rw [h.rep.same]
  rfl
theorem TS.of : Calls Try.prog 26 #[.agg #[.int .i64 a0, .int .i64 a1, .string a2]] W fun e w' => e = .returned (.agg #[.int .i64 a0, .int .i64 a1, .string a2]) ∧ TS w g b L A c M a0 a1 a2 w' ∧ A3 a0 a1 a2 w.heap.size w' :=
  (of_any a0 a1 a2 W).mono (fun _ _ ⟨e, hb⟩ => ⟨e, h.step hb, (h.step hb).a3⟩)
theorem TS.get : Calls Try.prog 27 #[.slice A L.length c, .agg #[.int .i64 a0, .int .i64 a1, .string a2]] W fun e w' => e = .returned (.int .i64 (getL L a0 a1 a2)) ∧ TS w g b L A c M a0 a1 a2 w' ∧ A3 a0 a1 a2 w.heap.size w' :=
  (get_any (by have := h.len; omega) h.hC h.hc ⟨a0, a1, a2⟩).mono (fun _ _ ⟨e, hb⟩ => ⟨e, h.step hb, (h.step hb).a3⟩)
theorem TS.held (o : Int) (t : ByteArray) : Calls Try.prog 28 #[.pointer (some ⟨g, 0, none⟩), .int .i64 o, .string t] W fun e w' => e = .returned (.int .i64 (heldL L o t)) ∧ TS w g b L A c M a0 a1 a2 w' ∧ A3 a0 a1 a2 w.heap.size w' :=
  (held_walk _ W L o t (all_gives h.lg h.rep (by have := h.len; omega)) (by have := h.len; omega)).mono (fun _ _ ⟨e, hb⟩ => ⟨e, h.step hb, (h.step hb).a3⟩)
theorem TS.rheld (o : Int) (t : ByteArray) : Calls Try.prog 29 #[.slice A L.length c, .int .i64 o, .string t] W fun e w' => e = .returned (.int .i64 (heldL L o t)) ∧ TS w g b L A c M a0 a1 a2 w' ∧ A3 a0 a1 a2 w.heap.size w' :=
  (lombardref11_Held.calls _ A c L o t _ W h.hC h.hc (held_f L (by have := h.len; omega) o t)).mono (fun _ _ ⟨e, hb⟩ => ⟨e, h.step hb.below, (h.step hb.below).a3⟩)
theorem TS.out (t : ByteArray) : Calls Try.prog 30 #[.pointer (some ⟨g, 0, none⟩), .string t] W fun e w' => e = .returned (.int .i64 (wrap64 (0 - heldL L 0 t))) ∧ TS w g b L A c M a0 a1 a2 w' ∧ A3 a0 a1 a2 w.heap.size w' :=
  (out_walk _ W L t (all_gives h.lg h.rep (by have := h.len; omega)) (by have := h.len; omega)).mono (fun _ _ ⟨e, hb⟩ => ⟨by rw [Int.zero_sub]; exact e, h.step hb, (h.step hb).a3⟩)
theorem TS.things : Calls Try.prog 32 #[.pointer (some ⟨g, 0, none⟩)] W fun e w' => ∃ (A2 : Option Addr) (c2 : Nat), e = .returned (.slice A2 (compB (thingsOf L)).length c2) ∧ Hid (TS w g b L A c M a0 a1 a2 w' ∧ Kd.C Kd.string w' A2 (compB (thingsOf L)).length (compB (thingsOf L)) ∧ (compB (thingsOf L)).length ≤ c2) ∧ A3 a0 a1 a2 w.heap.size w' := by
  refine (things_walk _ W L (all_gives h.lg h.rep (by have := h.len; omega)) (by have := h.len; omega)).mono ?_
  rintro e w' ⟨v, rfl, h1, hb⟩
  obtain ⟨A2, c2, rfl, h3, h4⟩ := Kd.R_reads h1
  exact ⟨A2, c2, rfl, ⟨h.step hb, h4, h3⟩, (h.step hb).a3⟩
theorem TS.rthings : Calls Try.prog 33 #[.slice A L.length c] W fun e w' => ∃ (A2 : Option Addr) (c2 : Nat), e = .returned (.slice A2 (compB (thingsOf L)).length c2) ∧ Hid (TS w g b L A c M a0 a1 a2 w' ∧ Kd.C Kd.string w' A2 (compB (thingsOf L)).length (compB (thingsOf L)) ∧ (compB (thingsOf L)).length ≤ c2 ∧ Below W.heap.size W w') ∧ A3 a0 a1 a2 w.heap.size w' := by
  refine (lombardref11_Things.calls _ A c L _ W h.hC h.hc (things_f L h.len)).mono ?_
  rintro e w' ⟨v, rfl, h1, hb⟩
  obtain ⟨A2, c2, rfl, h3, h4⟩ := Kd.R_reads h1
  exact ⟨A2, c2, rfl, ⟨h.step hb, h4, h3, hb⟩, (h.step hb).a3⟩
theorem TS.texts {A1 A2 : Option Addr} {c1 c2 : Nat} (h1 : Kd.C Kd.string W A1 (compB (thingsOf L)).length (compB (thingsOf L))) (h2 : (compB (thingsOf L)).length ≤ c1) (h3 : Kd.C Kd.string W A2 (compB (thingsOf L)).length (compB (thingsOf L))) (h4 : (compB (thingsOf L)).length ≤ c2) :
    Calls Try.prog 31 #[.slice A1 (compB (thingsOf L)).length c1, .slice A2 (compB (thingsOf L)).length c2] W fun e w' => e = .returned (.bool true) ∧ TS w g b L A c M a0 a1 a2 w' ∧ A3 a0 a1 a2 w.heap.size w' := by
  have hl : (compB (thingsOf L)).length ≤ 1000000 := Nat.le_trans (compB_length _) (by have := h.len; simpa [thingsOf] using this)
  exact (lombardref07_Texts.calls _ A1 c1 _ A2 c2 _ true W h1 h2 h3 h4 (texts_f _ hl)).mono (fun _ _ ⟨e, hb⟩ => ⟨e, h.step hb.below, (h.step hb.below).a3⟩)
theorem TS.awake : Calls Try.prog 16 #[] W fun e w' => e = .returned (.bool true) ∧ TS w g b L A c M a0 a1 a2 w' ∧ A3 a0 a1 a2 w.heap.size w' :=
  (awake_walk W).mono (fun _ _ ⟨e, hb⟩ => ⟨e, h.step hb, (h.step hb).a3⟩)
end
end Go.Proofs.Ytoknlpecbdlbfaa.PL

-- LedgerTells, walked.
namespace Go.Proofs.Ytoknlpecbdlbfaa.PL
open Go Go.RowKit Go.Maps Go.Sort Go.Shelf Go.Proofs Go.Proofs.YtoknlpecbdlbfaaW.PrintWords Go.Proofs.YtoknlpecbdlbfaaW.PrintLast
set_option maxRecDepth 100000 in
set_option maxHeartbeats 2000000 in
theorem tells_walk (A : Option Addr) (c : Nat) (P : List (List S47)) (a : S45) (o : Int) (t : ByteArray) (w : World) (hq : QS 24 (QS 72 Q47) P) (hr : Kd.C (Kd.slice 47 k47) w A P.length P) (hc : P.length ≤ c) (ha : Q45 a) :
    Calls Try.prog 6 #[.slice A P.length c, .agg #[.int .i64 a.f0, .int .i64 a.f1, .string a.f2], .int .i64 o, .string t] w fun e w' => e = .returned (.bool true) ∧ Below w.heap.size w w' := by
  obtain ⟨a0, a1, a2⟩ := a
  have hb0 : Below w.heap.size w (w.alloc (.cells #[.int .i64 a0, .int .i64 a1, .string a2] 45)) := (Below.refl _ _).alloc (Nat.le_refl _) _
  have h30 : A3 a0 a1 a2 w.heap.size (w.alloc (.cells #[.int .i64 a0, .int .i64 a1, .string a2] 45)) := by
    have hA := (Go.MapKept.heap_alloc w (.cells #[.int .i64 a0, .int .i64 a1, .string a2] 45)).1
    exact ⟨cell_at hA 0, cell_at hA 1, cell_at hA 2⟩
  obtain ⟨r, hs, hr2⟩ := short_any A c P _ hq (Kd.C_below hr hb0) hc
  have HS := Lib.hid hs
  have H0 := Lib.hid (And.intro hb0 h30)
  have HA := Lib.hid ha
  cases r with
  | false =>
    clear hs hr2 hq hr hc hb0 h30 ha
    go_enter Try.func6, Try.ntmps6
    go_wp2_with (first
      | (go_at_call 15; refine HS.out.mono ?_; rintro e w1 ⟨rfl, H1⟩; replace H1 := Lib.hid H1)
      | (go_at_call 16; refine (awake_walk _).mono ?_; rintro e w2 ⟨rfl, H2⟩; replace H2 := Lib.hid H2))
    go_ret
    have h1 := H0.out.1.trans (H1.out.mono H0.out.1.size)
    exact ⟨rfl, h1.trans (H2.out.mono h1.size)⟩
  | true =>
    have HP := Lib.hid (And.intro (hr2 rfl) (And.intro hr hc))
    clear hs hr2 hq hr hc hb0 h30 ha
    go_enter Try.func6, Try.ntmps6
    go_wp2_with (first
      | (go_at_call 15; refine HS.out.mono ?_; rintro e w1 ⟨rfl, H1⟩; replace H1 := Lib.hid H1)
      | (go_at_call 17; refine (new_any _).mono ?_; rintro e w2 ⟨rfl, H2⟩; replace H2 := Lib.hid H2))
    have HB1 := Lib.hid (H0.out.1.trans (H1.out.mono H0.out.1.size))
    have HB2 := Lib.hid (HB1.out.trans (H2.out.2.mono HB1.out.size))
    have H31 := Lib.hid ((H0.out.2.below H1.out).below H2.out.2)
    have Hlt := Lib.hid (show w.heap.size < w1.heap.size by have := H1.out.size; simp at this; omega)
    clear HS
    go_loopg [10, 11] (P.length + 1) (fun kq v4 v5 w' => ∃ (k : Nat) (L : List S82) (A1 : Option Addr) (c1 : Nat) (M : List (S42 × Int)), v4 = .slice A1 L.length c1 ∧ v5 = .int .i64 k ∧ Hid (kq + k = P.length + 1 ∧ k ≤ P.length ∧ SG w w' (w1.heap.size + 1) w1.heap.size P k L A1 c1 M ∧ A3 a0 a1 a2 w.heap.size w'))
    case atStart =>
      refine ⟨0, [], none, 0, [], rfl, rfl, ⟨rfl, Nat.zero_le _, ?_, H31.out⟩⟩
      exact ⟨H2.out.1, Rep.nil, BM.nil, ⟨rfl, by simp, fun h => absurd h (by simp)⟩, Nat.le_refl _, HB2.out, HB1.out.size, Nat.zero_le _⟩
    case round =>
      obtain ⟨k, L, A1, c1, M, rfl, rfl, HI⟩ := hrel
      by_cases hk : k < P.length
      · have hP : Kd.C (Kd.slice 47 k47) wr A P.length P := Kd.C_below HP.out.2.1 HI.out.2.2.1.below
        obtain ⟨ad, A0, c0, eA, x0, x1, x2⟩ := at_L4 hP (k : Int) (by omega) (by omega)
        have e1 : rd_L4 P (k : Int) = P[k] := by
          unfold rd_L4
          simp [List.getD, hk]
        rw [e1] at x0 x1 x2
        simp only [Int.toNat_natCast] at x0
        have hx : P[k].length ≤ 300 := Nat.le_trans (totL_mem (List.getElem_mem hk)) HP.out.1.2
        have hLl : L.length ≤ 600 := Nat.le_trans HI.out.2.2.1.len (by have := totL_le P k; have := HP.out.1.2; omega)
        have hL' := pst_len hk HI.out.2.2.1.len
        obtain ⟨⟨L', n, f⟩, hR⟩ : ∃ R, pstL L 0 L (P[k].map toE) = R := ⟨_, rfl⟩
        rw [hR] at hL'
        replace hL' : L'.length ≤ 2 * totL (P.take (k + 1)) := hL'
        have hl64 : wrap64 ((k : Int) + 1) = ((k + 1 : Nat) : Int) := by
          have h3 := HP.out.1.1
          rw [wrap_id (by omega) (by omega)]; rfl
        obtain ⟨xs, hxs⟩ : ∃ xs, P[k] = xs := ⟨_, rfl⟩
        rw [hxs] at x0 x1 x2 hx hR
        have HX := Lib.hid x2
        have HXc := Lib.hid x1
        have HX3 := Lib.hid hx
        have HL6 := Lib.hid hLl
        have HL' := Lib.hid hL'
        have HR := Lib.hid hR
        have Hw := Lib.hid hl64
        have HK := Lib.hid hk
        have HM7 := Lib.hid (show L'.length ≤ 1000000 by have := totL_le P (k + 1); have := HP.out.1.2; have := HL'.out; omega)
        subst eA
        have p1 : (0 ≤ (k : Int)) = True := eq_true (by omega)
        have q1 : ((k : Int) < (P.length : Int)) = True := eq_true (by omega)
        clear e1 hP x1 x2 hx hLl hL' hR hl64 hxs hk
        go_wp2_with (first
          | (go_at_call 19; refine (post_both (HI.out.2.2.1.lg.below (H3.out.2.2.trans (H4.out.2.mono H3.out.2.2.size))) HI.out.2.2.1.rep HI.out.2.2.1.bm A4 c4 xs H4.out.1 (by have := HX3.out; omega) (by have := HL6.out; omega) _ HR.out).mono ?_; rintro e w5 ⟨M', rfl, H5⟩)
          | (go_at_call 20; refine (entries_any A0 c0 xs _ (Kd.C_below HX.out H3.out.2.2) HXc.out (by have := HX3.out; omega)).mono ?_; rintro e w4 ⟨A4, c4, rfl, H4⟩)
          | (go_at_call 18; refine (rpost_any A1 A0 c1 c0 L xs _ HI.out.2.2.1.hC HI.out.2.2.1.hc HX.out (by have := HX3.out; omega) (by have := HL6.out; omega) _ HR.out).mono ?_; rintro e w3 ⟨A2, c2, rfl, H3⟩; have y0 := cell_keep H3.out.2.2 x0))
        go_roundg (P.length - k)
        case measure => have := HI.out.1; have := HK.out; omega
        case rel =>
          have hb3 := H3.out.2.2
          have hb4 := hb3.trans (H4.out.2.mono hb3.size)
          have hbel := HI.out.2.2.1.below
          have h4 := hbel.trans (hb4.mono hbel.size)
          have h5 := h4.grown H5.out.2.2.2 h4.size (by have := HI.out.2.2.1.hb; simp; exact this)
          refine ⟨k + 1, L', A2, c2, M', rfl, by rw [Hw.out], ⟨by have := HI.out.1; have := HK.out; omega, HK.out, ?_, ?_⟩⟩
          · have hC6 := C82_grown (Kd.C_below H3.out.1 H4.out.2) H5.out.2.2.2 (HI.out.2.2.1.lg.map.below hb4)
            exact ⟨H5.out.1, H5.out.2.1, H5.out.2.2.1, hC6, H3.out.2.1, h5, HI.out.2.2.1.hb, HL'.out⟩
          · exact ((HI.out.2.2.2.below hb3).below H4.out.2).grown H5.out.2.2.2 (by have := Hlt.out; omega)
      · have hk' : ((k : Int) < (P.length : Int)) = False := eq_false (by omega)
        have HL6 := Lib.hid (show L.length ≤ 1000000 from Nat.le_trans HI.out.2.2.1.len (by have := totL_le P k; have := HP.out.1.2; omega))
        have T00 : TS w (w1.heap.size + 1) w1.heap.size L A1 c1 M a0 a1 a2 wr := ⟨HI.out.2.2.1.lg, HI.out.2.2.1.rep, HI.out.2.2.1.hC, HI.out.2.2.1.hc, HL6.out, HI.out.2.2.2, HI.out.2.2.1.below⟩
        have T0 := Lib.hid (T00.step (Below.refl _ wr).drew)
        clear T00
        obtain ⟨ν, hν⟩ : ∃ ν, wrap64 (-(heldL L 0 t)) = ν := ⟨_, rfl⟩
        have hν' : wrap64 (0 - heldL L 0 t) = ν := by rw [Int.zero_sub]; exact hν
        have hν2 : IntKind.i64.wrap (-(heldL L 0 t)) = ν := (IntKind.wrap_i64 _).trans (by unfold wrap64 at hν; exact hν)
        clear hk
        go_wp2
        have hS1 : wr.drew.cell? ⟨w.heap.size, 0, none⟩ = some (.int .i64 a0) ∧ wr.drew.cell? ⟨w.heap.size, 1, none⟩ = some (.int .i64 a1) ∧ wr.drew.cell? ⟨w.heap.size, 2, none⟩ = some (.string a2) := T0.out.a3
        go_region_held3 (fun w' => w'.cell? ⟨w.heap.size, 0, none⟩ = some (.int .i64 a0) ∧ w'.cell? ⟨w.heap.size, 1, none⟩ = some (.int .i64 a1) ∧ w'.cell? ⟨w.heap.size, 2, none⟩ = some (.string a2))
          (first | assumption)
          (first
            | (go_at_call 16; refine T12.out.awake.mono ?_; rintro e w13 ⟨rfl, H13, k13⟩; have T13 := Lib.hid H13; clear H13)
            | (go_at_call 31; refine (TS.texts H11.out.1 (Kd.C_below H10.out.2.1 H11.out.2.2.2) H10.out.2.2 H11.out.2.1 H11.out.2.2.1).mono ?_; rintro e w12 ⟨rfl, H12, k12⟩; have T12 := Lib.hid H12; clear H12)
            | (go_at_call 33; refine H10.out.1.rthings.mono ?_; rintro e w11 ⟨A11, c11, rfl, H11, k11⟩)
            | (go_at_call 32; refine T9.out.things.mono ?_; rintro e w10 ⟨A10, c10, rfl, H10, k10⟩)
            | (go_at_call 29; refine (T8.out.rheld _ _).mono ?_; rintro e w9 ⟨rfl, H9, k9⟩; have T9 := Lib.hid H9; clear H9)
            | (go_at_call 30; refine (T7.out.out _).mono ?_; rintro e w8 ⟨he, H8, k8⟩; rw [hν'] at he; subst he; have T8 := Lib.hid H8; clear H8)
            | (go_at_call 29; refine (T6.out.rheld _ _).mono ?_; rintro e w7 ⟨rfl, H7, k7⟩; have T7 := Lib.hid H7; clear H7)
            | (go_at_call 28; refine (T5.out.held _ _).mono ?_; rintro e w6 ⟨rfl, H6, k6⟩; have T6 := Lib.hid H6; clear H6)
            | (go_at_call 27; refine T4.out.get.mono ?_; rintro e w5 ⟨rfl, H5, k5⟩; have T5 := Lib.hid H5; clear H5)
            | (go_at_call 25; refine (T3.out.balance HA.out).mono ?_; rintro e w4 ⟨rfl, H4, k4⟩; have T4 := Lib.hid H4; clear H4)
            | (go_at_call 26; refine T0.out.of.mono ?_; rintro e w3 ⟨rfl, H3, k3⟩; have T3 := Lib.hid H3; clear H3))
        go_wp2
        go_ret
        exact ⟨rfl, T13.out.below⟩
theorem tells_row (A : Option Addr) (c : Nat) (P : List (List S47)) (a : S45) (o : Int) (t : ByteArray) (w : World) (hq : QS 24 (QS 72 Q47) P) (hr : Kd.C (Kd.slice 47 k47) w A P.length P) (hc : P.length ≤ c) (ha : Q45 a) :
    Calls Try.prog 6 #[.slice A P.length c, .agg #[.int .i64 a.f0, .int .i64 a.f1, .string a.f2], .int .i64 o, .string t] w fun e w' => e = .returned (.bool true) ∧ Below w.heap.size w w' := tells_walk A c P a o t w hq hr hc ha
end Go.Proofs.Ytoknlpecbdlbfaa.PL

/- LedgerTells' row. -/
namespace Go.Proofs.Ytoknlpecbdlbfaa.ledgerTells
open Go Go.RowKit Go.ChangeShapes Go.WideShapes Go.ChangeAt Go.Proofs
open Go.ChangeMaps (open_string shut_string)
set_option linter.unusedVariables false
theorem own : ownKnob Try.prog.godebug = none := by kernel_rfl
set_option maxRecDepth 100000 in
theorem lifted (os : Os) (started : os.Started) (H : Type) (enc : TypeId × Value → H) :
    ReturnsInHanded {} Try.checked os 6 .any (Rows.ledgerTellsSpec.pre6 enc Try.prog Try.f6 Rows.ledgerTellsRow.domain false) (Rows.ledgerTellsSpec.post enc Try.prog Try.f6 false true false false) := by
  refine returnsInHanded_of_change_sized (C := Try.checked) own started (by kernel_rfl) Try.func6
    (ChangeSpec.witness6 (enc := enc) (C := Try.checked) false ⟨#[], #[.slice none 0 0, .agg #[.int .i64 0, .int .i64 0, .string ByteArray.empty], .int .i64 0, .string ByteArray.empty], []⟩ 8 (by kernel_rfl) (by kernel_rfl) (by kernel_rfl) (by kernel_rfl)) ?_
  intro W base args ds gs before hval0 hW hcnd hsz0 _
  have hsz : (DataW.weightsEach Try.prog (Try.f6.params.toList ++ Rows.ledgerTellsSpec.plain.varTypes Try.prog) (ds ++ gs)).all (· ≤ reachBytes) = true := hsz0
  have hval : ∀ (j : Nat) t v, Try.f6.params[j]? = some t → args[j]? = some v → Value.okWide Try.prog W .any base t v := hval0
  have hW' := hW
  obtain ⟨p, q, hA0, hV, rfl, hfz, hnd⟩ := hW
  have hA : DataW.TrodAll enc Try.prog W 0 (fun _ => true) true Try.f6.params.toList args.toList ds p := hA0
  rw [Try.params6] at hA hval hsz
  obtain ⟨v0, vs0, d0, ds0, p0, q0, hargs, rfl, rfl, h0, r0⟩ := trodAll_cons hA
  obtain ⟨v1, vs1, d1, ds1, p1, q1, rfl, rfl, rfl, h1, r1⟩ := trodAll_cons r0
  obtain ⟨v2, vs2, d2, ds2, p2, q2, rfl, rfl, rfl, h2, r2⟩ := trodAll_cons r1
  obtain ⟨v3, vs3, d3, ds3, p3, q3, rfl, rfl, rfl, h3, r3⟩ := trodAll_cons r2
  obtain ⟨rfl, rfl, rfl⟩ := trodAll_nil r3
  obtain rfl : args = #[v0, v1, v2, v3] := by cases args; simp_all
  obtain ⟨rfl, rfl⟩ := trodVars_none hV
  have k0 := h0
  have lt0 : ∀ x ∈ p0, x.block < W.heap.size := by obtain ⟨m, hm⟩ := k0; exact DataW.trod_lt m _ _ _ hm
  have sm0 : PL.Small 22 d0 := PL.small_arg hsz (j := 0) rfl rfl
  obtain ⟨a0, len0, cap0, rfl⟩ := okWide_slice Try.underlying22 (hval 0 22 v0 rfl rfl)
  obtain ⟨x0, rfl, hc0, hC0, hq0⟩ := PL.opened PL.opens22 h0 sm0
  have k1 := h1
  have lt1 : ∀ x ∈ p1, x.block < W.heap.size := by obtain ⟨m, hm⟩ := k1; exact DataW.trod_lt m _ _ _ hm
  have sm1 : PL.Small 45 d1 := PL.small_arg hsz (j := 1) rfl rfl
  obtain ⟨x1, rfl, hq1⟩ := PL.opened45 (hval 1 45 v1 rfl rfl) h1 sm1
  have k2 := h2
  have lt2 : ∀ x ∈ p2, x.block < W.heap.size := by obtain ⟨m, hm⟩ := k2; exact DataW.trod_lt m _ _ _ hm
  have sm2 : PL.Small 3 d2 := PL.small_arg hsz (j := 2) rfl rfl
  obtain ⟨x2, rfl, rfl, rfl, w2⟩ := open_int Try.underlying3 (hval 2 3 v2 rfl rfl) h2
  have k3 := h3
  have lt3 : ∀ x ∈ p3, x.block < W.heap.size := by obtain ⟨m, hm⟩ := k3; exact DataW.trod_lt m _ _ _ hm
  have sm3 : PL.Small 9 d3 := PL.small_arg hsz (j := 3) rfl rfl
  obtain ⟨x3, rfl, rfl, rfl, y3⟩ := open_string Try.underlying9 (hval 3 9 v3 rfl rfl) h3
  clear hA0 hval0 hsz0 hsz
  refine (PL.tells_row a0 cap0 x0 x1 x2 x3 W hq0 hC0 hc0 hq1).mono fun e W' ⟨he, bel⟩ => ?_
  subst he
  exact ⟨_, rfl, _, _, _, [], _, [], hW', trodAll_mk1 (shut_bool Try.underlying4 _), (trodAll_cons_mk (Below.trod PL.laidOut (by kernel_rfl) (of_decide_eq_true (by kernel_rfl)) k0 bel lt0) (trodAll_cons_mk (Below.trod PL.laidOut (by kernel_rfl) (of_decide_eq_true (by kernel_rfl)) k1 bel lt1) (trodAll_cons_mk (Below.trod PL.laidOut (by kernel_rfl) (of_decide_eq_true (by kernel_rfl)) k2 bel lt2) (trodAll_cons_mk (Below.trod PL.laidOut (by kernel_rfl) (of_decide_eq_true (by kernel_rfl)) k3 bel lt3) trodAll_mk0)))), rfl, bel.frame _, fun h => by cases h⟩
theorem over : Rows.ledgerTellsRow.holds Try.pinned (OpenSpec.ofChange Rows.ledgerTellsSpec) :=
  OpenClaim.holds_of_wide 6 Try.f6 rfl rfl rfl rfl rfl rfl rfl ⟨rfl, rfl, rfl, rfl, rfl⟩ rfl rfl rfl rfl rfl (by kernel_rfl) Try.func6 (by kernel_rfl)
    (of_decide_eq_true (by kernel_rfl)) (by unfold Func.isWrapper; first | (rw [if_pos (by decide +kernel)]; kernel_rfl) | (rw [if_neg (by decide +kernel)]; exact ⟨rfl, rfl⟩))
    (fun os started H enc _ => lifted os started H enc)
theorem proved : Rows.LedgerTellsSaid := over
end Go.Proofs.Ytoknlpecbdlbfaa.ledgerTells
namespace Go.Proofs.Ytoknlpecbdlbfaa
/-- The row, under a short name, for the claim. -/
theorem ledgerTells_holds : Rows.LedgerTellsSaid := ledgerTells.proved
end Go.Proofs.Ytoknlpecbdlbfaa
