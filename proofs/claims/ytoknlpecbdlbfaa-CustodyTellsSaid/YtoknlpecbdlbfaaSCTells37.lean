/- Part 37 of the proof's texts: what the theorem needs of them. -/
import Derived.Test.YtoknlpecbdlbfaaSCTells36
import Derived.Test.YtoknlpecbdlbfaaSCTells34
import Derived.Deep.RegionWith
import Derived.Orders
import Derived.RegionTactic
import Derived.Deep.DeepCutAuto

-- Custody: does, walked. (printed by genTD.py)
namespace Go.Proofs.Ytoknlpecbdlbfaa.PL
open Go Go.RowKit Go.Maps Go.Sort Go.Shelf Go.Proofs Go.Proofs.YtoknlpecbdlbfaaW.PrintWords Go.Proofs.YtoknlpecbdlbfaaW.PrintLast
theorem cshift_any {w : World} {p g b : Nat} {M : List (S42 × Int)} (h : CU w p g b M) (hB : BM M) (hm : M.length ≤ 1000000000) (m fr tq : Int) (A : Option Addr) (c : Nat) (T : List S79) (hr : Kd.C k79 w A T.length T) (hT : T.length ≤ 1000) :
    Calls Try.prog 45 #[.pointer (some ⟨p, 0, none⟩), .int .i64 m, .int .i64 fr, .int .i64 tq, .slice A T.length c] w fun e w' => e = .returned (.tuple #[.int .i64 (cmL M (shX m fr tq T)).2.1, .int .i64 (cmL M (shX m fr tq T)).2.2]) ∧ Hid (CU w' p g b (cmL M (shX m fr tq T)).1 ∧ w.grownBy w' (some b)) := by
  refine shift_walk (.pointer (some ⟨p, 0, none⟩)) m fr tq (cmL M (shX m fr tq T)).2.1 (cmL M (shX m fr tq T)).2.2 A c T hr (by omega) (fun w' => Hid (CU w' p g b (cmL M (shX m fr tq T)).1 ∧ w.grownBy w' (some b))) ?_
  intro W A5 c5 hb hC
  refine (cmove_any (h.below hb) hB hm A5 c5 _ hC (by unfold shX; rw [List.length_map]; omega)).mono ?_
  rintro e w' ⟨he, H5⟩
  exact ⟨he, ⟨H5.out.1, (below_grown hb).andThen H5.out.2 (fun _ hj => .inr hj)⟩⟩
/-- A store into a cell that holds a slice leaves balances as they are. -/
theorem C82_other {w w' : World} {q : Nat} {A0 : Option Addr} {n0 c0 : Nat} {t : TypeId} {A : Option Addr} {n : Nat} {l : List S82} (h : Kd.C k82 w A n l) (hg : w.grownBy w' (some q)) (hq : w.heap[q]? = some (.cells #[.slice A0 n0 c0] t (0, 0))) : Kd.C k82 w' A n l := by
  refine ⟨h.1, h.2.1, fun hn => ?_⟩
  obtain ⟨ad, e, hc⟩ := h.2.2 hn
  refine ⟨ad, e, fun j p hp => ?_⟩
  obtain ⟨cs, h1, h2, h3⟩ := hc j p hp
  obtain rfl := k82_open h2
  refine ⟨_, h1, k82_mk _ _, fun i u hu => ?_⟩
  have h4 := h3 i u hu
  have hne : (ad.add (j * k82.sz + i)).block ≠ q := by
    intro e
    have h6 : u = .slice A0 n0 c0 := by
      unfold World.cell? at h4
      rw [e, hq] at h4
      simp only at h4
      split at h4
      · cases h4
      · obtain ⟨h7, h8⟩ := Array.getElem?_eq_some_iff.1 h4
        rw [← h8]
        have h9 : (ad.add (j * k82.sz + i)).off = 0 := by simp at h7; omega
        simp [h9]
    rw [h6] at hu
    rcases i with _ | _ | _ | _ | i <;> simp at hu
  exact (World.cell?_of_block (hg.block _ (World.block_lt_of_cell? w _ h4) (by simpa using hne))).trans h4
/-- What stands in memory at an act: the custody, the document's list, the act's own cells. -/
structure DZ (p g b lp G : Nat) (f0 f1 f2 f3 : Int) (f4 : ByteArray) (f5 : Int) (X : List S131) (T : List S79) (A6 : Option Addr) (c6 : Nat) (A7 : Option Addr) (c7 : Nat) (M : List (S42 × Int)) (L : List S82) (A : Option Addr) (c : Nat) (W : World) : Prop where
  cu : CU W p g b M
  blk : W.heap[lp]? = some (.cells #[.slice A L.length c] 27 (0, 0))
  bx : W.heap[G]? = some (.cells #[.int .i64 f0, .int .i64 f1, .int .i64 f2, .int .i64 f3, .string f4, .int .i64 f5, .slice A6 X.length c6, .slice A7 T.length c7] 72 (0, 0))
  hC : Kd.C k82 W A L.length L
  k6 : k131.C W A6 X.length X
  k7 : k79.C W A7 T.length T
/-- The cells that an act reads. -/
def DC (lp G : Nat) (f0 f1 f2 f3 : Int) (f4 : ByteArray) (f5 : Int) (n6 n7 : Nat) (A6 : Option Addr) (c6 : Nat) (A7 : Option Addr) (c7 n : Nat) (A : Option Addr) (c : Nat) (W : World) : Prop :=
  W.cell? ⟨lp, 0, none⟩ = some (.slice A n c) ∧ W.frozen? ⟨lp, 0, none⟩ = false ∧ W.cell? ⟨G, 0, none⟩ = some (.int .i64 f0) ∧ W.cell? ⟨G, 1, none⟩ = some (.int .i64 f1) ∧ W.cell? ⟨G, 2, none⟩ = some (.int .i64 f2) ∧ W.cell? ⟨G, 3, none⟩ = some (.int .i64 f3) ∧ W.cell? ⟨G, 4, none⟩ = some (.string f4) ∧ W.cell? ⟨G, 5, none⟩ = some (.int .i64 f5) ∧ W.cell? ⟨G, 6, none⟩ = some (.slice A6 n6 c6) ∧ W.cell? ⟨G, 7, none⟩ = some (.slice A7 n7 c7)
section
variable {p g b lp G : Nat} {f0 f1 f2 f3 : Int} {f4 : ByteArray} {f5 : Int} {X : List S131} {T : List S79} {A6 : Option Addr} {c6 : Nat} {A7 : Option Addr} {c7 : Nat} {M : List (S42 × Int)} {L : List S82} {A : Option Addr} {c : Nat} {W W' : World}
theorem DZ.below (h : DZ p g b lp G f0 f1 f2 f3 f4 f5 X T A6 c6 A7 c7 M L A c W) (hb : Below W.heap.size W W') : DZ p g b lp G f0 f1 f2 f3 f4 f5 X T A6 c6 A7 c7 M L A c W' :=
  ⟨h.cu.below hb, (hb.block _ (Array.getElem?_eq_some_iff.1 h.blk).1).trans h.blk, (hb.block _ (Array.getElem?_eq_some_iff.1 h.bx).1).trans h.bx, Kd.C_below h.hC hb, Kd.C_below h.k6 hb, Kd.C_below h.k7 hb⟩
theorem DZ.cells (h : DZ p g b lp G f0 f1 f2 f3 f4 f5 X T A6 c6 A7 c7 M L A c W) : DC lp G f0 f1 f2 f3 f4 f5 X.length T.length A6 c6 A7 c7 L.length A c W :=
  ⟨cell_of_one h.blk, free_of_one h.blk, cellA h.bx 0, cellA h.bx 1, cellA h.bx 2, cellA h.bx 3, cellA h.bx 4, cellA h.bx 5, cellA h.bx 6, cellA h.bx 7⟩
theorem DZ.hold (h : DZ p g b lp G f0 f1 f2 f3 f4 f5 X T A6 c6 A7 c7 M L A c W) {w : World} (hb : Below w.heap.size w W) : W.cell? ⟨lp, 0, none⟩ = some (.slice A L.length c) ∧ W.frozen? ⟨lp, 0, none⟩ = false ∧ W.cell? ⟨G, 0, none⟩ = some (.int .i64 f0) ∧ W.cell? ⟨G, 1, none⟩ = some (.int .i64 f1) ∧ W.cell? ⟨G, 2, none⟩ = some (.int .i64 f2) ∧ W.cell? ⟨G, 3, none⟩ = some (.int .i64 f3) ∧ W.cell? ⟨G, 4, none⟩ = some (.string f4) ∧ W.cell? ⟨G, 5, none⟩ = some (.int .i64 f5) ∧ W.cell? ⟨G, 6, none⟩ = some (.slice A6 X.length c6) ∧ W.cell? ⟨G, 7, none⟩ = some (.slice A7 T.length c7) ∧ Hid (DZ p g b lp G f0 f1 f2 f3 f4 f5 X T A6 c6 A7 c7 M L A c W ∧ Below w.heap.size w W) := by
  obtain ⟨a0, a1, a2, a3, a4, a5, a6, a7, a8, a9⟩ := h.cells
  exact ⟨a0, a1, a2, a3, a4, a5, a6, a7, a8, a9, ⟨h, hb⟩⟩
theorem DZ.ne (h : DZ p g b lp G f0 f1 f2 f3 f4 f5 X T A6 c6 A7 c7 M L A c W) : lp ≠ b := by
  obtain ⟨es, clock, hb, _⟩ := h.cu.lg.map
  rintro rfl
  have := h.blk
  rw [hb] at this
  cases this
end
/-- What stands behind an act. -/
structure DW (p g b lp : Nat) (M : List (S42 × Int)) (L : List S82) (A : Option Addr) (c : Nat) (W : World) : Prop where
  cu : CU W p g b M
  iv : Iv M L
  blk : W.heap[lp]? = some (.cells #[.slice A L.length c] 27 (0, 0))
  hC : Kd.C k82 W A L.length L
  hc : L.length ≤ c
theorem DW.box {p g b lp : Nat} {M : List (S42 × Int)} {L : List S82} {A : Option Addr} {c : Nat} {w : World} (h : DW p g b lp M L A c w) (f0 f1 f2 f3 : Int) (f4 : ByteArray) (f5 : Int) {X : List S131} {T : List S79} {A6 : Option Addr} (c6 : Nat) {A7 : Option Addr} (c7 : Nat) (g6 : k131.C w A6 X.length X) (g7 : k79.C w A7 T.length T) :
    DZ p g b lp w.heap.size f0 f1 f2 f3 f4 f5 X T A6 c6 A7 c7 M L A c (w.alloc (.cells #[.int .i64 f0, .int .i64 f1, .int .i64 f2, .int .i64 f3, .string f4, .int .i64 f5, .slice A6 X.length c6, .slice A7 T.length c7] 72)) := by
  have hb := (Below.refl w.heap.size w).alloc (Nat.le_refl _) (.cells #[.int .i64 f0, .int .i64 f1, .int .i64 f2, .int .i64 f3, .string f4, .int .i64 f5, .slice A6 X.length c6, .slice A7 T.length c7] 72)
  exact ⟨h.cu.below hb, (hb.block _ (Array.getElem?_eq_some_iff.1 h.blk).1).trans h.blk, (Go.MapKept.heap_alloc w _).1, Kd.C_below h.hC hb, Kd.C_below g6 hb, Kd.C_below g7 hb⟩
/-- What is done: the program's books, and the document's list, stored. -/
def DoneB (p g b lp : Nat) (L : List S82) (w w' : World) : Prop := Hid (∃ M A c W1, DW p g b lp M L A c w' ∧ w.grownBy W1 (some b) ∧ W1.grownBy w' (some lp))
/-- Behind the program's call, ahead of the store. -/
def PreB (p g b lp : Nat) (L L0 : List S82) (A0 : Option Addr) (c0 : Nat) (A : Option Addr) (c : Nat) (w w' : World) : Prop := ∃ M, CU w' p g b M ∧ Iv M L ∧ w.grownBy w' (some b) ∧ w'.heap[lp]? = some (.cells #[.slice A0 L0.length c0] 27 (0, 0)) ∧ Kd.C k82 w' A L.length L ∧ L.length ≤ c
theorem PreB.done {p g b lp : Nat} {L L0 : List S82} {A0 : Option Addr} {c0 : Nat} {A : Option Addr} {c : Nat} {w w1 W : World} (h : PreB p g b lp L L0 A0 c0 A c w1 W) (hb : Below w.heap.size w w1) : DoneB p g b lp L w (W.setCell ⟨lp, 0, none⟩ (.slice A L.length c)) := by
  obtain ⟨M, h1, h2, h3, h4, h5, h6⟩ := h
  have hg : W.grownBy (W.setCell ⟨lp, 0, none⟩ (.slice A L.length c)) (some lp) := grownBy_setCell0_a _ _ _
  have kk : ∀ {k : Nat} {o : Obj}, W.heap[k]? = some o → (∀ v t, o ≠ .cells #[.slice v t c0] 27 (0, 0)) → (W.setCell ⟨lp, 0, none⟩ (.slice A L.length c)).heap[k]? = some o := fun {k o} hk hne => by
    refine (hg.block _ (Array.getElem?_eq_some_iff.1 hk).1 ?_).trans hk
    intro e
    obtain rfl := Option.some.inj e
    rw [h4] at hk
    exact hne _ _ (Option.some.inj hk).symm
  refine ⟨M, A, c, W, ⟨⟨?_, ⟨?_, ?_⟩⟩, h2, one_setCell h4, C82_other h5 hg h4, h6⟩, (below_grown hb).andThen h3 (fun _ hj => .inr hj), hg⟩
  · exact kk h1.blk (by simp)
  · exact kk h1.lg.blk (by simp)
  · obtain ⟨es, clock, hm, hf⟩ := h1.lg.map
    exact ⟨es, clock, kk hm (by simp), hf⟩
theorem cells_grown {p g b lp G : Nat} {f0 f1 f2 f3 : Int} {f4 : ByteArray} {f5 : Int} {X : List S131} {T : List S79} {A6 : Option Addr} {c6 : Nat} {A7 : Option Addr} {c7 : Nat} {M : List (S42 × Int)} {L : List S82} {A : Option Addr} {c : Nat} {W W' : World} (h : DZ p g b lp G f0 f1 f2 f3 f4 f5 X T A6 c6 A7 c7 M L A c W) (hg : W.grownBy W' (some b)) : W'.heap[lp]? = some (.cells #[.slice A L.length c] 27 (0, 0)) ∧ W'.cell? ⟨lp, 0, none⟩ = some (.slice A L.length c) ∧ W'.frozen? ⟨lp, 0, none⟩ = false := by
  have h1 := (hg.block lp (Array.getElem?_eq_some_iff.1 h.blk).1 (by simpa using h.ne)).trans h.blk
  exact ⟨h1, cell_of_one h1, free_of_one h1⟩
set_option maxRecDepth 100000 in
set_option maxHeartbeats 4000000 in
theorem does_0 {w : World} {p g b lp : Nat} {M : List (S42 × Int)} {L : List S82} {A : Option Addr} {c : Nat} (h : DW p g b lp M L A c w) (hL : L.length ≤ 100000) (f1 f2 f3 : Int) (f4 : ByteArray) (f5 : Int) (X : List S131) (T : List S79) (A6 : Option Addr) (c6 : Nat) (A7 : Option Addr) (c7 : Nat) (l6 : X.length ≤ c6) (g6 : k131.C w A6 X.length X) (g7 : k79.C w A7 T.length T) (s6 : X.length ≤ 40) (s7 : T.length ≤ 40) :
    Calls Try.prog 36 #[.pointer (some ⟨p, 0, none⟩), .pointer (some ⟨lp, 0, none⟩), .agg #[.int .i64 0, .int .i64 f1, .int .i64 f2, .int .i64 f3, .string f4, .int .i64 f5, .slice A6 X.length c6, .slice A7 T.length c7]] w fun e w' => e = .returned (.bool true) ∧ DoneB p g b lp (actL L ⟨0, f1, f2, f3, f4, f5, X, T⟩).1 w w' := by
  have hz := h.box 0 f1 f2 f3 f4 f5 c6 c7 g6 g7
  have hml : M.length ≤ 1000000000 := by rw [rep_length h.iv.st.rep]; omega
  have hact := h.iv.st.act ⟨0, f1, f2, f3, f4, f5, X, T⟩
  have hiv := h.iv.act ⟨0, f1, f2, f3, f4, f5, X, T⟩
  have eL : actL L ⟨0, f1, f2, f3, f4, f5, X, T⟩ = ((brR L f1 f4 f5).1, 0, (brR L f1 f4 f5).2) := rfl
  have eM : actM M ⟨0, f1, f2, f3, f4, f5, X, T⟩ = ((brL M f1 f4 f5).1, 0, (brL M f1 f4 f5).2) := rfl
  rw [eL, eM] at hact hiv
  rw [eL]
  obtain ⟨R, hR⟩ : ∃ R, brR L f1 f4 f5 = R := ⟨_, rfl⟩
  rw [hR] at hact hiv ⊢
  have q3 := hact.2.2
  clear hact eL eM
  simp only at q3 hiv ⊢
  have hb0 := (Below.refl w.heap.size w).alloc (Nat.le_refl _) (.cells #[.int .i64 0, .int .i64 f1, .int .i64 f2, .int .i64 f3, .string f4, .int .i64 f5, .slice A6 X.length c6, .slice A7 T.length c7] 72)
  obtain ⟨G, hG⟩ : ∃ G, w.heap.size = G := ⟨_, rfl⟩
  obtain ⟨W0, hW0⟩ : ∃ W0, w.alloc (.cells #[.int .i64 0, .int .i64 f1, .int .i64 f2, .int .i64 f3, .string f4, .int .i64 f5, .slice A6 X.length c6, .slice A7 T.length c7] 72) = W0 := ⟨_, rfl⟩
  rw [hW0] at hz hb0
  rw [hG] at hz
  have HR := Lib.hid (show ∀ W, Hid (DZ p g b lp G 0 f1 f2 f3 f4 f5 X T A6 c6 A7 c7 M L A c W ∧ Below w.heap.size w W) → Calls Try.prog 66 #[.slice A L.length c, .int .i64 f1, .string f4, .int .i64 f5] W fun e w' => ∃ (A' : Option Addr) (c' : Nat), e = .returned (.tuple #[.slice A' R.1.length c', .int .i64 R.2]) ∧ Hid (Kd.C k82 w' A' R.1.length R.1 ∧ R.1.length ≤ c') ∧ (w'.cell? ⟨lp, 0, none⟩ = some (.slice A L.length c) ∧ w'.frozen? ⟨lp, 0, none⟩ = false ∧ w'.cell? ⟨G, 0, none⟩ = some (.int .i64 0) ∧ w'.cell? ⟨G, 1, none⟩ = some (.int .i64 f1) ∧ w'.cell? ⟨G, 2, none⟩ = some (.int .i64 f2) ∧ w'.cell? ⟨G, 3, none⟩ = some (.int .i64 f3) ∧ w'.cell? ⟨G, 4, none⟩ = some (.string f4) ∧ w'.cell? ⟨G, 5, none⟩ = some (.int .i64 f5) ∧ w'.cell? ⟨G, 6, none⟩ = some (.slice A6 X.length c6) ∧ w'.cell? ⟨G, 7, none⟩ = some (.slice A7 T.length c7) ∧ Hid (DZ p g b lp G 0 f1 f2 f3 f4 f5 X T A6 c6 A7 c7 M L A c w' ∧ Below w.heap.size w w')) from fun W hx => by
    have hd := hx.out.1
    have := rbring_any W A c L f1 f5 f4 hd.hC h.hc (by omega)
    rw [hR] at this
    refine this.mono ?_
    rintro e w' ⟨A', c', he, H⟩
    have hd' := hd.below H.out.2.2
    exact ⟨A', c', he, ⟨H.out.1, H.out.2.1⟩, hd'.hold (hx.out.2.trans (H.out.2.2.mono hx.out.2.size))⟩)
  have HP := Lib.hid (show ∀ W A' c', Hid (DZ p g b lp G 0 f1 f2 f3 f4 f5 X T A6 c6 A7 c7 M L A c W ∧ Below w.heap.size w W) → Hid (Kd.C k82 W A' R.1.length R.1 ∧ R.1.length ≤ c') → Calls Try.prog 42 #[.pointer (some ⟨p, 0, none⟩), .int .i64 f1, .string f4, .int .i64 f5] W fun e w' => e = .returned (.int .i64 R.2) ∧ (w'.cell? ⟨lp, 0, none⟩ = some (.slice A L.length c) ∧ w'.frozen? ⟨lp, 0, none⟩ = false) ∧ Hid (PreB p g b lp R.1 L A c A' c' W w') from fun W A' c' hx hq => by
    have hd := hx.out.1
    have := bring_any hd.cu h.iv.st.bm hml f1 f5 f4
    rw [q3] at this
    refine this.mono ?_
    rintro e w' ⟨he, H⟩
    obtain ⟨y1, y2, y3⟩ := cells_grown hd H.out.2
    exact ⟨he, ⟨y2, y3⟩, ⟨_, H.out.1, hiv, H.out.2, y1, C82_grown hq.out.1 H.out.2 hd.cu.lg.map, hq.out.2⟩⟩)
  have HB0 := Lib.hid hb0
  have hz0 : W0.drew.cell? ⟨lp, 0, none⟩ = some (.slice A L.length c) ∧ W0.drew.frozen? ⟨lp, 0, none⟩ = false ∧ W0.drew.cell? ⟨G, 0, none⟩ = some (.int .i64 0) ∧ W0.drew.cell? ⟨G, 1, none⟩ = some (.int .i64 f1) ∧ W0.drew.cell? ⟨G, 2, none⟩ = some (.int .i64 f2) ∧ W0.drew.cell? ⟨G, 3, none⟩ = some (.int .i64 f3) ∧ W0.drew.cell? ⟨G, 4, none⟩ = some (.string f4) ∧ W0.drew.cell? ⟨G, 5, none⟩ = some (.int .i64 f5) ∧ W0.drew.cell? ⟨G, 6, none⟩ = some (.slice A6 X.length c6) ∧ W0.drew.cell? ⟨G, 7, none⟩ = some (.slice A7 T.length c7) ∧ Hid (DZ p g b lp G 0 f1 f2 f3 f4 f5 X T A6 c6 A7 c7 M L A c W0.drew ∧ Below w.heap.size w W0.drew) := (hz.below ((Below.refl _ _).drew)).hold hb0.drew
  have hzH := hz0.2.2.2.2.2.2.2.2.2.2
  have HZ := Lib.hid hz
  clear h hL l6 g6 g7 s6 s7 hml hiv hz hb0 hR
  have HW0 := Lib.hid hW0
  have HG := Lib.hid hG
  clear hW0 hG
  go_enter Try.func36, Try.ntmps36
  go_wp2_with (fail)
  rw [HW0.out, HG.out]
  clear HW0 HG
  go_region_held3 (fun w' => w'.cell? ⟨lp, 0, none⟩ = some (.slice A L.length c) ∧ w'.frozen? ⟨lp, 0, none⟩ = false ∧ w'.cell? ⟨G, 0, none⟩ = some (.int .i64 0) ∧ w'.cell? ⟨G, 1, none⟩ = some (.int .i64 f1) ∧ w'.cell? ⟨G, 2, none⟩ = some (.int .i64 f2) ∧ w'.cell? ⟨G, 3, none⟩ = some (.int .i64 f3) ∧ w'.cell? ⟨G, 4, none⟩ = some (.string f4) ∧ w'.cell? ⟨G, 5, none⟩ = some (.int .i64 f5) ∧ w'.cell? ⟨G, 6, none⟩ = some (.slice A6 X.length c6) ∧ w'.cell? ⟨G, 7, none⟩ = some (.slice A7 T.length c7) ∧ Hid (DZ p g b lp G 0 f1 f2 f3 f4 f5 X T A6 c6 A7 c7 M L A c w' ∧ Below w.heap.size w w'))
    (first | assumption)
    (first | (go_at_call 66; refine (HR.out _ (by assumption)).mono ?_; rintro o w3 ⟨A2, c2, rfl, HC2, kk⟩))
  obtain ⟨k0, k1, k2, k3, k4, k5, k6, k7, k8, k9, hz3⟩ := kk
  clear hz0 hzH
  go_wp2_with (first | (go_at_call 42; refine (HP.out _ A2 c2 hz3 HC2).mono ?_; rintro o w4 ⟨rfl, ⟨y1, y2⟩, H4⟩))
  go_ret
  exact ⟨rfl, H4.out.done hz3.out.2⟩
set_option maxRecDepth 100000 in
set_option maxHeartbeats 4000000 in
theorem does_1 {w : World} {p g b lp : Nat} {M : List (S42 × Int)} {L : List S82} {A : Option Addr} {c : Nat} (h : DW p g b lp M L A c w) (hL : L.length ≤ 100000) (f1 f2 f3 : Int) (f4 : ByteArray) (f5 : Int) (X : List S131) (T : List S79) (A6 : Option Addr) (c6 : Nat) (A7 : Option Addr) (c7 : Nat) (l6 : X.length ≤ c6) (g6 : k131.C w A6 X.length X) (g7 : k79.C w A7 T.length T) (s6 : X.length ≤ 40) (s7 : T.length ≤ 40) :
    Calls Try.prog 36 #[.pointer (some ⟨p, 0, none⟩), .pointer (some ⟨lp, 0, none⟩), .agg #[.int .i64 1, .int .i64 f1, .int .i64 f2, .int .i64 f3, .string f4, .int .i64 f5, .slice A6 X.length c6, .slice A7 T.length c7]] w fun e w' => e = .returned (.bool true) ∧ DoneB p g b lp (actL L ⟨1, f1, f2, f3, f4, f5, X, T⟩).1 w w' := by
  have hz := h.box 1 f1 f2 f3 f4 f5 c6 c7 g6 g7
  have hml : M.length ≤ 1000000000 := by rw [rep_length h.iv.st.rep]; omega
  have hact := h.iv.st.act ⟨1, f1, f2, f3, f4, f5, X, T⟩
  have hiv := h.iv.act ⟨1, f1, f2, f3, f4, f5, X, T⟩
  have eL : actL L ⟨1, f1, f2, f3, f4, f5, X, T⟩ = cmR L (X.map toLn) := by
    unfold actL
    rfl
  have eM : actM M ⟨1, f1, f2, f3, f4, f5, X, T⟩ = cmL M (X.map toLn) := by
    unfold actM
    rfl
  rw [eL, eM] at hact hiv
  rw [eL]
  obtain ⟨R, hR⟩ : ∃ R, cmR L (X.map toLn) = R := ⟨_, rfl⟩
  rw [hR] at hact hiv ⊢
  have q2 := hact.2.1
  have q3 := hact.2.2
  clear hact eL eM
  have hb0 := (Below.refl w.heap.size w).alloc (Nat.le_refl _) (.cells #[.int .i64 1, .int .i64 f1, .int .i64 f2, .int .i64 f3, .string f4, .int .i64 f5, .slice A6 X.length c6, .slice A7 T.length c7] 72)
  obtain ⟨G, hG⟩ : ∃ G, w.heap.size = G := ⟨_, rfl⟩
  obtain ⟨W0, hW0⟩ : ∃ W0, w.alloc (.cells #[.int .i64 1, .int .i64 f1, .int .i64 f2, .int .i64 f3, .string f4, .int .i64 f5, .slice A6 X.length c6, .slice A7 T.length c7] 72) = W0 := ⟨_, rfl⟩
  rw [hW0] at hz hb0
  rw [hG] at hz
  have HR := Lib.hid (show ∀ W, Hid (DZ p g b lp G 1 f1 f2 f3 f4 f5 X T A6 c6 A7 c7 M L A c W ∧ Below w.heap.size w W) → Calls Try.prog 67 #[.slice A L.length c, .slice A6 X.length c6] W fun e w' => ∃ (A' : Option Addr) (c' : Nat), e = .returned (.tuple #[.slice A' R.1.length c', .int .i64 R.2.1, .int .i64 R.2.2]) ∧ Hid (Kd.C k82 w' A' R.1.length R.1 ∧ R.1.length ≤ c') ∧ (w'.cell? ⟨lp, 0, none⟩ = some (.slice A L.length c) ∧ w'.frozen? ⟨lp, 0, none⟩ = false ∧ w'.cell? ⟨G, 0, none⟩ = some (.int .i64 1) ∧ w'.cell? ⟨G, 1, none⟩ = some (.int .i64 f1) ∧ w'.cell? ⟨G, 2, none⟩ = some (.int .i64 f2) ∧ w'.cell? ⟨G, 3, none⟩ = some (.int .i64 f3) ∧ w'.cell? ⟨G, 4, none⟩ = some (.string f4) ∧ w'.cell? ⟨G, 5, none⟩ = some (.int .i64 f5) ∧ w'.cell? ⟨G, 6, none⟩ = some (.slice A6 X.length c6) ∧ w'.cell? ⟨G, 7, none⟩ = some (.slice A7 T.length c7) ∧ Hid (DZ p g b lp G 1 f1 f2 f3 f4 f5 X T A6 c6 A7 c7 M L A c w' ∧ Below w.heap.size w w')) from fun W hx => by
    have hd := hx.out.1
    have := rcmove_any W A c L hd.hC h.hc (by omega) A6 c6 X hd.k6 (by omega)
    rw [hR] at this
    refine this.mono ?_
    rintro e w' ⟨A', c', he, H⟩
    have hd' := hd.below H.out.2.2
    exact ⟨A', c', he, ⟨H.out.1, H.out.2.1⟩, hd'.hold (hx.out.2.trans (H.out.2.2.mono hx.out.2.size))⟩)
  have HP := Lib.hid (show ∀ W A' c' A8 c8, Hid (DZ p g b lp G 1 f1 f2 f3 f4 f5 X T A6 c6 A7 c7 M L A c W ∧ Below w.heap.size w W) → Hid (Kd.C k82 W A' R.1.length R.1 ∧ R.1.length ≤ c') → Hid (Kd.C k125 W A8 X.length (X.map toLn)) → Calls Try.prog 43 #[.pointer (some ⟨p, 0, none⟩), .slice A8 X.length c8] W fun e w' => e = .returned (.tuple #[.int .i64 R.2.1, .int .i64 R.2.2]) ∧ (w'.cell? ⟨lp, 0, none⟩ = some (.slice A L.length c) ∧ w'.frozen? ⟨lp, 0, none⟩ = false) ∧ Hid (PreB p g b lp R.1 L A c A' c' W w') from fun W A' c' A8 c8 hx hq hq8 => by
    have hd := hx.out.1
    have := cmove_any hd.cu h.iv.st.bm hml A8 c8 (X.map toLn) (by rw [List.length_map]; exact hq8.out) (by rw [List.length_map]; omega)
    rw [q2, q3, List.length_map] at this
    refine this.mono ?_
    rintro e w' ⟨he, H⟩
    obtain ⟨y1, y2, y3⟩ := cells_grown hd H.out.2
    exact ⟨he, ⟨y2, y3⟩, ⟨_, H.out.1, hiv, H.out.2, y1, C82_grown hq.out.1 H.out.2 hd.cu.lg.map, hq.out.2⟩⟩)
  have HN := Lib.hid (show ∀ W A' c', Hid (DZ p g b lp G 1 f1 f2 f3 f4 f5 X T A6 c6 A7 c7 M L A c W ∧ Below w.heap.size w W) → Hid (Kd.C k82 W A' R.1.length R.1 ∧ R.1.length ≤ c') → Calls Try.prog 44 #[.slice A6 X.length c6] W fun e w' => ∃ (A8 : Option Addr) (c8 : Nat), e = .returned (.slice A8 X.length c8) ∧ Hid (DZ p g b lp G 1 f1 f2 f3 f4 f5 X T A6 c6 A7 c7 M L A c w' ∧ Below w.heap.size w w') ∧ Hid (Kd.C k82 w' A' R.1.length R.1 ∧ R.1.length ≤ c') ∧ Hid (Kd.C k125 w' A8 X.length (X.map toLn)) ∧ w'.cell? ⟨lp, 0, none⟩ = some (.slice A L.length c) ∧ w'.frozen? ⟨lp, 0, none⟩ = false ∧ w'.cell? ⟨G, 0, none⟩ = some (.int .i64 1) ∧ w'.cell? ⟨G, 1, none⟩ = some (.int .i64 f1) ∧ w'.cell? ⟨G, 2, none⟩ = some (.int .i64 f2) ∧ w'.cell? ⟨G, 3, none⟩ = some (.int .i64 f3) ∧ w'.cell? ⟨G, 4, none⟩ = some (.string f4) ∧ w'.cell? ⟨G, 5, none⟩ = some (.int .i64 f5) ∧ w'.cell? ⟨G, 6, none⟩ = some (.slice A6 X.length c6) ∧ w'.cell? ⟨G, 7, none⟩ = some (.slice A7 T.length c7) from fun W A' c' hx hq => by
    have hd := hx.out.1
    refine (lines_any A6 c6 X W hd.k6 l6 (by omega)).mono ?_
    rintro e w' ⟨A8, c8, he, H⟩
    have hd' := hd.below H.out.2
    obtain ⟨a0, a1, a2, a3, a4, a5, a6, a7, a8, a9, _⟩ := hd'.hold (hx.out.2.trans (H.out.2.mono hx.out.2.size))
    exact ⟨A8, c8, he, ⟨hd', hx.out.2.trans (H.out.2.mono hx.out.2.size)⟩, ⟨Kd.C_below hq.out.1 H.out.2, hq.out.2⟩, H.out.1, a0, a1, a2, a3, a4, a5, a6, a7, a8, a9⟩)
  have HB0 := Lib.hid hb0
  have hz0 : W0.drew.cell? ⟨lp, 0, none⟩ = some (.slice A L.length c) ∧ W0.drew.frozen? ⟨lp, 0, none⟩ = false ∧ W0.drew.cell? ⟨G, 0, none⟩ = some (.int .i64 1) ∧ W0.drew.cell? ⟨G, 1, none⟩ = some (.int .i64 f1) ∧ W0.drew.cell? ⟨G, 2, none⟩ = some (.int .i64 f2) ∧ W0.drew.cell? ⟨G, 3, none⟩ = some (.int .i64 f3) ∧ W0.drew.cell? ⟨G, 4, none⟩ = some (.string f4) ∧ W0.drew.cell? ⟨G, 5, none⟩ = some (.int .i64 f5) ∧ W0.drew.cell? ⟨G, 6, none⟩ = some (.slice A6 X.length c6) ∧ W0.drew.cell? ⟨G, 7, none⟩ = some (.slice A7 T.length c7) ∧ Hid (DZ p g b lp G 1 f1 f2 f3 f4 f5 X T A6 c6 A7 c7 M L A c W0.drew ∧ Below w.heap.size w W0.drew) := (hz.below ((Below.refl _ _).drew)).hold hb0.drew
  have hzH := hz0.2.2.2.2.2.2.2.2.2.2
  have HZ := Lib.hid hz
  clear h hL l6 g6 g7 s6 s7 hml hiv hz hb0 hR
  have HW0 := Lib.hid hW0
  have HG := Lib.hid hG
  clear hW0 hG
  go_enter Try.func36, Try.ntmps36
  go_wp2_with (fail)
  rw [HW0.out, HG.out]
  clear HW0 HG
  go_region_held3 (fun w' => w'.cell? ⟨lp, 0, none⟩ = some (.slice A L.length c) ∧ w'.frozen? ⟨lp, 0, none⟩ = false ∧ w'.cell? ⟨G, 0, none⟩ = some (.int .i64 1) ∧ w'.cell? ⟨G, 1, none⟩ = some (.int .i64 f1) ∧ w'.cell? ⟨G, 2, none⟩ = some (.int .i64 f2) ∧ w'.cell? ⟨G, 3, none⟩ = some (.int .i64 f3) ∧ w'.cell? ⟨G, 4, none⟩ = some (.string f4) ∧ w'.cell? ⟨G, 5, none⟩ = some (.int .i64 f5) ∧ w'.cell? ⟨G, 6, none⟩ = some (.slice A6 X.length c6) ∧ w'.cell? ⟨G, 7, none⟩ = some (.slice A7 T.length c7) ∧ Hid (DZ p g b lp G 1 f1 f2 f3 f4 f5 X T A6 c6 A7 c7 M L A c w' ∧ Below w.heap.size w w'))
    (first | assumption)
    (first | (go_at_call 67; refine (HR.out _ (by assumption)).mono ?_; rintro o w3 ⟨A2, c2, rfl, HC2, kk⟩))
  obtain ⟨k0, k1, k2, k3, k4, k5, k6, k7, k8, k9, hz3⟩ := kk
  clear hz0 hzH
  go_wp2_with (first
    | (go_at_call 43; refine (HP.out _ A2 c2 A8 c8 hz5 HC5 HC8).mono ?_; rintro o w4 ⟨rfl, ⟨y1, y2⟩, H4⟩)
    | (go_at_call 44; refine (HN.out _ A2 c2 hz3 HC2).mono ?_; rintro o w5 ⟨A8, c8, rfl, hz5, HC5, HC8, j0, j1, j2, j3, j4, j5, j6, j7, j8, j9⟩; clear k0 k1 k2 k3 k4 k5 k6 k7 k8 k9))
  go_ret
  exact ⟨rfl, H4.out.done hz5.out.2⟩
set_option maxRecDepth 100000 in
set_option maxHeartbeats 4000000 in
theorem does_2 {w : World} {p g b lp : Nat} {M : List (S42 × Int)} {L : List S82} {A : Option Addr} {c : Nat} (h : DW p g b lp M L A c w) (hL : L.length ≤ 100000) (f1 f2 f3 : Int) (f4 : ByteArray) (f5 : Int) (X : List S131) (T : List S79) (A6 : Option Addr) (c6 : Nat) (A7 : Option Addr) (c7 : Nat) (l6 : X.length ≤ c6) (g6 : k131.C w A6 X.length X) (g7 : k79.C w A7 T.length T) (s6 : X.length ≤ 40) (s7 : T.length ≤ 40) :
    Calls Try.prog 36 #[.pointer (some ⟨p, 0, none⟩), .pointer (some ⟨lp, 0, none⟩), .agg #[.int .i64 2, .int .i64 f1, .int .i64 f2, .int .i64 f3, .string f4, .int .i64 f5, .slice A6 X.length c6, .slice A7 T.length c7]] w fun e w' => e = .returned (.bool true) ∧ DoneB p g b lp (actL L ⟨2, f1, f2, f3, f4, f5, X, T⟩).1 w w' := by
  have hz := h.box 2 f1 f2 f3 f4 f5 c6 c7 g6 g7
  have hml : M.length ≤ 1000000000 := by rw [rep_length h.iv.st.rep]; omega
  have hact := h.iv.st.act ⟨2, f1, f2, f3, f4, f5, X, T⟩
  have hiv := h.iv.act ⟨2, f1, f2, f3, f4, f5, X, T⟩
  have eL : actL L ⟨2, f1, f2, f3, f4, f5, X, T⟩ = cmR L (shX f1 f2 f3 T) := by
    unfold actL
    rfl
  have eM : actM M ⟨2, f1, f2, f3, f4, f5, X, T⟩ = cmL M (shX f1 f2 f3 T) := by
    unfold actM
    rfl
  rw [eL, eM] at hact hiv
  rw [eL]
  obtain ⟨R, hR⟩ : ∃ R, cmR L (shX f1 f2 f3 T) = R := ⟨_, rfl⟩
  rw [hR] at hact hiv ⊢
  have q2 := hact.2.1
  have q3 := hact.2.2
  clear hact eL eM
  have hb0 := (Below.refl w.heap.size w).alloc (Nat.le_refl _) (.cells #[.int .i64 2, .int .i64 f1, .int .i64 f2, .int .i64 f3, .string f4, .int .i64 f5, .slice A6 X.length c6, .slice A7 T.length c7] 72)
  obtain ⟨G, hG⟩ : ∃ G, w.heap.size = G := ⟨_, rfl⟩
  obtain ⟨W0, hW0⟩ : ∃ W0, w.alloc (.cells #[.int .i64 2, .int .i64 f1, .int .i64 f2, .int .i64 f3, .string f4, .int .i64 f5, .slice A6 X.length c6, .slice A7 T.length c7] 72) = W0 := ⟨_, rfl⟩
  rw [hW0] at hz hb0
  rw [hG] at hz
  have HR := Lib.hid (show ∀ W, Hid (DZ p g b lp G 2 f1 f2 f3 f4 f5 X T A6 c6 A7 c7 M L A c W ∧ Below w.heap.size w W) → Calls Try.prog 68 #[.slice A L.length c, .int .i64 f1, .int .i64 f2, .int .i64 f3, .slice A7 T.length c7] W fun e w' => ∃ (A' : Option Addr) (c' : Nat), e = .returned (.tuple #[.slice A' R.1.length c', .int .i64 R.2.1, .int .i64 R.2.2]) ∧ Hid (Kd.C k82 w' A' R.1.length R.1 ∧ R.1.length ≤ c') ∧ (w'.cell? ⟨lp, 0, none⟩ = some (.slice A L.length c) ∧ w'.frozen? ⟨lp, 0, none⟩ = false ∧ w'.cell? ⟨G, 0, none⟩ = some (.int .i64 2) ∧ w'.cell? ⟨G, 1, none⟩ = some (.int .i64 f1) ∧ w'.cell? ⟨G, 2, none⟩ = some (.int .i64 f2) ∧ w'.cell? ⟨G, 3, none⟩ = some (.int .i64 f3) ∧ w'.cell? ⟨G, 4, none⟩ = some (.string f4) ∧ w'.cell? ⟨G, 5, none⟩ = some (.int .i64 f5) ∧ w'.cell? ⟨G, 6, none⟩ = some (.slice A6 X.length c6) ∧ w'.cell? ⟨G, 7, none⟩ = some (.slice A7 T.length c7) ∧ Hid (DZ p g b lp G 2 f1 f2 f3 f4 f5 X T A6 c6 A7 c7 M L A c w' ∧ Below w.heap.size w w')) from fun W hx => by
    have hd := hx.out.1
    have := rcshift_any W A c L hd.hC h.hc (by omega) f1 f2 f3 A7 c7 T hd.k7 (by omega)
    rw [hR] at this
    refine this.mono ?_
    rintro e w' ⟨A', c', he, H⟩
    have hd' := hd.below H.out.2.2
    exact ⟨A', c', he, ⟨H.out.1, H.out.2.1⟩, hd'.hold (hx.out.2.trans (H.out.2.2.mono hx.out.2.size))⟩)
  have HP := Lib.hid (show ∀ W A' c', Hid (DZ p g b lp G 2 f1 f2 f3 f4 f5 X T A6 c6 A7 c7 M L A c W ∧ Below w.heap.size w W) → Hid (Kd.C k82 W A' R.1.length R.1 ∧ R.1.length ≤ c') → Calls Try.prog 45 #[.pointer (some ⟨p, 0, none⟩), .int .i64 f1, .int .i64 f2, .int .i64 f3, .slice A7 T.length c7] W fun e w' => e = .returned (.tuple #[.int .i64 R.2.1, .int .i64 R.2.2]) ∧ (w'.cell? ⟨lp, 0, none⟩ = some (.slice A L.length c) ∧ w'.frozen? ⟨lp, 0, none⟩ = false) ∧ Hid (PreB p g b lp R.1 L A c A' c' W w') from fun W A' c' hx hq => by
    have hd := hx.out.1
    have := cshift_any hd.cu h.iv.st.bm hml f1 f2 f3 A7 c7 T hd.k7 (by omega)
    rw [q2, q3] at this
    refine this.mono ?_
    rintro e w' ⟨he, H⟩
    obtain ⟨y1, y2, y3⟩ := cells_grown hd H.out.2
    exact ⟨he, ⟨y2, y3⟩, ⟨_, H.out.1, hiv, H.out.2, y1, C82_grown hq.out.1 H.out.2 hd.cu.lg.map, hq.out.2⟩⟩)
  have HB0 := Lib.hid hb0
  have hz0 : W0.drew.cell? ⟨lp, 0, none⟩ = some (.slice A L.length c) ∧ W0.drew.frozen? ⟨lp, 0, none⟩ = false ∧ W0.drew.cell? ⟨G, 0, none⟩ = some (.int .i64 2) ∧ W0.drew.cell? ⟨G, 1, none⟩ = some (.int .i64 f1) ∧ W0.drew.cell? ⟨G, 2, none⟩ = some (.int .i64 f2) ∧ W0.drew.cell? ⟨G, 3, none⟩ = some (.int .i64 f3) ∧ W0.drew.cell? ⟨G, 4, none⟩ = some (.string f4) ∧ W0.drew.cell? ⟨G, 5, none⟩ = some (.int .i64 f5) ∧ W0.drew.cell? ⟨G, 6, none⟩ = some (.slice A6 X.length c6) ∧ W0.drew.cell? ⟨G, 7, none⟩ = some (.slice A7 T.length c7) ∧ Hid (DZ p g b lp G 2 f1 f2 f3 f4 f5 X T A6 c6 A7 c7 M L A c W0.drew ∧ Below w.heap.size w W0.drew) := (hz.below ((Below.refl _ _).drew)).hold hb0.drew
  have hzH := hz0.2.2.2.2.2.2.2.2.2.2
  have HZ := Lib.hid hz
  clear h hL l6 g6 g7 s6 s7 hml hiv hz hb0 hR
  have HW0 := Lib.hid hW0
  have HG := Lib.hid hG
  clear hW0 hG
  go_enter Try.func36, Try.ntmps36
  go_wp2_with (fail)
  rw [HW0.out, HG.out]
  clear HW0 HG
  go_region_held3 (fun w' => w'.cell? ⟨lp, 0, none⟩ = some (.slice A L.length c) ∧ w'.frozen? ⟨lp, 0, none⟩ = false ∧ w'.cell? ⟨G, 0, none⟩ = some (.int .i64 2) ∧ w'.cell? ⟨G, 1, none⟩ = some (.int .i64 f1) ∧ w'.cell? ⟨G, 2, none⟩ = some (.int .i64 f2) ∧ w'.cell? ⟨G, 3, none⟩ = some (.int .i64 f3) ∧ w'.cell? ⟨G, 4, none⟩ = some (.string f4) ∧ w'.cell? ⟨G, 5, none⟩ = some (.int .i64 f5) ∧ w'.cell? ⟨G, 6, none⟩ = some (.slice A6 X.length c6) ∧ w'.cell? ⟨G, 7, none⟩ = some (.slice A7 T.length c7) ∧ Hid (DZ p g b lp G 2 f1 f2 f3 f4 f5 X T A6 c6 A7 c7 M L A c w' ∧ Below w.heap.size w w'))
    (first | assumption)
    (first | (go_at_call 68; refine (HR.out _ (by assumption)).mono ?_; rintro o w3 ⟨A2, c2, rfl, HC2, kk⟩))
  obtain ⟨k0, k1, k2, k3, k4, k5, k6, k7, k8, k9, hz3⟩ := kk
  clear hz0 hzH
  go_wp2_with (first
    | (go_at_call 45; refine (HP.out _ A2 c2 hz3 HC2).mono ?_; rintro o w4 ⟨rfl, ⟨y1, y2⟩, H4⟩))
  go_ret
  exact ⟨rfl, H4.out.done hz3.out.2⟩
set_option maxRecDepth 100000 in
set_option maxHeartbeats 4000000 in
theorem does_3 {w : World} {p g b lp : Nat} {M : List (S42 × Int)} {L : List S82} {A : Option Addr} {c : Nat} (h : DW p g b lp M L A c w) (hL : L.length ≤ 100000) (f0 f1 f2 f3 : Int) (f4 : ByteArray) (f5 : Int) (X : List S131) (T : List S79) (A6 : Option Addr) (c6 : Nat) (A7 : Option Addr) (c7 : Nat) (l6 : X.length ≤ c6) (g6 : k131.C w A6 X.length X) (g7 : k79.C w A7 T.length T) (s6 : X.length ≤ 40) (s7 : T.length ≤ 40) (n0 : f0 ≠ 0) (n1 : f0 ≠ 1) (n2 : f0 ≠ 2) :
    Calls Try.prog 36 #[.pointer (some ⟨p, 0, none⟩), .pointer (some ⟨lp, 0, none⟩), .agg #[.int .i64 f0, .int .i64 f1, .int .i64 f2, .int .i64 f3, .string f4, .int .i64 f5, .slice A6 X.length c6, .slice A7 T.length c7]] w fun e w' => e = .returned (.bool true) ∧ DoneB p g b lp (actL L ⟨f0, f1, f2, f3, f4, f5, X, T⟩).1 w w' := by
  have hz := h.box f0 f1 f2 f3 f4 f5 c6 c7 g6 g7
  have hml : M.length ≤ 1000000000 := by rw [rep_length h.iv.st.rep]; omega
  have hact := h.iv.st.act ⟨f0, f1, f2, f3, f4, f5, X, T⟩
  have hiv := h.iv.act ⟨f0, f1, f2, f3, f4, f5, X, T⟩
  have eL : actL L ⟨f0, f1, f2, f3, f4, f5, X, T⟩ = cmR L (trX f1 f2 T f4 f5) := by
    unfold actL
    show (if f0 = 0 then _ else if f0 = 1 then _ else if f0 = 2 then _ else _) = _
    rw [if_neg n0, if_neg n1, if_neg n2]
  have eM : actM M ⟨f0, f1, f2, f3, f4, f5, X, T⟩ = cmL M (trX f1 f2 T f4 f5) := by
    unfold actM
    show (if f0 = 0 then _ else if f0 = 1 then _ else if f0 = 2 then _ else _) = _
    rw [if_neg n0, if_neg n1, if_neg n2]
  rw [eL, eM] at hact hiv
  rw [eL]
  obtain ⟨R, hR⟩ : ∃ R, cmR L (trX f1 f2 T f4 f5) = R := ⟨_, rfl⟩
  rw [hR] at hact hiv ⊢
  have q2 := hact.2.1
  have q3 := hact.2.2
  clear hact eL eM
  have hb0 := (Below.refl w.heap.size w).alloc (Nat.le_refl _) (.cells #[.int .i64 f0, .int .i64 f1, .int .i64 f2, .int .i64 f3, .string f4, .int .i64 f5, .slice A6 X.length c6, .slice A7 T.length c7] 72)
  obtain ⟨G, hG⟩ : ∃ G, w.heap.size = G := ⟨_, rfl⟩
  obtain ⟨W0, hW0⟩ : ∃ W0, w.alloc (.cells #[.int .i64 f0, .int .i64 f1, .int .i64 f2, .int .i64 f3, .string f4, .int .i64 f5, .slice A6 X.length c6, .slice A7 T.length c7] 72) = W0 := ⟨_, rfl⟩
  rw [hW0] at hz hb0
  rw [hG] at hz
  have HR := Lib.hid (show ∀ W, Hid (DZ p g b lp G f0 f1 f2 f3 f4 f5 X T A6 c6 A7 c7 M L A c W ∧ Below w.heap.size w W) → Calls Try.prog 69 #[.slice A L.length c, .int .i64 f1, .int .i64 f2, .slice A7 T.length c7, .string f4, .int .i64 f5] W fun e w' => ∃ (A' : Option Addr) (c' : Nat), e = .returned (.tuple #[.slice A' R.1.length c', .int .i64 R.2.1, .int .i64 R.2.2]) ∧ Hid (Kd.C k82 w' A' R.1.length R.1 ∧ R.1.length ≤ c') ∧ (w'.cell? ⟨lp, 0, none⟩ = some (.slice A L.length c) ∧ w'.frozen? ⟨lp, 0, none⟩ = false ∧ w'.cell? ⟨G, 0, none⟩ = some (.int .i64 f0) ∧ w'.cell? ⟨G, 1, none⟩ = some (.int .i64 f1) ∧ w'.cell? ⟨G, 2, none⟩ = some (.int .i64 f2) ∧ w'.cell? ⟨G, 3, none⟩ = some (.int .i64 f3) ∧ w'.cell? ⟨G, 4, none⟩ = some (.string f4) ∧ w'.cell? ⟨G, 5, none⟩ = some (.int .i64 f5) ∧ w'.cell? ⟨G, 6, none⟩ = some (.slice A6 X.length c6) ∧ w'.cell? ⟨G, 7, none⟩ = some (.slice A7 T.length c7) ∧ Hid (DZ p g b lp G f0 f1 f2 f3 f4 f5 X T A6 c6 A7 c7 M L A c w' ∧ Below w.heap.size w w')) from fun W hx => by
    have hd := hx.out.1
    have := rctrade_any W A c L hd.hC h.hc (by omega) f1 f2 f5 f4 A7 c7 T hd.k7 (by omega)
    rw [hR] at this
    refine this.mono ?_
    rintro e w' ⟨A', c', he, H⟩
    have hd' := hd.below H.out.2.2
    exact ⟨A', c', he, ⟨H.out.1, H.out.2.1⟩, hd'.hold (hx.out.2.trans (H.out.2.2.mono hx.out.2.size))⟩)
  have HP := Lib.hid (show ∀ W A' c', Hid (DZ p g b lp G f0 f1 f2 f3 f4 f5 X T A6 c6 A7 c7 M L A c W ∧ Below w.heap.size w W) → Hid (Kd.C k82 W A' R.1.length R.1 ∧ R.1.length ≤ c') → Calls Try.prog 39 #[.pointer (some ⟨p, 0, none⟩), .int .i64 f1, .int .i64 f2, .slice A7 T.length c7, .string f4, .int .i64 f5] W fun e w' => e = .returned (.tuple #[.int .i64 R.2.1, .int .i64 R.2.2]) ∧ (w'.cell? ⟨lp, 0, none⟩ = some (.slice A L.length c) ∧ w'.frozen? ⟨lp, 0, none⟩ = false) ∧ Hid (PreB p g b lp R.1 L A c A' c' W w') from fun W A' c' hx hq => by
    have hd := hx.out.1
    have := ctrade_any hd.cu h.iv.st.bm hml f1 f2 f5 f4 A7 c7 T hd.k7 (by omega)
    rw [q2, q3] at this
    refine this.mono ?_
    rintro e w' ⟨he, H⟩
    obtain ⟨y1, y2, y3⟩ := cells_grown hd H.out.2
    exact ⟨he, ⟨y2, y3⟩, ⟨_, H.out.1, hiv, H.out.2, y1, C82_grown hq.out.1 H.out.2 hd.cu.lg.map, hq.out.2⟩⟩)
  have HB0 := Lib.hid hb0
  have hz0 : W0.drew.cell? ⟨lp, 0, none⟩ = some (.slice A L.length c) ∧ W0.drew.frozen? ⟨lp, 0, none⟩ = false ∧ W0.drew.cell? ⟨G, 0, none⟩ = some (.int .i64 f0) ∧ W0.drew.cell? ⟨G, 1, none⟩ = some (.int .i64 f1) ∧ W0.drew.cell? ⟨G, 2, none⟩ = some (.int .i64 f2) ∧ W0.drew.cell? ⟨G, 3, none⟩ = some (.int .i64 f3) ∧ W0.drew.cell? ⟨G, 4, none⟩ = some (.string f4) ∧ W0.drew.cell? ⟨G, 5, none⟩ = some (.int .i64 f5) ∧ W0.drew.cell? ⟨G, 6, none⟩ = some (.slice A6 X.length c6) ∧ W0.drew.cell? ⟨G, 7, none⟩ = some (.slice A7 T.length c7) ∧ Hid (DZ p g b lp G f0 f1 f2 f3 f4 f5 X T A6 c6 A7 c7 M L A c W0.drew ∧ Below w.heap.size w W0.drew) := (hz.below ((Below.refl _ _).drew)).hold hb0.drew
  have hzH := hz0.2.2.2.2.2.2.2.2.2.2
  have HZ := Lib.hid hz
  clear h hL l6 g6 g7 s6 s7 hml hiv hz hb0 hR
  have HW0 := Lib.hid hW0
  have HG := Lib.hid hG
  clear hW0 hG
  have m0 : (f0 == 0) = false := by simpa using n0
  have m1 : (f0 == 1) = false := by simpa using n1
  have m2 : (f0 == 2) = false := by simpa using n2
  clear n0 n1 n2
  go_enter Try.func36, Try.ntmps36
  go_wp2_with (fail)
  rw [HW0.out, HG.out]
  clear HW0 HG
  go_region_held3 (fun w' => w'.cell? ⟨lp, 0, none⟩ = some (.slice A L.length c) ∧ w'.frozen? ⟨lp, 0, none⟩ = false ∧ w'.cell? ⟨G, 0, none⟩ = some (.int .i64 f0) ∧ w'.cell? ⟨G, 1, none⟩ = some (.int .i64 f1) ∧ w'.cell? ⟨G, 2, none⟩ = some (.int .i64 f2) ∧ w'.cell? ⟨G, 3, none⟩ = some (.int .i64 f3) ∧ w'.cell? ⟨G, 4, none⟩ = some (.string f4) ∧ w'.cell? ⟨G, 5, none⟩ = some (.int .i64 f5) ∧ w'.cell? ⟨G, 6, none⟩ = some (.slice A6 X.length c6) ∧ w'.cell? ⟨G, 7, none⟩ = some (.slice A7 T.length c7) ∧ Hid (DZ p g b lp G f0 f1 f2 f3 f4 f5 X T A6 c6 A7 c7 M L A c w' ∧ Below w.heap.size w w'))
    (first | assumption)
    (first | (go_at_call 69; refine (HR.out _ (by assumption)).mono ?_; rintro o w3 ⟨A2, c2, rfl, HC2, kk⟩))
  obtain ⟨k0, k1, k2, k3, k4, k5, k6, k7, k8, k9, hz3⟩ := kk
  clear hz0 hzH
  go_wp2_with (first
    | (go_at_call 39; refine (HP.out _ A2 c2 hz3 HC2).mono ?_; rintro o w4 ⟨rfl, ⟨y1, y2⟩, H4⟩))
  go_ret
  exact ⟨rfl, H4.out.done hz3.out.2⟩
theorem does_any {w : World} {p g b lp : Nat} {M : List (S42 × Int)} {L : List S82} {A : Option Addr} {c : Nat} (h : DW p g b lp M L A c w) (hL : L.length ≤ 100000) (x : S72) (A6 : Option Addr) (c6 : Nat) (A7 : Option Addr) (c7 : Nat) (l6 : x.f6.length ≤ c6) (g6 : k131.C w A6 x.f6.length x.f6) (g7 : k79.C w A7 x.f7.length x.f7) (s6 : x.f6.length ≤ 40) (s7 : x.f7.length ≤ 40) :
    Calls Try.prog 36 #[.pointer (some ⟨p, 0, none⟩), .pointer (some ⟨lp, 0, none⟩), .agg #[.int .i64 x.f0, .int .i64 x.f1, .int .i64 x.f2, .int .i64 x.f3, .string x.f4, .int .i64 x.f5, .slice A6 x.f6.length c6, .slice A7 x.f7.length c7]] w fun e w' => e = .returned (.bool true) ∧ DoneB p g b lp (actL L x).1 w w' := by
  obtain ⟨f0, f1, f2, f3, f4, f5, X, T⟩ := x
  simp only at l6 g6 g7 s6 s7 ⊢
  by_cases n0 : f0 = 0
  · subst n0; exact does_0 h hL f1 f2 f3 f4 f5 X T A6 c6 A7 c7 l6 g6 g7 s6 s7
  · by_cases n1 : f0 = 1
    · subst n1; exact does_1 h hL f1 f2 f3 f4 f5 X T A6 c6 A7 c7 l6 g6 g7 s6 s7
    · by_cases n2 : f0 = 2
      · subst n2; exact does_2 h hL f1 f2 f3 f4 f5 X T A6 c6 A7 c7 l6 g6 g7 s6 s7
      · exact does_3 h hL f0 f1 f2 f3 f4 f5 X T A6 c6 A7 c7 l6 g6 g7 s6 s7 n0 n1 n2
end Go.Proofs.Ytoknlpecbdlbfaa.PL

-- CustodyPlays, walked. (printed by genUE.py)
namespace Go.Proofs.Ytoknlpecbdlbfaa.PL
open Go Go.RowKit Go.Maps Go.Sort Go.Shelf Go.Proofs Go.Proofs.YtoknlpecbdlbfaaW.PrintWords Go.Proofs.YtoknlpecbdlbfaaW.PrintLast
/-- Is an act short? -/
def shB (x : S72) : Bool := decide (x.f6.length ≤ 40 ∧ x.f7.length ≤ 40)
theorem cshort_f (x : S72) : lombardlaw12_short.f x.f0 x.f1 x.f2 x.f3 x.f4 x.f5 x.f6 x.f7 = some (shB x) := by
  unfold lombardlaw12_short.f shB
  by_cases h : (x.f6.length : Int) ≤ 40
  · rw [if_pos h]
    congr 1
    rw [decide_eq_decide]
    omega
  · rw [if_neg h]
    congr 1
    symm
    rw [decide_eq_false_iff_not]
    omega
theorem DW.below {p g b lp : Nat} {M : List (S42 × Int)} {L : List S82} {A : Option Addr} {c : Nat} {W W' : World} (h : DW p g b lp M L A c W) (hb : Below W.heap.size W W') : DW p g b lp M L A c W' :=
  ⟨h.cu.below hb, h.iv, (hb.block _ (Array.getElem?_eq_some_iff.1 h.blk).1).trans h.blk, Kd.C_below h.hC hb, h.hc⟩
/-- An act's cells. -/
def L8 (ad : Addr) (k : Nat) (x : S72) (A6 : Option Addr) (c6 : Nat) (A7 : Option Addr) (c7 : Nat) (W : World) : Prop := W.cell? (ad.add (k * 8)) = some (.int .i64 x.f0) ∧ W.cell? ⟨(ad.add (k * 8)).block, (ad.add (k * 8)).off + 1, none⟩ = some (.int .i64 x.f1) ∧ W.cell? ⟨(ad.add (k * 8)).block, (ad.add (k * 8)).off + 2, none⟩ = some (.int .i64 x.f2) ∧ W.cell? ⟨(ad.add (k * 8)).block, (ad.add (k * 8)).off + 3, none⟩ = some (.int .i64 x.f3) ∧ W.cell? ⟨(ad.add (k * 8)).block, (ad.add (k * 8)).off + 4, none⟩ = some (.string x.f4) ∧ W.cell? ⟨(ad.add (k * 8)).block, (ad.add (k * 8)).off + 5, none⟩ = some (.int .i64 x.f5) ∧ W.cell? ⟨(ad.add (k * 8)).block, (ad.add (k * 8)).off + 6, none⟩ = some (.slice A6 x.f6.length c6) ∧ W.cell? ⟨(ad.add (k * 8)).block, (ad.add (k * 8)).off + 7, none⟩ = some (.slice A7 x.f7.length c7)
theorem L8.below {ad : Addr} {k : Nat} {x : S72} {A6 : Option Addr} {c6 : Nat} {A7 : Option Addr} {c7 : Nat} {W W' : World} (h : L8 ad k x A6 c6 A7 c7 W) (hb : Below W.heap.size W W') : L8 ad k x A6 c6 A7 c7 W' := by
  obtain ⟨h0, h1, h2, h3, h4, h5, h6, h7⟩ := h
  exact ⟨cell_keep hb h0, cell_keep hb h1, cell_keep hb h2, cell_keep hb h3, cell_keep hb h4, cell_keep hb h5, cell_keep hb h6, cell_keep hb h7⟩
/-- What stands at a round's head in the laws on acts. -/
structure RW (w : World) (p g b lp k : Nat) (L : List S82) (A : Option Addr) (c : Nat) (M : List (S42 × Int)) (W : World) : Prop where
  dw : DW p g b lp M L A c W
  bl : Below w.heap.size w W
  hb : w.heap.size ≤ b
  hl : w.heap.size ≤ lp
  len : L.length ≤ 82 * k
theorem RW.below {w : World} {p g b lp k : Nat} {L : List S82} {A : Option Addr} {c : Nat} {M : List (S42 × Int)} {W W' : World} (h : RW w p g b lp k L A c M W) (hb : Below W.heap.size W W') : RW w p g b lp k L A c M W' :=
  ⟨h.dw.below hb, h.bl.trans (hb.mono h.bl.size), h.hb, h.hl, h.len⟩
theorem RW.next {w : World} {p g b lp k : Nat} {L : List S82} {A : Option Addr} {c : Nat} {M : List (S42 × Int)} {W : World} (h : RW w p g b lp k L A c M W) : RW w p g b lp (k + 1) L A c M W :=
  ⟨h.dw, h.bl, h.hb, h.hl, by have := h.len; omega⟩
theorem RW.done {w : World} {p g b lp k : Nat} {L : List S82} {A : Option Addr} {c : Nat} {M : List (S42 × Int)} {W W' : World} (h : RW w p g b lp k L A c M W) (x : S72) (s6 : x.f6.length ≤ 40) (s7 : x.f7.length ≤ 40) (hd : DoneB p g b lp (actL L x).1 W W') : ∃ M' A' c', W'.cell? ⟨lp, 0, none⟩ = some (.slice A' (actL L x).1.length c') ∧ Hid (RW w p g b lp (k + 1) (actL L x).1 A' c' M' W') := by
  obtain ⟨M', A', c', W1, h1, h2, h3⟩ := hd.out
  have hlen := length_actL L x s6 s7
  have hl := h.len
  have b1 := h.bl.grown h2 h.bl.size (by simp; exact h.hb)
  have b2 := b1.grown h3 b1.size (by simp; exact h.hl)
  exact ⟨M', A', c', cell_of_one h1.blk, ⟨h1, b2, h.hb, h.hl, by omega⟩⟩
theorem RW.start {w w1 : World} {p g b : Nat} (h : CU w1 p g b []) (hb : Below w.heap.size w w1) (h1 : w.heap.size ≤ b) : RW w p g b w1.heap.size 0 [] none 0 [] (w1.alloc (.cells #[.slice none 0 0] 27)) := by
  have hb1 := (Below.refl w1.heap.size w1).alloc (Nat.le_refl _) (.cells #[.slice none 0 0] 27)
  exact ⟨⟨h.below hb1, Iv.nil, (Go.MapKept.heap_alloc w1 _).1, ⟨rfl, by simp, fun h => absurd h (by simp)⟩, Nat.le_refl _⟩, hb.trans (hb1.mono hb.size), h1, hb.size, Nat.zero_le _⟩
theorem C_len {α : Type} {d : Kd α} {w : World} {A : Option Addr} {n : Nat} {l : List α} (h : Kd.C d w A n l) : n ≤ 9223372036854775807 := by
  have := h.2.1
  unfold maxLen at this
  exact this
end Go.Proofs.Ytoknlpecbdlbfaa.PL

-- CustodyOnce, walked. (printed by genUF.py)
namespace Go.Proofs.Ytoknlpecbdlbfaa.PL
open Go Go.RowKit Go.Maps Go.Sort Go.Shelf Go.Proofs Go.Proofs.YtoknlpecbdlbfaaW.PrintWords Go.Proofs.YtoknlpecbdlbfaaW.PrintLast
theorem wrapK {n : Int} (h : -9223372036854775808 ≤ n) (h' : n ≤ 9223372036854775807) : IntKind.i64.wrap n = n := IntWalk.i64_in _ (by omega)
end Go.Proofs.Ytoknlpecbdlbfaa.PL
