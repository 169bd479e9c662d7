/- Part 28 of the proof's texts: what the theorem needs of them. -/
import Derived.Test.YtoknlpecbdlbfaaSCOnce27

/- The document's Move and Post, walked. -/
namespace Go.Proofs.Ytoknlpecbdlbfaa.PL
open Go Go.RowKit Go.Maps Go.Sort Go.Shelf Go.Proofs Go.Proofs.YtoknlpecbdlbfaaW.PrintWords Go.Proofs.YtoknlpecbdlbfaaW.PrintLast
/-- The document's Move. -/
def mvL (L : List S82) (e : S107) : List S82 × Int :=
  if checkI e ≠ 0 then (L, checkI e)
  else if wrap64 (getL L e.f0.f0 e.f0.f1 e.f0.f2 - e.f2) < 0 ∧ 0 < e.f0.f0 then (L, 20)
  else if wrap64 (getL L e.f0.f0 e.f0.f1 e.f0.f2 - e.f2) < -72057594037927936 ∨ 72057594037927936 < wrap64 (getL (setL L e.f0.f0 e.f0.f1 e.f0.f2 (wrap64 (getL L e.f0.f0 e.f0.f1 e.f0.f2 - e.f2))) e.f1.f0 e.f1.f1 e.f1.f2 + e.f2) then (L, 9)
  else (setL (setL L e.f0.f0 e.f0.f1 e.f0.f2 (wrap64 (getL L e.f0.f0 e.f0.f1 e.f0.f2 - e.f2))) e.f1.f0 e.f1.f1 e.f1.f2 (wrap64 (getL (setL L e.f0.f0 e.f0.f1 e.f0.f2 (wrap64 (getL L e.f0.f0 e.f0.f1 e.f0.f2 - e.f2))) e.f1.f0 e.f1.f1 e.f1.f2 + e.f2)), 0)
theorem length_setG (a0 a1 : Int) (a2 : ByteArray) (n : Int) : ∀ (L : List S82) (d : Bool), (setG a0 a1 a2 n L d).length ≤ L.length + 1
  | [], true => by simp [setG]
  | [], false => by simp [setG]
  | b :: r, d => by
    unfold setG
    split
    · have := length_setG a0 a1 a2 n r d; simp; omega
    · split
      · have := length_setG a0 a1 a2 n r true; simp; omega
      · split
        · have : ∀ L : List S82, (setG a0 a1 a2 n L true).length ≤ L.length := by
            intro L
            induction L with
            | nil => simp [setG]
            | cons b r ih => unfold setG; split <;> simp <;> omega
          have := this r
          simp; omega
        · have := length_setG a0 a1 a2 n r false; simp; omega
theorem length_setL (L : List S82) (a0 a1 : Int) (a2 : ByteArray) (n : Int) : (setL L a0 a1 a2 n).length ≤ L.length + 1 := length_setG a0 a1 a2 n L _
/-- The entry's block while Move runs. -/
def BX (G : Nat) (a0 a1 : Int) (a2 : ByteArray) (b0 b1 : Int) (b2 : ByteArray) (n : Int) (w' : World) : Prop :=
  w'.cell? ⟨G, 0, none⟩ = some (.int .i64 a0) ∧ w'.cell? ⟨G, 1, none⟩ = some (.int .i64 a1) ∧ w'.cell? ⟨G, 2, none⟩ = some (.string a2) ∧ w'.cell? ⟨G, 3, none⟩ = some (.int .i64 b0) ∧ w'.cell? ⟨G, 4, none⟩ = some (.int .i64 b1) ∧ w'.cell? ⟨G, 5, none⟩ = some (.string b2) ∧ w'.cell? ⟨G, 6, none⟩ = some (.int .i64 n)
theorem BX.below {G : Nat} {a0 a1 : Int} {a2 : ByteArray} {b0 b1 : Int} {b2 : ByteArray} {n : Int} {w w' : World} (h : BX G a0 a1 a2 b0 b1 b2 n w) (hb : Below w.heap.size w w') : BX G a0 a1 a2 b0 b1 b2 n w' := by
  obtain ⟨h0, h1, h2, h3, h4, h5, h6⟩ := h
  exact ⟨(hb.cell (World.block_lt_of_cell? w _ h0)).trans h0, (hb.cell (World.block_lt_of_cell? w _ h1)).trans h1, (hb.cell (World.block_lt_of_cell? w _ h2)).trans h2, (hb.cell (World.block_lt_of_cell? w _ h3)).trans h3, (hb.cell (World.block_lt_of_cell? w _ h4)).trans h4, (hb.cell (World.block_lt_of_cell? w _ h5)).trans h5, (hb.cell (World.block_lt_of_cell? w _ h6)).trans h6⟩
theorem wrong_any (a : S42) (w : World) : Calls Try.prog 72 #[.agg #[.int .i64 a.f0, .int .i64 a.f1, .string a.f2]] w fun e w' => e = .returned (.int .i64 (goodI a)) ∧ Below w.heap.size w w' :=
  lombardref11_Wrong.calls 1 _ _ _ _ w (wrong_f a 0)
theorem get_any {L : List S82} (hL : L.length < 9223372036854775807) {A : Option Addr} {c : Nat} {w : World} (hC : Kd.C k82 w A L.length L) (hc : L.length ≤ c) (a : S42) : Calls Try.prog 27 #[.slice A L.length c, .agg #[.int .i64 a.f0, .int .i64 a.f1, .string a.f2]] w fun e w' => e = .returned (.int .i64 (getL L a.f0 a.f1 a.f2)) ∧ Below w.heap.size w w' :=
  lombardref11_Get.calls (L.length + 1) A c L a.f0 a.f1 a.f2 _ w hC hc (get_f L hL _ _ _ _ (Nat.le_refl _))
theorem set_any {L : List S82} (hL : 2 * L.length + 2 < 3518437208883) {A : Option Addr} {c : Nat} {w : World} (hC : Kd.C k82 w A L.length L) (hc : L.length ≤ c) (a : S42) (n : Int) : Calls Try.prog 79 #[.slice A L.length c, .agg #[.int .i64 a.f0, .int .i64 a.f1, .string a.f2], .int .i64 n] w fun e w' => ∃ (A2 : Option Addr) (c2 : Nat), e = .returned (.slice A2 (setL L a.f0 a.f1 a.f2 n).length c2) ∧ Kd.C k82 w' A2 (setL L a.f0 a.f1 a.f2 n).length (setL L a.f0 a.f1 a.f2 n) ∧ (setL L a.f0 a.f1 a.f2 n).length ≤ c2 ∧ Below w.heap.size w w' := by
  refine (lombardref11_Set.calls (L.length + 1) A c L a.f0 a.f1 a.f2 n _ w hC hc (set_f L hL _ _ _ _ _ (Nat.le_refl _))).mono ?_
  rintro e w' ⟨v, rfl, hr, hb⟩
  obtain ⟨A2, c2, rfl, h1, h2⟩ := Kd.R_reads hr
  exact ⟨A2, c2, rfl, h2, h1, hb⟩
end Go.Proofs.Ytoknlpecbdlbfaa.PL

/- The document's Move, walked. -/
namespace Go.Proofs.Ytoknlpecbdlbfaa.PL
open Go Go.RowKit Go.Maps Go.Sort Go.Shelf Go.Proofs Go.Proofs.YtoknlpecbdlbfaaW.PrintWords Go.Proofs.YtoknlpecbdlbfaaW.PrintLast
set_option maxRecDepth 100000 in
set_option maxHeartbeats 2000000 in
theorem rmove_walk (A : Option Addr) (c : Nat) (L : List S82) (e : S107) (w : World) (hC : Kd.C k82 w A L.length L) (hc : L.length ≤ c) (hL : 2 * L.length + 8 < 3518437208883) (hck : checkI e = 0) :
    Calls Try.prog 57 #[.slice A L.length c, ev e] w fun o w' => ∃ (A' : Option Addr) (c' : Nat) (l' : List S82) (i' : Int), o = .returned (.tuple #[.slice A' l'.length c', .int .i64 i']) ∧ mvL L e = (l', i') ∧ Kd.C k82 w' A' l'.length l' ∧ l'.length ≤ c' ∧ Below w.heap.size w w' := by
  have hmv : ∃ r, mvL L e = r := ⟨_, rfl⟩
  obtain ⟨r0, hr0⟩ := hmv
  rw [hr0]
  unfold mvL at hr0
  rw [if_neg (fun h => h hck)] at hr0
  obtain ⟨hn1, hn2, hg0, hg1, hth⟩ := check_good hck
  obtain ⟨⟨a0, a1, a2⟩, ⟨b0, b1, b2⟩, n⟩ := e
  simp only at hr0 hn1 hn2 hth hg0 hg1
  obtain ⟨g1, hg1'⟩ : ∃ g, getL L a0 a1 a2 = g := ⟨_, rfl⟩
  rw [hg1'] at hr0
  obtain ⟨N, hN⟩ : ∃ N, setL L a0 a1 a2 (wrap64 (g1 - n)) = N := ⟨_, rfl⟩
  rw [hN] at hr0
  obtain ⟨g2, hg2'⟩ : ∃ g, getL N b0 b1 b2 = g := ⟨_, rfl⟩
  rw [hg2'] at hr0
  have hNl : N.length ≤ L.length + 1 := by rw [← hN]; exact length_setL _ _ _ _ _
  have HR := Lib.hid (And.intro hr0 (And.intro hC (And.intro hc (And.intro hL hNl))))
  obtain ⟨z, hz⟩ : ∃ z, decide (a0 > 0) = z := ⟨_, rfl⟩
  have hza : z = true ↔ 0 < a0 := by rw [← hz]; simp
  have HZ := Lib.hid hza
  have c1 : (n < 1) = False := eq_false (by omega)
  have c2 : decide (n > 1125899906842624) = false := by simp; omega
  have c3 : (a2.toList == b2.toList) = true := by simp [hth]
  have hstep : ∀ W w', (Hid (BX w.heap.size a0 a1 a2 b0 b1 b2 n W ∧ Below w.heap.size w W)) → Below W.heap.size W w' → (w'.cell? ⟨w.heap.size, 0, none⟩ = some (.int .i64 a0) ∧ w'.cell? ⟨w.heap.size, 1, none⟩ = some (.int .i64 a1) ∧ w'.cell? ⟨w.heap.size, 2, none⟩ = some (.string a2) ∧ w'.cell? ⟨w.heap.size, 3, none⟩ = some (.int .i64 b0) ∧ w'.cell? ⟨w.heap.size, 4, none⟩ = some (.int .i64 b1) ∧ w'.cell? ⟨w.heap.size, 5, none⟩ = some (.string b2) ∧ w'.cell? ⟨w.heap.size, 6, none⟩ = some (.int .i64 n) ∧ Hid (BX w.heap.size a0 a1 a2 b0 b1 b2 n w' ∧ Below w.heap.size w w')) := fun W w' hx hb => by
    have hx' := hx.out.1.below hb
    have hB' := hx.out.2.trans (hb.mono hx.out.2.size)
    have hh : Hid (BX w.heap.size a0 a1 a2 b0 b1 b2 n w' ∧ Below w.heap.size w w') := ⟨hx', hB'⟩
    obtain ⟨k0, k1, k2, k3, k4, k5, k6⟩ := hx'
    exact ⟨k0, k1, k2, k3, k4, k5, k6, hh⟩
  have HW0 := Lib.hid (show ∀ W, Hid (BX w.heap.size a0 a1 a2 b0 b1 b2 n W ∧ Below w.heap.size w W) → Calls Try.prog 72 #[.agg #[.int .i64 a0, .int .i64 a1, .string a2]] W fun e w' => e = .returned (.int .i64 0) ∧ (w'.cell? ⟨w.heap.size, 0, none⟩ = some (.int .i64 a0) ∧ w'.cell? ⟨w.heap.size, 1, none⟩ = some (.int .i64 a1) ∧ w'.cell? ⟨w.heap.size, 2, none⟩ = some (.string a2) ∧ w'.cell? ⟨w.heap.size, 3, none⟩ = some (.int .i64 b0) ∧ w'.cell? ⟨w.heap.size, 4, none⟩ = some (.int .i64 b1) ∧ w'.cell? ⟨w.heap.size, 5, none⟩ = some (.string b2) ∧ w'.cell? ⟨w.heap.size, 6, none⟩ = some (.int .i64 n) ∧ Hid (BX w.heap.size a0 a1 a2 b0 b1 b2 n w' ∧ Below w.heap.size w w')) from fun W hx => by
    have := wrong_any ⟨a0, a1, a2⟩ W
    rw [hg0] at this
    refine this.mono ?_
    rintro e w' ⟨he, hb⟩
    exact ⟨he, hstep W w' hx hb⟩)
  have HW1 := Lib.hid (show ∀ W, Hid (BX w.heap.size a0 a1 a2 b0 b1 b2 n W ∧ Below w.heap.size w W) → Calls Try.prog 72 #[.agg #[.int .i64 b0, .int .i64 b1, .string b2]] W fun e w' => e = .returned (.int .i64 0) ∧ (w'.cell? ⟨w.heap.size, 0, none⟩ = some (.int .i64 a0) ∧ w'.cell? ⟨w.heap.size, 1, none⟩ = some (.int .i64 a1) ∧ w'.cell? ⟨w.heap.size, 2, none⟩ = some (.string a2) ∧ w'.cell? ⟨w.heap.size, 3, none⟩ = some (.int .i64 b0) ∧ w'.cell? ⟨w.heap.size, 4, none⟩ = some (.int .i64 b1) ∧ w'.cell? ⟨w.heap.size, 5, none⟩ = some (.string b2) ∧ w'.cell? ⟨w.heap.size, 6, none⟩ = some (.int .i64 n) ∧ Hid (BX w.heap.size a0 a1 a2 b0 b1 b2 n w' ∧ Below w.heap.size w w')) from fun W hx => by
    have := wrong_any ⟨b0, b1, b2⟩ W
    rw [hg1] at this
    refine this.mono ?_
    rintro e w' ⟨he, hb⟩
    exact ⟨he, hstep W w' hx hb⟩)
  have HG1 := Lib.hid (show ∀ W, Hid (BX w.heap.size a0 a1 a2 b0 b1 b2 n W ∧ Below w.heap.size w W) → Calls Try.prog 27 #[.slice A L.length c, .agg #[.int .i64 a0, .int .i64 a1, .string a2]] W fun e w' => e = .returned (.int .i64 g1) ∧ (w'.cell? ⟨w.heap.size, 0, none⟩ = some (.int .i64 a0) ∧ w'.cell? ⟨w.heap.size, 1, none⟩ = some (.int .i64 a1) ∧ w'.cell? ⟨w.heap.size, 2, none⟩ = some (.string a2) ∧ w'.cell? ⟨w.heap.size, 3, none⟩ = some (.int .i64 b0) ∧ w'.cell? ⟨w.heap.size, 4, none⟩ = some (.int .i64 b1) ∧ w'.cell? ⟨w.heap.size, 5, none⟩ = some (.string b2) ∧ w'.cell? ⟨w.heap.size, 6, none⟩ = some (.int .i64 n) ∧ Hid (BX w.heap.size a0 a1 a2 b0 b1 b2 n w' ∧ Below w.heap.size w w')) from fun W hx => by
    have := get_any (L := L) (by omega) (Kd.C_below hC hx.out.2) hc ⟨a0, a1, a2⟩
    rw [hg1'] at this
    refine this.mono ?_
    rintro e w' ⟨he, hb⟩
    exact ⟨he, hstep W w' hx hb⟩)
  have HS1 := Lib.hid (show ∀ W, Hid (BX w.heap.size a0 a1 a2 b0 b1 b2 n W ∧ Below w.heap.size w W) → Calls Try.prog 79 #[.slice A L.length c, .agg #[.int .i64 a0, .int .i64 a1, .string a2], .int .i64 (wrap64 (g1 - n))] W fun e w' => ∃ (A2 : Option Addr) (c2 : Nat), e = .returned (.slice A2 N.length c2) ∧ (w'.cell? ⟨w.heap.size, 0, none⟩ = some (.int .i64 a0) ∧ w'.cell? ⟨w.heap.size, 1, none⟩ = some (.int .i64 a1) ∧ w'.cell? ⟨w.heap.size, 2, none⟩ = some (.string a2) ∧ w'.cell? ⟨w.heap.size, 3, none⟩ = some (.int .i64 b0) ∧ w'.cell? ⟨w.heap.size, 4, none⟩ = some (.int .i64 b1) ∧ w'.cell? ⟨w.heap.size, 5, none⟩ = some (.string b2) ∧ w'.cell? ⟨w.heap.size, 6, none⟩ = some (.int .i64 n) ∧ Hid (BX w.heap.size a0 a1 a2 b0 b1 b2 n w' ∧ Below w.heap.size w w' ∧ Kd.C k82 w' A2 N.length N ∧ N.length ≤ c2)) from fun W hx => by
    have := set_any (L := L) (by omega) (Kd.C_below hC hx.out.2) hc ⟨a0, a1, a2⟩ (wrap64 (g1 - n))
    rw [hN] at this
    refine this.mono ?_
    rintro e w' ⟨A2, c2, he, h1, h2, h3⟩
    obtain ⟨k0, k1, k2, k3, k4, k5, k6, hh⟩ := hstep W w' hx h3
    exact ⟨A2, c2, he, k0, k1, k2, k3, k4, k5, k6, ⟨hh.out.1, hh.out.2, h1, h2⟩⟩)
  have HG2 := Lib.hid (show ∀ (A2 : Option Addr) (c2 : Nat) (W : World), Hid (BX w.heap.size a0 a1 a2 b0 b1 b2 n W ∧ Below w.heap.size w W ∧ Kd.C k82 W A2 N.length N ∧ N.length ≤ c2) → Calls Try.prog 27 #[.slice A2 N.length c2, .agg #[.int .i64 b0, .int .i64 b1, .string b2]] W fun e w' => e = .returned (.int .i64 g2) ∧ (w'.cell? ⟨w.heap.size, 0, none⟩ = some (.int .i64 a0) ∧ w'.cell? ⟨w.heap.size, 1, none⟩ = some (.int .i64 a1) ∧ w'.cell? ⟨w.heap.size, 2, none⟩ = some (.string a2) ∧ w'.cell? ⟨w.heap.size, 3, none⟩ = some (.int .i64 b0) ∧ w'.cell? ⟨w.heap.size, 4, none⟩ = some (.int .i64 b1) ∧ w'.cell? ⟨w.heap.size, 5, none⟩ = some (.string b2) ∧ w'.cell? ⟨w.heap.size, 6, none⟩ = some (.int .i64 n) ∧ Hid (BX w.heap.size a0 a1 a2 b0 b1 b2 n w' ∧ Below w.heap.size w w' ∧ Kd.C k82 w' A2 N.length N ∧ N.length ≤ c2)) from fun A2 c2 W hx => by
    have := get_any (L := N) (by omega) hx.out.2.2.1 hx.out.2.2.2 ⟨b0, b1, b2⟩
    rw [hg2'] at this
    refine this.mono ?_
    rintro e w' ⟨he, hb⟩
    obtain ⟨k0, k1, k2, k3, k4, k5, k6, hh⟩ := hstep W w' ⟨hx.out.1, hx.out.2.1⟩ hb
    exact ⟨he, k0, k1, k2, k3, k4, k5, k6, ⟨hh.out.1, hh.out.2, Kd.C_below hx.out.2.2.1 hb, hx.out.2.2.2⟩⟩)
  have HS2 := Lib.hid (show ∀ (A2 : Option Addr) (c2 : Nat) (W : World), Hid (BX w.heap.size a0 a1 a2 b0 b1 b2 n W ∧ Below w.heap.size w W ∧ Kd.C k82 W A2 N.length N ∧ N.length ≤ c2) → Calls Try.prog 79 #[.slice A2 N.length c2, .agg #[.int .i64 b0, .int .i64 b1, .string b2], .int .i64 (wrap64 (g2 + n))] W fun e w' => ∃ (A3 : Option Addr) (c3 : Nat), e = .returned (.slice A3 (setL N b0 b1 b2 (wrap64 (g2 + n))).length c3) ∧ Hid (Kd.C k82 w' A3 (setL N b0 b1 b2 (wrap64 (g2 + n))).length (setL N b0 b1 b2 (wrap64 (g2 + n))) ∧ (setL N b0 b1 b2 (wrap64 (g2 + n))).length ≤ c3 ∧ Below w.heap.size w w') from fun A2 c2 W hx => by
    refine (set_any (L := N) (by omega) hx.out.2.2.1 hx.out.2.2.2 ⟨b0, b1, b2⟩ (wrap64 (g2 + n))).mono ?_
    rintro e w' ⟨A3, c3, he, h1, h2, h3⟩
    exact ⟨A3, c3, he, ⟨h1, h2, hx.out.2.1.trans (h3.mono hx.out.2.1.size)⟩⟩)
  clear hr0 hC hc hL hNl hza hn1 hn2 hg0 hg1 hth hck hg1' hN hg2' hstep
  have HX : Hid (BX w.heap.size a0 a1 a2 b0 b1 b2 n (w.alloc (.cells #[.int .i64 a0, .int .i64 a1, .string a2, .int .i64 b0, .int .i64 b1, .string b2, .int .i64 n] 47)) ∧ Below w.heap.size w (w.alloc (.cells #[.int .i64 a0, .int .i64 a1, .string a2, .int .i64 b0, .int .i64 b1, .string b2, .int .i64 n] 47))) := ⟨⟨by simp, by simp, by simp, by simp, by simp, by simp, by simp⟩, (Below.refl w.heap.size w).alloc (Nat.le_refl _) _⟩
  simp only [ev]
  go_enter Try.func57, Try.ntmps57
  go_wp2_with (first
    | (go_at_call_has 72 (Value.string a2); refine (HW0.out _ HX).mono ?_; rintro o w1 ⟨rfl, k0, k1, k2, k3, k4, k5, k6, HX1⟩)
    | (go_at_call_has 72 (Value.string b2); refine (HW1.out _ HX1).mono ?_; rintro o w2 ⟨rfl, k0, k1, k2, k3, k4, k5, k6, HX2⟩))
  have hX3 : Hid (BX w.heap.size a0 a1 a2 b0 b1 b2 n w2.drew ∧ Below w.heap.size w w2.drew) := ⟨HX2.out.1, HX2.out.2.drew⟩
  have hS1 : (w2.drew.cell? ⟨w.heap.size, 0, none⟩ = some (.int .i64 a0) ∧ w2.drew.cell? ⟨w.heap.size, 1, none⟩ = some (.int .i64 a1) ∧ w2.drew.cell? ⟨w.heap.size, 2, none⟩ = some (.string a2) ∧ w2.drew.cell? ⟨w.heap.size, 3, none⟩ = some (.int .i64 b0) ∧ w2.drew.cell? ⟨w.heap.size, 4, none⟩ = some (.int .i64 b1) ∧ w2.drew.cell? ⟨w.heap.size, 5, none⟩ = some (.string b2) ∧ w2.drew.cell? ⟨w.heap.size, 6, none⟩ = some (.int .i64 n) ∧ Hid (BX w.heap.size a0 a1 a2 b0 b1 b2 n w2.drew ∧ Below w.heap.size w w2.drew)) := ⟨k0, k1, k2, k3, k4, k5, k6, ⟨HX2.out.1, HX2.out.2.drew⟩⟩
  go_region_held3 (fun w' => (w'.cell? ⟨w.heap.size, 0, none⟩ = some (.int .i64 a0) ∧ w'.cell? ⟨w.heap.size, 1, none⟩ = some (.int .i64 a1) ∧ w'.cell? ⟨w.heap.size, 2, none⟩ = some (.string a2) ∧ w'.cell? ⟨w.heap.size, 3, none⟩ = some (.int .i64 b0) ∧ w'.cell? ⟨w.heap.size, 4, none⟩ = some (.int .i64 b1) ∧ w'.cell? ⟨w.heap.size, 5, none⟩ = some (.string b2) ∧ w'.cell? ⟨w.heap.size, 6, none⟩ = some (.int .i64 n) ∧ Hid (BX w.heap.size a0 a1 a2 b0 b1 b2 n w' ∧ Below w.heap.size w w')))
    (first | assumption)
    (first | (go_at_call 27; refine (HG1.out _ (by assumption)).mono ?_; rintro o w3 ⟨rfl, kk⟩))
  have HX3 := kk.2.2.2.2.2.2.2
  obtain ⟨l0, l1, l2, l3, l4, l5, l6, _⟩ := kk
  clear k0 k1 k2 k3 k4 k5 k6 hS1 hX3
  go_wp2_with (first
    | (go_at_call 79; refine (HS1.out _ HX3).mono ?_; rintro o w4 ⟨A2, c2, rfl, k0, k1, k2, k3, k4, k5, k6, HX4⟩))
  · go_ret2
    obtain ⟨h0, h1, h2, h3, h4⟩ := HR.out
    refine ⟨A, c, L, 20, rfl, ?_, Kd.C_below h1 HX3.out.2, h2, HX3.out.2⟩
    rw [← h0, if_pos ⟨by assumption, HZ.out.1 (by assumption)⟩]
  all_goals
    have hq : ¬ (wrap64 (g1 - n) < 0 ∧ 0 < a0) := by
      rintro ⟨q1, q2⟩
      first | omega | (have := HZ.out.2 q2; simp_all)
    have HQ := Lib.hid hq
    have hX5 : Hid (BX w.heap.size a0 a1 a2 b0 b1 b2 n w4.drew ∧ Below w.heap.size w w4.drew ∧ Kd.C k82 w4.drew A2 N.length N ∧ N.length ≤ c2) := ⟨HX4.out.1, HX4.out.2.1.drew, HX4.out.2.2.1, HX4.out.2.2.2⟩
    have hS5 : (w4.drew.cell? ⟨w.heap.size, 0, none⟩ = some (.int .i64 a0) ∧ w4.drew.cell? ⟨w.heap.size, 1, none⟩ = some (.int .i64 a1) ∧ w4.drew.cell? ⟨w.heap.size, 2, none⟩ = some (.string a2) ∧ w4.drew.cell? ⟨w.heap.size, 3, none⟩ = some (.int .i64 b0) ∧ w4.drew.cell? ⟨w.heap.size, 4, none⟩ = some (.int .i64 b1) ∧ w4.drew.cell? ⟨w.heap.size, 5, none⟩ = some (.string b2) ∧ w4.drew.cell? ⟨w.heap.size, 6, none⟩ = some (.int .i64 n) ∧ Hid (BX w.heap.size a0 a1 a2 b0 b1 b2 n w4.drew ∧ Below w.heap.size w w4.drew ∧ Kd.C k82 w4.drew A2 N.length N ∧ N.length ≤ c2)) := ⟨k0, k1, k2, k3, k4, k5, k6, hX5⟩
    clear hq
    go_region_held3 (fun w' => (w'.cell? ⟨w.heap.size, 0, none⟩ = some (.int .i64 a0) ∧ w'.cell? ⟨w.heap.size, 1, none⟩ = some (.int .i64 a1) ∧ w'.cell? ⟨w.heap.size, 2, none⟩ = some (.string a2) ∧ w'.cell? ⟨w.heap.size, 3, none⟩ = some (.int .i64 b0) ∧ w'.cell? ⟨w.heap.size, 4, none⟩ = some (.int .i64 b1) ∧ w'.cell? ⟨w.heap.size, 5, none⟩ = some (.string b2) ∧ w'.cell? ⟨w.heap.size, 6, none⟩ = some (.int .i64 n) ∧ Hid (BX w.heap.size a0 a1 a2 b0 b1 b2 n w' ∧ Below w.heap.size w w' ∧ Kd.C k82 w' A2 N.length N ∧ N.length ≤ c2)))
      (first | assumption)
      (first | (go_at_call 27; refine (HG2.out _ _ _ (by assumption)).mono ?_; rintro o w5 ⟨rfl, kk⟩))
    have HX5 := kk.2.2.2.2.2.2.2
    obtain ⟨m0, m1, m2, m3, m4, m5, m6, _⟩ := kk
    clear k0 k1 k2 k3 k4 k5 k6 hS5 hX5
    go_wp2_with (first
      | (go_at_call 79; refine (HS2.out _ _ _ HX5).mono ?_; rintro o w6 ⟨A3, c3, rfl, HX6⟩))
  all_goals first
    | (go_ret2
       obtain ⟨h0, h1, h2, h3, h4⟩ := HR.out
       refine ⟨A, c, L, 9, rfl, ?_, Kd.C_below h1 HX5.out.2.1, h2, HX5.out.2.1⟩
       rw [← h0, if_neg HQ.out, if_pos (by omega)])
    | (go_ret2
       obtain ⟨h0, h1, h2, h3, h4⟩ := HR.out
       refine ⟨A3, c3, _, 0, rfl, ?_, HX6.out.1, HX6.out.2.1, HX6.out.2.2⟩
       rw [← h0, if_neg HQ.out, if_neg (by omega)])
end Go.Proofs.Ytoknlpecbdlbfaa.PL

/- The document's Move at entries that are wrong, walked. -/
namespace Go.Proofs.Ytoknlpecbdlbfaa.PL
open Go Go.RowKit Go.Maps Go.Sort Go.Shelf Go.Proofs Go.Proofs.YtoknlpecbdlbfaaW.PrintWords Go.Proofs.YtoknlpecbdlbfaaW.PrintLast
set_option maxRecDepth 100000 in
set_option maxHeartbeats 2000000 in
theorem rmove_bad (A : Option Addr) (c len : Nat) (e : S107) (w : World) (hck : checkI e ≠ 0) :
    Calls Try.prog 57 #[.slice A len c, ev e] w fun o w' => o = .returned (.tuple #[.slice A len c, .int .i64 (checkI e)]) ∧ Below w.heap.size w w' := by
  obtain ⟨r0, hr0⟩ : ∃ r, checkI e = r := ⟨_, rfl⟩
  rw [hr0]
  rw [hr0] at hck
  unfold checkI at hr0
  obtain ⟨⟨a0, a1, a2⟩, ⟨b0, b1, b2⟩, n⟩ := e
  simp only at hr0
  obtain ⟨gf, hgf⟩ : ∃ g, goodI ⟨a0, a1, a2⟩ = g := ⟨_, rfl⟩
  obtain ⟨gt, hgt⟩ : ∃ g, goodI ⟨b0, b1, b2⟩ = g := ⟨_, rfl⟩
  rw [hgf, hgt] at hr0
  have hstep : ∀ W w', Hid (BX w.heap.size a0 a1 a2 b0 b1 b2 n W ∧ Below w.heap.size w W) → Below W.heap.size W w' → BX w.heap.size a0 a1 a2 b0 b1 b2 n w' ∧ Hid (BX w.heap.size a0 a1 a2 b0 b1 b2 n w' ∧ Below w.heap.size w w') := fun W w' hx hb => by
    have hx' := hx.out.1.below hb
    exact ⟨hx', ⟨hx', hx.out.2.trans (hb.mono hx.out.2.size)⟩⟩
  have HW0 := Lib.hid (show ∀ W, Hid (BX w.heap.size a0 a1 a2 b0 b1 b2 n W ∧ Below w.heap.size w W) → Calls Try.prog 72 #[.agg #[.int .i64 a0, .int .i64 a1, .string a2]] W fun e w' => e = .returned (.int .i64 gf) ∧ BX w.heap.size a0 a1 a2 b0 b1 b2 n w' ∧ Hid (BX w.heap.size a0 a1 a2 b0 b1 b2 n w' ∧ Below w.heap.size w w') from fun W hx => by
    have := wrong_any ⟨a0, a1, a2⟩ W
    rw [hgf] at this
    refine this.mono ?_
    rintro e w' ⟨he, hb⟩
    exact ⟨he, hstep W w' hx hb⟩)
  have HW1 := Lib.hid (show ∀ W, Hid (BX w.heap.size a0 a1 a2 b0 b1 b2 n W ∧ Below w.heap.size w W) → Calls Try.prog 72 #[.agg #[.int .i64 b0, .int .i64 b1, .string b2]] W fun e w' => e = .returned (.int .i64 gt) ∧ BX w.heap.size a0 a1 a2 b0 b1 b2 n w' ∧ Hid (BX w.heap.size a0 a1 a2 b0 b1 b2 n w' ∧ Below w.heap.size w w') from fun W hx => by
    have := wrong_any ⟨b0, b1, b2⟩ W
    rw [hgt] at this
    refine this.mono ?_
    rintro e w' ⟨he, hb⟩
    exact ⟨he, hstep W w' hx hb⟩)
  have HX0 : Hid (BX w.heap.size a0 a1 a2 b0 b1 b2 n (w.alloc (.cells #[.int .i64 a0, .int .i64 a1, .string a2, .int .i64 b0, .int .i64 b1, .string b2, .int .i64 n] 47)) ∧ Below w.heap.size w (w.alloc (.cells #[.int .i64 a0, .int .i64 a1, .string a2, .int .i64 b0, .int .i64 b1, .string b2, .int .i64 n] 47))) := ⟨⟨by simp, by simp, by simp, by simp, by simp, by simp, by simp⟩, (Below.refl w.heap.size w).alloc (Nat.le_refl _) _⟩
  clear hstep hgf hgt
  simp only [ev]
  by_cases q1 : n < 1
  · rw [if_pos (.inl q1)] at hr0
    subst hr0
    clear hck HW0 HW1
    go_enter Try.func57, Try.ntmps57
    go_wp2
    go_ret2
    exact ⟨rfl, HX0.out.2⟩
  by_cases q2 : 1125899906842624 < n
  · rw [if_pos (.inr q2)] at hr0
    subst hr0
    have q2' : n > 1125899906842624 := q2
    clear hck HW0 HW1 q2
    go_enter Try.func57, Try.ntmps57
    go_wp2
    go_ret2
    exact ⟨rfl, HX0.out.2⟩
  rw [if_neg (by omega)] at hr0
  have c1 : (n < 1) = False := eq_false q1
  have c2 : decide (n > 1125899906842624) = false := by simp; omega
  clear q1 q2
  by_cases q3 : gf = 0
  · rw [if_neg (fun h => h q3)] at hr0
    subst q3
    by_cases q4 : gt = 0
    · rw [if_neg (fun h => h q4)] at hr0
      subst q4
      by_cases q5 : a2.toList = b2.toList
      · rw [if_pos q5] at hr0
        exact absurd hr0.symm hck
      · rw [if_neg q5] at hr0
        subst hr0
        have c3 : (a2.toList == b2.toList) = false := by simp [q5]
        clear hck q5
        go_enter Try.func57, Try.ntmps57
        go_wp2_with (first
          | (go_at_call_has 72 (Value.string a2); refine (HW0.out _ HX0).mono ?_; rintro o w1 ⟨rfl, ⟨k0, k1, k2, k3, k4, k5, k6⟩, HX1⟩)
          | (go_at_call_has 72 (Value.string b2); refine (HW1.out _ HX1).mono ?_; rintro o w2 ⟨rfl, ⟨k0, k1, k2, k3, k4, k5, k6⟩, HX2⟩))
        go_ret2
        exact ⟨rfl, HX2.out.2⟩
    · rw [if_pos q4] at hr0
      subst hr0
      have c3 : (gt != 0) = true := by simp [q4]
      clear hck q4
      go_enter Try.func57, Try.ntmps57
      go_wp2_with (first
        | (go_at_call_has 72 (Value.string a2); refine (HW0.out _ HX0).mono ?_; rintro o w1 ⟨rfl, ⟨k0, k1, k2, k3, k4, k5, k6⟩, HX1⟩)
        | (go_at_call_has 72 (Value.string b2); refine (HW1.out _ HX1).mono ?_; rintro o w2 ⟨rfl, ⟨k0, k1, k2, k3, k4, k5, k6⟩, HX1⟩))
      go_ret2
      exact ⟨rfl, HX1.out.2⟩
  · rw [if_pos q3] at hr0
    subst hr0
    have c3 : (gf != 0) = true := by simp [q3]
    clear hck q3
    go_enter Try.func57, Try.ntmps57
    go_wp2_with (first
      | (go_at_call_has 72 (Value.string a2); refine (HW0.out _ HX0).mono ?_; rintro o w1 ⟨rfl, ⟨k0, k1, k2, k3, k4, k5, k6⟩, HX0⟩))
    go_ret2
    exact ⟨rfl, HX0.out.2⟩
/-- The document's Move, at every entry. -/
theorem rmove_any (A : Option Addr) (c : Nat) (L : List S82) (e : S107) (w : World) (hC : Kd.C k82 w A L.length L) (hc : L.length ≤ c) (hL : 2 * L.length + 8 < 3518437208883) :
    Calls Try.prog 57 #[.slice A L.length c, ev e] w fun o w' => ∃ (A' : Option Addr) (c' : Nat) (l' : List S82) (i' : Int), o = .returned (.tuple #[.slice A' l'.length c', .int .i64 i']) ∧ mvL L e = (l', i') ∧ Kd.C k82 w' A' l'.length l' ∧ l'.length ≤ c' ∧ Below w.heap.size w w' := by
  by_cases hck : checkI e = 0
  · exact rmove_walk A c L e w hC hc hL hck
  · refine (rmove_bad A c L.length e w hck).mono ?_
    rintro o w' ⟨rfl, hb⟩
    exact ⟨A, c, L, checkI e, rfl, by unfold mvL; rw [if_pos hck], Kd.C_below hC hb, hc, hb⟩
end Go.Proofs.Ytoknlpecbdlbfaa.PL

/- The document's Post, walked. -/
namespace Go.Proofs.Ytoknlpecbdlbfaa.PL
open Go Go.RowKit Go.Maps Go.Sort Go.Shelf Go.Proofs Go.Proofs.YtoknlpecbdlbfaaW.PrintWords Go.Proofs.YtoknlpecbdlbfaaW.PrintLast
/-- The document's entry as the program's. -/
def toE (e : S47) : S107 := ⟨⟨e.f0.f0, e.f0.f1, e.f0.f2⟩, ⟨e.f1.f0, e.f1.f1, e.f1.f2⟩, e.f2⟩
/-- The document's Post. -/
def pstL (L0 : List S82) : Nat → List S82 → List S107 → List S82 × Int × Int
  | i, out, [] => (out, i, 0)
  | i, out, e :: r => if (mvL out e).2 = 0 then pstL L0 (i + 1) (mvL out e).1 r else (L0, i, (mvL out e).2)
theorem length_mvL (L : List S82) (e : S107) : (mvL L e).1.length ≤ L.length + 2 := by
  unfold mvL
  split
  · simp
  · split
    · simp
    · split
      · simp
      · have h1 := length_setL L e.f0.f0 e.f0.f1 e.f0.f2 (wrap64 (getL L e.f0.f0 e.f0.f1 e.f0.f2 - e.f2))
        have h2 := length_setL (setL L e.f0.f0 e.f0.f1 e.f0.f2 (wrap64 (getL L e.f0.f0 e.f0.f1 e.f0.f2 - e.f2))) e.f1.f0 e.f1.f1 e.f1.f2 (wrap64 (getL (setL L e.f0.f0 e.f0.f1 e.f0.f2 (wrap64 (getL L e.f0.f0 e.f0.f1 e.f0.f2 - e.f2))) e.f1.f0 e.f1.f1 e.f1.f2 + e.f2))
        simp only
        omega
set_option maxRecDepth 100000 in
set_option maxHeartbeats 2000000 in
theorem rpost_walk (A B : Option Addr) (c d : Nat) (L : List S82) (xs : List S47) (w : World) (hC : Kd.C k82 w A L.length L) (hc : L.length ≤ c) (hX : Kd.C k47 w B xs.length xs) (hx : xs.length ≤ 4096) (hL : L.length ≤ 1000000) (R : List S82 × Int × Int) (hR : pstL L 0 L (xs.map toE) = R) :
    Calls Try.prog 18 #[.slice A L.length c, .slice B xs.length d] w fun o w' => ∃ (A' : Option Addr) (c' : Nat), o = .returned (.tuple #[.slice A' R.1.length c', .int .i64 R.2.1, .int .i64 R.2.2]) ∧ Kd.C k82 w' A' R.1.length R.1 ∧ R.1.length ≤ c' ∧ Below w.heap.size w w' := by
  have hn' : ((xs.length : Int) > 4096) = False := eq_false (by omega)
  have H0 := Lib.hid (And.intro hC (And.intro hc (And.intro hX (And.intro hx (And.intro hL hR)))))
  clear hC hc hX hx hL hR
  go_enter Try.func18, Try.ntmps18
  go_wp2
  go_loopg [7, 8, 9, 10] (xs.length + 1) (fun kq v7 v8 v9 v10 w' => ∃ (k : Nat) (out : List S82) (A1 : Option Addr) (c1 : Nat), v7 = .slice A1 out.length c1 ∧ v8 = .int .i64 k ∧ Hid (kq + k = xs.length + 1 ∧ k ≤ xs.length ∧ pstL L k out ((xs.drop k).map toE) = R ∧ Kd.C k82 w' A1 out.length out ∧ out.length ≤ c1 ∧ Below w.heap.size w w' ∧ out.length ≤ L.length + 2 * k))
  case atStart =>
    obtain ⟨h1, h2, h3, h4, h5, h6⟩ := H0.out
    exact ⟨0, L, A, c, rfl, rfl, ⟨rfl, Nat.zero_le _, h6, h1, h2, Below.refl _ _, Nat.le_refl _⟩⟩
  case round =>
    obtain ⟨k, out, A1, c1, rfl, rfl, HI⟩ := hrel
    by_cases hk : k < xs.length
    · have hX : Kd.C k47 wr B xs.length xs := Kd.C_below H0.out.2.2.1 HI.out.2.2.2.2.2.1
      obtain ⟨ad, eA, x0, x1, x2, x3, x4, x5, x6⟩ := at_T47 hX (k : Int) (by omega) (by omega)
      simp only [Int.toNat_natCast] at x0 x1 x2 x3 x4 x5 x6
      obtain ⟨⟨⟨a0, a1, a2⟩, ⟨b0, b1, b2⟩, n⟩, ha⟩ : ∃ a, rd_T47 xs (k : Int) = a := ⟨_, rfl⟩
      rw [ha] at x0 x1 x2 x3 x4 x5 x6
      subst eA
      have e2 : xs[k] = ⟨⟨a0, a1, a2⟩, ⟨b0, b1, b2⟩, n⟩ := by
        unfold rd_T47 at ha
        simpa [List.getD, hk] using ha
      have e1 : (xs.drop k).map toE = ⟨⟨a0, a1, a2⟩, ⟨b0, b1, b2⟩, n⟩ :: (xs.drop (k + 1)).map toE := by
        rw [List.drop_eq_getElem_cons hk, List.map_cons, e2]
        rfl
      have hl64 : wrap64 ((k : Int) + 1) = ((k + 1 : Nat) : Int) := by
        have h3 := H0.out.2.2.2.1
        rw [wrap_id (by omega) (by omega)]; rfl
      have hM := rmove_any A1 c1 out ⟨⟨a0, a1, a2⟩, ⟨b0, b1, b2⟩, n⟩ wr HI.out.2.2.2.1 HI.out.2.2.2.2.1 (by have h3 := H0.out.2.2.2.1; have h4 := H0.out.2.2.2.2.1; have h5 := HI.out.2.2.2.2.2.2; omega)
      simp only [ev] at hM
      have HM := Lib.hid hM
      have hlen := length_mvL out ⟨⟨a0, a1, a2⟩, ⟨b0, b1, b2⟩, n⟩
      obtain ⟨f, l1, hf⟩ : ∃ f l1, mvL out ⟨⟨a0, a1, a2⟩, ⟨b0, b1, b2⟩, n⟩ = (l1, f) := ⟨_, _, rfl⟩
      rw [hf] at hlen
      have HK := Lib.hid (And.intro hk (And.intro e1 (And.intro hl64 (And.intro hf hlen))))
      have p1 : (0 ≤ (k : Int)) = True := eq_true (by omega)
      have q1 : ((k : Int) < (xs.length : Int)) = True := eq_true (by omega)
      have HMM := Lib.hid (show Calls Try.prog 57 #[.slice A1 out.length c1, .agg #[.int .i64 a0, .int .i64 a1, .string a2, .int .i64 b0, .int .i64 b1, .string b2, .int .i64 n]] wr fun o w' => ∃ (A' : Option Addr) (c' : Nat), o = .returned (.tuple #[.slice A' l1.length c', .int .i64 f]) ∧ Hid (Kd.C k82 w' A' l1.length l1 ∧ l1.length ≤ c' ∧ Below wr.heap.size wr w') from by
        refine HM.out.mono ?_
        rintro o w' ⟨A', c', l', i', he, hm, h1, h2, h3⟩
        rw [hf] at hm
        injection hm with h5 h6
        subst h5
        subst h6
        exact ⟨A', c', he, ⟨h1, h2, h3⟩⟩)
      clear hX ha e2 e1 hl64 hM HM hf hlen
      by_cases f0 : f = 0
      · have f1 : (f != 0) = false := by simp [f0]
        have F0 := Lib.hid f0
        clear f0
        go_wp2_with (go_at_call 57; refine HMM.out.mono ?_; rintro o w2 ⟨A2, c2, rfl, H2⟩)
        go_roundg (xs.length - k)
        case measure => have := HI.out.1; have := HK.out.1; omega
        case rel =>
          obtain ⟨h1, h2, h3, h4, h5, h6, h7⟩ := HI.out
          obtain ⟨g1, g2, g3, g4, g5⟩ := HK.out
          refine ⟨k + 1, l1, A2, c2, rfl, by rw [g3], ⟨by omega, by omega, ?_, H2.out.1, H2.out.2.1, h6.trans (H2.out.2.2.mono h6.size), by omega⟩⟩
          rw [g2] at h3
          unfold pstL at h3
          rw [g4, F0.out, if_pos rfl] at h3
          exact h3
      · have f1 : (f != 0) = true := by simp [f0]
        have F0 := Lib.hid f0
        clear f0
        go_wp2_with (go_at_call 57; refine HMM.out.mono ?_; rintro o w2 ⟨A2, c2, rfl, H2⟩)
        go_ret3
        obtain ⟨h1, h2, h3, h4, h5, h6, h7⟩ := HI.out
        obtain ⟨g1, g2, g3, g4, g5⟩ := HK.out
        rw [g2] at h3
        unfold pstL at h3
        rw [g4, if_neg F0.out] at h3
        subst h3
        have hb := h6.trans (H2.out.2.2.mono h6.size)
        exact ⟨A, c, rfl, Kd.C_below H0.out.1 hb, H0.out.2.1, hb⟩
    · have hk' : (k < xs.length) = False := eq_false hk
      have HK := Lib.hid hk
      clear hk
      go_wp2
      go_ret3
      obtain ⟨h1, h2, h3, h4, h5, h6, h7⟩ := HI.out
      have e0 : xs.drop k = [] := List.drop_eq_nil_of_le (by have := HK.out; omega)
      have e1 : k = xs.length := by have := HK.out; omega
      rw [e0] at h3
      unfold pstL at h3
      simp only [List.map_nil] at h3
      subst h3
      exact ⟨A1, c1, by rw [e1]; rfl, h4, h5, h6⟩
end Go.Proofs.Ytoknlpecbdlbfaa.PL

/- The plain law: the program's map and the document's list have the same. -/
namespace Go.Proofs.Ytoknlpecbdlbfaa.PL
open Go Go.RowKit Go.Maps Go.Sort Go.Shelf Go.Proofs Go.Proofs.YtoknlpecbdlbfaaW.PrintWords Go.Proofs.YtoknlpecbdlbfaaW.PrintLast
def to42 (a : S45) : S42 := ⟨a.f0, a.f1, a.f2⟩
theorem eqA_iff (b : S45) (a : S42) : eqA b a.f0 a.f1 a.f2 = true ↔ to42 b = a := by
  unfold eqA to42
  obtain ⟨a0, a1, a2⟩ := a
  simp only [Bool.and_eq_true, beq_iff_eq, S42.mk.injEq]
  constructor
  · rintro ⟨h0, h1, h2⟩
    exact ⟨h0, h1, bytes_ext h2⟩
  · rintro ⟨h0, h1, h2⟩
    exact ⟨h0, h1, by rw [h2]⟩
theorem ahead_iff (a : S42) (b : S45) : aheadB a.f0 a.f1 a.f2 b = true ↔ Bef a (to42 b) := by
  unfold aheadB Bef to42
  simp only
  by_cases h : a.f2.toList = b.f2.toList
  · rw [if_pos h]
    have hn : ¬ a.f2.toList < b.f2.toList := by rw [h]; exact ll_irrefl _
    by_cases h0 : a.f0 = b.f0
    · rw [if_pos h0, decide_eq_true_iff]
      constructor
      · intro h1; exact .inr ⟨h, .inr ⟨h0, h1⟩⟩
      · rintro (h1 | ⟨_, h1 | ⟨_, h1⟩⟩)
        · exact absurd h1 hn
        · omega
        · exact h1
    · rw [if_neg h0, decide_eq_true_iff]
      constructor
      · intro h1; exact .inr ⟨h, .inl h1⟩
      · rintro (h1 | ⟨_, h1 | ⟨h1, _⟩⟩)
        · exact absurd h1 hn
        · exact h1
        · exact absurd h1 h0
  · rw [if_neg h, bytesLess_eq, decide_eq_true_iff]
    constructor
    · intro h1; exact .inl h1
    · rintro (h1 | ⟨h1, _⟩)
      · exact h1
      · exact absurd h1 h
def gL (L : List S82) (a : S42) : Int := getL L a.f0 a.f1 a.f2
def sL (L : List S82) (a : S42) (n : Int) : List S82 := setL L a.f0 a.f1 a.f2 n
theorem gL_nil (a : S42) : gL [] a = 0 := rfl
theorem gL_cons (b : S82) (r : List S82) (a : S42) : gL (b :: r) a = if to42 b.f0 = a then b.f1 else gL r a := by
  unfold gL
  simp only [getL]
  by_cases h : to42 b.f0 = a
  · rw [if_pos h, if_pos ((eqA_iff _ _).2 h)]
  · rw [if_neg h, if_neg (fun h1 => h ((eqA_iff _ _).1 h1))]
theorem gL_setG (a : S42) (n : Int) (c : S42) : ∀ (L : List S82) (d : Bool), gL (setG a.f0 a.f1 a.f2 n L d) c = if c = a then (if d = true then 0 else n) else gL L c
  | [], true => by
    unfold setG
    rw [gL_nil]
    simp
  | [], false => by
    unfold setG
    rw [gL_cons, gL_nil]
    show (if a = c then n else 0) = _
    by_cases h : c = a
    · rw [if_pos h, if_pos h.symm]; simp
    · rw [if_neg h, if_neg (fun h1 => h h1.symm)]
  | b :: r, d => by
    unfold setG
    by_cases e : to42 b.f0 = a
    · rw [if_pos ((eqA_iff _ _).2 e), gL_setG a n c r d, gL_cons]
      by_cases h : c = a
      · rw [if_pos h, if_pos h]
      · rw [if_neg h, if_neg h, if_neg (fun h1 => h (h1.symm.trans e))]
    · rw [if_neg (fun h1 => e ((eqA_iff _ _).1 h1))]
      have hc : ∀ d', gL (b :: setG a.f0 a.f1 a.f2 n r d') c = if c = a then (if d' = true then 0 else n) else gL (b :: r) c := fun d' => by
        rw [gL_cons, gL_setG a n c r d', gL_cons]
        by_cases h : c = a
        · rw [if_pos h, if_pos h, if_neg (fun h1 => e (h1.trans h))]
        · rw [if_neg h, if_neg h]
      by_cases hd : d = true
      · rw [if_pos hd, hc true, hd]
      · rw [if_neg hd]
        have hd' : d = false := by simpa using hd
        by_cases ha : aheadB a.f0 a.f1 a.f2 b.f0 = true
        · rw [if_pos ha, gL_cons, hc true, hd']
          show (if a = c then n else _) = _
          by_cases h : c = a
          · rw [if_pos h.symm, if_pos h]; simp
          · rw [if_neg (fun h1 => h h1.symm), if_neg h, if_neg h]
        · rw [if_neg ha, hc false, hd']
theorem gL_sL (L : List S82) (a c : S42) (n : Int) : gL (sL L a n) c = if c = a then n else gL L c := by
  unfold sL setL
  rw [gL_setG]
  by_cases h : n = 0
  · subst h; simp
  · have : (n == 0) = false := by simp [h]
    rw [this]; simp
theorem mem_setG (a : S42) (n : Int) (x : S82) : ∀ (L : List S82) (d : Bool), x ∈ setG a.f0 a.f1 a.f2 n L d → x ∈ L ∨ (d = false ∧ x = ⟨⟨a.f0, a.f1, a.f2⟩, n⟩)
  | [], true, h => by simp [setG] at h
  | [], false, h => by
    simp [setG] at h
    exact .inr ⟨rfl, h⟩
  | b :: r, d, h => by
    unfold setG at h
    split at h
    · rcases mem_setG a n x r d h with h1 | h1
      · exact .inl (List.mem_cons_of_mem _ h1)
      · exact .inr h1
    · split at h
      · rename_i hd
        rcases List.mem_cons.1 h with rfl | h
        · exact .inl List.mem_cons_self
        · rcases mem_setG a n x r true h with h1 | h1
          · exact .inl (List.mem_cons_of_mem _ h1)
          · exact absurd h1.1 (by simp)
      · rename_i hd
        have hd' : d = false := by simpa using hd
        split at h
        · rcases List.mem_cons.1 h with rfl | h
          · exact .inr ⟨hd', rfl⟩
          · rcases List.mem_cons.1 h with rfl | h
            · exact .inl List.mem_cons_self
            · rcases mem_setG a n x r true h with h1 | h1
              · exact .inl (List.mem_cons_of_mem _ h1)
              · exact absurd h1.1 (by simp)
        · rcases List.mem_cons.1 h with rfl | h
          · exact .inl List.mem_cons_self
          · rcases mem_setG a n x r false h with h1 | h1
            · exact .inl (List.mem_cons_of_mem _ h1)
            · exact .inr ⟨hd', h1.2⟩
/-- Strictly rising balances. -/
def Up (L : List S82) : Prop := L.Pairwise (fun x y => Bef (to42 x.f0) (to42 y.f0))
theorem up_setG (a : S42) (n : Int) : ∀ (L : List S82) (d : Bool), Up L → Up (setG a.f0 a.f1 a.f2 n L d)
  | [], true, _ => List.Pairwise.nil
  | [], false, _ => by simp [setG, Up]
  | b :: r, d, h => by
    have h1 := (List.pairwise_cons.1 h).1
    have h2 : Up r := (List.pairwise_cons.1 h).2
    unfold setG
    by_cases e : to42 b.f0 = a
    · rw [if_pos ((eqA_iff _ _).2 e)]
      exact up_setG a n r d h2
    · rw [if_neg (fun h1 => e ((eqA_iff _ _).1 h1))]
      have ht : Up (b :: setG a.f0 a.f1 a.f2 n r true) := List.pairwise_cons.2 ⟨fun x hx => by
        rcases mem_setG a n x r true hx with h3 | h3
        · exact h1 x h3
        · exact absurd h3.1 (by simp), up_setG a n r true h2⟩
      by_cases hd : d = true
      · rw [if_pos hd]; exact ht
      · rw [if_neg hd]
        by_cases ha : aheadB a.f0 a.f1 a.f2 b.f0 = true
        · rw [if_pos ha]
          have hb : Bef a (to42 b.f0) := (ahead_iff _ _).1 ha
          refine List.pairwise_cons.2 ⟨fun x hx => ?_, ht⟩
          show Bef a (to42 x.f0)
          rcases List.mem_cons.1 hx with rfl | hx
          · exact hb
          · rcases mem_setG a n x r true hx with h3 | h3
            · exact hb.trans (h1 x h3)
            · exact absurd h3.1 (by simp)
        · rw [if_neg ha]
          refine List.pairwise_cons.2 ⟨fun x hx => ?_, up_setG a n r false h2⟩
          rcases mem_setG a n x r false hx with h3 | h3
          · exact h1 x h3
          · rw [h3.2]
            show Bef (to42 b.f0) a
            rcases Bef.tri a (to42 b.f0) with h4 | h4 | h4
            · exact absurd ((ahead_iff _ _).2 h4) ha
            · exact absurd h4.symm e
            · exact h4
theorem up_sL {L : List S82} (h : Up L) (a : S42) (n : Int) : Up (sL L a n) := up_setG a n L _ h
theorem nz_sL {L : List S82} (h : ∀ x ∈ L, x.f1 ≠ 0) (a : S42) (n : Int) : ∀ x ∈ sL L a n, x.f1 ≠ 0 := by
  intro x hx
  rcases mem_setG a n x L _ hx with h1 | ⟨h1, h2⟩
  · exact h x h1
  · rw [h2]
    simpa using h1
end Go.Proofs.Ytoknlpecbdlbfaa.PL

/- The plain law: Move and Post do the same to the map and to the list. -/
namespace Go.Proofs.Ytoknlpecbdlbfaa.PL
open Go Go.RowKit Go.Maps Go.Sort Go.Shelf Go.Proofs Go.Proofs.YtoknlpecbdlbfaaW.PrintWords Go.Proofs.YtoknlpecbdlbfaaW.PrintLast
/-- A map's list of entries is one: no key twice, nothing with 0. -/
structure OkM (M : List (S42 × Int)) : Prop where
  nd : (M.map Prod.fst).Nodup
  nz : ∀ p ∈ M, p.2 ≠ 0
theorem keys_setM (M : List (S42 × Int)) (a : S42) (n : Int) : (setM M a n).map Prod.fst = if a ∈ M.map Prod.fst then M.map Prod.fst else M.map Prod.fst ++ [a] := by
  unfold setM
  by_cases h : a ∈ M.map Prod.fst
  · rw [if_pos h, if_pos h, List.map_map]
    refine List.map_congr_left (fun p _ => ?_)
    simp only [Function.comp]
    by_cases e : p.1 = a
    · rw [if_pos e]; exact e.symm
    · rw [if_neg e]
  · rw [if_neg h, if_neg h, List.map_append]; rfl
theorem OkM.put {M : List (S42 × Int)} (h : OkM M) (a : S42) (n : Int) : OkM (putM M a n) := by
  unfold putM
  by_cases hn : n = 0
  · rw [if_pos hn]
    unfold delM
    refine ⟨?_, fun p hp => h.nz p (List.mem_filter.1 hp).1⟩
    exact (List.Sublist.map Prod.fst List.filter_sublist).nodup h.nd
  · rw [if_neg hn]
    refine ⟨?_, ?_⟩
    · rw [keys_setM]
      split
      · exact h.nd
      · rename_i hm
        refine List.nodup_append.2 ⟨h.nd, by simp, fun x hx y hy e => ?_⟩
        simp at hy
        subst hy
        subst e
        exact hm hx
    · intro p hp
      unfold setM at hp
      split at hp
      · obtain ⟨q, hq, rfl⟩ := List.mem_map.1 hp
        split
        · exact hn
        · exact h.nz q hq
      · rcases List.mem_append.1 hp with hp | hp
        · exact h.nz p hp
        · simp at hp
          rw [hp]
          exact hn
theorem OkM.nil : OkM [] := ⟨List.nodup_nil, fun p hp => absurd hp (by simp)⟩
theorem OkM.mem_iff {M : List (S42 × Int)} (h : OkM M) (a : S42) : a ∈ M.map Prod.fst ↔ getM M a ≠ 0 := by
  constructor
  · intro ha
    exact h.nz _ (getM_mem ha)
  · intro ha
    refine Classical.byContradiction fun hn => ha (getM_none hn)
/-- The map and the list have the same. -/
structure Rep (M : List (S42 × Int)) (L : List S82) : Prop where
  ok : OkM M
  up : Up L
  nz : ∀ x ∈ L, x.f1 ≠ 0
  same : ∀ a, getM M a = gL L a
theorem Rep.nil : Rep [] [] := ⟨OkM.nil, List.Pairwise.nil, fun x hx => absurd hx (by simp), fun _ => rfl⟩
theorem Rep.put {M : List (S42 × Int)} {L : List S82} (h : Rep M L) (a : S42) (n : Int) : Rep (putM M a n) (sL L a n) :=
  ⟨h.ok.put a n, up_sL h.up a n, nz_sL h.nz a n, fun c => by rw [getM_putM, gL_sL, h.same]⟩
theorem Rep.of {M M' : List (S42 × Int)} {L : List S82} (h : Rep M L) (hk : OkM M') (hs : ∀ a, getM M' a = getM M a) : Rep M' L :=
  ⟨hk, h.up, h.nz, fun a => (hs a).trans (h.same a)⟩
theorem OkM.move {M : List (S42 × Int)} (h : OkM M) (e : S107) : OkM (moveM M e).1 := by
  unfold moveM
  split
  · exact h
  · split
    · exact h
    · split
      · exact h
      · split
        · exact (h.put _ _).put _ _
        · exact (h.put _ _).put _ _
theorem mvL_good {L : List S82} {e : S107} (hck : checkI e = 0) : mvL L e = (if wrap64 (getL L e.f0.f0 e.f0.f1 e.f0.f2 - e.f2) < 0 ∧ 0 < e.f0.f0 then (L, 20)
  else if wrap64 (getL L e.f0.f0 e.f0.f1 e.f0.f2 - e.f2) < -72057594037927936 ∨ 72057594037927936 < wrap64 (getL (setL L e.f0.f0 e.f0.f1 e.f0.f2 (wrap64 (getL L e.f0.f0 e.f0.f1 e.f0.f2 - e.f2))) e.f1.f0 e.f1.f1 e.f1.f2 + e.f2) then (L, 9)
  else (setL (setL L e.f0.f0 e.f0.f1 e.f0.f2 (wrap64 (getL L e.f0.f0 e.f0.f1 e.f0.f2 - e.f2))) e.f1.f0 e.f1.f1 e.f1.f2 (wrap64 (getL (setL L e.f0.f0 e.f0.f1 e.f0.f2 (wrap64 (getL L e.f0.f0 e.f0.f1 e.f0.f2 - e.f2))) e.f1.f0 e.f1.f1 e.f1.f2 + e.f2)), 0)) := by
  unfold mvL
  rw [if_neg (fun q => q hck)]
/-- Move does the same. -/
theorem rep_move {M : List (S42 × Int)} {L : List S82} (h : Rep M L) (hB : BM M) (e : S107) : (moveM M e).2 = (mvL L e).2 ∧ Rep (moveM M e).1 (mvL L e).1 := by
  by_cases hck : checkI e = 0
  · obtain ⟨hn1, hn2, hg0, hg1, hth⟩ := check_good hck
    have g0 := good_wf hg0
    have hv := hB e.f0
    have hs : getL L e.f0.f0 e.f0.f1 e.f0.f2 = getM M e.f0 := (h.same e.f0).symm
    rw [mvL_good hck, hs, wrap_id (x := getM M e.f0 - e.f2) (by omega) (by omega)]
    by_cases c1 : getM M e.f0 - e.f2 < 0 ∧ 0 < e.f0.f0
    · rw [if_pos c1, moveM_20 hck (by omega) c1.1]
      exact ⟨rfl, h⟩
    · have c1' : ¬ (e.f0.f0 ≠ 0 ∧ getM M e.f0 - e.f2 < 0) := fun q => c1 ⟨q.2, by omega⟩
      rw [if_neg c1]
      by_cases c2 : getM M e.f0 - e.f2 < -72057594037927936
      · rw [if_pos (.inl c2), moveM_9 hck c1' c2]
        exact ⟨rfl, h⟩
      · have h1 := h.put e.f0 (getM M e.f0 - e.f2)
        have hB1 : BM (putM M e.f0 (getM M e.f0 - e.f2)) := hB.put _ (by omega) (by omega)
        have ht := hB1 e.f1
        have hs1 : getL (setL L e.f0.f0 e.f0.f1 e.f0.f2 (getM M e.f0 - e.f2)) e.f1.f0 e.f1.f1 e.f1.f2 = getM (putM M e.f0 (getM M e.f0 - e.f2)) e.f1 := (h1.same e.f1).symm
        rw [hs1, wrap_id (x := getM (putM M e.f0 (getM M e.f0 - e.f2)) e.f1 + e.f2) (by omega) (by omega)]
        by_cases c3 : 72057594037927936 < getM (putM M e.f0 (getM M e.f0 - e.f2)) e.f1 + e.f2
        · rw [if_pos (.inr c3), moveM_9b hck c1' c2 c3]
          refine ⟨rfl, h.of ((h.ok.put _ _).put _ _) (fun a => ?_)⟩
          rw [getM_putM]
          split
          · rename_i e1; rw [e1]; omega
          · rename_i e1; rw [getM_putM, if_neg e1]
        · rw [if_neg (fun q => q.elim c2 c3), moveM_0 hck c1' c2 c3]
          exact ⟨rfl, h1.put _ _⟩
  · have e1 : moveM M e = (M, checkI e) := by unfold moveM; rw [if_pos hck]
    have e2 : mvL L e = (L, checkI e) := by unfold mvL; rw [if_pos hck]
    rw [e1, e2]
    exact ⟨rfl, h⟩
/-- What a move that was done did. -/
theorem move_ok {M : List (S42 × Int)} {e : S107} (h : (moveM M e).2 = 0) : (moveM M e).1 = putM (putM M e.f0 (getM M e.f0 - e.f2)) e.f1 (getM (putM M e.f0 (getM M e.f0 - e.f2)) e.f1 + e.f2) := by
  have hck := moveM_ok h
  unfold moveM at h ⊢
  rw [if_neg (fun q => q hck)] at h ⊢
  split at h
  · simp at h
  · rename_i c1
    rw [if_neg c1]
    split at h
    · simp at h
    · rename_i c2
      rw [if_neg c2]
      split at h
      · simp at h
      · rename_i c3
        rw [if_neg c3]
/-- One step of the way back. -/
theorem undo_step {M M' : List (S42 × Int)} {e : S107} (hB : BM M) (hok : (moveM M e).2 = 0) (hs : ∀ a, getM M' a = getM (moveM M e).1 a) :
    ∀ a, getM (putM (putM M' e.f1 (wrap64 (getM M' e.f1 - e.f2))) e.f0 (wrap64 (getM (putM M' e.f1 (wrap64 (getM M' e.f1 - e.f2))) e.f0 + e.f2))) a = getM M a := by
  have hck := moveM_ok hok
  obtain ⟨hn1, hn2, _⟩ := check_good hck
  have hm := move_ok hok
  have hv := hB e.f0
  have ht := hB e.f1
  have hg : ∀ a, getM M' a = if a = e.f1 then getM (putM M e.f0 (getM M e.f0 - e.f2)) e.f1 + e.f2 else if a = e.f0 then getM M e.f0 - e.f2 else getM M a := fun a => by
    rw [hs, hm, getM_putM]
    by_cases q : a = e.f1
    · rw [if_pos q, if_pos q]
    · rw [if_neg q, if_neg q, getM_putM]
  have h1 : getM (putM M e.f0 (getM M e.f0 - e.f2)) e.f1 = if e.f1 = e.f0 then getM M e.f0 - e.f2 else getM M e.f1 := getM_putM _ _ _ _
  have h2 : getM M' e.f1 = getM (putM M e.f0 (getM M e.f0 - e.f2)) e.f1 + e.f2 := by rw [hg, if_pos rfl]
  rw [h2]
  have h3 : wrap64 (getM (putM M e.f0 (getM M e.f0 - e.f2)) e.f1 + e.f2 - e.f2) = getM (putM M e.f0 (getM M e.f0 - e.f2)) e.f1 := by
    rw [show getM (putM M e.f0 (getM M e.f0 - e.f2)) e.f1 + e.f2 - e.f2 = getM (putM M e.f0 (getM M e.f0 - e.f2)) e.f1 by omega]
    rw [h1]
    split
    · exact wrap_id (by omega) (by omega)
    · exact wrap_id (by omega) (by omega)
  rw [h3]
  have h4 : getM (putM M' e.f1 (getM (putM M e.f0 (getM M e.f0 - e.f2)) e.f1)) e.f0 = getM M e.f0 - e.f2 := by
    rw [getM_putM, h1]
    by_cases q : e.f0 = e.f1
    · rw [if_pos q, if_pos q.symm]
    · rw [if_neg q, hg, if_neg q, if_pos rfl]
  rw [h4, wrap_id (x := getM M e.f0 - e.f2 + e.f2) (by omega) (by omega)]
  intro a
  rw [getM_putM]
  by_cases q : a = e.f0
  · rw [if_pos q, q]; omega
  · rw [if_neg q, getM_putM, h1]
    by_cases q1 : a = e.f1
    · rw [if_pos q1, if_neg (fun q2 => q (q1.trans q2)), q1]
    · rw [if_neg q1, hg, if_neg q1, if_neg q]
theorem okM_undo : ∀ (done : List S107) (M : List (S42 × Int)), OkM M → OkM (undoM M done)
  | [], M, h => h
  | e :: r, M, h => by
    unfold undoM
    exact okM_undo r _ ((h.put _ _).put _ _)
/-- Post does the same: what is done, or that nothing is. -/
theorem rep_post {M0 : List (S42 × Int)} {L0 : List S82} (h0 : Rep M0 L0) : ∀ (rest done : List S107) (M : List (S42 × Int)) (L : List S82), Rep M L → BM M → (∀ M', OkM M' → (∀ a, getM M' a = getM M a) → ∀ a, getM (undoM M' done) a = getM M0 a) →
    (postL done M rest).2.1 = (pstL L0 done.length L rest).2.1 ∧ (postL done M rest).2.2 = (pstL L0 done.length L rest).2.2 ∧ Rep (postL done M rest).1 (pstL L0 done.length L rest).1 ∧ (BM M0 → BM (postL done M rest).1)
  | [], done, M, L, hr, hB, hu => ⟨rfl, rfl, hr, fun _ => hB⟩
  | e :: r, done, M, L, hr, hB, hu => by
    obtain ⟨h1, h2⟩ := rep_move hr hB e
    unfold postL pstL
    by_cases hf : (moveM M e).2 = 0
    · rw [if_pos hf, if_pos (h1.symm.trans hf)]
      refine rep_post h0 r (e :: done) (moveM M e).1 (mvL L e).1 h2 (hB.move e) (fun M' hk hs a => ?_)
      unfold undoM
      exact hu _ ((hk.put _ _).put _ _) (undo_step hB hf hs) a
    · rw [if_neg hf, if_neg (fun q => hf (h1.trans q))]
      have hs : ∀ a, getM (moveM M e).1 a = getM M a := fun a => by
        by_cases hck : checkI e = 0
        · have hv := hB e.f0
          unfold moveM at hf ⊢
          rw [if_neg (fun q => q hck)] at hf ⊢
          split
          · rfl
          · split
            · rfl
            · split
              · rw [getM_putM, getM_putM]
                split
                · rename_i q; rw [q]; omega
                · rfl
              · rename_i c1 c2 c3
                rw [if_neg c1, if_neg c2, if_neg c3] at hf
                exact absurd rfl hf
        · unfold moveM
          rw [if_pos hck]
      have hu' := hu (moveM M e).1 (hr.ok.move e) hs
      refine ⟨rfl, h1, h0.of (okM_undo done _ (hr.ok.move e)) hu', fun hB0 a => ?_⟩
      rw [hu']
      exact hB0 a
theorem rep_post0 {M : List (S42 × Int)} {L : List S82} (h : Rep M L) (hB : BM M) (l : List S107) :
    (postL [] M l).2.1 = (pstL L 0 L l).2.1 ∧ (postL [] M l).2.2 = (pstL L 0 L l).2.2 ∧ Rep (postL [] M l).1 (pstL L 0 L l).1 ∧ BM (postL [] M l).1 := by
  obtain ⟨h1, h2, h3, h4⟩ := rep_post h l [] M L h hB (fun M' _ hs a => hs a)
  exact ⟨h1, h2, h3, h4 hB⟩
end Go.Proofs.Ytoknlpecbdlbfaa.PL
