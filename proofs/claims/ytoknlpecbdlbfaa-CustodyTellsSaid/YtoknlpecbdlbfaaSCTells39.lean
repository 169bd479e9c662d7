/- CustodyTells holds: whatever acts come in (more than forty acts, or acts of more than forty lines or lots, are let go, as the statement says), every member has in each book what the document's list says, and the same lots, things, and amounts from outside; and the chapter's example holds. No condition on the inputs. -/
import Derived.Test.YtoknlpecbdlbfaaSCTells37
import Derived.Test.YtoknlpecbdlbfaaSCTells38
import Derived.Test.YtoknlpecbdlbfaaSCTells34
import Derived.Test.YtoknlpecbdlbfaaRows
import Derived.WalkKit
import Derived.ProofKit
import Derived.Deep.Slices
import Derived.Test.YtoknlpecbdlbfaaSCTells36
import Derived.OpenShut
import Derived.ShutString
import Derived.ChangeOld
import Derived.Below
import Derived.SizedLaws

-- CustodyTells, walked. (printed by genUG.py)
namespace Go.Proofs.Ytoknlpecbdlbfaa.PL
open Go Go.RowKit Go.Maps Go.Sort Go.Shelf Go.Proofs Go.Proofs.YtoknlpecbdlbfaaW.PrintWords Go.Proofs.YtoknlpecbdlbfaaW.PrintLast
set_option maxRecDepth 100000 in
theorem pall_any (a b c d : Int) (ha : -72057594037927936 ≤ a ∧ a ≤ 72057594037927936) (hb : -72057594037927936 ≤ b ∧ b ≤ 72057594037927936) (hc : -72057594037927936 ≤ c ∧ c ≤ 72057594037927936) (hd : -72057594037927936 ≤ d ∧ d ≤ 72057594037927936) (W : World) :
    Calls Try.prog 48 #[.agg #[.int .i64 a, .int .i64 b, .int .i64 c, .int .i64 d]] W fun e w' => e = .returned (.int .i64 (a + b + c + d)) ∧ Below W.heap.size W w' := by
  obtain ⟨a1, a2⟩ := ha
  obtain ⟨b1, b2⟩ := hb
  obtain ⟨c1, c2⟩ := hc
  obtain ⟨d1, d2⟩ := hd
  go_enter Try.func48, Try.ntmps48
  go_wp2
  go_ret
  exact ⟨rfl, (Below.refl _ _).alloc (Nat.le_refl _) _⟩
theorem cthings_C {w : World} {p g b : Nat} {M : List (S42 × Int)} (h : CU w p g b M) {L : List S82} (hr : Rep M L) (hs : L.length ≤ 1000000) :
    Calls Try.prog 46 #[.pointer (some ⟨p, 0, none⟩)] w fun e w' => ∃ (A : Option Addr) (c : Nat), e = .returned (.slice A (compB (thingsOf L)).length c) ∧ Hid (Kd.C Kd.string w' A (compB (thingsOf L)).length (compB (thingsOf L)) ∧ (compB (thingsOf L)).length ≤ c ∧ Below w.heap.size w w') := by
  refine (cthings_any h hr hs).mono ?_
  rintro e w' ⟨v, rfl, H⟩
  obtain ⟨A, c, rfl, h3, h4⟩ := Kd.R_reads H.out.1
  exact ⟨A, c, rfl, ⟨h4, h3, H.out.2⟩⟩
theorem rthings_C {w : World} {A : Option Addr} {c : Nat} {L : List S82} (hC : Kd.C k82 w A L.length L) (hc : L.length ≤ c) (hL : L.length ≤ 1000000) :
    Calls Try.prog 33 #[.slice A L.length c] w fun e w' => ∃ (A' : Option Addr) (c' : Nat), e = .returned (.slice A' (compB (thingsOf L)).length c') ∧ Hid (Kd.C Kd.string w' A' (compB (thingsOf L)).length (compB (thingsOf L)) ∧ (compB (thingsOf L)).length ≤ c' ∧ Below w.heap.size w w') := by
  refine (lombardref11_Things.calls _ A c L _ w hC hc (things_f L hL)).mono ?_
  rintro e w' ⟨v, rfl, h1, hb⟩
  obtain ⟨A2, c2, rfl, h3, h4⟩ := Kd.R_reads h1
  exact ⟨A2, c2, rfl, ⟨h4, h3, hb⟩⟩
theorem texts_C {w : World} {L : List S82} {A1 A2 : Option Addr} {c1 c2 : Nat} (hL : L.length ≤ 1000000) (h1 : Kd.C Kd.string w A1 (compB (thingsOf L)).length (compB (thingsOf L))) (h2 : (compB (thingsOf L)).length ≤ c1) (h3 : Kd.C Kd.string w A2 (compB (thingsOf L)).length (compB (thingsOf L))) (h4 : (compB (thingsOf L)).length ≤ c2) :
    Calls Try.prog 31 #[.slice A1 (compB (thingsOf L)).length c1, .slice A2 (compB (thingsOf L)).length c2] w fun e w' => e = .returned (.bool true) ∧ Below w.heap.size w w' := by
  have hl : (compB (thingsOf L)).length ≤ 1000000 := Nat.le_trans (compB_length _) (by simpa [thingsOf] using hL)
  exact (lombardref07_Texts.calls _ A1 c1 _ A2 c2 _ true w h1 h2 h3 h4 (texts_f _ hl)).mono (fun _ _ ⟨e, hb⟩ => ⟨e, hb.below⟩)
theorem rheld_C {w : World} {A : Option Addr} {c : Nat} {L : List S82} (hC : Kd.C k82 w A L.length L) (hc : L.length ≤ c) (hL : L.length ≤ 1000000) (o : Int) (t : ByteArray) :
    Calls Try.prog 29 #[.slice A L.length c, .int .i64 o, .string t] w fun e w' => e = .returned (.int .i64 (heldL L o t)) ∧ Below w.heap.size w w' :=
  (lombardref11_Held.calls _ A c L o t _ w hC hc (held_f L (by omega) o t)).mono (fun _ _ ⟨e, hb⟩ => ⟨e, hb.below⟩)
/-- Four cells, of which the first k are set. -/
def a4 (g : Nat → Int) (k : Nat) : Obj := .cells #[.int .i64 (if 0 < k then g 0 else 0), .int .i64 (if 1 < k then g 1 else 0), .int .i64 (if 2 < k then g 2 else 0), .int .i64 (if 3 < k then g 3 else 0)] 96 (0, 0)
theorem set_mod {W : World} {G i : Nat} {u : Value} {cs : Array Value} {t : TypeId} (h : W.heap[G]? = some (.cells cs t (0, 0))) : (W.setCell ⟨G, i, none⟩ u).heap[G]? = some (.cells (cs.setIfInBounds i u) t (0, 0)) := by
  have hlt := lt_of_block h
  have h' : W.heap[G] = .cells cs t (0, 0) := by simpa [Array.getElem?_eq_getElem hlt] using h
  show (W.heap.modify G _)[G]? = _
  rw [Array.getElem?_eq_getElem (by simpa using hlt), Array.getElem_modify_self, h']
  rfl
theorem a4_step {W : World} {G : Nat} {g : Nat → Int} {k : Nat} (hk : k < 4) (h : W.heap[G]? = some (a4 g k)) : (W.setCell ⟨G, k, none⟩ (.int .i64 (g k))).heap[G]? = some (a4 g (k + 1)) := by
  rw [set_mod (i := k) (u := .int .i64 (g k)) h]
  have : k = 0 ∨ k = 1 ∨ k = 2 ∨ k = 3 := by omega
  rcases this with rfl | rfl | rfl | rfl <;> simp [a4]
theorem a4_cell {W : World} {G : Nat} {g : Nat → Int} {k : Nat} (hk : k < 4) (h : W.heap[G]? = some (a4 g k)) : W.cell? ⟨G, k, none⟩ = some (.int .i64 0) ∧ W.frozen? ⟨G, k, none⟩ = false := by
  constructor
  · rw [cellA h k]
    have : k = 0 ∨ k = 1 ∨ k = 2 ∨ k = 3 := by omega
    rcases this with rfl | rfl | rfl | rfl <;> simp
  · simp [World.frozen?, h, a4]
theorem a4_all {W : World} {G : Nat} {g : Nat → Int} (h : W.heap[G]? = some (a4 g 4)) : W.cell? ⟨G, 0, none⟩ = some (.int .i64 (g 0)) ∧ W.cell? ⟨G, 1, none⟩ = some (.int .i64 (g 1)) ∧ W.cell? ⟨G, 2, none⟩ = some (.int .i64 (g 2)) ∧ W.cell? ⟨G, 3, none⟩ = some (.int .i64 (g 3)) := by
  refine ⟨?_, ?_, ?_, ?_⟩
  · rw [cellA h 0]; simp
  · rw [cellA h 1]; simp
  · rw [cellA h 2]; simp
  · rw [cellA h 3]; simp
set_option maxRecDepth 100000 in
set_option maxHeartbeats 8000000 in
theorem tells_walk (A : Option Addr) (c : Nat) (P : List S72) (m bk : Int) (t : ByteArray) (w : World) (hr : Kd.C k72 w A P.length P) (hl : P.length ≤ 9223372036854775807) (hm : (Lit.int .i64 m).wf = true) (ht : t.size ≤ maxLen) :
    Calls Try.prog 12 #[.slice A P.length c, .int .i64 m, .int .i64 bk, .string t] w fun e w' => e = .returned (.bool true) ∧ Below w.heap.size w w' := by
  have HP := Lib.hid (And.intro hr hl)
  have HMT := Lib.hid (And.intro hm ht)
  clear hr hl hm ht
  go_enter Try.func12, Try.ntmps12
  go_upto_block 0 with (go_at_call 34; refine (cnew_any _).mono ?_; rintro e w1 ⟨p, g, b, rfl, H1⟩)
  obtain ⟨W0, hW0⟩ : ∃ W0, w1.alloc (.cells #[.slice none 0 0] 27) = W0 := ⟨_, rfl⟩
  have hst := RW.start (w := w) H1.out.1 H1.out.2.1 H1.out.2.2.1
  obtain ⟨lp, hlp⟩ : ∃ lp, w1.heap.size = lp := ⟨_, rfl⟩
  rw [hW0, hlp] at hst
  rw [hW0, hlp]
  have HST := Lib.hid hst
  clear hst hW0 hlp
  go_cut [] (fun wx => ∃ (k : Nat) (L : List S82) (A1 : Option Addr) (c1 : Nat) (M : List (S42 × Int)), Hid (k ≤ 40 ∧ RW w p g b lp k L A1 c1 M wx))
  case first =>
    go_wp2_with (fail)
    go_loopg [11] (P.length + 1) (fun kq v5 w' => ∃ (k : Nat) (L : List S82) (A1 : Option Addr) (c1 : Nat) (M : List (S42 × Int)), v5 = .int .i64 k ∧ Hid (kq + k = P.length + 1 ∧ k ≤ P.length ∧ k ≤ 40 ∧ RW w p g b lp k L A1 c1 M w'))
    case atStart =>
      exact ⟨0, [], none, 0, [], rfl, ⟨rfl, Nat.zero_le _, Nat.zero_le _, HST.out⟩⟩
    case round =>
      obtain ⟨k, L, A1, c1, M, rfl, HI⟩ := hrel
      by_cases hk : k < P.length ∧ k < 40
      · obtain ⟨hk1, hk2⟩ := hk
        obtain ⟨ad, A6, c6, A7, c7, eA, x0, x1, x2, x3, x4, x5, x6, x7, hg⟩ := at_T72 HP.out.1 (k : Int) (by omega) (by omega)
        simp only [Int.toNat_natCast] at x0 x1 x2 x3 x4 x5 x6 x7
        obtain ⟨x, ha⟩ : ∃ a, rd_T72 P (k : Int) = a := ⟨_, rfl⟩
        rw [ha] at x0 x1 x2 x3 x4 x5 x6 x7 hg
        have HS0 := Lib.hid (show L8 ad k x A6 c6 A7 c7 w from ⟨x0, x1, x2, x3, x4, x5, x6, x7⟩)
        have HG := Lib.hid hg
        have hl64 : wrap64 ((k : Int) + 1) = ((k + 1 : Nat) : Int) := by
          have h3 := HP.out.2
          rw [wrap_id (by omega) (by omega)]; rfl
        have Hw := Lib.hid hl64
        have HK := Lib.hid (And.intro hk1 hk2)
        have p1 : (0 ≤ (k : Int)) = True := eq_true (by omega)
        have q1 : ((k : Int) < (P.length : Int)) = True := eq_true (by omega)
        have q2 : ((k : Int) < 40) = True := eq_true (by omega)
        have hr8 := HS0.out.below HI.out.2.2.2.bl
        clear x0 x1 x2 x3 x4 x5 x6 x7
        obtain ⟨x0, x1, x2, x3, x4, x5, x6, x7⟩ := hr8
        subst eA
        have HSH := Lib.hid (show ∀ W, Below w.heap.size w W → Calls Try.prog 35 #[.agg #[.int .i64 x.f0, .int .i64 x.f1, .int .i64 x.f2, .int .i64 x.f3, .string x.f4, .int .i64 x.f5, .slice A6 x.f6.length c6, .slice A7 x.f7.length c7]] W fun e w' => e = .returned (.bool (shB x)) ∧ Below W.heap.size W w' from fun W hb => lombardlaw12_short.calls x.f0 x.f1 x.f2 x.f3 x.f4 x.f5 A6 c6 x.f6 A7 c7 x.f7 (shB x) W (Kd.C_below HG.out.2.1 hb) HG.out.1 (Kd.C_below HG.out.2.2.2 hb) HG.out.2.2.1 (cshort_f x))
        clear ha hg hl64 hk1 hk2
        obtain ⟨z, hz⟩ : ∃ z, shB x = z := ⟨_, rfl⟩
        rw [hz] at HSH
        have HZ := Lib.hid hz
        clear hz
        cases z with
        | false =>
          go_wp2_with (go_at_call 35; refine (HSH.out _ HI.out.2.2.2.bl).mono ?_; rintro e w3 ⟨rfl, H3⟩; replace H3 := Lib.hid H3)
          go_roundg (P.length - k)
          case measure => have := HI.out.1; have := HK.out; omega
          case rel =>
            exact ⟨k + 1, L, A1, c1, M, by rw [Hw.out], ⟨by have := HI.out.1; have := HK.out; omega, by have := HK.out; omega, by have := HK.out; omega, (HI.out.2.2.2.below H3.out).next⟩⟩
        | true =>
          have HZ2 := Lib.hid (show x.f6.length ≤ 40 ∧ x.f7.length ≤ 40 from of_decide_eq_true HZ.out)
          have HLe := Lib.hid (show L.length ≤ 100000 by have h1 := HI.out.2.2.2.len; have h2 := HK.out; omega)
          go_wp2_with (first
            | (go_at_call 36; refine (does_any (HI.out.2.2.2.below H3.out).dw HLe.out x A6 c6 A7 c7 HG.out.1 (Kd.C_below HG.out.2.1 (HI.out.2.2.2.below H3.out).bl) (Kd.C_below HG.out.2.2.2 (HI.out.2.2.2.below H3.out).bl) HZ2.out.1 HZ2.out.2).mono ?_; rintro e w4 ⟨rfl, H4⟩; obtain ⟨M4, A4, c4, y4, H4⟩ := RW.done (HI.out.2.2.2.below H3.out) x HZ2.out.1 HZ2.out.2 H4)
            | (go_at_call 35; refine (HSH.out _ HI.out.2.2.2.bl).mono ?_; rintro e w3 ⟨rfl, H3⟩; replace H3 := Lib.hid H3; obtain ⟨j0, j1, j2, j3, j4, j5, j6, j7⟩ := HS0.out.below (HI.out.2.2.2.below H3.out).bl))
          go_roundg (P.length - k)
          case measure => have := HI.out.1; have := HK.out; omega
          case rel =>
            exact ⟨k + 1, _, A4, c4, M4, by rw [Hw.out], ⟨by have := HI.out.1; have := HK.out; omega, by have := HK.out; omega, by have := HK.out; omega, H4.out⟩⟩
      · by_cases hk1 : k < P.length
        · have q1 : ((k : Int) < (P.length : Int)) = True := eq_true (by omega)
          have q2 : ((k : Int) < 40) = False := eq_false (by omega)
          clear hk hk1
          go_wp2_with (fail)
          go_meet
          case rel => exact ⟨k, L, A1, c1, M, ⟨HI.out.2.2.1, HI.out.2.2.2⟩⟩
        · have q1 : ((k : Int) < (P.length : Int)) = False := eq_false (by omega)
          clear hk hk1
          go_wp2_with (fail)
          go_meet
          case rel => exact ⟨k, L, A1, c1, M, ⟨HI.out.2.2.1, HI.out.2.2.2⟩⟩
  case rest =>
    obtain ⟨k, L, A1, c1, M, HI⟩ := hcut
    have HLL := Lib.hid (show L.length ≤ 1000000 by have := HI.out.2.len; have := HI.out.1; omega)
    go_wp2_with (fail)
    obtain ⟨G, hG⟩ : ∃ G, wc.heap.size = G := ⟨_, rfl⟩
    obtain ⟨q, hg⟩ : ∃ q : Nat → Int, q = fun j : Nat => getL L m ((j : Int) + 1) t := ⟨_, rfl⟩
    obtain ⟨W1, hW1⟩ : ∃ W1, wc.alloc (.cells #[.int .i64 0, .int .i64 0, .int .i64 0, .int .i64 0] 96) = W1 := ⟨_, rfl⟩
    have hst : Below wc.heap.size wc W1 ∧ W1.heap[G]? = some (a4 q 0) := by
      rw [← hW1, ← hG]
      exact ⟨(Below.refl _ _).alloc (Nat.le_refl _) _, (Go.MapKept.heap_alloc wc _).1⟩
    rw [hW1, hG]
    have HST2 := Lib.hid hst
    have HGG := Lib.hid hG
    have Hg := Lib.hid hg
    clear hst hW1 hG hg
    go_loopg [13] 5 (fun kq v13 w' => ∃ j : Nat, v13 = .int .i64 j ∧ Hid (kq + j = 5 ∧ j ≤ 4 ∧ Below wc.heap.size wc w' ∧ w'.heap[G]? = some (a4 q j)))
    case atStart =>
      exact ⟨0, rfl, ⟨rfl, Nat.zero_le _, HST2.out.1, HST2.out.2⟩⟩
    case round =>
      obtain ⟨j, rfl, HJ⟩ := hrel
      have hdw := HI.out.2.dw.below HJ.out.2.2.1
      by_cases hj : j < 4
      · have y0 : wr.cell? ⟨lp, 0, none⟩ = some (.slice A1 L.length c1) := cell_of_one hdw.blk
        obtain ⟨yG, fG⟩ := a4_cell hj HJ.out.2.2.2
        have HGET := Lib.hid (show Calls Try.prog 27 #[.slice A1 L.length c1, .agg #[.int .i64 m, .int .i64 ((j : Int) + 1), .string t]] wr fun e w' => e = .returned (.int .i64 (q j)) ∧ (w'.cell? ⟨G, j, none⟩ = some (.int .i64 0) ∧ w'.frozen? ⟨G, j, none⟩ = false) ∧ Hid (Below wr.heap.size wr w' ∧ w'.heap[G]? = some (a4 q j)) from by
          have := get_any (L := L) (by have := HLL.out; omega) hdw.hC hdw.hc ⟨m, (j : Int) + 1, t⟩
          refine this.mono ?_
          rintro e w' ⟨he, hb⟩
          have h4 : w'.heap[G]? = some (a4 q j) := (hb.block _ (Array.getElem?_eq_some_iff.1 HJ.out.2.2.2).1).trans HJ.out.2.2.2
          rw [Hg.out]
          exact ⟨he, a4_cell hj (Hg.out ▸ h4), ⟨hb, Hg.out ▸ h4⟩⟩)
        have q4 : ((j : Int) < 4) = True := eq_true (by omega)
        have hl64 : wrap64 ((j : Int) + 1) = (j : Int) + 1 := wrap_id (by omega) (by omega)
        have p1 : (0 ≤ (j : Int)) = True := eq_true (by omega)
        have HJ2 := Lib.hid hj
        have j4 : j ≤ 4 := by omega
        clear hdw hj yG fG
        go_wp2_with (go_at_call 27; refine HGET.out.mono ?_; rintro e w3 ⟨rfl, ⟨y3, f3⟩, H3⟩)
        go_roundg (4 - j)
        case measure => have := HJ.out.1; have := HJ2.out; omega
        case rel =>
          refine ⟨j + 1, by go_num, ⟨by have := HJ.out.1; have := HJ2.out; omega, by have := HJ2.out; omega, ?_, a4_step HJ2.out H3.out.2⟩⟩
          have hb3 := HJ.out.2.2.1.trans (H3.out.1.mono HJ.out.2.2.1.size)
          exact hb3.setCell (by rw [HGG.out]; exact Nat.le_refl _) _
      · have q4 : ((j : Int) < 4) = False := eq_false (by omega)
        obtain rfl : j = 4 := by have := HJ.out.2.1; omega
        have hbm := hdw.iv.st.bm
        have hsm := hdw.iv.st.rep.same
        have hhw := held_world hdw.iv t
        have hq : ∀ i : Nat, getM M ⟨m, (i : Int) + 1, t⟩ = q i := fun i => by rw [hsm, Hg.out]; rfl
        have hpos := pos_any hdw.cu m t HMT.out.1 HMT.out.2
        rw [show getM M ⟨m, 1, t⟩ = q 0 from hq 0, show getM M ⟨m, 2, t⟩ = q 1 from hq 1, show getM M ⟨m, 3, t⟩ = q 2 from hq 2, show getM M ⟨m, 4, t⟩ = q 3 from hq 3] at hpos
        have b0 := hbm ⟨m, ((0 : Nat) : Int) + 1, t⟩
        have b1 := hbm ⟨m, ((1 : Nat) : Int) + 1, t⟩
        have b2 := hbm ⟨m, ((2 : Nat) : Int) + 1, t⟩
        have b3 := hbm ⟨m, ((3 : Nat) : Int) + 1, t⟩
        rw [hq 0] at b0
        rw [hq 1] at b1
        rw [hq 2] at b2
        rw [hq 3] at b3
        have bh := hbm ⟨0, 0, t⟩
        rw [← hhw] at bh
        have harr := a4_all HJ.out.2.2.2
        have hblk := HJ.out.2.2.2
        obtain ⟨v0, hv0⟩ : ∃ v, q 0 = v := ⟨_, rfl⟩
        obtain ⟨v1, hv1⟩ : ∃ v, q 1 = v := ⟨_, rfl⟩
        obtain ⟨v2, hv2⟩ : ∃ v, q 2 = v := ⟨_, rfl⟩
        obtain ⟨v3, hv3⟩ : ∃ v, q 3 = v := ⟨_, rfl⟩
        obtain ⟨h, hh⟩ : ∃ v, heldL L 0 t = v := ⟨_, rfl⟩
        rw [hv0, hv1, hv2, hv3] at hpos harr
        rw [hv0] at b0
        rw [hv1] at b1
        rw [hv2] at b2
        rw [hv3] at b3
        rw [hh] at bh
        obtain ⟨s1, hs1⟩ : ∃ s, v0 + v1 = s := ⟨_, rfl⟩
        obtain ⟨s2, hs2⟩ : ∃ s, s1 + v2 = s := ⟨_, rfl⟩
        obtain ⟨s3, hs3⟩ : ∃ s, s2 + v3 = s := ⟨_, rfl⟩
        obtain ⟨oo, hoo⟩ : ∃ s, 0 - h = s := ⟨_, rfl⟩
        have w1 : IntKind.i64.wrap (v0 + v1) = s1 := by rw [wrapK (by omega) (by omega)]; exact hs1
        have w2 : IntKind.i64.wrap (s1 + v2) = s2 := by rw [wrapK (by omega) (by omega)]; exact hs2
        have w3 : IntKind.i64.wrap (s2 + v3) = s3 := by rw [wrapK (by omega) (by omega)]; exact hs3
        have w4 : IntKind.i64.wrap (0 - h) = oo := by rw [wrapK (by omega) (by omega)]; exact hoo
        have w7 : IntKind.i64.wrap (-h) = oo := by rw [wrapK (by omega) (by omega), ← hoo]; omega
        have w5 : wrap64 (0 - h) = oo := by rw [wrap_id (by omega) (by omega)]; exact hoo
        have w6 : wrap64 (-h) = oo := by rw [wrap_id (by omega) (by omega), ← hoo]; omega
        have w1' : wrap64 (v0 + v1) = s1 := by rw [wrap_id (by omega) (by omega)]; exact hs1
        have w2' : wrap64 (s1 + v2) = s2 := by rw [wrap_id (by omega) (by omega)]; exact hs2
        have w3' : wrap64 (s2 + v3) = s3 := by rw [wrap_id (by omega) (by omega)]; exact hs3
        have HALL := Lib.hid (show ∀ W, Calls Try.prog 48 #[.agg #[.int .i64 v0, .int .i64 v1, .int .i64 v2, .int .i64 v3]] W fun e w' => e = .returned (.int .i64 s3) ∧ Below W.heap.size W w' from fun W => by
          have := pall_any v0 v1 v2 v3 b0 b1 b2 b3 W
          rw [hs1, hs2, hs3] at this
          exact this)
        have HPOS := Lib.hid hpos
        have HRP := Lib.hid hdw.iv.st.rep
        have HD := Lib.hid hdw
        have HB := Lib.hid (HI.out.2.bl.trans (HJ.out.2.2.1.mono HI.out.2.bl.size))
        have HA := Lib.hid hblk
        have HH := Lib.hid hh
        have HV := Lib.hid (And.intro hv0 (And.intro hv1 (And.intro hv2 hv3)))
        clear hbm hsm hhw hq hpos b0 b1 b2 b3 bh harr hblk hv0 hv1 hv2 hv3 hs1 hs2 hs3 hoo hdw hj hh
        go_wp2_with (go_at_call 47; refine HPOS.out.mono ?_; rintro e w7 ⟨rfl, H7⟩; replace H7 := Lib.hid H7)
        obtain ⟨PB, hPB⟩ : ∃ G, w7.heap.size = G := ⟨_, rfl⟩
        obtain ⟨W8, hW8⟩ : ∃ W8, w7.alloc (.cells #[.int .i64 v0, .int .i64 v1, .int .i64 v2, .int .i64 v3] 93) = W8 := ⟨_, rfl⟩
        have hb8 : Below wr.heap.size wr W8.drew := by rw [← hW8]; exact (H7.out.trans ((((Below.refl w7.heap.size w7).alloc (Nat.le_refl _) _)).mono H7.out.size)).drew
        have hx8 : W8.drew.heap[PB]? = some (.cells #[.int .i64 v0, .int .i64 v1, .int .i64 v2, .int .i64 v3] 93 (0, 0)) := by rw [← hW8, ← hPB]; exact (Go.MapKept.heap_alloc w7 _).1
        rw [hW8, hPB]
        have hA8 : W8.drew.heap[G]? = some (a4 q 4) := (hb8.block _ (Array.getElem?_eq_some_iff.1 HA.out).1).trans HA.out
        obtain ⟨c0, c1', c2, c3⟩ := a4_all hA8
        rw [HV.out.1] at c0
        rw [HV.out.2.1] at c1'
        rw [HV.out.2.2.1] at c2
        rw [HV.out.2.2.2] at c3
        have hd8 := HD.out.below hb8
        have hS0 : W8.drew.cell? ⟨PB, 0, none⟩ = some (.int .i64 v0) ∧ W8.drew.cell? ⟨PB, 1, none⟩ = some (.int .i64 v1) ∧ W8.drew.cell? ⟨PB, 2, none⟩ = some (.int .i64 v2) ∧ W8.drew.cell? ⟨PB, 3, none⟩ = some (.int .i64 v3) ∧ W8.drew.cell? ⟨G, 0, none⟩ = some (.int .i64 v0) ∧ W8.drew.cell? ⟨G, 1, none⟩ = some (.int .i64 v1) ∧ W8.drew.cell? ⟨G, 2, none⟩ = some (.int .i64 v2) ∧ W8.drew.cell? ⟨G, 3, none⟩ = some (.int .i64 v3) ∧ W8.drew.cell? ⟨lp, 0, none⟩ = some (.slice A1 L.length c1) ∧ Hid (Below w.heap.size w W8.drew ∧ DW p g b lp M L A1 c1 W8.drew) := ⟨cellA hx8 0, cellA hx8 1, cellA hx8 2, cellA hx8 3, c0, c1', c2, c3, cell_of_one hd8.blk, ⟨HB.out.trans (hb8.mono HB.out.size), hd8⟩⟩
        have HKP := Lib.hid (show ∀ W W', (W.cell? ⟨PB, 0, none⟩ = some (.int .i64 v0) ∧ W.cell? ⟨PB, 1, none⟩ = some (.int .i64 v1) ∧ W.cell? ⟨PB, 2, none⟩ = some (.int .i64 v2) ∧ W.cell? ⟨PB, 3, none⟩ = some (.int .i64 v3) ∧ W.cell? ⟨G, 0, none⟩ = some (.int .i64 v0) ∧ W.cell? ⟨G, 1, none⟩ = some (.int .i64 v1) ∧ W.cell? ⟨G, 2, none⟩ = some (.int .i64 v2) ∧ W.cell? ⟨G, 3, none⟩ = some (.int .i64 v3) ∧ W.cell? ⟨lp, 0, none⟩ = some (.slice A1 L.length c1) ∧ Hid (Below w.heap.size w W ∧ DW p g b lp M L A1 c1 W)) → Below W.heap.size W W' → (W'.cell? ⟨PB, 0, none⟩ = some (.int .i64 v0) ∧ W'.cell? ⟨PB, 1, none⟩ = some (.int .i64 v1) ∧ W'.cell? ⟨PB, 2, none⟩ = some (.int .i64 v2) ∧ W'.cell? ⟨PB, 3, none⟩ = some (.int .i64 v3) ∧ W'.cell? ⟨G, 0, none⟩ = some (.int .i64 v0) ∧ W'.cell? ⟨G, 1, none⟩ = some (.int .i64 v1) ∧ W'.cell? ⟨G, 2, none⟩ = some (.int .i64 v2) ∧ W'.cell? ⟨G, 3, none⟩ = some (.int .i64 v3) ∧ W'.cell? ⟨lp, 0, none⟩ = some (.slice A1 L.length c1) ∧ Hid (Below w.heap.size w W' ∧ DW p g b lp M L A1 c1 W')) from fun W W' ⟨e0, e1, e2, e3, e4, e5, e6, e7, e8, e9⟩ hb => ⟨cell_keep hb e0, cell_keep hb e1, cell_keep hb e2, cell_keep hb e3, cell_keep hb e4, cell_keep hb e5, cell_keep hb e6, cell_keep hb e7, cell_keep hb e8, ⟨e9.out.1.trans (hb.mono e9.out.1.size), e9.out.2.below hb⟩⟩)
        clear hW8 hPB hb8 hx8 hA8 c0 c1' c2 c3 hd8
        go_wp2_with (fail)
        go_region_held3 (fun w' => w'.cell? ⟨PB, 0, none⟩ = some (.int .i64 v0) ∧ w'.cell? ⟨PB, 1, none⟩ = some (.int .i64 v1) ∧ w'.cell? ⟨PB, 2, none⟩ = some (.int .i64 v2) ∧ w'.cell? ⟨PB, 3, none⟩ = some (.int .i64 v3) ∧ w'.cell? ⟨G, 0, none⟩ = some (.int .i64 v0) ∧ w'.cell? ⟨G, 1, none⟩ = some (.int .i64 v1) ∧ w'.cell? ⟨G, 2, none⟩ = some (.int .i64 v2) ∧ w'.cell? ⟨G, 3, none⟩ = some (.int .i64 v3) ∧ w'.cell? ⟨lp, 0, none⟩ = some (.slice A1 L.length c1) ∧ Hid (Below w.heap.size w w' ∧ DW p g b lp M L A1 c1 w'))
          (first | assumption)
          (first
            | (go_at_call 48; refine (HALL.out _).mono ?_; rintro o w48 ⟨rfl, H48⟩; have k48 := HKP.out _ _ hS0 H48; clear H48)
            | (go_at_call 51; refine (clots_any k48.2.2.2.2.2.2.2.2.2.out.2.cu HRP.out HLL.out m bk).mono ?_; rintro o w51 ⟨A51, c51, rfl, H51⟩; have k51 := HKP.out _ _ k48 H51.out.2.2)
            | (go_at_call 52; refine (rlots_any k51.2.2.2.2.2.2.2.2.2.out.2.hC k51.2.2.2.2.2.2.2.2.2.out.2.hc HLL.out m bk).mono ?_; rintro o w52 ⟨A52, c52, rfl, H52⟩; have k52 := HKP.out _ _ k51 H52.out.2.2)
            | (go_at_call 50; refine (lsame_any A51 A52 c51 c52 (lotsA L m bk) _ (Kd.C_below H51.out.1 H52.out.2.2) H51.out.2.1 H52.out.1 H52.out.2.1 (Nat.le_trans (lotsA_len _ _ _) HLL.out)).mono ?_; rintro o w50 ⟨rfl, H50⟩; have k50 := HKP.out _ _ k52 H50; clear H50)
            | (go_at_call 46; refine (cthings_C k50.2.2.2.2.2.2.2.2.2.out.2.cu HRP.out HLL.out).mono ?_; rintro o w46 ⟨A46, c46, rfl, H46⟩; have k46 := HKP.out _ _ k50 H46.out.2.2)
            | (go_at_call 33; refine (rthings_C k46.2.2.2.2.2.2.2.2.2.out.2.hC k46.2.2.2.2.2.2.2.2.2.out.2.hc HLL.out).mono ?_; rintro o w33 ⟨A33, c33, rfl, H33⟩; have k33 := HKP.out _ _ k46 H33.out.2.2)
            | (go_at_call 31; refine (texts_C HLL.out (Kd.C_below H46.out.1 H33.out.2.2) H46.out.2.1 H33.out.1 H33.out.2.1).mono ?_; rintro o w31 ⟨rfl, H31⟩; have k31 := HKP.out _ _ k33 H31; clear H31)
            | (go_at_call 49; refine (cout_any k31.2.2.2.2.2.2.2.2.2.out.2.cu HRP.out HLL.out t).mono ?_; rw [HH.out]; rintro o w49 ⟨rfl, H49⟩; have k49 := HKP.out _ _ k31 H49; clear H49)
            | (go_at_call 29; refine (rheld_C k49.2.2.2.2.2.2.2.2.2.out.2.hC k49.2.2.2.2.2.2.2.2.2.out.2.hc HLL.out 0 t).mono ?_; rw [HH.out]; rintro o w29 ⟨rfl, H29⟩; have k29 := HKP.out _ _ k49 H29; clear H29)
            | (go_at_call 38; refine (cawake_walk _).mono ?_; rintro o w38 ⟨rfl, H38⟩; have k38 := HKP.out _ _ k29 H38; clear H38))
        go_wp2
        go_ret
        exact ⟨rfl, k38.2.2.2.2.2.2.2.2.2.out.1⟩
theorem tells_row (A : Option Addr) (c : Nat) (P : List S72) (m bk : Int) (t : ByteArray) (w : World) (hr : Kd.C k72 w A P.length P) (_ : P.length ≤ c) (hm : (Lit.int .i64 m).wf = true) (_ : (Lit.int .i64 bk).wf = true) (ht : t.size ≤ maxLen) :
    Calls Try.prog 12 #[.slice A P.length c, .int .i64 m, .int .i64 bk, .string t] w fun e w' => e = .returned (.bool true) ∧ Below w.heap.size w w' := tells_walk A c P m bk t w hr (C_len hr) hm ht
end Go.Proofs.Ytoknlpecbdlbfaa.PL

-- CustodyNobody, walked (lists of at most two million).
namespace Go.Proofs.Ytoknlpecbdlbfaa.PL
open Go Go.RowKit Go.Maps Go.Sort Go.Shelf Go.Proofs Go.Proofs.YtoknlpecbdlbfaaW.PrintWords Go.Proofs.YtoknlpecbdlbfaaW.PrintLast
theorem A8.cells {W : World} {k : Nat} {v0 v1 v2 v3 v4 v5 v6 v7 : Value} (h : A8 W k #[v0, v1, v2, v3, v4, v5, v6, v7]) : W.cell? ⟨k, 1, none⟩ = some v1 ∧ W.cell? ⟨k, 2, none⟩ = some v2 ∧ W.cell? ⟨k, 3, none⟩ = some v3 ∧ W.cell? ⟨k, 4, none⟩ = some v4 ∧ W.cell? ⟨k, 5, none⟩ = some v5 ∧ W.cell? ⟨k, 6, none⟩ = some v6 ∧ W.cell? ⟨k, 7, none⟩ = some v7 := by
  have hb := h.blk
  refine ⟨?_, ?_, ?_, ?_, ?_, ?_, ?_⟩ <;> (unfold World.cell?; rw [hb]; rfl)
end Go.Proofs.Ytoknlpecbdlbfaa.PL

-- An act that comes in, and how long its lists are.
namespace Go.Proofs.Ytoknlpecbdlbfaa.PL
open Go Go.RowKit Go.ChangeShapes Go.WideShapes Go.Deep Go.Proofs Go.Proofs.YtoknlpecbdlbfaaW.PrintWords Go.Proofs.YtoknlpecbdlbfaaW.PrintLast
theorem one_le {H : Type} (d : DataW H) : 1 ≤ Rows.uptoBulk d := by
  cases d with
  | lit l => cases l <;> simp [Rows.uptoBulk]
  | nil => simp [Rows.uptoBulk]
  | ptr d => simp [Rows.uptoBulk]
  | slice elems spare => simp [Rows.uptoBulk]
  | agg parts => simp [Rows.uptoBulk]
  | iface t d => simp [Rows.uptoBulk]
  | map entries => simp [Rows.uptoBulk]
  | held h => simp [Rows.uptoBulk]
theorem length_le {H : Type} (l : List (DataW H)) : l.length ≤ Rows.uptoBulkAll l := by
  induction l with
  | nil => simp [Rows.uptoBulkAll]
  | cons x r ih => have := one_le x; simp only [Rows.uptoBulkAll, List.length_cons]; omega
theorem slice_le {H : Type} (elems spare : List (DataW H)) : elems.length ≤ Rows.uptoBulk (.slice elems spare) := by
  have h1 := length_le elems
  simp only [Rows.uptoBulk]
  omega
/-- Whatever cells are read at the type t are those of some x of the kind d, no longer than the datum's bulk. -/
def OpensB {α : Type} (d : Kd α) (t : TypeId) (β : α → Nat) : Prop :=
  ∀ {H : Type} (enc : TypeId × Value → H) (w : World) (base : Nat) (spare : Nat → Bool) (held : Bool) (n : Nat) (cs : List Value) (y : DataW H × List MemPlace), DataW.trod enc Try.prog w base spare held n t cs = some y → ∃ x : α, d.K w x cs ∧ β x ≤ Rows.uptoBulk y.1
theorem opensB_slice {α : Type} {d : Kd α} {t e : TypeId} (ht : Try.prog.underlying t = some (.slice e)) (hc : Try.prog.cellsOf e = d.sz) (h : OpensB d e (fun _ => 0)) : OpensB (Kd.slice e d) t List.length := by
  intro H enc w base spare held n cs y hy
  rcases open_slice ht hy with ⟨rfl, _⟩ | ⟨a, len, cap, m, n', D, Pl, rfl, hb, hl, hm, hmm, rfl, hi⟩
  · exact ⟨[], ⟨none, 0, rfl, Nat.le_refl _, rfl, by simp, fun h => absurd h (by simp)⟩, by simp⟩
  · have hlm : len ≤ m := by rw [hmm]; split <;> omega
    have hx : ∀ i : Fin len, ∃ x cs', w.cells? base (a.add (i.1 * Try.prog.cellsOf e)) (Try.prog.cellsOf e) = some cs' ∧ d.K w x cs' := by
      intro i
      obtain ⟨cs', h1, h2⟩ := hi i.1 (by have := i.2; omega)
      obtain ⟨x, h3, _⟩ := h enc w base spare held _ _ _ h2
      exact ⟨x, cs', h1, h3⟩
    obtain ⟨f, hf⟩ := Classical.axiomOfChoice hx
    refine ⟨List.ofFn f, ⟨some a, cap, by simp, by simpa using hl, by simp, by simp; unfold maxLen at hm; omega, fun _ => ⟨a, rfl, fun j p hj => ?_⟩⟩, ?_⟩
    · have hjl : j < len := by
        have := (List.getElem?_eq_some_iff.1 hj).1
        simpa using this
      obtain ⟨cs', h1, h2⟩ := hf ⟨j, hjl⟩
      have hp : p = f ⟨j, hjl⟩ := by
        have := (List.getElem?_eq_some_iff.1 hj).2
        simpa using this.symm
      subst hp
      obtain ⟨_, hcl, hat⟩ := World.cells?_some h1
      refine ⟨cs', by rw [hcl, hc], h2, fun i u hu => ?_⟩
      have hil : i < cs'.length := (List.getElem?_eq_some_iff.1 hu).1
      have h3 := hat i (by omega)
      rw [hu] at h3
      rw [← hc, ← Go.Deep.add_add]
      exact h3
    · have h9 := slice_le ((List.range len).map D) ((List.range (m - len)).map fun j => D (len + j))
      rw [List.length_map, List.length_range] at h9
      rw [List.length_ofFn]
      exact h9
theorem cells79' : Try.prog.cellsOf 79 = 2 := by kernel_rfl
theorem cells131' : Try.prog.cellsOf 131 = 6 := by kernel_rfl
theorem cells72' : Try.prog.cellsOf 72 = 8 := by kernel_rfl
theorem cells69' : Try.prog.cellsOf 69 = 1 := by kernel_rfl
theorem cells70' : Try.prog.cellsOf 70 = 1 := by kernel_rfl
theorem at_part {H : Type} {xs : List (DataW H × List MemPlace)} {k j : Nat} (h : xs.length = k) (hj : j < k) : ∃ y0, xs[j]? = some y0 := ⟨xs[j]'(by omega), List.getElem?_eq_getElem _⟩
theorem opens79 : OpensB k79 79 (fun _ => 0) := by
  intro H enc w base spare held n cs y hy
  obtain ⟨xs, n', _, rfl, hlen, hxl, hf⟩ := DataW.trod_struct Try.underlying79 hy
  obtain ⟨y0, e0⟩ := at_part (j := 0) hxl (by simp)
  obtain ⟨y1, e1⟩ := at_part (j := 1) hxl (by simp)
  obtain ⟨a0, h0, _⟩ := DataW.trod_string Try.underlying9 ((hf 0 _ rfl).trans e0)
  obtain ⟨a1, h1, _⟩ := DataW.trod_int Try.underlying3 ((hf 1 _ rfl).trans e1)
  rw [cells79'] at hlen
  replace h0 : (cs.drop 0).take (Try.prog.cellsOf 9) = _ := h0
  replace h1 : (cs.drop 1).take (Try.prog.cellsOf 3) = _ := h1
  rw [cells9'] at h0
  rw [cells3'] at h1
  refine ⟨⟨a0, a1⟩, ?_, Nat.zero_le _⟩
  have : cs = [.string a0, .int .i64 a1] := by
    clear hf hy hxl e0 e1
    match cs, hlen with
    | [c0, c1], _ =>
      simp at h0 h1
      simp [h0, h1]
  rw [this]
  exact k79_mk w ⟨a0, a1⟩
theorem opens131 : OpensB k131 131 (fun _ => 0) := by
  intro H enc w base spare held n cs y hy
  obtain ⟨xs, n', _, rfl, hlen, hxl, hf⟩ := DataW.trod_struct Try.underlying131 hy
  obtain ⟨y0, e0⟩ := at_part (j := 0) hxl (by simp)
  obtain ⟨y1, e1⟩ := at_part (j := 1) hxl (by simp)
  obtain ⟨y2, e2⟩ := at_part (j := 2) hxl (by simp)
  obtain ⟨y3, e3⟩ := at_part (j := 3) hxl (by simp)
  obtain ⟨y4, e4⟩ := at_part (j := 4) hxl (by simp)
  obtain ⟨y5, e5⟩ := at_part (j := 5) hxl (by simp)
  obtain ⟨a0, h0, _⟩ := DataW.trod_int Try.underlying3 ((hf 0 _ rfl).trans e0)
  obtain ⟨a1, h1, _⟩ := DataW.trod_int Try.underlying3 ((hf 1 _ rfl).trans e1)
  obtain ⟨a2, h2, _⟩ := DataW.trod_int Try.underlying3 ((hf 2 _ rfl).trans e2)
  obtain ⟨a3, h3, _⟩ := DataW.trod_int Try.underlying3 ((hf 3 _ rfl).trans e3)
  obtain ⟨a4, h4, _⟩ := DataW.trod_string Try.underlying9 ((hf 4 _ rfl).trans e4)
  obtain ⟨a5, h5, _⟩ := DataW.trod_int Try.underlying3 ((hf 5 _ rfl).trans e5)
  rw [cells131'] at hlen
  replace h0 : (cs.drop 0).take (Try.prog.cellsOf 3) = _ := h0
  replace h1 : (cs.drop 1).take (Try.prog.cellsOf 3) = _ := h1
  replace h2 : (cs.drop 2).take (Try.prog.cellsOf 3) = _ := h2
  replace h3 : (cs.drop 3).take (Try.prog.cellsOf 3) = _ := h3
  replace h4 : (cs.drop 4).take (Try.prog.cellsOf 9) = _ := h4
  replace h5 : (cs.drop 5).take (Try.prog.cellsOf 3) = _ := h5
  rw [cells3'] at h0 h1 h2 h3 h5
  rw [cells9'] at h4
  refine ⟨⟨a0, a1, a2, a3, a4, a5⟩, ?_, Nat.zero_le _⟩
  have : cs = [.int .i64 a0, .int .i64 a1, .int .i64 a2, .int .i64 a3, .string a4, .int .i64 a5] := by
    clear hf hy hxl e0 e1 e2 e3 e4 e5
    match cs, hlen with
    | [c0, c1, c2, c3, c4, c5], _ =>
      simp at h0 h1 h2 h3 h4 h5
      simp [h0, h1, h2, h3, h4, h5]
  rw [this]
  exact k131_mk w ⟨a0, a1, a2, a3, a4, a5⟩
theorem opens69 : OpensB (Kd.slice 131 k131) 69 List.length := opensB_slice Try.underlying69 cells131' opens131
theorem opens70 : OpensB (Kd.slice 79 k79) 70 List.length := opensB_slice Try.underlying70 cells79' opens79
end Go.Proofs.Ytoknlpecbdlbfaa.PL

/- Acts that come in. -/
namespace Go.Proofs.Ytoknlpecbdlbfaa.PL
open Go Go.RowKit Go.ChangeShapes Go.WideShapes Go.Deep Go.Proofs Go.Proofs.YtoknlpecbdlbfaaW.PrintWords Go.Proofs.YtoknlpecbdlbfaaW.PrintLast
set_option maxRecDepth 100000 in
theorem opens72 : OpensB k72 72 (fun _ => 0) := by
  intro H enc w base spare held n cs y hy
  obtain ⟨xs, n', _, rfl, hlen, hxl, hf⟩ := DataW.trod_struct Try.underlying72 hy
  obtain ⟨y0, e0⟩ := at_part (j := 0) hxl (by simp)
  obtain ⟨y1, e1⟩ := at_part (j := 1) hxl (by simp)
  obtain ⟨y2, e2⟩ := at_part (j := 2) hxl (by simp)
  obtain ⟨y3, e3⟩ := at_part (j := 3) hxl (by simp)
  obtain ⟨y4, e4⟩ := at_part (j := 4) hxl (by simp)
  obtain ⟨y5, e5⟩ := at_part (j := 5) hxl (by simp)
  obtain ⟨y6, e6⟩ := at_part (j := 6) hxl (by simp)
  obtain ⟨y7, e7⟩ := at_part (j := 7) hxl (by simp)
  obtain ⟨a0, h0, _⟩ := DataW.trod_int Try.underlying3 ((hf 0 _ rfl).trans e0)
  obtain ⟨a1, h1, _⟩ := DataW.trod_int Try.underlying3 ((hf 1 _ rfl).trans e1)
  obtain ⟨a2, h2, _⟩ := DataW.trod_int Try.underlying3 ((hf 2 _ rfl).trans e2)
  obtain ⟨a3, h3, _⟩ := DataW.trod_int Try.underlying3 ((hf 3 _ rfl).trans e3)
  obtain ⟨a4, h4, _⟩ := DataW.trod_string Try.underlying9 ((hf 4 _ rfl).trans e4)
  obtain ⟨a5, h5, _⟩ := DataW.trod_int Try.underlying3 ((hf 5 _ rfl).trans e5)
  obtain ⟨X, ⟨A, c, h6, l6, C6⟩, _⟩ := opens69 _ _ _ _ _ _ _ _ ((hf 6 _ rfl).trans e6)
  obtain ⟨T, ⟨B, d, h7, l7, C7⟩, _⟩ := opens70 _ _ _ _ _ _ _ _ ((hf 7 _ rfl).trans e7)
  rw [cells72'] at hlen
  replace h0 : (cs.drop 0).take (Try.prog.cellsOf 3) = _ := h0
  replace h1 : (cs.drop 1).take (Try.prog.cellsOf 3) = _ := h1
  replace h2 : (cs.drop 2).take (Try.prog.cellsOf 3) = _ := h2
  replace h3 : (cs.drop 3).take (Try.prog.cellsOf 3) = _ := h3
  replace h4 : (cs.drop 4).take (Try.prog.cellsOf 9) = _ := h4
  replace h5 : (cs.drop 5).take (Try.prog.cellsOf 3) = _ := h5
  replace h6 : (cs.drop 6).take (Try.prog.cellsOf 69) = _ := h6
  replace h7 : (cs.drop 7).take (Try.prog.cellsOf 70) = _ := h7
  rw [cells3'] at h0 h1 h2 h3 h5
  rw [cells9'] at h4
  rw [cells69'] at h6
  rw [cells70'] at h7
  refine ⟨⟨a0, a1, a2, a3, a4, a5, X, T⟩, ?_, Nat.zero_le _⟩
  have : cs = [.int .i64 a0, .int .i64 a1, .int .i64 a2, .int .i64 a3, .string a4, .int .i64 a5, .slice A X.length c, .slice B T.length d] := by
    clear hf hxl e0 e1 e2 e3 e4 e5 e6 e7 C6 C7 hy l6 l7
    match cs, hlen with
    | [v0, v1, v2, v3, v4, v5, v6, v7], _ =>
      simp at h0 h1 h2 h3 h4 h5 h6 h7
      simp [h0, h1, h2, h3, h4, h5, h6, h7]
  rw [this]
  exact k72_mk (w := w) ⟨a0, a1, a2, a3, a4, a5, X, T⟩ l6 C6 l7 C7
theorem opens65 : OpensB (Kd.slice 72 k72) 65 List.length := opensB_slice Try.underlying65 cells72' opens72
/-- A slice that comes in, as a row. -/
theorem openedB {α : Type} {d : Kd α} {t e : TypeId} (h : OpensB (Kd.slice e d) t List.length) {H : Type} {enc : TypeId × Value → H} {w : World} {base : Nat} {spare : Nat → Bool} {held : Bool} {a : Option Addr} {len cap : Nat} {y : DataW H} {p : List MemPlace}
    (hy : DataW.Trod enc Try.prog w base spare held t (.slice a len cap) y p) : ∃ xs : List α, len = xs.length ∧ xs.length ≤ cap ∧ Kd.C d w a xs.length xs := by
  obtain ⟨fuel, hf⟩ := hy
  obtain ⟨x, ⟨A, c, he, hl, hC⟩, _⟩ := h enc w base spare held fuel _ _ hf
  simp [Value.cells] at he
  obtain ⟨rfl, rfl, rfl⟩ := he
  exact ⟨x, rfl, hl, hC⟩
end Go.Proofs.Ytoknlpecbdlbfaa.PL

namespace Go.Proofs.Ytoknlpecbdlbfaa.custodyTells
open Go Go.RowKit Go.ChangeShapes Go.WideShapes Go.ChangeAt Go.Proofs
open Go.ChangeMaps (open_string shut_string)
set_option linter.unusedVariables false
theorem own : ownKnob Try.prog.godebug = none := by kernel_rfl
set_option maxRecDepth 100000 in
theorem lifted (os : Os) (started : os.Started) (H : Type) (enc : TypeId × Value → H) :
    ReturnsInHanded {} Try.checked os 12 .any (Rows.custodyTellsSpec.pre6 enc Try.prog Try.f12 Rows.custodyTellsRow.domain false) (Rows.custodyTellsSpec.post enc Try.prog Try.f12 false true false false) := by
  refine returnsInHanded_of_change_sized (C := Try.checked) own started (by kernel_rfl) Try.func12
    (ChangeSpec.witness6 (enc := enc) (C := Try.checked) false ⟨#[], #[.slice none 0 0, .int .i64 0, .int .i64 0, .string ByteArray.empty], []⟩ 8 (by kernel_rfl) (by kernel_rfl) (by kernel_rfl) (by kernel_rfl)) ?_
  intro W base args ds gs before hval0 hW hcnd hsz0 _
  have hsz : (DataW.weightsEach Try.prog (Try.f12.params.toList ++ Rows.custodyTellsSpec.plain.varTypes Try.prog) (ds ++ gs)).all (· ≤ reachBytes) = true := hsz0
  have hval : ∀ (j : Nat) t v, Try.f12.params[j]? = some t → args[j]? = some v → Value.okWide Try.prog W .any base t v := hval0
  have hW' := hW
  obtain ⟨p, q, hA0, hV, rfl, hfz, hnd⟩ := hW
  have hA : DataW.TrodAll enc Try.prog W 0 (fun _ => true) true Try.f12.params.toList args.toList ds p := hA0
  rw [Try.params12] at hA hval hsz
  obtain ⟨v0, vs0, d0, ds0, p0, q0, hargs, rfl, rfl, h0, r0⟩ := trodAll_cons hA
  obtain ⟨v1, vs1, d1, ds1, p1, q1, rfl, rfl, rfl, h1, r1⟩ := trodAll_cons r0
  obtain ⟨v2, vs2, d2, ds2, p2, q2, rfl, rfl, rfl, h2, r2⟩ := trodAll_cons r1
  obtain ⟨v3, vs3, d3, ds3, p3, q3, rfl, rfl, rfl, h3, r3⟩ := trodAll_cons r2
  obtain ⟨rfl, rfl, rfl⟩ := trodAll_nil r3
  obtain rfl : args = #[v0, v1, v2, v3] := by cases args; simp_all
  obtain ⟨rfl, rfl⟩ := trodVars_none hV
  have k0 := h0
  have lt0 : ∀ x ∈ p0, x.block < W.heap.size := by obtain ⟨m, hm⟩ := k0; exact DataW.trod_lt m _ _ _ hm
  have sm0 : PL.Small 65 d0 := PL.small_arg hsz (j := 0) rfl rfl
  obtain ⟨a0, len0, cap0, rfl⟩ := okWide_slice Try.underlying65 (hval 0 65 v0 rfl rfl)
  obtain ⟨x0, rfl, hc0, hC0⟩ := PL.openedB PL.opens65 h0
  have k1 := h1
  have lt1 : ∀ x ∈ p1, x.block < W.heap.size := by obtain ⟨m, hm⟩ := k1; exact DataW.trod_lt m _ _ _ hm
  have sm1 : PL.Small 3 d1 := PL.small_arg hsz (j := 1) rfl rfl
  obtain ⟨x1, rfl, rfl, rfl, w1⟩ := open_int Try.underlying3 (hval 1 3 v1 rfl rfl) h1
  have k2 := h2
  have lt2 : ∀ x ∈ p2, x.block < W.heap.size := by obtain ⟨m, hm⟩ := k2; exact DataW.trod_lt m _ _ _ hm
  have sm2 : PL.Small 3 d2 := PL.small_arg hsz (j := 2) rfl rfl
  obtain ⟨x2, rfl, rfl, rfl, w2⟩ := open_int Try.underlying3 (hval 2 3 v2 rfl rfl) h2
  have k3 := h3
  have lt3 : ∀ x ∈ p3, x.block < W.heap.size := by obtain ⟨m, hm⟩ := k3; exact DataW.trod_lt m _ _ _ hm
  have sm3 : PL.Small 9 d3 := PL.small_arg hsz (j := 3) rfl rfl
  obtain ⟨x3, rfl, rfl, rfl, y3⟩ := open_string Try.underlying9 (hval 3 9 v3 rfl rfl) h3
  clear hA0 hval0 hsz0 hsz
  refine (PL.tells_row a0 cap0 x0 x1 x2 x3 W hC0 hc0 w1 w2 y3).mono fun e W' ⟨he, bel⟩ => ?_
  subst he
  exact ⟨_, rfl, _, _, _, [], _, [], hW', trodAll_mk1 (shut_bool Try.underlying4 _), (trodAll_cons_mk (Below.trod PL.laidOut (by kernel_rfl) (of_decide_eq_true (by kernel_rfl)) k0 bel lt0) (trodAll_cons_mk (Below.trod PL.laidOut (by kernel_rfl) (of_decide_eq_true (by kernel_rfl)) k1 bel lt1) (trodAll_cons_mk (Below.trod PL.laidOut (by kernel_rfl) (of_decide_eq_true (by kernel_rfl)) k2 bel lt2) (trodAll_cons_mk (Below.trod PL.laidOut (by kernel_rfl) (of_decide_eq_true (by kernel_rfl)) k3 bel lt3) trodAll_mk0)))), rfl, bel.frame _, fun h => by cases h⟩
theorem over : Rows.custodyTellsRow.holds Try.pinned (OpenSpec.ofChange Rows.custodyTellsSpec) :=
  OpenClaim.holds_of_wide 12 Try.f12 rfl rfl rfl rfl rfl rfl rfl ⟨rfl, rfl, rfl, rfl, rfl⟩ rfl rfl rfl rfl rfl (by kernel_rfl) Try.func12 (by kernel_rfl)
    (of_decide_eq_true (by kernel_rfl)) (by unfold Func.isWrapper; first | (rw [if_pos (by decide +kernel)]; kernel_rfl) | (rw [if_neg (by decide +kernel)]; exact ⟨rfl, rfl⟩))
    (fun os started H enc _ => lifted os started H enc)
theorem proved : Rows.CustodyTellsSaid := over
end Go.Proofs.Ytoknlpecbdlbfaa.custodyTells
namespace Go.Proofs.Ytoknlpecbdlbfaa
/-- The row, under a short name, for the claim. -/
theorem custodyTells_holds : Rows.CustodyTellsSaid := custodyTells.proved
end Go.Proofs.Ytoknlpecbdlbfaa
