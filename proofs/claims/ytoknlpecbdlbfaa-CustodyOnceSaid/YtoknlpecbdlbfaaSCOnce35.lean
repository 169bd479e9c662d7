/- CustodyOnce holds: whatever acts come in, and whoever trades with whom (more than forty acts, acts of more than forty lines or lots, and more than forty lots are let go, as the statement says): what can't be done as a whole moves nothing, a trade with oneself changes nothing, and what is delivered against payment is both; and the chapter's example holds. No condition on the inputs. -/
import Derived.Test.YtoknlpecbdlbfaaSCOnce34
import Derived.Deep.DeepCutAuto
import Derived.Test.YtoknlpecbdlbfaaSCOnce31
import Derived.Test.YtoknlpecbdlbfaaRows
import Derived.WalkKit
import Derived.ProofKit
import Derived.Deep.Slices
import Derived.Test.YtoknlpecbdlbfaaSCOnce32
import Derived.OpenShut
import Derived.ShutString
import Derived.ChangeOld
import Derived.Below
import Derived.SizedLaws

-- CustodyOnce, walked. (printed by genUF.py)
namespace Go.Proofs.Ytoknlpecbdlbfaa.PL
open Go Go.RowKit Go.Maps Go.Sort Go.Shelf Go.Proofs Go.Proofs.YtoknlpecbdlbfaaW.PrintWords Go.Proofs.YtoknlpecbdlbfaaW.PrintLast
theorem wrap40 {k : Nat} (h : k ≤ 40) : IntKind.i64.wrap ((k : Int) + 1) = (k : Int) + 1 := IntWalk.i64_in _ (by omega)
theorem wrap40' {k : Nat} (h : k ≤ 40) : wrap64 ((k : Int) + 1) = (k : Int) + 1 := wrap_id (by omega) (by omega)
theorem wrapK {n : Int} (h : -9223372036854775808 ≤ n) (h' : n ≤ 9223372036854775807) : IntKind.i64.wrap n = n := IntWalk.i64_in _ (by omega)
set_option maxRecDepth 100000 in
set_option maxHeartbeats 8000000 in
theorem once_walk (A : Option Addr) (c : Nat) (P : List S72) (s y : Int) (B : Option Addr) (d : Nat) (T : List S79) (cash : Int) (w : World) (hr : Kd.C k72 w A P.length P) (hl : P.length ≤ 9223372036854775807) (hT : Kd.C k79 w B T.length T) :
    Calls Try.prog 9 #[.slice A P.length c, .int .i64 s, .int .i64 y, .slice B T.length d, .int .i64 cash] w fun e w' => e = .returned (.bool true) ∧ Below w.heap.size w w' := by
  have HP := Lib.hid (And.intro hr hl)
  have HL := Lib.hid hT
  have htl := C_len hT
  clear hr hl hT
  go_enter Try.func9, Try.ntmps9
  go_upto_block 0 with (go_at_call 34; refine (cnew_any _).mono ?_; rintro e w1 ⟨p, g, b, rfl, H1⟩)
  obtain ⟨W0, hW0⟩ : ∃ W0, w1.alloc (.cells #[.slice none 0 0] 27) = W0 := ⟨_, rfl⟩
  have hst := RW.start (w := w) H1.out.1 H1.out.2.1 H1.out.2.2.1
  obtain ⟨lp, hlp⟩ : ∃ lp, w1.heap.size = lp := ⟨_, rfl⟩
  rw [hW0, hlp] at hst
  rw [hW0, hlp]
  have HST := Lib.hid hst
  clear hst hW0 hlp
  go_cut [] (fun wx => ∃ (k : Nat) (L : List S82) (A1 : Option Addr) (c1 : Nat) (M : List (S42 × Int)), Hid (k ≤ 40 ∧ RW w p g b lp k L A1 c1 M wx))
  case first =>
    go_wp2_with (fail)
    go_loopg [13] (P.length + 1) (fun kq v5 w' => ∃ (k : Nat) (L : List S82) (A1 : Option Addr) (c1 : Nat) (M : List (S42 × Int)), v5 = .int .i64 k ∧ Hid (kq + k = P.length + 1 ∧ k ≤ P.length ∧ k ≤ 40 ∧ RW w p g b lp k L A1 c1 M w'))
    case atStart =>
      exact ⟨0, [], none, 0, [], rfl, ⟨rfl, Nat.zero_le _, Nat.zero_le _, HST.out⟩⟩
    case round =>
      obtain ⟨k, L, A1, c1, M, rfl, HI⟩ := hrel
      by_cases hk : k < P.length ∧ k < 40
      · obtain ⟨hk1, hk2⟩ := hk
        obtain ⟨ad, A6, c6, A7, c7, eA, x0, x1, x2, x3, x4, x5, x6, x7, hg⟩ := at_T72 HP.out.1 (k : Int) (by omega) (by omega)
        simp only [Int.toNat_natCast] at x0 x1 x2 x3 x4 x5 x6 x7
        obtain ⟨x, ha⟩ : ∃ a, rd_T72 P (k : Int) = a := ⟨_, rfl⟩
        rw [ha] at x0 x1 x2 x3 x4 x5 x6 x7 hg
        have HS0 := Lib.hid (show L8 ad k x A6 c6 A7 c7 w from ⟨x0, x1, x2, x3, x4, x5, x6, x7⟩)
        have HG := Lib.hid hg
        have hl64 : wrap64 ((k : Int) + 1) = ((k + 1 : Nat) : Int) := by
          have h3 := HP.out.2
          rw [wrap_id (by omega) (by omega)]; rfl
        have Hw := Lib.hid hl64
        have HK := Lib.hid (And.intro hk1 hk2)
        have p1 : (0 ≤ (k : Int)) = True := eq_true (by omega)
        have q1 : ((k : Int) < (P.length : Int)) = True := eq_true (by omega)
        have q2 : ((k : Int) < 40) = True := eq_true (by omega)
        have hr8 := HS0.out.below HI.out.2.2.2.bl
        clear x0 x1 x2 x3 x4 x5 x6 x7
        obtain ⟨x0, x1, x2, x3, x4, x5, x6, x7⟩ := hr8
        subst eA
        have HSH := Lib.hid (show ∀ W, Below w.heap.size w W → Calls Try.prog 35 #[.agg #[.int .i64 x.f0, .int .i64 x.f1, .int .i64 x.f2, .int .i64 x.f3, .string x.f4, .int .i64 x.f5, .slice A6 x.f6.length c6, .slice A7 x.f7.length c7]] W fun e w' => e = .returned (.bool (shB x)) ∧ Below W.heap.size W w' from fun W hb => lombardlaw12_short.calls x.f0 x.f1 x.f2 x.f3 x.f4 x.f5 A6 c6 x.f6 A7 c7 x.f7 (shB x) W (Kd.C_below HG.out.2.1 hb) HG.out.1 (Kd.C_below HG.out.2.2.2 hb) HG.out.2.2.1 (cshort_f x))
        clear ha hg hl64 hk1 hk2
        obtain ⟨z, hz⟩ : ∃ z, shB x = z := ⟨_, rfl⟩
        rw [hz] at HSH
        have HZ := Lib.hid hz
        clear hz
        cases z with
        | false =>
          go_wp2_with (go_at_call 35; refine (HSH.out _ HI.out.2.2.2.bl).mono ?_; rintro e w3 ⟨rfl, H3⟩; replace H3 := Lib.hid H3)
          go_roundg (P.length - k)
          case measure => have := HI.out.1; have := HK.out; omega
          case rel =>
            exact ⟨k + 1, L, A1, c1, M, by rw [Hw.out], ⟨by have := HI.out.1; have := HK.out; omega, by have := HK.out; omega, by have := HK.out; omega, (HI.out.2.2.2.below H3.out).next⟩⟩
        | true =>
          have HZ2 := Lib.hid (show x.f6.length ≤ 40 ∧ x.f7.length ≤ 40 from of_decide_eq_true HZ.out)
          have HLe := Lib.hid (show L.length ≤ 100000 by have h1 := HI.out.2.2.2.len; have h2 := HK.out; omega)
          go_wp2_with (first
            | (go_at_call 36; refine (does_any (HI.out.2.2.2.below H3.out).dw HLe.out x A6 c6 A7 c7 HG.out.1 (Kd.C_below HG.out.2.1 (HI.out.2.2.2.below H3.out).bl) (Kd.C_below HG.out.2.2.2 (HI.out.2.2.2.below H3.out).bl) HZ2.out.1 HZ2.out.2).mono ?_; rintro e w4 ⟨rfl, H4⟩; obtain ⟨M4, A4, c4, y4, H4⟩ := RW.done (HI.out.2.2.2.below H3.out) x HZ2.out.1 HZ2.out.2 H4)
            | (go_at_call 35; refine (HSH.out _ HI.out.2.2.2.bl).mono ?_; rintro e w3 ⟨rfl, H3⟩; replace H3 := Lib.hid H3; obtain ⟨j0, j1, j2, j3, j4, j5, j6, j7⟩ := HS0.out.below (HI.out.2.2.2.below H3.out).bl))
          go_roundg (P.length - k)
          case measure => have := HI.out.1; have := HK.out; omega
          case rel =>
            exact ⟨k + 1, _, A4, c4, M4, by rw [Hw.out], ⟨by have := HI.out.1; have := HK.out; omega, by have := HK.out; omega, by have := HK.out; omega, H4.out⟩⟩
      · by_cases hk1 : k < P.length
        · have q1 : ((k : Int) < (P.length : Int)) = True := eq_true (by omega)
          have q2 : ((k : Int) < 40) = False := eq_false (by omega)
          clear hk hk1
          go_wp2_with (fail)
          go_meet
          case rel => exact ⟨k, L, A1, c1, M, ⟨HI.out.2.2.1, HI.out.2.2.2⟩⟩
        · have q1 : ((k : Int) < (P.length : Int)) = False := eq_false (by omega)
          clear hk hk1
          go_wp2_with (fail)
          go_meet
          case rel => exact ⟨k, L, A1, c1, M, ⟨HI.out.2.2.1, HI.out.2.2.2⟩⟩
  case rest =>
    obtain ⟨k, L, A1, c1, M, HI⟩ := hcut
    by_cases ht : T.length > 40
    · have t1 : ((T.length : Int) > 40) = True := eq_true (by omega)
      clear ht
      go_wp2_with (go_at_call 38; refine (cawake_walk _).mono ?_; rintro e w2 ⟨rfl, H2⟩; replace H2 := Lib.hid H2)
      go_ret
      exact ⟨rfl, HI.out.2.bl.trans (H2.out.mono HI.out.2.bl.size)⟩
    · have t1 : ((T.length : Int) > 40) = False := eq_false (by omega)
      have HT := Lib.hid ht
      clear ht
      obtain ⟨R, hR⟩ : ∃ R, cmR L (trX s y T tE cash) = R := ⟨_, rfl⟩
      have HR := Lib.hid hR
      have HE1 := Lib.hid (show R.2.2 ≠ 0 → R.1 = L from fun h => by have := once_fail HI.out.2.dw.iv.st s y T tE cash (by rw [hR]; exact h); rwa [hR] at this)
      have HE2 := Lib.hid (show R.2.2 ≠ 0 → R.2.1 ≤ (T.length : Int) from fun h => by have := once_few HI.out.2.dw.iv.st s y T tE cash (by rw [hR]; exact h); rwa [hR] at this)
      have HLL := Lib.hid (show L.length ≤ 1000000 by have := HI.out.2.len; have := HI.out.1; omega)
      have HCM := Lib.hid (show St (cmL M (trX s y T tE cash)).1 R.1 ∧ (cmL M (trX s y T tE cash)).2.1 = R.2.1 ∧ (cmL M (trX s y T tE cash)).2.2 = R.2.2 from by have := HI.out.2.dw.iv.st.cm (trX s y T tE cash); rwa [hR] at this)
      have HRL := Lib.hid (show R.1.length ≤ 1000000 by have := length_cmR L (trX s y T tE cash); rw [trX_length] at this; rw [← hR]; have := HI.out.2.len; have := HI.out.1; have := HT.out; omega)
      obtain ⟨⟨L', n, f⟩, hRe⟩ : ∃ r, R = r := ⟨_, rfl⟩
      subst hRe
      simp only at HE1 HE2 HCM HRL
      have HTR := Lib.hid (show ∀ W, DW p g b lp M L A1 c1 W → Below w.heap.size w W → Calls Try.prog 39 #[.pointer (some ⟨p, 0, none⟩), .int .i64 s, .int .i64 y, .slice B T.length d, .string ⟨#[69, 85, 82]⟩, .int .i64 cash] W fun e w' => e = .returned (.tuple #[.int .i64 n, .int .i64 f]) ∧ Hid (∃ M', CU w' p g b M' ∧ St M' L' ∧ W.grownBy w' (some b)) from fun W hd hb => by
        have := ctrade_any hd.cu hd.iv.st.bm (by rw [rep_length hd.iv.st.rep]; have := HLL.out; omega) s y cash tE B d T (Kd.C_below HL.out hb) (by have := HT.out; omega)
        rw [HCM.out.2.1, HCM.out.2.2] at this
        refine this.mono ?_
        rintro e w' ⟨he, H⟩
        exact ⟨he, ⟨_, H.out.1, HCM.out.1, H.out.2⟩⟩)
      clear hR
      by_cases hf : f = 0
      · subst hf
        by_cases hsy : s = y
        · have sy : (s == y) = true := by simpa using hsy
          have HSY := Lib.hid hsy
          have HSelf := Lib.hid (show L' = L from by
            have := once_self HI.out.2.dw.iv.st s T tE cash (by have h1 := HR.out; rw [← hsy] at h1; rw [h1])
            have h1 := HR.out
            rw [← hsy] at h1
            rwa [h1] at this)
          clear hsy
          go_wp2_with (first
            | (go_at_call 38; refine (cawake_walk _).mono ?_; rintro e w8 ⟨rfl, H8⟩; replace H8 := Lib.hid H8)
            | (go_at_call 21; refine (same_any A7 A5 c7 c5 L _ H7.out.1 H7.out.2.2 (Kd.C_below (C82_grown H5.out.1 H6.out.2.2.2 (HI.out.2.below H5.out.2.1).dw.cu.lg.map) H7.out.2.1) H5.out.2.2 HLL.out).mono ?_; rintro e w9 ⟨rfl, H9⟩; replace H9 := Lib.hid H9)
            | (go_at_call 37; have _h := H6.out; clear _h; refine (ctold_gives H6.out.1 (HSelf.out ▸ H6.out.2.1.rep) HLL.out).mono ?_; rintro e w7 ⟨A7, c7, rfl, H7⟩)
            | (go_at_call 39; refine (HTR.out _ (HI.out.2.below H5.out.2.1).dw (HI.out.2.below H5.out.2.1).bl).mono ?_; rintro e w6 ⟨rfl, H6⟩; obtain ⟨M6, h6⟩ := H6.out; clear H6; have H6 := Lib.hid (And.intro h6.1 (And.intro h6.2.1 (And.intro True.intro h6.2.2))); clear h6)
            | (go_at_call 37; refine (ctold_gives HI.out.2.dw.cu HI.out.2.dw.iv.st.rep HLL.out).mono ?_; rintro e w5 ⟨A5, c5, rfl, H5⟩))
          go_ret
          have b5 := (HI.out.2.below H5.out.2.1).bl
          have b6 := b5.grown H6.out.2.2.2 b5.size (by simp; exact HI.out.2.hb)
          have b7 := b6.trans (H7.out.2.1.mono b6.size)
          have b9 := b7.trans (H9.out.mono b7.size)
          exact ⟨rfl, b9.trans (H8.out.mono b9.size)⟩
        · have sy : (s == y) = false := by simpa using hsy
          have HSY := Lib.hid hsy
          clear hsy
          go_wp2_with (first
            | (go_at_call 39; refine (HTR.out _ (HI.out.2.below H5.out.2.1).dw (HI.out.2.below H5.out.2.1).bl).mono ?_; rintro e w6 ⟨rfl, H6⟩)
            | (go_at_call 37; refine (ctold_gives HI.out.2.dw.cu HI.out.2.dw.iv.st.rep HLL.out).mono ?_; rintro e w5 ⟨A5, c5, rfl, H5⟩))
          obtain ⟨M6, h6⟩ := H6.out
          have hb6 := ((HI.out.2.below H5.out.2.1).bl).grown h6.2.2 ((HI.out.2.below H5.out.2.1).bl).size (by simp; exact HI.out.2.hb)
          have hC6 := C82_grown H5.out.1 h6.2.2 (HI.out.2.below H5.out.2.1).dw.cu.lg.map
          obtain ⟨W9, hW9⟩ : ∃ W9, (w6.alloc (.cells #[.int .i64 s, .int .i64 1, .string ⟨#[69, 85, 82]⟩] 45)).alloc (.cells #[.int .i64 y, .int .i64 1, .string ⟨#[69, 85, 82]⟩] 45) = W9 := ⟨_, rfl⟩
          have hb9 : Below w6.heap.size w6 W9 := by rw [← hW9]; exact ((Below.refl _ _).alloc (Nat.le_refl _) _).alloc (by simp) _
          obtain ⟨G1, hG1⟩ : ∃ G, w6.heap.size = G := ⟨_, rfl⟩
          obtain ⟨G2, hG2⟩ : ∃ G, G1 + 1 = G := ⟨_, rfl⟩
          have hx2 : W9.heap[G2]? = some (.cells #[.int .i64 y, .int .i64 1, .string ⟨#[69, 85, 82]⟩] 45 (0, 0)) := by
            have := (Go.MapKept.heap_alloc (w6.alloc (.cells #[.int .i64 s, .int .i64 1, .string ⟨#[69, 85, 82]⟩] 45)) (.cells #[.int .i64 y, .int .i64 1, .string ⟨#[69, 85, 82]⟩] 45)).1
            rw [hW9] at this
            have e : (w6.alloc (.cells #[.int .i64 s, .int .i64 1, .string ⟨#[69, 85, 82]⟩] 45)).heap.size = G2 := by rw [← hG2, ← hG1]; simp
            rw [e] at this
            exact this
          have hx1 : W9.heap[G1]? = some (.cells #[.int .i64 s, .int .i64 1, .string ⟨#[69, 85, 82]⟩] 45 (0, 0)) := by
            have h1 := (Go.MapKept.heap_alloc w6 (.cells #[.int .i64 s, .int .i64 1, .string ⟨#[69, 85, 82]⟩] 45)).1
            have h2 := ((Below.refl (w6.alloc (.cells #[.int .i64 s, .int .i64 1, .string ⟨#[69, 85, 82]⟩] 45)).heap.size _).alloc (Nat.le_refl _) (.cells #[.int .i64 y, .int .i64 1, .string ⟨#[69, 85, 82]⟩] 45)).block w6.heap.size (by simp)
            rw [hW9] at h2
            rw [← hG1]
            exact h2.trans h1
          have HV := Lib.hid (And.intro (h6.1.below hb9) (And.intro h6.2.1 (And.intro (Kd.C_below hC6 hb9) (And.intro (hb6.trans (hb9.mono hb6.size)) (And.intro hx1 hx2)))))
          have HW9 := Lib.hid hW9
          have HG1 := Lib.hid hG1
          have HG2 := Lib.hid hG2
          clear h6 hb6 hC6 hb9 hx1 hx2 hW9 hG1 hG2
          rw [HW9.out, HG1.out, HG2.out]
          clear HW9 HG1 HG2
          go_loopg [19] (T.length + 1) (fun kq v19 w' => ∃ j : Nat, v19 = .int .i64 j ∧ w' = W9 ∧ Hid (kq + j = T.length + 1 ∧ j ≤ T.length ∧ ∀ x ∈ T.take j, x.f0 ≠ tE))
          case atStart =>
            exact ⟨0, rfl, rfl, ⟨rfl, Nat.zero_le _, fun x hx => by simp at hx⟩⟩
          case round =>
            obtain ⟨j, rfl, rfl, HJ⟩ := hrel
            by_cases hj : j < T.length
            · obtain ⟨ad, eA, x0, x1⟩ := at_T79 HL.out (j : Int) (by omega) (by omega)
              simp only [Int.toNat_natCast] at x0 x1
              have e1 : rd_T79 T (j : Int) = T[j] := by
                unfold rd_T79
                simp [List.getD, hj]
              rw [e1] at x0
              have htk : T.take (j + 1) = T.take j ++ [T[j]] := List.take_succ_eq_append_getElem hj
              obtain ⟨⟨a0, a1⟩, ha⟩ : ∃ a, T[j] = a := ⟨_, rfl⟩
              rw [ha] at x0 htk
              have x0' := cell_keep HV.out.2.2.2.1 x0
              have p1 : (0 ≤ (j : Int)) = True := eq_true (by omega)
              have q3 : ((j : Int) < (T.length : Int)) = True := eq_true (by omega)
              have hl64 : wrap64 ((j : Int) + 1) = ((j + 1 : Nat) : Int) := by
                rw [wrap_id (by omega) (by omega)]; rfl
              have Hw := Lib.hid hl64
              have HTK := Lib.hid htk
              have HJ2 := Lib.hid hj
              subst eA
              clear x0 x1 e1 ha hl64 htk hj
              by_cases he : a0 = tE
              · have e2 : (a0.toList == [69, 85, 82]) = true := by rw [he]; decide +kernel
                clear he
                go_wp2_with (go_at_call 38; refine (cawake_walk _).mono ?_; rintro e w8 ⟨rfl, H8⟩; replace H8 := Lib.hid H8)
                go_ret
                exact ⟨rfl, HV.out.2.2.2.1.trans (H8.out.mono HV.out.2.2.2.1.size)⟩
              · have HE := Lib.hid he
                have e2 : (a0.toList == [69, 85, 82]) = false := by
                  rw [beq_eq_false_iff_ne]
                  intro h
                  apply he
                  rw [← toList_iff, h]
                  decide +kernel
                clear he
                go_wp2_with (fail)
                go_roundg (T.length - j)
                case measure => have := HJ.out.1; have := HJ2.out; omega
                case rel =>
                  refine ⟨j + 1, by rw [Hw.out], rfl, ⟨by have := HJ.out.1; have := HJ2.out; omega, HJ2.out, fun z hz => ?_⟩⟩
                  rw [HTK.out] at hz
                  rcases List.mem_append.1 hz with hz | hz
                  · exact HJ.out.2.2 z hz
                  · obtain rfl := List.mem_singleton.1 hz
                    exact HE.out
            · have q3 : ((j : Int) < (T.length : Int)) = False := eq_false (by omega)
              have hT' : ∀ x ∈ T, x.f0 ≠ tE := fun x hx => HJ.out.2.2 x (by rw [List.take_of_length_le (by omega)]; exact hx)
              obtain ⟨z1, z2, z3⟩ := once_paid HI.out.2.dw.iv.st s y HSY.out T tE hT' cash (by rw [HR.out])
              rw [HR.out] at z1 z2 z3
              simp only at z1 z2 z3
              have hbm := HV.out.2.1.bm
              have b1 := hbm ⟨s, 1, tE⟩
              have b2 := hbm ⟨y, 1, tE⟩
              rw [HV.out.2.1.rep.same] at b1 b2
              obtain ⟨g1, hg1⟩ : ∃ g, gL L ⟨s, 1, tE⟩ = g := ⟨_, rfl⟩
              obtain ⟨g2, hg2⟩ : ∃ g, gL L ⟨y, 1, tE⟩ = g := ⟨_, rfl⟩
              obtain ⟨k1, hk1'⟩ : ∃ g, gL L' ⟨s, 1, tE⟩ = g := ⟨_, rfl⟩
              obtain ⟨k2, hk2'⟩ : ∃ g, gL L' ⟨y, 1, tE⟩ = g := ⟨_, rfl⟩
              rw [hg1, hk1'] at z2
              rw [hg2, hk2'] at z3
              rw [hk1'] at b1
              rw [hk2'] at b2
              have v1 : wrap64 (g1 + cash) = k1 := by rw [z2]; exact wrap_id (by omega) (by omega)
              have v1' : IntKind.i64.wrap (g1 + cash) = k1 := by rw [z2]; exact wrapK (by omega) (by omega)
              have v2 : wrap64 (g2 - cash) = k2 := by rw [z3]; exact wrap_id (by omega) (by omega)
              have v2' : IntKind.i64.wrap (g2 - cash) = k2 := by rw [z3]; exact wrapK (by omega) (by omega)
              have ht := HT.out
              have v3 : wrap64 ((T.length : Int) + 1) = n := by rw [z1]; exact wrap40' (Nat.not_lt.1 ht)
              have v3' : IntKind.i64.wrap ((T.length : Int) + 1) = n := by rw [z1]; exact wrap40 (Nat.not_lt.1 ht)

              have HST2 := Lib.hid HV.out.2.1.rep
              have HK12 := Lib.hid (And.intro hg1 (And.intro hg2 (And.intro hk1' hk2')))
              have HZ123 := Lib.hid (And.intro z1 (And.intro z2 z3))
              have HLr := Lib.hid (show L'.length ≤ 1000000 from HRL.out)
              clear hT' hbm b1 b2 hg1 hg2 hk1' hk2' z1 z2 z3 ht hj
              go_wp2_with (go_at_call 37; refine (ctold_gives HV.out.1 HST2.out HLr.out).mono ?_; rintro e w7 ⟨A7, c7, rfl, H7⟩)
              have hbl7 := HV.out.2.2.2.1.trans (H7.out.2.1.mono HV.out.2.2.2.1.size)
              have hx1 : w7.heap[G1]? = _ := (H7.out.2.1.block _ (Array.getElem?_eq_some_iff.1 HV.out.2.2.2.2.1).1).trans HV.out.2.2.2.2.1
              have hx2 : w7.heap[G2]? = _ := (H7.out.2.1.block _ (Array.getElem?_eq_some_iff.1 HV.out.2.2.2.2.2).1).trans HV.out.2.2.2.2.2
              have hS0 : w7.drew.cell? ⟨G1, 0, none⟩ = some (.int .i64 s) ∧ w7.drew.cell? ⟨G1, 1, none⟩ = some (.int .i64 1) ∧ w7.drew.cell? ⟨G1, 2, none⟩ = some (.string ⟨#[69, 85, 82]⟩) ∧ w7.drew.cell? ⟨G2, 0, none⟩ = some (.int .i64 y) ∧ w7.drew.cell? ⟨G2, 1, none⟩ = some (.int .i64 1) ∧ w7.drew.cell? ⟨G2, 2, none⟩ = some (.string ⟨#[69, 85, 82]⟩) ∧ Hid (Below w.heap.size w w7.drew ∧ Kd.C k82 w7.drew A7 L'.length L' ∧ Kd.C k82 w7.drew A5 L.length L) := ⟨cellA hx1 0, cellA hx1 1, cellA hx1 2, cellA hx2 0, cellA hx2 1, cellA hx2 2, ⟨hbl7.drew, Kd.C_below H7.out.1 ((Below.refl _ _).drew), Kd.C_below (Kd.C_below HV.out.2.2.1 H7.out.2.1) ((Below.refl _ _).drew)⟩⟩
              have hSH := hS0.2.2.2.2.2.2
              have HKEEP := Lib.hid (show ∀ W W', (W.cell? ⟨G1, 0, none⟩ = some (.int .i64 s) ∧ W.cell? ⟨G1, 1, none⟩ = some (.int .i64 1) ∧ W.cell? ⟨G1, 2, none⟩ = some (.string ⟨#[69, 85, 82]⟩) ∧ W.cell? ⟨G2, 0, none⟩ = some (.int .i64 y) ∧ W.cell? ⟨G2, 1, none⟩ = some (.int .i64 1) ∧ W.cell? ⟨G2, 2, none⟩ = some (.string ⟨#[69, 85, 82]⟩) ∧ Hid (Below w.heap.size w W ∧ Kd.C k82 W A7 L'.length L' ∧ Kd.C k82 W A5 L.length L)) → Below W.heap.size W W' → (W'.cell? ⟨G1, 0, none⟩ = some (.int .i64 s) ∧ W'.cell? ⟨G1, 1, none⟩ = some (.int .i64 1) ∧ W'.cell? ⟨G1, 2, none⟩ = some (.string ⟨#[69, 85, 82]⟩) ∧ W'.cell? ⟨G2, 0, none⟩ = some (.int .i64 y) ∧ W'.cell? ⟨G2, 1, none⟩ = some (.int .i64 1) ∧ W'.cell? ⟨G2, 2, none⟩ = some (.string ⟨#[69, 85, 82]⟩) ∧ Hid (Below w.heap.size w W' ∧ Kd.C k82 W' A7 L'.length L' ∧ Kd.C k82 W' A5 L.length L)) from fun W W' ⟨s0, s1, s2, s3, s4, s5, s6⟩ hb => ⟨cell_keep hb s0, cell_keep hb s1, cell_keep hb s2, cell_keep hb s3, cell_keep hb s4, cell_keep hb s5, ⟨s6.out.1.trans (hb.mono s6.out.1.size), Kd.C_below s6.out.2.1 hb, Kd.C_below s6.out.2.2 hb⟩⟩)
              have HGN := Lib.hid (show ∀ (W : World) (o v : Int), gL L' ⟨o, 1, tE⟩ = v → (W.cell? ⟨G1, 0, none⟩ = some (.int .i64 s) ∧ W.cell? ⟨G1, 1, none⟩ = some (.int .i64 1) ∧ W.cell? ⟨G1, 2, none⟩ = some (.string ⟨#[69, 85, 82]⟩) ∧ W.cell? ⟨G2, 0, none⟩ = some (.int .i64 y) ∧ W.cell? ⟨G2, 1, none⟩ = some (.int .i64 1) ∧ W.cell? ⟨G2, 2, none⟩ = some (.string ⟨#[69, 85, 82]⟩) ∧ Hid (Below w.heap.size w W ∧ Kd.C k82 W A7 L'.length L' ∧ Kd.C k82 W A5 L.length L)) → Calls Try.prog 27 #[.slice A7 L'.length c7, .agg #[.int .i64 o, .int .i64 1, .string ⟨#[69, 85, 82]⟩]] W fun e w' => e = .returned (.int .i64 v) ∧ (w'.cell? ⟨G1, 0, none⟩ = some (.int .i64 s) ∧ w'.cell? ⟨G1, 1, none⟩ = some (.int .i64 1) ∧ w'.cell? ⟨G1, 2, none⟩ = some (.string ⟨#[69, 85, 82]⟩) ∧ w'.cell? ⟨G2, 0, none⟩ = some (.int .i64 y) ∧ w'.cell? ⟨G2, 1, none⟩ = some (.int .i64 1) ∧ w'.cell? ⟨G2, 2, none⟩ = some (.string ⟨#[69, 85, 82]⟩) ∧ Hid (Below w.heap.size w w' ∧ Kd.C k82 w' A7 L'.length L' ∧ Kd.C k82 w' A5 L.length L)) from fun W o v hv hs => by
                have := get_any (L := L') (by have := HLr.out; omega) hs.2.2.2.2.2.2.out.2.1 H7.out.2.2 ⟨o, 1, tE⟩
                rw [show getL L' o 1 tE = v from hv] at this
                exact this.mono (fun e w' ⟨h1, h2⟩ => ⟨h1, HKEEP.out _ _ hs h2⟩))
              have HGW := Lib.hid (show ∀ (W : World) (o v : Int), gL L ⟨o, 1, tE⟩ = v → (W.cell? ⟨G1, 0, none⟩ = some (.int .i64 s) ∧ W.cell? ⟨G1, 1, none⟩ = some (.int .i64 1) ∧ W.cell? ⟨G1, 2, none⟩ = some (.string ⟨#[69, 85, 82]⟩) ∧ W.cell? ⟨G2, 0, none⟩ = some (.int .i64 y) ∧ W.cell? ⟨G2, 1, none⟩ = some (.int .i64 1) ∧ W.cell? ⟨G2, 2, none⟩ = some (.string ⟨#[69, 85, 82]⟩) ∧ Hid (Below w.heap.size w W ∧ Kd.C k82 W A7 L'.length L' ∧ Kd.C k82 W A5 L.length L)) → Calls Try.prog 27 #[.slice A5 L.length c5, .agg #[.int .i64 o, .int .i64 1, .string ⟨#[69, 85, 82]⟩]] W fun e w' => e = .returned (.int .i64 v) ∧ (w'.cell? ⟨G1, 0, none⟩ = some (.int .i64 s) ∧ w'.cell? ⟨G1, 1, none⟩ = some (.int .i64 1) ∧ w'.cell? ⟨G1, 2, none⟩ = some (.string ⟨#[69, 85, 82]⟩) ∧ w'.cell? ⟨G2, 0, none⟩ = some (.int .i64 y) ∧ w'.cell? ⟨G2, 1, none⟩ = some (.int .i64 1) ∧ w'.cell? ⟨G2, 2, none⟩ = some (.string ⟨#[69, 85, 82]⟩) ∧ Hid (Below w.heap.size w w' ∧ Kd.C k82 w' A7 L'.length L' ∧ Kd.C k82 w' A5 L.length L)) from fun W o v hv hs => by
                have := get_any (L := L) (by have := HLL.out; omega) hs.2.2.2.2.2.2.out.2.2 H5.out.2.2 ⟨o, 1, tE⟩
                rw [show getL L o 1 tE = v from hv] at this
                exact this.mono (fun e w' ⟨h1, h2⟩ => ⟨h1, HKEEP.out _ _ hs h2⟩))
              have HAW := Lib.hid (show ∀ (W : World), (W.cell? ⟨G1, 0, none⟩ = some (.int .i64 s) ∧ W.cell? ⟨G1, 1, none⟩ = some (.int .i64 1) ∧ W.cell? ⟨G1, 2, none⟩ = some (.string ⟨#[69, 85, 82]⟩) ∧ W.cell? ⟨G2, 0, none⟩ = some (.int .i64 y) ∧ W.cell? ⟨G2, 1, none⟩ = some (.int .i64 1) ∧ W.cell? ⟨G2, 2, none⟩ = some (.string ⟨#[69, 85, 82]⟩) ∧ Hid (Below w.heap.size w W ∧ Kd.C k82 W A7 L'.length L' ∧ Kd.C k82 W A5 L.length L)) → Calls Try.prog 38 #[] W fun e w' => e = .returned (.bool true) ∧ (w'.cell? ⟨G1, 0, none⟩ = some (.int .i64 s) ∧ w'.cell? ⟨G1, 1, none⟩ = some (.int .i64 1) ∧ w'.cell? ⟨G1, 2, none⟩ = some (.string ⟨#[69, 85, 82]⟩) ∧ w'.cell? ⟨G2, 0, none⟩ = some (.int .i64 y) ∧ w'.cell? ⟨G2, 1, none⟩ = some (.int .i64 1) ∧ w'.cell? ⟨G2, 2, none⟩ = some (.string ⟨#[69, 85, 82]⟩) ∧ Hid (Below w.heap.size w w' ∧ Kd.C k82 w' A7 L'.length L' ∧ Kd.C k82 w' A5 L.length L)) from fun W hs => (cawake_walk W).mono (fun e w' ⟨h1, h2⟩ => ⟨h1, HKEEP.out _ _ hs h2⟩))
              clear hbl7 hx1 hx2
              go_wp2_with (fail)
              go_region_held3 (fun w' => w'.cell? ⟨G1, 0, none⟩ = some (.int .i64 s) ∧ w'.cell? ⟨G1, 1, none⟩ = some (.int .i64 1) ∧ w'.cell? ⟨G1, 2, none⟩ = some (.string ⟨#[69, 85, 82]⟩) ∧ w'.cell? ⟨G2, 0, none⟩ = some (.int .i64 y) ∧ w'.cell? ⟨G2, 1, none⟩ = some (.int .i64 1) ∧ w'.cell? ⟨G2, 2, none⟩ = some (.string ⟨#[69, 85, 82]⟩) ∧ Hid (Below w.heap.size w w' ∧ Kd.C k82 w' A7 L'.length L' ∧ Kd.C k82 w' A5 L.length L))
                (first | assumption)
                (first
                  | (go_at_call_has 27 (Value.int IntKind.i64 s); go_at_call_has 27 (Value.slice A7 L'.length c7); refine (HGN.out _ s k1 HK12.out.2.2.1 (by first | assumption | exact ⟨by assumption, by assumption, by assumption, by assumption, by assumption, by assumption, by assumption⟩)).mono ?_; rintro o w8 ⟨rfl, kk⟩)
                  | (go_at_call_has 27 (Value.int IntKind.i64 s); go_at_call_has 27 (Value.slice A5 L.length c5); refine (HGW.out _ s g1 HK12.out.1 (by first | assumption | exact ⟨by assumption, by assumption, by assumption, by assumption, by assumption, by assumption, by assumption⟩)).mono ?_; rintro o w8 ⟨rfl, kk⟩)
                  | (go_at_call_has 27 (Value.int IntKind.i64 y); go_at_call_has 27 (Value.slice A7 L'.length c7); refine (HGN.out _ y k2 HK12.out.2.2.2 (by first | assumption | exact ⟨by assumption, by assumption, by assumption, by assumption, by assumption, by assumption, by assumption⟩)).mono ?_; rintro o w8 ⟨rfl, kk⟩)
                  | (go_at_call_has 27 (Value.int IntKind.i64 y); go_at_call_has 27 (Value.slice A5 L.length c5); refine (HGW.out _ y g2 HK12.out.2.1 (by first | assumption | exact ⟨by assumption, by assumption, by assumption, by assumption, by assumption, by assumption, by assumption⟩)).mono ?_; rintro o w8 ⟨rfl, kk⟩)
                  | (go_at_call 38; refine (HAW.out _ (by first | assumption | exact ⟨by assumption, by assumption, by assumption, by assumption, by assumption, by assumption, by assumption⟩)).mono ?_; rintro o w8 ⟨rfl, kk⟩))
              go_wp2
              go_ret
              exact ⟨rfl, kk.2.2.2.2.2.2.out.1⟩
      · have f1 : (f != 0) = true := by simpa using hf
        have HF := Lib.hid hf
        have nq : (n ≤ (T.length : Int)) = True := eq_true (HE2.out hf)
        clear hf
        go_wp2_with (first
          | (go_at_call 38; refine (cawake_walk _).mono ?_; rintro e w8 ⟨rfl, H8⟩; replace H8 := Lib.hid H8)
          | (go_at_call 21; refine (same_any A7 A5 c7 c5 L _ H7.out.1 H7.out.2.2 (Kd.C_below (C82_grown H5.out.1 H6.out.2.2.2 (HI.out.2.below H5.out.2.1).dw.cu.lg.map) H7.out.2.1) H5.out.2.2 HLL.out).mono ?_; rintro e w9 ⟨rfl, H9⟩; replace H9 := Lib.hid H9)
          | (go_at_call 37; have _h := H6.out; clear _h; refine (ctold_gives H6.out.1 (HE1.out HF.out ▸ H6.out.2.1.rep) HLL.out).mono ?_; rintro e w7 ⟨A7, c7, rfl, H7⟩)
          | (go_at_call 39; refine (HTR.out _ (HI.out.2.below H5.out.2.1).dw (HI.out.2.below H5.out.2.1).bl).mono ?_; rintro e w6 ⟨rfl, H6⟩; obtain ⟨M6, h6⟩ := H6.out; clear H6; have H6 := Lib.hid (And.intro h6.1 (And.intro h6.2.1 (And.intro True.intro h6.2.2))); clear h6)
          | (go_at_call 37; refine (ctold_gives HI.out.2.dw.cu HI.out.2.dw.iv.st.rep HLL.out).mono ?_; rintro e w5 ⟨A5, c5, rfl, H5⟩))
        go_ret
        have b5 := (HI.out.2.below H5.out.2.1).bl
        have b6 := b5.grown H6.out.2.2.2 b5.size (by simp; exact HI.out.2.hb)
        have b7 := b6.trans (H7.out.2.1.mono b6.size)
        have b9 := b7.trans (H9.out.mono b7.size)
        exact ⟨rfl, b9.trans (H8.out.mono b9.size)⟩
theorem once_row (A : Option Addr) (c : Nat) (P : List S72) (s y : Int) (B : Option Addr) (d : Nat) (T : List S79) (cash : Int) (w : World) (hr : Kd.C k72 w A P.length P) (_ : P.length ≤ c) (hT : Kd.C k79 w B T.length T) (_ : T.length ≤ d) :
    Calls Try.prog 9 #[.slice A P.length c, .int .i64 s, .int .i64 y, .slice B T.length d, .int .i64 cash] w fun e w' => e = .returned (.bool true) ∧ Below w.heap.size w w' := once_walk A c P s y B d T cash w hr (C_len hr) hT
end Go.Proofs.Ytoknlpecbdlbfaa.PL

-- CustodyNobody, walked (lists of at most two million).
namespace Go.Proofs.Ytoknlpecbdlbfaa.PL
open Go Go.RowKit Go.Maps Go.Sort Go.Shelf Go.Proofs Go.Proofs.YtoknlpecbdlbfaaW.PrintWords Go.Proofs.YtoknlpecbdlbfaaW.PrintLast
theorem A8.cells {W : World} {k : Nat} {v0 v1 v2 v3 v4 v5 v6 v7 : Value} (h : A8 W k #[v0, v1, v2, v3, v4, v5, v6, v7]) : W.cell? ⟨k, 1, none⟩ = some v1 ∧ W.cell? ⟨k, 2, none⟩ = some v2 ∧ W.cell? ⟨k, 3, none⟩ = some v3 ∧ W.cell? ⟨k, 4, none⟩ = some v4 ∧ W.cell? ⟨k, 5, none⟩ = some v5 ∧ W.cell? ⟨k, 6, none⟩ = some v6 ∧ W.cell? ⟨k, 7, none⟩ = some v7 := by
  have hb := h.blk
  refine ⟨?_, ?_, ?_, ?_, ?_, ?_, ?_⟩ <;> (unfold World.cell?; rw [hb]; rfl)
end Go.Proofs.Ytoknlpecbdlbfaa.PL

-- An act that comes in, and how long its lists are.
namespace Go.Proofs.Ytoknlpecbdlbfaa.PL
open Go Go.RowKit Go.ChangeShapes Go.WideShapes Go.Deep Go.Proofs Go.Proofs.YtoknlpecbdlbfaaW.PrintWords Go.Proofs.YtoknlpecbdlbfaaW.PrintLast
theorem one_le {H : Type} (d : DataW H) : 1 ≤ Rows.uptoBulk d := by
  cases d with
  | lit l => cases l <;> simp [Rows.uptoBulk]
  | nil => simp [Rows.uptoBulk]
  | ptr d => simp [Rows.uptoBulk]
  | slice elems spare => simp [Rows.uptoBulk]
  | agg parts => simp [Rows.uptoBulk]
  | iface t d => simp [Rows.uptoBulk]
  | map entries => simp [Rows.uptoBulk]
  | held h => simp [Rows.uptoBulk]
theorem length_le {H : Type} (l : List (DataW H)) : l.length ≤ Rows.uptoBulkAll l := by
  induction l with
  | nil => simp [Rows.uptoBulkAll]
  | cons x r ih => have := one_le x; simp only [Rows.uptoBulkAll, List.length_cons]; omega
theorem slice_le {H : Type} (elems spare : List (DataW H)) : elems.length ≤ Rows.uptoBulk (.slice elems spare) := by
  have h1 := length_le elems
  simp only [Rows.uptoBulk]
  omega
/-- Whatever cells are read at the type t are those of some x of the kind d, no longer than the datum's bulk. -/
def OpensB {α : Type} (d : Kd α) (t : TypeId) (β : α → Nat) : Prop :=
  ∀ {H : Type} (enc : TypeId × Value → H) (w : World) (base : Nat) (spare : Nat → Bool) (held : Bool) (n : Nat) (cs : List Value) (y : DataW H × List MemPlace), DataW.trod enc Try.prog w base spare held n t cs = some y → ∃ x : α, d.K w x cs ∧ β x ≤ Rows.uptoBulk y.1
theorem opensB_slice {α : Type} {d : Kd α} {t e : TypeId} (ht : Try.prog.underlying t = some (.slice e)) (hc : Try.prog.cellsOf e = d.sz) (h : OpensB d e (fun _ => 0)) : OpensB (Kd.slice e d) t List.length := by
  intro H enc w base spare held n cs y hy
  rcases open_slice ht hy with ⟨rfl, _⟩ | ⟨a, len, cap, m, n', D, Pl, rfl, hb, hl, hm, hmm, rfl, hi⟩
  · exact ⟨[], ⟨none, 0, rfl, Nat.le_refl _, rfl, by simp, fun h => absurd h (by simp)⟩, by simp⟩
  · have hlm : len ≤ m := by rw [hmm]; split <;> omega
    have hx : ∀ i : Fin len, ∃ x cs', w.cells? base (a.add (i.1 * Try.prog.cellsOf e)) (Try.prog.cellsOf e) = some cs' ∧ d.K w x cs' := by
      intro i
      obtain ⟨cs', h1, h2⟩ := hi i.1 (by have := i.2; omega)
      obtain ⟨x, h3, _⟩ := h enc w base spare held _ _ _ h2
      exact ⟨x, cs', h1, h3⟩
    obtain ⟨f, hf⟩ := Classical.axiomOfChoice hx
    refine ⟨List.ofFn f, ⟨some a, cap, by simp, by simpa using hl, by simp, by simp; unfold maxLen at hm; omega, fun _ => ⟨a, rfl, fun j p hj => ?_⟩⟩, ?_⟩
    · have hjl : j < len := by
        have := (List.getElem?_eq_some_iff.1 hj).1
        simpa using this
      obtain ⟨cs', h1, h2⟩ := hf ⟨j, hjl⟩
      have hp : p = f ⟨j, hjl⟩ := by
        have := (List.getElem?_eq_some_iff.1 hj).2
        simpa using this.symm
      subst hp
      obtain ⟨_, hcl, hat⟩ := World.cells?_some h1
      refine ⟨cs', by rw [hcl, hc], h2, fun i u hu => ?_⟩
      have hil : i < cs'.length := (List.getElem?_eq_some_iff.1 hu).1
      have h3 := hat i (by omega)
      rw [hu] at h3
      rw [← hc, ← Go.Deep.add_add]
      exact h3
    · have h9 := slice_le ((List.range len).map D) ((List.range (m - len)).map fun j => D (len + j))
      rw [List.length_map, List.length_range] at h9
      rw [List.length_ofFn]
      exact h9
theorem cells79' : Try.prog.cellsOf 79 = 2 := by kernel_rfl
theorem cells131' : Try.prog.cellsOf 131 = 6 := by kernel_rfl
theorem cells72' : Try.prog.cellsOf 72 = 8 := by kernel_rfl
theorem cells69' : Try.prog.cellsOf 69 = 1 := by kernel_rfl
theorem cells70' : Try.prog.cellsOf 70 = 1 := by kernel_rfl
theorem at_part {H : Type} {xs : List (DataW H × List MemPlace)} {k j : Nat} (h : xs.length = k) (hj : j < k) : ∃ y0, xs[j]? = some y0 := ⟨xs[j]'(by omega), List.getElem?_eq_getElem _⟩
theorem opens79 : OpensB k79 79 (fun _ => 0) := by
  intro H enc w base spare held n cs y hy
  obtain ⟨xs, n', _, rfl, hlen, hxl, hf⟩ := DataW.trod_struct Try.underlying79 hy
  obtain ⟨y0, e0⟩ := at_part (j := 0) hxl (by simp)
  obtain ⟨y1, e1⟩ := at_part (j := 1) hxl (by simp)
  obtain ⟨a0, h0, _⟩ := DataW.trod_string Try.underlying9 ((hf 0 _ rfl).trans e0)
  obtain ⟨a1, h1, _⟩ := DataW.trod_int Try.underlying3 ((hf 1 _ rfl).trans e1)
  rw [cells79'] at hlen
  replace h0 : (cs.drop 0).take (Try.prog.cellsOf 9) = _ := h0
  replace h1 : (cs.drop 1).take (Try.prog.cellsOf 3) = _ := h1
  rw [cells9'] at h0
  rw [cells3'] at h1
  refine ⟨⟨a0, a1⟩, ?_, Nat.zero_le _⟩
  have : cs = [.string a0, .int .i64 a1] := by
    clear hf hy hxl e0 e1
    match cs, hlen with
    | [c0, c1], _ =>
      simp at h0 h1
      simp [h0, h1]
  rw [this]
  exact k79_mk w ⟨a0, a1⟩
theorem opens131 : OpensB k131 131 (fun _ => 0) := by
  intro H enc w base spare held n cs y hy
  obtain ⟨xs, n', _, rfl, hlen, hxl, hf⟩ := DataW.trod_struct Try.underlying131 hy
  obtain ⟨y0, e0⟩ := at_part (j := 0) hxl (by simp)
  obtain ⟨y1, e1⟩ := at_part (j := 1) hxl (by simp)
  obtain ⟨y2, e2⟩ := at_part (j := 2) hxl (by simp)
  obtain ⟨y3, e3⟩ := at_part (j := 3) hxl (by simp)
  obtain ⟨y4, e4⟩ := at_part (j := 4) hxl (by simp)
  obtain ⟨y5, e5⟩ := at_part (j := 5) hxl (by simp)
  obtain ⟨a0, h0, _⟩ := DataW.trod_int Try.underlying3 ((hf 0 _ rfl).trans e0)
  obtain ⟨a1, h1, _⟩ := DataW.trod_int Try.underlying3 ((hf 1 _ rfl).trans e1)
  obtain ⟨a2, h2, _⟩ := DataW.trod_int Try.underlying3 ((hf 2 _ rfl).trans e2)
  obtain ⟨a3, h3, _⟩ := DataW.trod_int Try.underlying3 ((hf 3 _ rfl).trans e3)
  obtain ⟨a4, h4, _⟩ := DataW.trod_string Try.underlying9 ((hf 4 _ rfl).trans e4)
  obtain ⟨a5, h5, _⟩ := DataW.trod_int Try.underlying3 ((hf 5 _ rfl).trans e5)
  rw [cells131'] at hlen
  replace h0 : (cs.drop 0).take (Try.prog.cellsOf 3) = _ := h0
  replace h1 : (cs.drop 1).take (Try.prog.cellsOf 3) = _ := h1
  replace h2 : (cs.drop 2).take (Try.prog.cellsOf 3) = _ := h2
  replace h3 : (cs.drop 3).take (Try.prog.cellsOf 3) = _ := h3
  replace h4 : (cs.drop 4).take (Try.prog.cellsOf 9) = _ := h4
  replace h5 : (cs.drop 5).take (Try.prog.cellsOf 3) = _ := h5
  rw [cells3'] at h0 h1 h2 h3 h5
  rw [cells9'] at h4
  refine ⟨⟨a0, a1, a2, a3, a4, a5⟩, ?_, Nat.zero_le _⟩
  have : cs = [.int .i64 a0, .int .i64 a1, .int .i64 a2, .int .i64 a3, .string a4, .int .i64 a5] := by
    clear hf hy hxl e0 e1 e2 e3 e4 e5
    match cs, hlen with
    | [c0, c1, c2, c3, c4, c5], _ =>
      simp at h0 h1 h2 h3 h4 h5
      simp [h0, h1, h2, h3, h4, h5]
  rw [this]
  exact k131_mk w ⟨a0, a1, a2, a3, a4, a5⟩
theorem opens69 : OpensB (Kd.slice 131 k131) 69 List.length := opensB_slice Try.underlying69 cells131' opens131
theorem opens70 : OpensB (Kd.slice 79 k79) 70 List.length := opensB_slice Try.underlying70 cells79' opens79
end Go.Proofs.Ytoknlpecbdlbfaa.PL

/- Acts that come in. -/
namespace Go.Proofs.Ytoknlpecbdlbfaa.PL
open Go Go.RowKit Go.ChangeShapes Go.WideShapes Go.Deep Go.Proofs Go.Proofs.YtoknlpecbdlbfaaW.PrintWords Go.Proofs.YtoknlpecbdlbfaaW.PrintLast
set_option maxRecDepth 100000 in
theorem opens72 : OpensB k72 72 (fun _ => 0) := by
  intro H enc w base spare held n cs y hy
  obtain ⟨xs, n', _, rfl, hlen, hxl, hf⟩ := DataW.trod_struct Try.underlying72 hy
  obtain ⟨y0, e0⟩ := at_part (j := 0) hxl (by simp)
  obtain ⟨y1, e1⟩ := at_part (j := 1) hxl (by simp)
  obtain ⟨y2, e2⟩ := at_part (j := 2) hxl (by simp)
  obtain ⟨y3, e3⟩ := at_part (j := 3) hxl (by simp)
  obtain ⟨y4, e4⟩ := at_part (j := 4) hxl (by simp)
  obtain ⟨y5, e5⟩ := at_part (j := 5) hxl (by simp)
  obtain ⟨y6, e6⟩ := at_part (j := 6) hxl (by simp)
  obtain ⟨y7, e7⟩ := at_part (j := 7) hxl (by simp)
  obtain ⟨a0, h0, _⟩ := DataW.trod_int Try.underlying3 ((hf 0 _ rfl).trans e0)
  obtain ⟨a1, h1, _⟩ := DataW.trod_int Try.underlying3 ((hf 1 _ rfl).trans e1)
  obtain ⟨a2, h2, _⟩ := DataW.trod_int Try.underlying3 ((hf 2 _ rfl).trans e2)
  obtain ⟨a3, h3, _⟩ := DataW.trod_int Try.underlying3 ((hf 3 _ rfl).trans e3)
  obtain ⟨a4, h4, _⟩ := DataW.trod_string Try.underlying9 ((hf 4 _ rfl).trans e4)
  obtain ⟨a5, h5, _⟩ := DataW.trod_int Try.underlying3 ((hf 5 _ rfl).trans e5)
  obtain ⟨X, ⟨A, c, h6, l6, C6⟩, _⟩ := opens69 _ _ _ _ _ _ _ _ ((hf 6 _ rfl).trans e6)
  obtain ⟨T, ⟨B, d, h7, l7, C7⟩, _⟩ := opens70 _ _ _ _ _ _ _ _ ((hf 7 _ rfl).trans e7)
  rw [cells72'] at hlen
  replace h0 : (cs.drop 0).take (Try.prog.cellsOf 3) = _ := h0
  replace h1 : (cs.drop 1).take (Try.prog.cellsOf 3) = _ := h1
  replace h2 : (cs.drop 2).take (Try.prog.cellsOf 3) = _ := h2
  replace h3 : (cs.drop 3).take (Try.prog.cellsOf 3) = _ := h3
  replace h4 : (cs.drop 4).take (Try.prog.cellsOf 9) = _ := h4
  replace h5 : (cs.drop 5).take (Try.prog.cellsOf 3) = _ := h5
  replace h6 : (cs.drop 6).take (Try.prog.cellsOf 69) = _ := h6
  replace h7 : (cs.drop 7).take (Try.prog.cellsOf 70) = _ := h7
  rw [cells3'] at h0 h1 h2 h3 h5
  rw [cells9'] at h4
  rw [cells69'] at h6
  rw [cells70'] at h7
  refine ⟨⟨a0, a1, a2, a3, a4, a5, X, T⟩, ?_, Nat.zero_le _⟩
  have : cs = [.int .i64 a0, .int .i64 a1, .int .i64 a2, .int .i64 a3, .string a4, .int .i64 a5, .slice A X.length c, .slice B T.length d] := by
    clear hf hxl e0 e1 e2 e3 e4 e5 e6 e7 C6 C7 hy l6 l7
    match cs, hlen with
    | [v0, v1, v2, v3, v4, v5, v6, v7], _ =>
      simp at h0 h1 h2 h3 h4 h5 h6 h7
      simp [h0, h1, h2, h3, h4, h5, h6, h7]
  rw [this]
  exact k72_mk (w := w) ⟨a0, a1, a2, a3, a4, a5, X, T⟩ l6 C6 l7 C7
theorem opens65 : OpensB (Kd.slice 72 k72) 65 List.length := opensB_slice Try.underlying65 cells72' opens72
/-- A slice that comes in, as a row. -/
theorem openedB {α : Type} {d : Kd α} {t e : TypeId} (h : OpensB (Kd.slice e d) t List.length) {H : Type} {enc : TypeId × Value → H} {w : World} {base : Nat} {spare : Nat → Bool} {held : Bool} {a : Option Addr} {len cap : Nat} {y : DataW H} {p : List MemPlace}
    (hy : DataW.Trod enc Try.prog w base spare held t (.slice a len cap) y p) : ∃ xs : List α, len = xs.length ∧ xs.length ≤ cap ∧ Kd.C d w a xs.length xs := by
  obtain ⟨fuel, hf⟩ := hy
  obtain ⟨x, ⟨A, c, he, hl, hC⟩, _⟩ := h enc w base spare held fuel _ _ hf
  simp [Value.cells] at he
  obtain ⟨rfl, rfl, rfl⟩ := he
  exact ⟨x, rfl, hl, hC⟩
end Go.Proofs.Ytoknlpecbdlbfaa.PL

namespace Go.Proofs.Ytoknlpecbdlbfaa.custodyOnce
open Go Go.RowKit Go.ChangeShapes Go.WideShapes Go.ChangeAt Go.Proofs
open Go.ChangeMaps (open_string shut_string)
set_option linter.unusedVariables false
theorem own : ownKnob Try.prog.godebug = none := by kernel_rfl
set_option maxRecDepth 100000 in
theorem lifted (os : Os) (started : os.Started) (H : Type) (enc : TypeId × Value → H) :
    ReturnsInHanded {} Try.checked os 9 .any (Rows.custodyOnceSpec.pre6 enc Try.prog Try.f9 Rows.custodyOnceRow.domain false) (Rows.custodyOnceSpec.post enc Try.prog Try.f9 false true false false) := by
  refine returnsInHanded_of_change_sized (C := Try.checked) own started (by kernel_rfl) Try.func9
    (ChangeSpec.witness6 (enc := enc) (C := Try.checked) false ⟨#[], #[.slice none 0 0, .int .i64 0, .int .i64 0, .slice none 0 0, .int .i64 0], []⟩ 8 (by kernel_rfl) (by kernel_rfl) (by kernel_rfl) (by kernel_rfl)) ?_
  intro W base args ds gs before hval0 hW hcnd hsz0 _
  have hsz : (DataW.weightsEach Try.prog (Try.f9.params.toList ++ Rows.custodyOnceSpec.plain.varTypes Try.prog) (ds ++ gs)).all (· ≤ reachBytes) = true := hsz0
  have hval : ∀ (j : Nat) t v, Try.f9.params[j]? = some t → args[j]? = some v → Value.okWide Try.prog W .any base t v := hval0
  have hW' := hW
  obtain ⟨p, q, hA0, hV, rfl, hfz, hnd⟩ := hW
  have hA : DataW.TrodAll enc Try.prog W 0 (fun _ => true) true Try.f9.params.toList args.toList ds p := hA0
  rw [Try.params9] at hA hval hsz
  obtain ⟨v0, vs0, d0, ds0, p0, q0, hargs, rfl, rfl, h0, r0⟩ := trodAll_cons hA
  obtain ⟨v1, vs1, d1, ds1, p1, q1, rfl, rfl, rfl, h1, r1⟩ := trodAll_cons r0
  obtain ⟨v2, vs2, d2, ds2, p2, q2, rfl, rfl, rfl, h2, r2⟩ := trodAll_cons r1
  obtain ⟨v3, vs3, d3, ds3, p3, q3, rfl, rfl, rfl, h3, r3⟩ := trodAll_cons r2
  obtain ⟨v4, vs4, d4, ds4, p4, q4, rfl, rfl, rfl, h4, r4⟩ := trodAll_cons r3
  obtain ⟨rfl, rfl, rfl⟩ := trodAll_nil r4
  obtain rfl : args = #[v0, v1, v2, v3, v4] := by cases args; simp_all
  obtain ⟨rfl, rfl⟩ := trodVars_none hV
  have k0 := h0
  have lt0 : ∀ x ∈ p0, x.block < W.heap.size := by obtain ⟨m, hm⟩ := k0; exact DataW.trod_lt m _ _ _ hm
  have sm0 : PL.Small 65 d0 := PL.small_arg hsz (j := 0) rfl rfl
  obtain ⟨a0, len0, cap0, rfl⟩ := okWide_slice Try.underlying65 (hval 0 65 v0 rfl rfl)
  obtain ⟨x0, rfl, hc0, hC0⟩ := PL.openedB PL.opens65 h0
  have k1 := h1
  have lt1 : ∀ x ∈ p1, x.block < W.heap.size := by obtain ⟨m, hm⟩ := k1; exact DataW.trod_lt m _ _ _ hm
  have sm1 : PL.Small 3 d1 := PL.small_arg hsz (j := 1) rfl rfl
  obtain ⟨x1, rfl, rfl, rfl, w1⟩ := open_int Try.underlying3 (hval 1 3 v1 rfl rfl) h1
  have k2 := h2
  have lt2 : ∀ x ∈ p2, x.block < W.heap.size := by obtain ⟨m, hm⟩ := k2; exact DataW.trod_lt m _ _ _ hm
  have sm2 : PL.Small 3 d2 := PL.small_arg hsz (j := 2) rfl rfl
  obtain ⟨x2, rfl, rfl, rfl, w2⟩ := open_int Try.underlying3 (hval 2 3 v2 rfl rfl) h2
  have k3 := h3
  have lt3 : ∀ x ∈ p3, x.block < W.heap.size := by obtain ⟨m, hm⟩ := k3; exact DataW.trod_lt m _ _ _ hm
  have sm3 : PL.Small 70 d3 := PL.small_arg hsz (j := 3) rfl rfl
  obtain ⟨a3, len3, cap3, rfl⟩ := okWide_slice Try.underlying70 (hval 3 70 v3 rfl rfl)
  obtain ⟨x3, rfl, hc3, hC3⟩ := PL.openedB PL.opens70 h3
  have k4 := h4
  have lt4 : ∀ x ∈ p4, x.block < W.heap.size := by obtain ⟨m, hm⟩ := k4; exact DataW.trod_lt m _ _ _ hm
  have sm4 : PL.Small 3 d4 := PL.small_arg hsz (j := 4) rfl rfl
  obtain ⟨x4, rfl, rfl, rfl, w4⟩ := open_int Try.underlying3 (hval 4 3 v4 rfl rfl) h4
  clear hA0 hval0 hsz0 hsz
  refine (PL.once_row a0 cap0 x0 x1 x2 a3 cap3 x3 x4 W hC0 hc0   hC3 hc3 ).mono fun e W' ⟨he, bel⟩ => ?_
  subst he
  exact ⟨_, rfl, _, _, _, [], _, [], hW', trodAll_mk1 (shut_bool Try.underlying4 _), (trodAll_cons_mk (Below.trod PL.laidOut (by kernel_rfl) (of_decide_eq_true (by kernel_rfl)) k0 bel lt0) (trodAll_cons_mk (Below.trod PL.laidOut (by kernel_rfl) (of_decide_eq_true (by kernel_rfl)) k1 bel lt1) (trodAll_cons_mk (Below.trod PL.laidOut (by kernel_rfl) (of_decide_eq_true (by kernel_rfl)) k2 bel lt2) (trodAll_cons_mk (Below.trod PL.laidOut (by kernel_rfl) (of_decide_eq_true (by kernel_rfl)) k3 bel lt3) (trodAll_cons_mk (Below.trod PL.laidOut (by kernel_rfl) (of_decide_eq_true (by kernel_rfl)) k4 bel lt4) trodAll_mk0))))), rfl, bel.frame _, fun h => by cases h⟩
theorem over : Rows.custodyOnceRow.holds Try.pinned (OpenSpec.ofChange Rows.custodyOnceSpec) :=
  OpenClaim.holds_of_wide 9 Try.f9 rfl rfl rfl rfl rfl rfl rfl ⟨rfl, rfl, rfl, rfl, rfl⟩ rfl rfl rfl rfl rfl (by kernel_rfl) Try.func9 (by kernel_rfl)
    (of_decide_eq_true (by kernel_rfl)) (by unfold Func.isWrapper; first | (rw [if_pos (by decide +kernel)]; kernel_rfl) | (rw [if_neg (by decide +kernel)]; exact ⟨rfl, rfl⟩))
    (fun os started H enc _ => lifted os started H enc)
theorem proved : Rows.CustodyOnceSaid := over
end Go.Proofs.Ytoknlpecbdlbfaa.custodyOnce
namespace Go.Proofs.Ytoknlpecbdlbfaa
/-- The row, under a short name, for the claim. -/
theorem custodyOnce_holds : Rows.CustodyOnceSaid := custodyOnce.proved
end Go.Proofs.Ytoknlpecbdlbfaa
