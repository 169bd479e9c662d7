/- Part 34 of the proof's texts: what the theorem needs of them. -/
import Derived.Test.YtoknlpecbdlbfaaSCOf33
import Derived.Test.YtoknlpecbdlbfaaSCOf31
import Derived.Test.YtoknlpecbdlbfaaSCOf15
import Derived.WalkKit
import Derived.ProofKit
import Derived.Test.YtoknlpecbdlbfaaSCOf32
import Derived.Test.YtoknlpecbdlbfaaSCOf24

-- ledger.Of, walked.
namespace Go.Proofs.Ytoknlpecbdlbfaa.PL
open Go Go.RowKit Go.Maps Go.Sort Go.Shelf Go.Proofs Go.Proofs.YtoknlpecbdlbfaaW.PrintWords Go.Proofs.YtoknlpecbdlbfaaW.PrintLast
theorem good_any (a : S42) (w : World) : Calls Try.prog 70 #[.agg #[.int .i64 a.f0, .int .i64 a.f1, .string a.f2]] w fun e w' => e = .returned (.int .i64 (goodI a)) ∧ Below w.heap.size w w' :=
  ledger_good.calls 1 a.f0 a.f1 a.f2 _ w (good_f a 0)
theorem order_any (a b : S42) (w : World) : Calls Try.prog 63 #[.agg #[.int .i64 a.f0, .int .i64 a.f1, .string a.f2], .agg #[.int .i64 b.f0, .int .i64 b.f1, .string b.f2]] w fun e w' => e = .returned (.int .i64 (ordI a b)) ∧ Below w.heap.size w w' :=
  (order_walk a.f0 a.f1 a.f2 b.f0 b.f1 b.f2 w).mono (fun _ _ ⟨e, hw⟩ => ⟨e, by
    rw [hw]
    exact ((((Below.refl _ _).alloc (Nat.le_refl _) _).alloc (by simp) _).drew).alloc (by simp; omega) _⟩)
/-- What Of hands back. -/
def OfPost (L : List S82) (w : World) (e : Ending) (w' : World) : Prop := ∃ p, e = .returned (.tuple #[p, .int .i64 (ofR L)]) ∧ Below w.heap.size w w' ∧ ((ofR L ≠ 0 ∧ p = .pointer none) ∨ (ofR L = 0 ∧ ∃ (g b : Nat) (M : List (S42 × Int)), p = .pointer (some ⟨g, 0, none⟩) ∧ LG w' g b M ∧ Rep M L ∧ w.heap.size ≤ b))
theorem OfPost.bad {L : List S82} {w w' : World} {v : Int} (h : ofP none L = v) (hv : v ≠ 0) (hb : Below w.heap.size w w') : OfPost L w (.returned (.tuple #[.pointer none, .int .i64 v])) w' := by
  have e : ofR L = v := by unfold ofR; rw [h, if_pos hv]
  exact ⟨_, by rw [e], hb, .inl ⟨by rw [e]; exact hv, rfl⟩⟩
set_option maxRecDepth 100000 in
set_option maxHeartbeats 4000000 in
theorem of_walk (A : Option Addr) (c : Nat) (L : List S82) (w : World) (hC : Kd.C k82 w A L.length L) (hc : L.length ≤ c) (hL : L.length ≤ 100) :
    Calls Try.prog 40 #[.slice A L.length c] w (OfPost L w) := by
  have HC := Lib.hid (And.intro hC hc)
  have HL := Lib.hid hL
  clear hC hc hL
  go_enter Try.func40, Try.ntmps40
  go_wp2_with (go_at_call 17; refine (new_any _).mono ?_; rintro e w1 ⟨rfl, H1⟩; replace H1 := Lib.hid H1)
  go_loopg [5, 6, 7, 13] (L.length + 1) (fun kq v5 v6 v7 v13 w' => ∃ i : Nat, v13 = .int .i64 i ∧ Hid (kq + i = L.length + 1 ∧ i ≤ L.length ∧ LG w' (w.heap.size + 1) w.heap.size (storeF [] (L.take i)) ∧ Below w.heap.size w w' ∧ ofP none L = ofP (prevO L i) (L.drop i)))
  case atStart =>
    exact ⟨0, rfl, ⟨rfl, Nat.zero_le _, H1.out.1, H1.out.2, rfl⟩⟩
  case round =>
    obtain ⟨i, rfl, HI⟩ := hrel
    by_cases hi : i < L.length
    · obtain ⟨ad, eA, x0, x1, x2, x3⟩ := at_T82 (Kd.C_below HC.out.1 HI.out.2.2.2.1) (i : Int) (by omega) (by omega)
      simp only [Int.toNat_natCast] at x0 x1 x2 x3
      have e1 : rd_T82 L (i : Int) = L[i] := by
        unfold rd_T82
        simp [List.getD, hi]
      have hst := storeF_take hi []
      have hdr : L.drop i = L[i] :: L.drop (i + 1) := List.drop_eq_getElem_cons hi
      have hpv : prevO L (i + 1) = some L[i].f0 := by show some (rd_T82 L (i : Int)).f0 = _; rw [e1]
      have hof := HI.out.2.2.2.2
      rw [hdr] at hof
      rw [e1] at x0 x1 x2 x3
      obtain ⟨⟨⟨a0, a1, a2⟩, n⟩, ha⟩ : ∃ a, L[i] = a := ⟨_, rfl⟩
      rw [ha] at x0 x1 x2 x3 hst hof hpv
      simp only at x0 x1 x2 x3
      replace hof : ofP none L = (if goodI ⟨a0, a1, a2⟩ ≠ 0 then goodI ⟨a0, a1, a2⟩ else if badN a0 n then 1 else if ahO (prevO L i) ⟨a0, a1, a2⟩ = true then ofP (some ⟨a0, a1, a2⟩) (L.drop (i + 1)) else 7) := hof
      obtain ⟨gv, hgv⟩ : ∃ gv, goodI ⟨a0, a1, a2⟩ = gv := ⟨_, rfl⟩
      have HG := Lib.hid (show ∀ W, Calls Try.prog 70 #[.agg #[.int .i64 a0, .int .i64 a1, .string a2]] W fun e w' => e = .returned (.int .i64 gv) ∧ Below W.heap.size W w' from fun W => by rw [← hgv]; exact good_any ⟨a0, a1, a2⟩ W)
      have hl64 : wrap64 ((i : Int) + 1) = ((i + 1 : Nat) : Int) := by
        have h3 := HL.out
        rw [wrap_id (by omega) (by omega)]; rfl
      have k0 : (wr.alloc (.cells #[.int .i64 a0, .int .i64 a1, .string a2, .int .i64 n] 44)).cell? ⟨wr.heap.size, 0, none⟩ = some (.int .i64 a0) := by simp
      have k1 : (wr.alloc (.cells #[.int .i64 a0, .int .i64 a1, .string a2, .int .i64 n] 44)).cell? ⟨wr.heap.size, 1, none⟩ = some (.int .i64 a1) := by simp
      have k2 : (wr.alloc (.cells #[.int .i64 a0, .int .i64 a1, .string a2, .int .i64 n] 44)).cell? ⟨wr.heap.size, 2, none⟩ = some (.string a2) := by simp
      have k3 : (wr.alloc (.cells #[.int .i64 a0, .int .i64 a1, .string a2, .int .i64 n] 44)).cell? ⟨wr.heap.size, 3, none⟩ = some (.int .i64 n) := by simp
      have HB := Lib.hid ((Below.refl wr.heap.size wr).alloc (Nat.le_refl _) (.cells #[.int .i64 a0, .int .i64 a1, .string a2, .int .i64 n] 44))
      have p1 : (0 ≤ (i : Int)) = True := eq_true (by omega)
      have q1 : ((i : Int) < (L.length : Int)) = True := eq_true (by omega)
      have HO := Lib.hid hof
      have HS := Lib.hid hst
      have HV := Lib.hid hgv
      have HPV := Lib.hid hpv
      have Hw := Lib.hid hl64
      have HK := Lib.hid hi
      subst eA
      clear e1 hdr hpv hof hst ha hl64 hi
      by_cases cg : gv = 0
      · have f0 : (gv != 0) = false := by simp [cg]
        have CG := Lib.hid cg
        clear cg
        by_cases cb : badN a0 n
        · have hcase : (n == 0) = true ∨ ((n == 0) = false ∧ (n < 0) = True ∧ (a0 != 0) = true) ∨ ((n == 0) = false ∧ (n < 0) = True ∧ (a0 != 0) = false ∧ (n > 72057594037927936) = False ∧ (n < -72057594037927936) = True) ∨ ((n == 0) = false ∧ (n < 0) = False ∧ (n > 72057594037927936) = True) := by
            by_cases z0 : n = 0
            · exact .inl (by simp [z0])
            · have z0' : (n == 0) = false := by simp [z0]
              unfold badN at cb
              by_cases z1 : n < 0
              · by_cases z2 : a0 = 0
                · exact .inr (.inr (.inl ⟨z0', eq_true z1, by simp [z2], eq_false (by omega), eq_true (by omega)⟩))
                · exact .inr (.inl ⟨z0', eq_true z1, by simp [z2]⟩)
              · exact .inr (.inr (.inr ⟨z0', eq_false z1, eq_true (by omega)⟩))
          have CB := Lib.hid cb
          clear cb
          rcases hcase with f1 | ⟨f1, f2, f3⟩ | ⟨f1, f2, f3, f4, f5⟩ | ⟨f1, f2, f4⟩
          all_goals
            go_wp2_with (go_at_call 70; refine (HG.out _).mono ?_; rintro e w2 ⟨rfl, H2⟩; clear x0 x1 x2 x3; replace k0 := cell_keep H2 k0; replace k1 := cell_keep H2 k1; replace k2 := cell_keep H2 k2; replace k3 := cell_keep H2 k3; replace H2 := Lib.hid H2)
            go_ret2
            have hb := HI.out.2.2.2.1.trans ((HB.out.trans (H2.out.mono (by simp))).mono HI.out.2.2.2.1.size)
            refine OfPost.bad ?_ (by decide) hb
            rw [HO.out, HV.out, if_neg (fun h => h CG.out), if_pos CB.out]
        · have hcase : ((n == 0) = false ∧ (n < 0) = True ∧ (a0 != 0) = false ∧ (n > 72057594037927936) = False ∧ (n < -72057594037927936) = False) ∨ ((n == 0) = false ∧ (n < 0) = False ∧ (n > 72057594037927936) = False ∧ (n < -72057594037927936) = False) := by
            have cg2 := HV.out
            rw [CG.out] at cg2
            have hw := good_wf cg2
            have hw2 : 0 ≤ a0 := hw.2.1
            unfold badN at cb
            have z0' : (n == 0) = false := by
              have : n ≠ 0 := fun h => cb (.inl h)
              simp [this]
            by_cases z1 : n < 0
            · have z2 : a0 = 0 := by omega
              exact .inl ⟨z0', eq_true z1, by simp [z2], eq_false (by omega), eq_false (by omega)⟩
            · exact .inr ⟨z0', eq_false z1, eq_false (by omega), eq_false (by omega)⟩
          have CB := Lib.hid cb
          clear cb
          by_cases h0 : i = 0
          · have q5 : ((i : Int) > 0) = False := eq_false (by omega)
            have q6 : (0 < (i : Int)) = False := eq_false (by omega)
            have q7 : (0 < i) = False := eq_false (by omega)
            have H0 := Lib.hid h0
            clear h0
            rcases hcase with ⟨f1, f2, f3, f4, f5⟩ | ⟨f1, f2, f4, f5⟩
            all_goals
              go_wp2_with (go_at_call 70; refine (HG.out _).mono ?_; rintro e w2 ⟨rfl, H2⟩; clear x0 x1 x2 x3; replace k0 := cell_keep H2 k0; replace k1 := cell_keep H2 k1; replace k2 := cell_keep H2 k2; replace k3 := cell_keep H2 k3; replace H2 := Lib.hid H2)
              go_quiet (fail)
              go_wp2
              generalize hW : w2.drewN _ = w3
              replace k0 : w3.cell? ⟨wr.heap.size, 0, none⟩ = some (.int .i64 a0) := by rw [← hW]; exact k0
              replace k1 : w3.cell? ⟨wr.heap.size, 1, none⟩ = some (.int .i64 a1) := by rw [← hW]; exact k1
              replace k2 : w3.cell? ⟨wr.heap.size, 2, none⟩ = some (.string a2) := by rw [← hW]; exact k2
              replace k3 : w3.cell? ⟨wr.heap.size, 3, none⟩ = some (.int .i64 n) := by rw [← hW]; exact k3
              have hB3 : Below w.heap.size w w3.drew := by
                have hb2 := HI.out.2.2.2.1.trans ((HB.out.trans (H2.out.mono (by simp))).mono HI.out.2.2.2.1.size)
                rw [← hW]
                exact (pw_below_drewN hb2 _).drew
              have hLW : LG w3.drew (w.heap.size + 1) w.heap.size (storeF [] (L.take i)) := by
                have h1 := (HI.out.2.2.1.below HB.out).below H2.out
                rw [← hW]
                exact ⟨h1.blk, h1.map.move rfl⟩
              clear hW
              have hgs : Wfa ⟨a0, a1, a2⟩ := by
                have cg2 := HV.out
                rw [CG.out] at cg2
                exact (good_wf cg2).1
              have hnw : (Lit.int .i64 n).wf = true := by
                have h9 := CB.out
                unfold badN at h9
                exact wf_i64 (by omega) (by omega)
              have hlen : (storeF [] (L.take i)).length ≤ 100 := by
                have h9 := length_storeF (L.take i) []
                have h8 := HL.out
                rw [List.length_take] at h9
                simp at h9
                omega
              obtain ⟨w6, hst, hs6, hg6, hz6⟩ := hLW.map.store hgs (n := n) hnw (Nat.lt_of_le_of_lt hlen (by unfold maxLen; omega))
              have hc6 := hLW.cell
              simp only [kv] at hst
              have H6 := Lib.hid (And.intro hs6 (And.intro hg6 (And.intro hLW hB3)))
              clear hgs hnw hLW hlen hs6 hg6 hz6 hB3
              go_still_tail 8, (by kernel_rfl)
              show wpList _ _ _ _ _ w3.drew
              go_wp2
              go_roundg (L.length - i)
              case measure => have := HI.out.1; have := HK.out; omega
              case rel =>
                obtain ⟨m1, m2, m3, m4⟩ := H6.out
                refine ⟨i + 1, by rw [Hw.out], ⟨by have := HI.out.1; have := HK.out; omega, HK.out, ⟨(m2.block _ m3.glt (by simp)).trans m3.blk, by rw [HS.out]; exact m1⟩, m4.grown m2 m4.size (by simp), ?_⟩⟩
                rw [HPV.out, HO.out, HV.out, if_neg (fun h => h CG.out), if_neg CB.out, if_pos (by rw [H0.out]; rfl)]
          · have q5 : ((i : Int) > 0) = True := eq_true (by omega)
            have q6 : (0 < (i : Int)) = True := eq_true (by omega)
            have q7 : (0 < i) = True := eq_true (by omega)
            obtain ⟨j, hj⟩ : ∃ j, i = j + 1 := ⟨i - 1, by omega⟩
            have q8 : wrap64 ((i : Int) - 1) = (j : Int) := by
              have h3 := HL.out
              have h4 := HK.out
              rw [wrap_id (by omega) (by omega)]
              omega
            have q8b : IntKind.i64.wrap ((i : Int) - 1) = (j : Int) := (IntKind.wrap_i64 _).trans (by have h9 := q8; unfold wrap64 at h9; exact h9)
            have q9 : (0 ≤ (j : Int)) = True := eq_true (by omega)
            have hjl : j < L.length := by have := HK.out; omega
            have q10 : ((j : Int) < (L.length : Int)) = True := eq_true (by omega)
            obtain ⟨ad', eA', y0, y1, y2, _⟩ := at_T82 (Kd.C_below HC.out.1 HI.out.2.2.2.1) (j : Int) (by omega) (by omega)
            obtain rfl : ad = ad' := by injection eA'
            simp only [Int.toNat_natCast] at y0 y1 y2
            have hpr : prevO L i = some (rd_T82 L (j : Int)).f0 := by rw [hj]; rfl
            obtain ⟨⟨⟨b0, b1, b2⟩, bn⟩, hb⟩ : ∃ b, rd_T82 L (j : Int) = b := ⟨_, rfl⟩
            rw [hb] at y0 y1 y2 hpr
            simp only at y0 y1 y2
            obtain ⟨o, ho⟩ : ∃ o, ordI ⟨b0, b1, b2⟩ ⟨a0, a1, a2⟩ = o := ⟨_, rfl⟩
            have HOR := Lib.hid (show ∀ W, Calls Try.prog 63 #[.agg #[.int .i64 b0, .int .i64 b1, .string b2], .agg #[.int .i64 a0, .int .i64 a1, .string a2]] W fun e w' => e = .returned (.int .i64 o) ∧ Below W.heap.size W w' from fun W => by rw [← ho]; exact order_any ⟨b0, b1, b2⟩ ⟨a0, a1, a2⟩ W)
            have HP := Lib.hid (And.intro hpr ho)
            have hah : ahO (prevO L i) ⟨a0, a1, a2⟩ = true ↔ o < 0 := by
              rw [hpr, ← ho]
              exact (ahead_iff ⟨b0, b1, b2⟩ ⟨a0, a1, a2⟩).trans (ord_lt ⟨b0, b1, b2⟩ ⟨a0, a1, a2⟩).symm
            have HAH := Lib.hid hah
            clear hpr hb ho hah eA' hj hjl
            by_cases co : o < 0
            · have q11 : (o ≥ 0) = False := eq_false (by omega)
              have CO := Lib.hid co
              clear co
              rcases hcase with ⟨f1, f2, f3, f4, f5⟩ | ⟨f1, f2, f4, f5⟩
              all_goals
                go_wp2_with (go_at_call 70; refine (HG.out _).mono ?_; rintro e w2 ⟨rfl, H2⟩; replace y0 := cell_keep H2 (cell_keep HB.out y0); replace y1 := cell_keep H2 (cell_keep HB.out y1); replace y2 := cell_keep H2 (cell_keep HB.out y2); clear x0 x1 x2 x3; replace k0 := cell_keep H2 k0; replace k1 := cell_keep H2 k1; replace k2 := cell_keep H2 k2; replace k3 := cell_keep H2 k3; replace H2 := Lib.hid H2)
                have hSD : w2.drew.cell? ⟨wr.heap.size, 0, none⟩ = some (.int .i64 a0) ∧ w2.drew.cell? ⟨wr.heap.size, 1, none⟩ = some (.int .i64 a1) ∧ w2.drew.cell? ⟨wr.heap.size, 2, none⟩ = some (.string a2) ∧ w2.drew.cell? ⟨wr.heap.size, 3, none⟩ = some (.int .i64 n) ∧ w2.drew.cell? (ad.add (j * 4)) = some (.int .i64 b0) ∧ w2.drew.cell? ⟨(ad.add (j * 4)).block, (ad.add (j * 4)).off + 1, none⟩ = some (.int .i64 b1) ∧ w2.drew.cell? ⟨(ad.add (j * 4)).block, (ad.add (j * 4)).off + 2, none⟩ = some (.string b2) := ⟨k0, k1, k2, k3, y0, y1, y2⟩
                go_region_held3 (fun w' => w'.cell? ⟨wr.heap.size, 0, none⟩ = some (.int .i64 a0) ∧ w'.cell? ⟨wr.heap.size, 1, none⟩ = some (.int .i64 a1) ∧ w'.cell? ⟨wr.heap.size, 2, none⟩ = some (.string a2) ∧ w'.cell? ⟨wr.heap.size, 3, none⟩ = some (.int .i64 n) ∧ w'.cell? (ad.add (j * 4)) = some (.int .i64 b0) ∧ w'.cell? ⟨(ad.add (j * 4)).block, (ad.add (j * 4)).off + 1, none⟩ = some (.int .i64 b1) ∧ w'.cell? ⟨(ad.add (j * 4)).block, (ad.add (j * 4)).off + 2, none⟩ = some (.string b2))
                  (first | assumption)
                  (first | (go_at_call 63; refine (HOR.out _).mono ?_; rintro e w3 ⟨rfl, H3⟩; have kk : w3.cell? ⟨wr.heap.size, 0, none⟩ = some (.int .i64 a0) ∧ w3.cell? ⟨wr.heap.size, 1, none⟩ = some (.int .i64 a1) ∧ w3.cell? ⟨wr.heap.size, 2, none⟩ = some (.string a2) ∧ w3.cell? ⟨wr.heap.size, 3, none⟩ = some (.int .i64 n) ∧ w3.cell? (ad.add (j * 4)) = some (.int .i64 b0) ∧ w3.cell? ⟨(ad.add (j * 4)).block, (ad.add (j * 4)).off + 1, none⟩ = some (.int .i64 b1) ∧ w3.cell? ⟨(ad.add (j * 4)).block, (ad.add (j * 4)).off + 2, none⟩ = some (.string b2) := ⟨cell_keep H3 k0, cell_keep H3 k1, cell_keep H3 k2, cell_keep H3 k3, cell_keep H3 y0, cell_keep H3 y1, cell_keep H3 y2⟩; replace H3 := Lib.hid H3))
                clear k0 k1 k2 k3 y0 y1 y2 hSD
                obtain ⟨k0, k1, k2, k3, _, _, _⟩ := kk
                have hB3 : Below w.heap.size w w3.drew := by
                  have hb2 := HI.out.2.2.2.1.trans ((HB.out.trans (H2.out.mono (by simp))).mono HI.out.2.2.2.1.size)
                  exact (hb2.drew.trans (H3.out.mono hb2.size)).drew
                have hLW : LG w3.drew (w.heap.size + 1) w.heap.size (storeF [] (L.take i)) := by
                  have h1 := (HI.out.2.2.1.below HB.out).below H2.out
                  have h2 : LG w2.drew (w.heap.size + 1) w.heap.size (storeF [] (L.take i)) := ⟨h1.blk, h1.map.move rfl⟩
                  have h3 := h2.below H3.out
                  exact ⟨h3.blk, h3.map.move rfl⟩
                have hgs : Wfa ⟨a0, a1, a2⟩ := by
                  have cg2 := HV.out
                  rw [CG.out] at cg2
                  exact (good_wf cg2).1
                have hnw : (Lit.int .i64 n).wf = true := by
                  have h9 := CB.out
                  unfold badN at h9
                  exact wf_i64 (by omega) (by omega)
                have hlen : (storeF [] (L.take i)).length ≤ 100 := by
                  have h9 := length_storeF (L.take i) []
                  have h8 := HL.out
                  rw [List.length_take] at h9
                  simp at h9
                  omega
                obtain ⟨w6, hst, hs6, hg6, hz6⟩ := hLW.map.store hgs (n := n) hnw (Nat.lt_of_le_of_lt hlen (by unfold maxLen; omega))
                have hc6 := hLW.cell
                simp only [kv] at hst
                have H6 := Lib.hid (And.intro hs6 (And.intro hg6 (And.intro hLW hB3)))
                clear hgs hnw hLW hlen hs6 hg6 hz6 hB3
                go_wp2
                go_still_tail 8, (by kernel_rfl)
                show wpList _ _ _ _ _ w3.drew
                go_wp2
                go_roundg (L.length - i)
                case measure => have := HI.out.1; have := HK.out; omega
                case rel =>
                  obtain ⟨m1, m2, m3, m4⟩ := H6.out
                  refine ⟨i + 1, by rw [Hw.out], ⟨by have := HI.out.1; have := HK.out; omega, HK.out, ⟨(m2.block _ m3.glt (by simp)).trans m3.blk, by rw [HS.out]; exact m1⟩, m4.grown m2 m4.size (by simp), ?_⟩⟩
                  rw [HPV.out, HO.out, HV.out, if_neg (fun h => h CG.out), if_neg CB.out, if_pos (HAH.out.2 CO.out)]
            · have q11 : (o ≥ 0) = True := eq_true (by omega)
              have CO := Lib.hid co
              clear co
              rcases hcase with ⟨f1, f2, f3, f4, f5⟩ | ⟨f1, f2, f4, f5⟩
              all_goals
                go_wp2_with (go_at_call 70; refine (HG.out _).mono ?_; rintro e w2 ⟨rfl, H2⟩; replace y0 := cell_keep H2 (cell_keep HB.out y0); replace y1 := cell_keep H2 (cell_keep HB.out y1); replace y2 := cell_keep H2 (cell_keep HB.out y2); clear x0 x1 x2 x3; replace k0 := cell_keep H2 k0; replace k1 := cell_keep H2 k1; replace k2 := cell_keep H2 k2; replace k3 := cell_keep H2 k3; replace H2 := Lib.hid H2)
                have hSD : w2.drew.cell? ⟨wr.heap.size, 0, none⟩ = some (.int .i64 a0) ∧ w2.drew.cell? ⟨wr.heap.size, 1, none⟩ = some (.int .i64 a1) ∧ w2.drew.cell? ⟨wr.heap.size, 2, none⟩ = some (.string a2) ∧ w2.drew.cell? ⟨wr.heap.size, 3, none⟩ = some (.int .i64 n) ∧ w2.drew.cell? (ad.add (j * 4)) = some (.int .i64 b0) ∧ w2.drew.cell? ⟨(ad.add (j * 4)).block, (ad.add (j * 4)).off + 1, none⟩ = some (.int .i64 b1) ∧ w2.drew.cell? ⟨(ad.add (j * 4)).block, (ad.add (j * 4)).off + 2, none⟩ = some (.string b2) := ⟨k0, k1, k2, k3, y0, y1, y2⟩
                go_region_held3 (fun w' => w'.cell? ⟨wr.heap.size, 0, none⟩ = some (.int .i64 a0) ∧ w'.cell? ⟨wr.heap.size, 1, none⟩ = some (.int .i64 a1) ∧ w'.cell? ⟨wr.heap.size, 2, none⟩ = some (.string a2) ∧ w'.cell? ⟨wr.heap.size, 3, none⟩ = some (.int .i64 n) ∧ w'.cell? (ad.add (j * 4)) = some (.int .i64 b0) ∧ w'.cell? ⟨(ad.add (j * 4)).block, (ad.add (j * 4)).off + 1, none⟩ = some (.int .i64 b1) ∧ w'.cell? ⟨(ad.add (j * 4)).block, (ad.add (j * 4)).off + 2, none⟩ = some (.string b2))
                  (first | assumption)
                  (first | (go_at_call 63; refine (HOR.out _).mono ?_; rintro e w3 ⟨rfl, H3⟩; have kk : w3.cell? ⟨wr.heap.size, 0, none⟩ = some (.int .i64 a0) ∧ w3.cell? ⟨wr.heap.size, 1, none⟩ = some (.int .i64 a1) ∧ w3.cell? ⟨wr.heap.size, 2, none⟩ = some (.string a2) ∧ w3.cell? ⟨wr.heap.size, 3, none⟩ = some (.int .i64 n) ∧ w3.cell? (ad.add (j * 4)) = some (.int .i64 b0) ∧ w3.cell? ⟨(ad.add (j * 4)).block, (ad.add (j * 4)).off + 1, none⟩ = some (.int .i64 b1) ∧ w3.cell? ⟨(ad.add (j * 4)).block, (ad.add (j * 4)).off + 2, none⟩ = some (.string b2) := ⟨cell_keep H3 k0, cell_keep H3 k1, cell_keep H3 k2, cell_keep H3 k3, cell_keep H3 y0, cell_keep H3 y1, cell_keep H3 y2⟩; replace H3 := Lib.hid H3))
                go_wp2
                go_ret2
                have hb2 := HI.out.2.2.2.1.trans ((HB.out.trans (H2.out.mono (by simp))).mono HI.out.2.2.2.1.size)
                have hb3 := hb2.drew.trans (H3.out.mono hb2.size)
                refine OfPost.bad ?_ (by decide) hb3
                rw [HO.out, HV.out, if_neg (fun h => h CG.out), if_neg CB.out, if_neg (fun h => by have h9 := HAH.out.1 h; have h8 := CO.out; omega)]
      · have f0 : (gv != 0) = true := by simp [cg]
        have CG := Lib.hid cg
        clear cg
        go_wp2_with (go_at_call 70; refine (HG.out _).mono ?_; rintro e w2 ⟨rfl, H2⟩; clear x0 x1 x2 x3; replace k0 := cell_keep H2 k0; replace k1 := cell_keep H2 k1; replace k2 := cell_keep H2 k2; replace k3 := cell_keep H2 k3; replace H2 := Lib.hid H2)
        go_ret2
        have hb := HI.out.2.2.2.1.trans ((HB.out.trans (H2.out.mono (by simp))).mono HI.out.2.2.2.1.size)
        refine OfPost.bad ?_ CG.out hb
        rw [HO.out, HV.out, if_pos CG.out]
    · have q1 : ((i : Int) < (L.length : Int)) = False := eq_false (by omega)
      have hie : i = L.length := by have := HI.out.2.1; omega
      have hok : ofP none L = 0 := by
        rw [HI.out.2.2.2.2, hie, List.drop_length]
        rfl
      have hlg : LG wr (w.heap.size + 1) w.heap.size (storeF [] L) := by
        have h9 := HI.out.2.2.1
        rw [List.take_of_length_le (by omega)] at h9
        exact h9
      have HR := Lib.hid (rep_mapOf hok)
      have HOK := Lib.hid hok
      have HG := Lib.hid hlg
      have HTL := Lib.hid (show (compB (thingsOf L)).length ≤ 100 from Nat.le_trans (compB_length _) (by have := HL.out; simpa [thingsOf] using this))
      have HTH := Lib.hid (show Calls Try.prog 32 #[.pointer (some ⟨w.heap.size + 1, 0, none⟩)] wr fun e w' => ∃ (A2 : Option Addr) (c2 : Nat), e = .returned (.slice A2 (compB (thingsOf L)).length c2) ∧ Hid (Kd.C Kd.string w' A2 (compB (thingsOf L)).length (compB (thingsOf L)) ∧ Below wr.heap.size wr w') from by
        refine (things_walk _ wr L (all_gives HG.out HR.out (by have := HL.out; omega)) (by have := HL.out; omega)).mono ?_
        rintro e w' ⟨v, rfl, h1, hb⟩
        obtain ⟨A2, c2, rfl, h3, h4⟩ := Kd.R_reads h1
        exact ⟨A2, c2, rfl, ⟨h4, hb⟩⟩)
      have HOF := Lib.hid (off_iff HR.out)
      clear hie hok hlg
      obtain ⟨T, hT⟩ : ∃ T, compB (thingsOf L) = T := ⟨_, rfl⟩
      rw [hT] at HTL HTH HOF
      clear hT
      go_wp2_with (go_at_call 32; refine HTH.out.mono ?_; rintro e w2 ⟨A2, c2, rfl, H2⟩)
      go_loopg [9, 76] (T.length + 1) (fun kq v9 v76 w' => ∃ m : Nat, v76 = .int .i64 m ∧ Hid (kq + m = T.length + 1 ∧ m ≤ T.length ∧ Below w2.heap.size w2 w' ∧ (∀ t ∈ T.take m, wrap64 (sumM (storeF [] L) t) = 0)))
      case atStart =>
        exact ⟨0, rfl, ⟨rfl, Nat.zero_le _, Below.refl _ _, fun t ht => by simp at ht⟩⟩
      case round =>
        obtain ⟨m, rfl, HJ⟩ := hrel
        have HBB := Lib.hid (HI.out.2.2.2.1.trans ((H2.out.2.trans (HJ.out.2.2.1.mono H2.out.2.size)).mono HI.out.2.2.2.1.size))
        by_cases hm : m < T.length
        · obtain ⟨ad, eA, x0⟩ := Kd.at_string (Kd.C_below H2.out.1 HJ.out.2.2.1) (m : Int) (by omega) (by omega)
          simp only [Int.toNat_natCast] at x0
          have e1 : rdOf ByteArray.empty T (m : Int) = T[m] := by
            unfold rdOf
            simp [List.getD, hm]
          rw [e1] at x0
          obtain ⟨t, ht⟩ : ∃ t, T[m] = t := ⟨_, rfl⟩
          rw [ht] at x0
          have hmem : t ∈ T := by rw [← ht]; exact List.getElem_mem hm
          have htk : T.take (m + 1) = T.take m ++ [t] := by rw [List.take_succ_eq_append_getElem hm, ht]
          have HT := Lib.hid (And.intro hmem htk)
          obtain ⟨s, hs⟩ : ∃ s, wrap64 (sumM (storeF [] L) t) = s := ⟨_, rfl⟩
          have HSW := Lib.hid (show Calls Try.prog 71 #[.pointer (some ⟨w.heap.size + 1, 0, none⟩), .string t] wr fun e w' => e = .returned (.int .i64 s) ∧ Below wr.heap.size wr w' from by
            rw [← hs]
            exact sum_walk ((HG.out.below H2.out.2).below HJ.out.2.2.1) t)
          have hl64 : wrap64 ((m : Int) + 1) = ((m + 1 : Nat) : Int) := by
            have h3 := HTL.out
            rw [wrap_id (by omega) (by omega)]; rfl
          have Hw := Lib.hid hl64
          have HK := Lib.hid hm
          have HS := Lib.hid hs
          have p1 : (0 ≤ (m : Int)) = True := eq_true (by omega)
          have q2 : ((m : Int) < (T.length : Int)) = True := eq_true (by omega)
          subst eA
          clear e1 ht hs hl64 hm hmem htk
          by_cases cs : s = 0
          · have f1 : (s != 0) = false := by simp [cs]
            have CS := Lib.hid cs
            clear cs
            go_wp2_with (go_at_call 71; refine HSW.out.mono ?_; rintro e w4 ⟨rfl, H4⟩; replace H4 := Lib.hid H4)
            go_roundg (T.length - m)
            case measure => have := HJ.out.1; have := HK.out; omega
            case rel =>
              refine ⟨m + 1, by rw [Hw.out], ⟨by have := HJ.out.1; have := HK.out; omega, HK.out, HJ.out.2.2.1.trans (H4.out.mono HJ.out.2.2.1.size), fun t' ht' => ?_⟩⟩
              rw [HT.out.2] at ht'
              rcases List.mem_append.1 ht' with h | h
              · exact HJ.out.2.2.2 t' h
              · simp at h
                rw [h, HS.out, CS.out]
          · have f1 : (s != 0) = true := by simp [cs]
            have CS := Lib.hid cs
            clear cs
            go_wp2_with (go_at_call 71; refine HSW.out.mono ?_; rintro e w4 ⟨rfl, H4⟩; replace H4 := Lib.hid H4)
            go_ret2
            have hoff : offL L := HOF.out.1 ⟨t, HT.out.1, by rw [HS.out]; exact CS.out⟩
            have e9 : ofR L = 20 := by unfold ofR; rw [if_neg (fun h => h HOK.out), if_pos hoff]
            refine ⟨.pointer none, by rw [e9]; rfl, HBB.out.trans (H4.out.mono HBB.out.size), .inl ⟨by rw [e9]; decide, rfl⟩⟩
        · have q2 : ((m : Int) < (T.length : Int)) = False := eq_false (by omega)
          have hoff : ¬ offL L := fun h => by
            obtain ⟨t, ht, hc⟩ := HOF.out.2 h
            exact hc (HJ.out.2.2.2 t (by rw [List.take_of_length_le (by omega)]; exact ht))
          have HNO := Lib.hid hoff
          clear hm hoff
          go_wp2
          go_ret2
          have e9 : ofR L = 0 := by unfold ofR; rw [if_neg (fun h => h HOK.out), if_neg HNO.out]
          refine ⟨.pointer (some ⟨w.heap.size + 1, 0, none⟩), by rw [e9]; rfl, HBB.out, .inr ⟨e9, _, _, _, rfl, (HG.out.below H2.out.2).below HJ.out.2.2.1, HR.out, Nat.le_refl _⟩⟩
end Go.Proofs.Ytoknlpecbdlbfaa.PL

/- An act, as a row of eight cells. -/
namespace Go.Proofs.Ytoknlpecbdlbfaa.PL
open Go Go.RowKit Go.Proofs Go.Proofs.YtoknlpecbdlbfaaW.PrintWords Go.Proofs.YtoknlpecbdlbfaaW.PrintLast
structure S72 where
  f0 : Int
  f1 : Int
  f2 : Int
  f3 : Int
  f4 : ByteArray
  f5 : Int
  f6 : List S131
  f7 : List S79
end Go.Proofs.Ytoknlpecbdlbfaa.PL

/- Acts on both sides, and what stays as it is: plain. -/
namespace Go.Proofs.Ytoknlpecbdlbfaa.PL
open Go Go.RowKit Go.Maps Go.Sort Go.Shelf Go.Proofs Go.Proofs.YtoknlpecbdlbfaaW.PrintWords Go.Proofs.YtoknlpecbdlbfaaW.PrintLast
/-- What an act does on the program's side. -/
def actM (M : List (S42 × Int)) (x : S72) : List (S42 × Int) × Int × Int :=
  if x.f0 = 0 then ((brL M x.f1 x.f4 x.f5).1, 0, (brL M x.f1 x.f4 x.f5).2)
  else if x.f0 = 1 then cmL M (x.f6.map toLn)
  else if x.f0 = 2 then cmL M (shX x.f1 x.f2 x.f3 x.f7)
  else cmL M (trX x.f1 x.f2 x.f7 x.f4 x.f5)
/-- What it does on the document's. -/
def actL (L : List S82) (x : S72) : List S82 × Int × Int :=
  if x.f0 = 0 then ((brR L x.f1 x.f4 x.f5).1, 0, (brR L x.f1 x.f4 x.f5).2)
  else if x.f0 = 1 then cmR L (x.f6.map toLn)
  else if x.f0 = 2 then cmR L (shX x.f1 x.f2 x.f3 x.f7)
  else cmR L (trX x.f1 x.f2 x.f7 x.f4 x.f5)
theorem St.act {M : List (S42 × Int)} {L : List S82} (h : St M L) (x : S72) : St (actM M x).1 (actL L x).1 ∧ (actM M x).2.1 = (actL L x).2.1 ∧ (actM M x).2.2 = (actL L x).2.2 := by
  unfold actM actL
  split
  · exact ⟨(h.br _ _ _).1, rfl, (h.br _ _ _).2⟩
  · split
    · exact h.cm _
    · split
      · exact h.cm _
      · exact h.cm _
/-- The accounts that a custody has. -/
def okAc (a : S42) : Prop := (a.f0 = 0 ∧ a.f1 = 0) ∨ (1 ≤ a.f0 ∧ a.f0 ≤ 32 ∧ 1 ≤ a.f1 ∧ a.f1 ≤ 4)
theorem wrB_ok {m b : Int} (h : wrB m b = false) : 1 ≤ m ∧ m ≤ 32 ∧ 1 ≤ b ∧ b ≤ 4 := by
  unfold wrB at h
  have := of_decide_eq_false h
  omega
/-- All that has something is such an account. -/
def Bk (M : List (S42 × Int)) : Prop := ∀ a, getM M a ≠ 0 → okAc a
theorem Bk.nil : Bk [] := fun _ h => absurd rfl h
theorem Bk.fin : ∀ (l : List S107) (M : List (S42 × Int)), Bk M → allOk M l → (∀ e ∈ l, okAc e.f0 ∧ okAc e.f1) → Bk (fin M l)
  | [], _, h, _, _ => h
  | e :: r, M, h, ho, hl => by
    refine Bk.fin r (moveM M e).1 ?_ ho.2 (fun e' he => hl e' (List.mem_cons_of_mem _ he))
    intro a ha
    rw [getM_move ho.1] at ha
    obtain ⟨o1, o2⟩ := hl e List.mem_cons_self
    by_cases h1 : a = e.f1
    · exact h1 ▸ o2
    · rw [if_neg h1] at ha
      by_cases h2 : a = e.f0
      · exact h2 ▸ o1
      · rw [if_neg h2] at ha
        exact h a ha
theorem Bk.post {M : List (S42 × Int)} {L : List S82} (h : St M L) (hb : Bk M) (l : List S107) (hl : ∀ e ∈ l, okAc e.f0 ∧ okAc e.f1) : Bk (postL [] M l).1 := by
  by_cases c : (postL [] M l).2.2 = 0
  · obtain ⟨h1, h2⟩ := post_allOk l [] M c
    rw [h2]
    exact Bk.fin l M hb h1 hl
  · intro a ha
    rw [(h.fail l c).same] at ha
    exact hb a (by rw [h.rep.same]; exact ha)
theorem fb_all : ∀ (X : List S125) (i : Nat), fbL i X = none → ∀ x ∈ X, wrB x.f0 x.f1 = false ∧ wrB x.f2 x.f3 = false
  | [], _, _, _, hx => by cases hx
  | y :: r, i, h, x, hx => by
    unfold fbL at h
    split at h
    · cases h
    · rename_i hn
      rcases List.mem_cons.1 hx with rfl | hx
      · constructor
        · cases hw : wrB x.f0 x.f1 with
          | false => rfl
          | true => exact absurd (.inl hw) hn
        · cases hw : wrB x.f2 x.f3 with
          | false => rfl
          | true => exact absurd (.inr hw) hn
      · exact fb_all r (i + 1) h x hx
theorem ok_lnE {X : List S125} (h : fbL 0 X = none) : ∀ e ∈ X.map lnE, okAc e.f0 ∧ okAc e.f1 := by
  intro e he
  obtain ⟨x, hx, rfl⟩ := List.mem_map.1 he
  obtain ⟨h1, h2⟩ := fb_all X 0 h x hx
  exact ⟨.inr (wrB_ok h1), .inr (wrB_ok h2)⟩
theorem Bk.br {M : List (S42 × Int)} {L : List S82} (h : St M L) (hb : Bk M) (m : Int) (t : ByteArray) (q : Int) : Bk (brL M m t q).1 := by
  unfold brL
  split
  · exact hb
  · rename_i hw
    split
    · exact hb
    · refine hb.post h _ ?_
      have hw' : wrB m 1 = false := by simpa using hw
      have := wrB_ok hw'
      intro e he
      obtain rfl := List.mem_singleton.1 he
      unfold brE
      split
      · exact ⟨.inr this, .inl ⟨rfl, rfl⟩⟩
      · exact ⟨.inl ⟨rfl, rfl⟩, .inr this⟩
theorem Bk.cm {M : List (S42 × Int)} {L : List S82} (h : St M L) (hb : Bk M) (X : List S125) : Bk (cmL M X).1 := by
  cases hf : fbL 0 X with
  | some i =>
    rw [cmL_bad hf]
    exact hb
  | none =>
    rw [cmL_ok hf]
    exact hb.post h _ (ok_lnE hf)
/-- What holds of a custody, whatever is done. -/
structure Iv (M : List (S42 × Int)) (L : List S82) : Prop where
  st : St M L
  wh : Wh M
  bk : Bk M
theorem Iv.nil : Iv [] [] := ⟨St.nil, Wh.nil, Bk.nil⟩
theorem Iv.act {M : List (S42 × Int)} {L : List S82} (h : Iv M L) (x : S72) : Iv (actM M x).1 (actL L x).1 := by
  refine ⟨(h.st.act x).1, ?_, ?_⟩
  · unfold actM
    split
    · exact h.wh.br h.st _ _ _
    · split
      · exact h.wh.cm h.st _
      · split
        · exact h.wh.cm h.st _
        · exact h.wh.cm h.st _
  · unfold actM
    split
    · exact h.bk.br h.st _ _ _
    · split
      · exact h.bk.cm h.st _
      · split
        · exact h.bk.cm h.st _
        · exact h.bk.cm h.st _
/-! Once. -/
end Go.Proofs.Ytoknlpecbdlbfaa.PL

/- custody.Of, on both sides. -/
namespace Go.Proofs.Ytoknlpecbdlbfaa.PL
open Go Go.RowKit Go.Maps Go.Sort Go.Shelf Go.Proofs Go.Proofs.YtoknlpecbdlbfaaW.PrintWords Go.Proofs.YtoknlpecbdlbfaaW.PrintLast
/-- Is a balance's account none of a custody's? -/
def badC (x : S82) : Bool := if x.f0.f0 = 0 then !decide (x.f0.f1 = 0) else wrB x.f0.f0 x.f0.f1
/-- What custody.Of answers. -/
def ofC (L : List S82) : Int := if L.any badC = true then 22 else ofR L
theorem rcof_l0 (L : List S82) (hL : L.length ≤ 1000) (k0 : Nat) (h0 : lombardref11_Of.f k0 L = some (ofR L)) : ∀ (q i : Nat), i + q = L.length → lombardref12_Of.l0 (q + (k0 + 1)) L (i : Int) = some (if (L.drop i).any badC = true then 22 else ofR L)
  | 0, i, hi => by
    rw [Nat.zero_add]
    unfold lombardref12_Of.l0
    rw [if_neg (by omega), h0, List.drop_eq_nil_of_le (by omega)]
    rfl
  | q + 1, i, hi => by
    have hil : i < L.length := by omega
    have e1 : rd_T82 L (i : Int) = L[i] := by
      unfold rd_T82
      simp [List.getD, hil]
    have hw : wrap64 ((i : Int) + 1) = ((i + 1 : Nat) : Int) := by
      rw [wrap_id (by omega) (by omega)]; rfl
    have ih := rcof_l0 L hL k0 h0 q (i + 1) (by omega)
    rw [show q + 1 + (k0 + 1) = (q + (k0 + 1)) + 1 by omega]
    unfold lombardref12_Of.l0
    rw [if_pos (by omega), if_pos (by omega), e1, hw, List.drop_eq_getElem_cons hil, List.any_cons, rwr_f]
    by_cases c : L[i].f0.f0 = 0
    · rw [if_pos c]
      by_cases c2 : L[i].f0.f1 = 0
      · have hb : badC L[i] = false := by unfold badC; rw [if_pos c]; simp [c2]
        rw [if_pos c2, hb, Bool.false_or]
        exact ih
      · have hb : badC L[i] = true := by unfold badC; rw [if_pos c]; simp [c2]
        rw [if_neg c2, hb, Bool.true_or, if_pos rfl]
    · rw [if_neg c]
      have hb : badC L[i] = wrB L[i].f0.f0 L[i].f0.f1 := by unfold badC; rw [if_neg c]
      rw [hb]
      show (if wrB L[i].f0.f0 L[i].f0.f1 = true then some 22 else _) = _
      cases hz : wrB L[i].f0.f0 L[i].f0.f1 with
      | true => rw [if_pos rfl, Bool.true_or, if_pos rfl]
      | false =>
        rw [if_neg (by decide), Bool.false_or]
        exact ih
theorem rcof_any (A : Option Addr) (c : Nat) (L : List S82) (w : World) (hC : Kd.C k82 w A L.length L) (hc : L.length ≤ c) (hL : L.length ≤ 100) :
    Calls Try.prog 56 #[.slice A L.length c] w fun e w' => e = .returned (.int .i64 (ofC L)) ∧ Below w.heap.size w w' := by
  obtain ⟨k0, hk⟩ := of_f L (by omega)
  have h := rcof_l0 L (by omega) k0 hk L.length 0 (by omega)
  exact lombardref12_Of.calls _ A c L _ w hC hc h
/-- What custody.Of leaves. -/
def COf (L : List S82) (w : World) (e : Ending) (w' : World) : Prop := ∃ p, e = .returned (.tuple #[p, .int .i64 (ofC L)]) ∧ Below w.heap.size w w' ∧ ((ofC L ≠ 0 ∧ p = .pointer none) ∨ (ofC L = 0 ∧ ∃ (q g b : Nat) (M : List (S42 × Int)), p = .pointer (some ⟨q, 0, none⟩) ∧ CU w' q g b M ∧ Rep M L ∧ w.heap.size ≤ b))
theorem COf.bad {L : List S82} {w w' : World} (h : L.any badC = true) (hb : Below w.heap.size w w') : COf L w (.returned (.tuple #[.pointer none, .int .i64 22])) w' := by
  have e : ofC L = 22 := if_pos h
  exact ⟨_, by rw [e], hb, .inl ⟨by rw [e]; decide, rfl⟩⟩
theorem COf.err {L : List S82} {w w' : World} {v : Int} (h : ofC L = v) (hv : v ≠ 0) (hb : Below w.heap.size w w') : COf L w (.returned (.tuple #[.pointer none, .int .i64 v])) w' :=
  ⟨_, by rw [h], hb, .inl ⟨by rw [h]; exact hv, rfl⟩⟩
theorem COf.ok {L : List S82} {w w' : World} {q g b : Nat} {M : List (S42 × Int)} (h : ofC L = 0) (hb : Below w.heap.size w w') (hc : CU w' q g b M) (hr : Rep M L) (h9 : w.heap.size ≤ b) : COf L w (.returned (.tuple #[.pointer (some ⟨q, 0, none⟩), .int .i64 0])) w' :=
  ⟨_, by rw [h], hb, .inr ⟨h, q, g, b, M, rfl, hc, hr, h9⟩⟩
set_option maxRecDepth 100000 in
set_option maxHeartbeats 4000000 in
theorem cof_walk (A : Option Addr) (c : Nat) (L : List S82) (w : World) (hC : Kd.C k82 w A L.length L) (hc : L.length ≤ c) (hL : L.length ≤ 100) :
    Calls Try.prog 55 #[.slice A L.length c] w (COf L w) := by
  have HP := Lib.hid (And.intro hC (And.intro hc hL))
  clear hC hc hL
  go_enter Try.func55, Try.ntmps55
  go_wp2_with (fail)
  go_loopg [10] (L.length + 1) (fun kq v10 w' => ∃ k : Nat, v10 = .int .i64 k ∧ Hid (kq + k = L.length + 1 ∧ k ≤ L.length ∧ Below w.heap.size w w' ∧ (L.take k).any badC = false))
  case atStart => exact ⟨0, rfl, ⟨rfl, Nat.zero_le _, Below.refl _ _, rfl⟩⟩
  case round =>
    obtain ⟨k, rfl, HI⟩ := hrel
    by_cases hk : k < L.length
    · obtain ⟨ad, eA, x0, x1, x2, x3⟩ := at_T82 (Kd.C_below HP.out.1 HI.out.2.2.1) (k : Int) (by omega) (by omega)
      simp only [Int.toNat_natCast] at x0 x1 x2 x3
      have e1 : rd_T82 L (k : Int) = L[k] := by
        unfold rd_T82
        simp [List.getD, hk]
      have htk : (L.take (k + 1)).any badC = ((L.take k).any badC || badC L[k]) := by rw [List.take_succ_eq_append_getElem hk, List.any_append]; simp
      have hmem : badC L[k] = true → L.any badC = true := fun h => List.any_eq_true.2 ⟨L[k], List.getElem_mem hk, h⟩
      rw [e1] at x0 x1 x2 x3
      obtain ⟨⟨⟨a0, a1, a2⟩, n⟩, ha⟩ : ∃ a, L[k] = a := ⟨_, rfl⟩
      rw [ha] at x0 x1 x2 x3 htk hmem
      have hl64 : wrap64 ((k : Int) + 1) = ((k + 1 : Nat) : Int) := by
        have h3 := HP.out.2.2
        rw [wrap_id (by omega) (by omega)]; rfl
      have p1 : (0 ≤ (k : Int)) = True := eq_true (by omega)
      have q1 : ((k : Int) < (L.length : Int)) = True := eq_true (by omega)
      have HT := Lib.hid htk
      have HM := Lib.hid hmem
      have Hw := Lib.hid hl64
      have HK := Lib.hid hk
      have HB := Lib.hid (HI.out.2.2.1.alloc HI.out.2.2.1.size (.cells #[.int .i64 a0, .int .i64 a1, .string a2, .int .i64 n] 44))
      subst eA
      clear e1 ha htk hmem hl64 hk
      by_cases c0 : a0 = 0
      · have m0 : (a0 != 0) = false := by simp [c0]
        have m1 : (a0 == 0) = true := by simp [c0]
        by_cases c1 : a1 = 0
        · have m2 : (a1 != 0) = false := by simp [c1]
          have HN := Lib.hid (show badC ⟨⟨a0, a1, a2⟩, n⟩ = false by unfold badC; simp [c0, c1])
          clear c0 c1
          go_wp2_with (fail)
          go_roundg (L.length - k)
          case measure => have := HI.out.1; have := HK.out; omega
          case rel => exact ⟨k + 1, by rw [Hw.out], ⟨by have := HI.out.1; have := HK.out; omega, HK.out, HB.out, by rw [HT.out, HI.out.2.2.2, HN.out]; rfl⟩⟩
        · have m2 : (a1 != 0) = true := by simp [c1]
          have HN := Lib.hid (show badC ⟨⟨a0, a1, a2⟩, n⟩ = true by unfold badC; simp [c0, c1])
          clear c0 c1
          go_wp2_with (fail)
          go_ret2
          exact COf.bad (HM.out HN.out) HB.out
      · have m0 : (a0 != 0) = true := by simp [c0]
        have m1 : (a0 == 0) = false := by simp [c0]
        have HC0 := Lib.hid c0
        obtain ⟨z, hz⟩ : ∃ z, wrB a0 a1 = z := ⟨_, rfl⟩
        have HW := Lib.hid (show ∀ W, Calls Try.prog 75 #[.int .i64 a0, .int .i64 a1] W fun e w' => e = .returned (.bool z) ∧ Below W.heap.size W w' from fun W => by rw [← hz]; exact wr_any a0 a1 W)
        have HN := Lib.hid (show badC ⟨⟨a0, a1, a2⟩, n⟩ = z by unfold badC; rw [← hz]; simp [c0])
        have hG : ∀ W, Below (wr.alloc (.cells #[.int .i64 a0, .int .i64 a1, .string a2, .int .i64 n] 44)).heap.size (wr.alloc (.cells #[.int .i64 a0, .int .i64 a1, .string a2, .int .i64 n] 44)) W → W.cell? ⟨wr.heap.size, 0, none⟩ = some (.int .i64 a0) ∧ W.cell? ⟨wr.heap.size, 1, none⟩ = some (.int .i64 a1) := fun W hb => ⟨cell_keep hb (by simp), cell_keep hb (by simp)⟩
        have HG := Lib.hid hG
        clear c0 hz hG
        cases z with
        | true =>
          go_wp2_with (go_at_call 75; refine (HW.out _).mono ?_; rintro e w3 ⟨rfl, H3⟩; replace H3 := Lib.hid H3)
          go_ret2
          exact COf.bad (HM.out HN.out) (HB.out.trans (H3.out.mono HB.out.size))
        | false =>
          go_wp2_with (go_at_call 75; refine (HW.out _).mono ?_; rintro e w3 ⟨rfl, H3⟩; obtain ⟨j0, j1⟩ := HG.out _ H3; replace H3 := Lib.hid H3)
          go_roundg (L.length - k)
          case measure => have := HI.out.1; have := HK.out; omega
          case rel => exact ⟨k + 1, by rw [Hw.out], ⟨by have := HI.out.1; have := HK.out; omega, HK.out, HB.out.trans (H3.out.mono HB.out.size), by rw [HT.out, HI.out.2.2.2, HN.out]; rfl⟩⟩
    · have q1 : ((k : Int) < (L.length : Int)) = False := eq_false (by omega)
      have hno := HI.out.2.2.2
      rw [List.take_of_length_le (by omega)] at hno
      have HE := Lib.hid (show ofC L = ofR L from if_neg (by rw [hno]; decide))
      have HO := Lib.hid (of_walk A c L wr (Kd.C_below HP.out.1 HI.out.2.2.1) HP.out.2.1 HP.out.2.2)
      clear hno hk
      obtain ⟨v, hv⟩ : ∃ v, ofR L = v := ⟨_, rfl⟩
      by_cases cv : v = 0
      · have HO0 := Lib.hid (show Calls Try.prog 40 #[.slice A L.length c] wr fun e w' => ∃ (g b : Nat) (M : List (S42 × Int)), e = .returned (.tuple #[.pointer (some ⟨g, 0, none⟩), .int .i64 0]) ∧ Hid (LG w' g b M ∧ Rep M L ∧ Below wr.heap.size wr w' ∧ wr.heap.size ≤ b) from by
          refine HO.out.mono ?_
          rintro e w' ⟨p, rfl, hb, hcase⟩
          rcases hcase with ⟨h1, _⟩ | ⟨h1, g, b, M, rfl, h2, h3, h4⟩
          · exact absurd (hv.trans cv) h1
          · exact ⟨g, b, M, by rw [h1], ⟨h2, h3, hb, h4⟩⟩)
        have HV := Lib.hid (HE.out.trans (hv.trans cv))
        clear hv cv HO
        go_wp2_with (go_at_call 40; refine HO0.out.mono ?_; rintro e w5 ⟨g, b, M, rfl, H5⟩)
        go_ret2
        have b5 := HI.out.2.2.1.trans (H5.out.2.2.1.mono HI.out.2.2.1.size)
        exact COf.ok HV.out (b5.alloc b5.size _) ⟨(Go.MapKept.heap_alloc w5 _).1, H5.out.1.below ((Below.refl _ _).alloc (Nat.le_refl _) _)⟩ H5.out.2.1 (Nat.le_trans HI.out.2.2.1.size H5.out.2.2.2)
      · have HO0 := Lib.hid (show Calls Try.prog 40 #[.slice A L.length c] wr fun e w' => e = .returned (.tuple #[.pointer none, .int .i64 v]) ∧ Below wr.heap.size wr w' from by
          refine HO.out.mono ?_
          rintro e w' ⟨p, rfl, hb, hcase⟩
          rcases hcase with ⟨_, rfl⟩ | ⟨h1, _⟩
          · exact ⟨by rw [hv], hb⟩
          · exact absurd (hv.symm.trans h1) cv)
        have HV := Lib.hid (And.intro (HE.out.trans hv) cv)
        have f1 : (v != 0) = true := by simp [cv]
        clear hv cv HO
        go_wp2_with (go_at_call 40; refine HO0.out.mono ?_; rintro e w5 ⟨rfl, H5⟩; replace H5 := Lib.hid H5)
        go_ret2
        exact COf.err HV.out.1 HV.out.2 (HI.out.2.2.1.trans (H5.out.mono HI.out.2.2.1.size))
end Go.Proofs.Ytoknlpecbdlbfaa.PL
