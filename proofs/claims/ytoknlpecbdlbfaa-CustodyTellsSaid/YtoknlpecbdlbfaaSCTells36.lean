/- Part 36 of the proof's texts: what the theorem needs of them. -/
import Derived.Test.YtoknlpecbdlbfaaSCTells35
import Derived.Test.YtoknlpecbdlbfaaSCTells16
import Derived.WalkKit
import Derived.ProofKit

-- Custody, the document: Shift and Trade, walked. (printed by genTC.py)
namespace Go.Proofs.Ytoknlpecbdlbfaa.PL
open Go Go.RowKit Go.Maps Go.Sort Go.Shelf Go.Proofs Go.Proofs.YtoknlpecbdlbfaaW.PrintWords Go.Proofs.YtoknlpecbdlbfaaW.PrintLast
theorem info131 : (Try.prog.info? 131).map (fun i => (i.zero, i.size, i.bytes)) = some (some (.agg #[(.int .i64 0), (.int .i64 0), (.int .i64 0), (.int .i64 0), (.string ⟨#[]⟩), (.int .i64 0)]), 6, 56) := by kernel_rfl
/-- The document's lines of a shift, and of a trade. -/
def shR (m fr tq : Int) (T : List S79) : List S131 := T.map (fun x => ⟨m, fr, m, tq, x.f0, x.f1⟩)
def trR (s b : Int) (T : List S79) (cur : ByteArray) (cash : Int) : List S131 := T.map (fun x => ⟨s, 1, b, 1, x.f0, x.f1⟩) ++ [⟨b, 1, s, 1, cur, cash⟩]
theorem shR_map (m fr tq : Int) (T : List S79) : (shR m fr tq T).map toLn = shX m fr tq T := by
  unfold shR shX
  rw [List.map_map]
  rfl
theorem trR_map (s b : Int) (T : List S79) (cur : ByteArray) (cash : Int) : (trR s b T cur cash).map toLn = trX s b T cur cash := by
  unfold trR trX
  rw [List.map_append, List.map_map]
  rfl
/-- A lot's cells. -/
def L2 (ad : Addr) (k : Nat) (a0 : ByteArray) (a1 : Int) (W : World) : Prop := W.cell? (ad.add (k * 2)) = some (.string a0) ∧ W.cell? ⟨(ad.add (k * 2)).block, (ad.add (k * 2)).off + 1, none⟩ = some (.int .i64 a1)
theorem L2.below {ad : Addr} {k : Nat} {a0 : ByteArray} {a1 : Int} {W W' : World} (h : L2 ad k a0 a1 W) (hb : Below W.heap.size W W') : L2 ad k a0 a1 W' :=
  ⟨cell_keep hb h.1, cell_keep hb h.2⟩
set_option maxRecDepth 100000 in
set_option maxHeartbeats 4000000 in
theorem rcshift_any (w : World) (A : Option Addr) (c : Nat) (L : List S82) (hC : Kd.C k82 w A L.length L) (hc : L.length ≤ c) (hL : L.length ≤ 1000000) (m fr tq : Int) (B : Option Addr) (d : Nat) (T : List S79) (hr : Kd.C k79 w B T.length T) (hT : T.length ≤ 1000) :
    Calls Try.prog 68 #[.slice A L.length c, .int .i64 m, .int .i64 fr, .int .i64 tq, .slice B T.length d] w fun o w' => ∃ (A' : Option Addr) (c' : Nat), o = .returned (.tuple #[.slice A' (cmR L (shX m fr tq T)).1.length c', .int .i64 (cmR L (shX m fr tq T)).2.1, .int .i64 (cmR L (shX m fr tq T)).2.2]) ∧ Hid (Kd.C k82 w' A' (cmR L (shX m fr tq T)).1.length (cmR L (shX m fr tq T)).1 ∧ (cmR L (shX m fr tq T)).1.length ≤ c' ∧ Below w.heap.size w w') := by
  have HU := Lib.hid (And.intro hC (And.intro hc (And.intro hL (And.intro hr hT))))
  clear hC hc hL hr hT
  go_enter Try.func68, Try.ntmps68
  go_wp2_with (fail)
  go_loopg [13, 14] (T.length + 1) (fun kq v7 v8 w' => ∃ k : Nat, v8 = .int .i64 k ∧ Hid (kq + k = T.length + 1 ∧ k ≤ T.length ∧ Kd.R k131 131 w' w.heap.size (fun _ => True) v7 ((T.take k).map (fun x => (⟨m, fr, m, tq, x.f0, x.f1⟩ : S131))) ∧ Below w.heap.size w w'))
  case atStart =>
    exact ⟨0, rfl, ⟨rfl, Nat.zero_le _, Kd.R_nil _ _ _ _ _, Below.refl _ _⟩⟩
  case round =>
    obtain ⟨k, rfl, HI⟩ := hrel
    by_cases hk : k < T.length
    · obtain ⟨ad, eA, x0, x1⟩ := at_T79 HU.out.2.2.2.1 (k : Int) (by omega) (by omega)
      simp only [Int.toNat_natCast] at x0 x1
      have e1 : rd_T79 T (k : Int) = T[k] := by
        unfold rd_T79
        simp [List.getD, hk]
      have htk : (T.take (k + 1)).map (fun x => (⟨m, fr, m, tq, x.f0, x.f1⟩ : S131)) = (T.take k).map (fun x => (⟨m, fr, m, tq, x.f0, x.f1⟩ : S131)) ++ [⟨m, fr, m, tq, T[k].f0, T[k].f1⟩] := by rw [List.take_succ_eq_append_getElem hk, List.map_append]; rfl
      rw [e1] at x0 x1
      obtain ⟨⟨a0, a1⟩, ha⟩ : ∃ a, T[k] = a := ⟨_, rfl⟩
      rw [ha] at x0 x1 htk
      simp only at x0 x1
      have hl64 : wrap64 ((k : Int) + 1) = ((k + 1 : Nat) : Int) := by
        have h3 := HU.out.2.2.2.2
        rw [wrap_id (by omega) (by omega)]; rfl
      have hlen : ((T.take k).map (fun x => (⟨m, fr, m, tq, x.f0, x.f1⟩ : S131))).length ≤ 1000 := by
        have := HU.out.2.2.2.2
        rw [List.length_map, List.length_take]
        omega
      have q1 : (0 ≤ (k : Int)) = True := eq_true (by omega)
      have q2 : ((k : Int) < (T.length : Int)) = True := eq_true (by omega)
      obtain ⟨xs0, hxs0⟩ : ∃ l, (T.take k).map (fun x => (⟨m, fr, m, tq, x.f0, x.f1⟩ : S131)) = l := ⟨_, rfl⟩
      have hR0 := HI.out.2.2.1
      rw [hxs0] at htk hlen hR0
      have HT := Lib.hid htk
      have HR0 := Lib.hid (show Kd.R k131 131 wr.drew w.heap.size (fun _ => True) u13 xs0 from Kd.R_drew hR0)
      have HB0 := Lib.hid (show Below w.heap.size w wr.drew from HI.out.2.2.2.drew)
      have Hw := Lib.hid hl64
      have HK := Lib.hid hk
      have HQ := Lib.hid (show (xs0.length + 1) * 56 ≤ 140737488355328 by omega)
      have HS0 := Lib.hid (show L2 ad k a0 a1 w from ⟨x0, x1⟩)
      subst eA
      clear e1 htk ha hl64 hlen hxs0 hR0 hk x0 x1
      have hSD : wr.drew.cell? (ad.add (k * 2)) = some (.string a0) ∧ wr.drew.cell? ⟨(ad.add (k * 2)).block, (ad.add (k * 2)).off + 1, none⟩ = some (.int .i64 a1) := HS0.out.below HB0.out
      have HSA := Lib.hid (show ∀ (w' : World) (o : Obj), (w'.cell? (ad.add (k * 2)) = some (.string a0) ∧ w'.cell? ⟨(ad.add (k * 2)).block, (ad.add (k * 2)).off + 1, none⟩ = some (.int .i64 a1)) → ((w'.alloc o).cell? (ad.add (k * 2)) = some (.string a0) ∧ (w'.alloc o).cell? ⟨(ad.add (k * 2)).block, (ad.add (k * 2)).off + 1, none⟩ = some (.int .i64 a1)) from fun w' o ⟨s0, s1⟩ => by
        have hb := (Below.refl w'.heap.size w').alloc (Nat.le_refl _) o
        exact ⟨cell_keep hb s0, cell_keep hb s1⟩)
      go_wp2_with (fail)
      go_region_held3 (fun w' => w'.cell? (ad.add (k * 2)) = some (.string a0) ∧ w'.cell? ⟨(ad.add (k * 2)).block, (ad.add (k * 2)).off + 1, none⟩ = some (.int .i64 a1))
        (first | assumption | exact HSA.out _ _ (by assumption))
        (first
          | (refine Kd.R_append_step k131 (w0 := w) (W := wr.drew) w.heap.size (by rfl) (.tmp 21) (.tmp 37) 69 131 (.agg #[(.int .i64 0), (.int .i64 0), (.int .i64 0), (.int .i64 0), (.string ⟨#[]⟩), (.int .i64 0)]) 56 rfl Try.underlying69 info131 rfl (by decide) (by decide) u13 xs0 ⟨m, fr, m, tq, a0, a1⟩ [.int .i64 m, .int .i64 fr, .int .i64 m, .int .i64 tq, .string a0, .int .i64 a1] (fun _ => True) (fun _ => False) rfl rfl (k131_mkM _ _ _ _) (fun _ h => h.elim) (fun _ _ => trivial) HR0.out HB0.out HB0.out.size HQ.out ?_; intro v1 w6 ho hb hg hat; have kk6 : w6.cell? (ad.add (k * 2)) = some (.string a0) ∧ w6.cell? ⟨(ad.add (k * 2)).block, (ad.add (k * 2)).off + 1, none⟩ = some (.int .i64 a1) := HS0.out.below hb; have H6 := Lib.hid (And.intro ho hb); clear ho hb hg hat))
      go_wp2
      go_roundg (T.length - k)
      case measure => have := HI.out.1; have := HK.out; omega
      case rel =>
        refine ⟨k + 1, by rw [Hw.out], ⟨by have := HI.out.1; have := HK.out; omega, HK.out, ?_, H6.out.2⟩⟩
        rw [HT.out]
        exact H6.out.1
    · have q2 : ((k : Int) < (T.length : Int)) = False := eq_false (by omega)
      have hR0 := HI.out.2.2.1
      rw [List.take_of_length_le (by omega)] at hR0
      obtain ⟨A6, c6, rfl, hc6, hC6⟩ := Kd.R_reads hR0
      have hb := HI.out.2.2.2
      have hpo := rcmove_any wr A c L (Kd.C_below HU.out.1 hb) HU.out.2.1 HU.out.2.2.1 A6 c6 (shR m fr tq T) hC6 (by unfold shR; rw [List.length_map]; have := HU.out.2.2.2.2; omega)
      rw [shR_map] at hpo
      obtain ⟨R, hR⟩ : ∃ R, cmR L (shX m fr tq T) = R := ⟨_, rfl⟩
      rw [hR] at hpo
      have hl5 : (shR m fr tq T).length = T.length := by unfold shR; rw [List.length_map]
      rw [hl5] at hpo
      have HPO := Lib.hid hpo
      have HE := Lib.hid hR
      clear hR0 hc6 hC6 hk hb hpo hR hl5
      go_wp2_with (go_at_call 67; refine HPO.out.mono ?_; rintro e w5 ⟨A5, c5, rfl, H5⟩)
      go_ret3
      rw [HE.out]
      exact ⟨A5, c5, rfl, ⟨H5.out.1, H5.out.2.1, HI.out.2.2.2.trans (H5.out.2.2.mono HI.out.2.2.2.size)⟩⟩
set_option maxRecDepth 100000 in
set_option maxHeartbeats 4000000 in
theorem rctrade_any (w : World) (A : Option Addr) (c : Nat) (L : List S82) (hC : Kd.C k82 w A L.length L) (hc : L.length ≤ c) (hL : L.length ≤ 1000000) (s y cash : Int) (cur : ByteArray) (B : Option Addr) (d : Nat) (T : List S79) (hr : Kd.C k79 w B T.length T) (hT : T.length ≤ 1000) :
    Calls Try.prog 69 #[.slice A L.length c, .int .i64 s, .int .i64 y, .slice B T.length d, .string cur, .int .i64 cash] w fun o w' => ∃ (A' : Option Addr) (c' : Nat), o = .returned (.tuple #[.slice A' (cmR L (trX s y T cur cash)).1.length c', .int .i64 (cmR L (trX s y T cur cash)).2.1, .int .i64 (cmR L (trX s y T cur cash)).2.2]) ∧ Hid (Kd.C k82 w' A' (cmR L (trX s y T cur cash)).1.length (cmR L (trX s y T cur cash)).1 ∧ (cmR L (trX s y T cur cash)).1.length ≤ c' ∧ Below w.heap.size w w') := by
  have HU := Lib.hid (And.intro hC (And.intro hc (And.intro hL (And.intro hr hT))))
  clear hC hc hL hr hT
  go_enter Try.func69, Try.ntmps69
  go_wp2_with (fail)
  go_loopg [15, 16] (T.length + 1) (fun kq v7 v8 w' => ∃ k : Nat, v8 = .int .i64 k ∧ Hid (kq + k = T.length + 1 ∧ k ≤ T.length ∧ Kd.R k131 131 w' w.heap.size (fun _ => True) v7 ((T.take k).map (fun x => (⟨s, 1, y, 1, x.f0, x.f1⟩ : S131))) ∧ Below w.heap.size w w'))
  case atStart =>
    exact ⟨0, rfl, ⟨rfl, Nat.zero_le _, Kd.R_nil _ _ _ _ _, Below.refl _ _⟩⟩
  case round =>
    obtain ⟨k, rfl, HI⟩ := hrel
    by_cases hk : k < T.length
    · obtain ⟨ad, eA, x0, x1⟩ := at_T79 HU.out.2.2.2.1 (k : Int) (by omega) (by omega)
      simp only [Int.toNat_natCast] at x0 x1
      have e1 : rd_T79 T (k : Int) = T[k] := by
        unfold rd_T79
        simp [List.getD, hk]
      have htk : (T.take (k + 1)).map (fun x => (⟨s, 1, y, 1, x.f0, x.f1⟩ : S131)) = (T.take k).map (fun x => (⟨s, 1, y, 1, x.f0, x.f1⟩ : S131)) ++ [⟨s, 1, y, 1, T[k].f0, T[k].f1⟩] := by rw [List.take_succ_eq_append_getElem hk, List.map_append]; rfl
      rw [e1] at x0 x1
      obtain ⟨⟨a0, a1⟩, ha⟩ : ∃ a, T[k] = a := ⟨_, rfl⟩
      rw [ha] at x0 x1 htk
      simp only at x0 x1
      have hl64 : wrap64 ((k : Int) + 1) = ((k + 1 : Nat) : Int) := by
        have h3 := HU.out.2.2.2.2
        rw [wrap_id (by omega) (by omega)]; rfl
      have hlen : ((T.take k).map (fun x => (⟨s, 1, y, 1, x.f0, x.f1⟩ : S131))).length ≤ 1000 := by
        have := HU.out.2.2.2.2
        rw [List.length_map, List.length_take]
        omega
      have q1 : (0 ≤ (k : Int)) = True := eq_true (by omega)
      have q2 : ((k : Int) < (T.length : Int)) = True := eq_true (by omega)
      obtain ⟨xs0, hxs0⟩ : ∃ l, (T.take k).map (fun x => (⟨s, 1, y, 1, x.f0, x.f1⟩ : S131)) = l := ⟨_, rfl⟩
      have hR0 := HI.out.2.2.1
      rw [hxs0] at htk hlen hR0
      have HT := Lib.hid htk
      have HR0 := Lib.hid (show Kd.R k131 131 wr.drew w.heap.size (fun _ => True) u15 xs0 from Kd.R_drew hR0)
      have HB0 := Lib.hid (show Below w.heap.size w wr.drew from HI.out.2.2.2.drew)
      have Hw := Lib.hid hl64
      have HK := Lib.hid hk
      have HQ := Lib.hid (show (xs0.length + 1) * 56 ≤ 140737488355328 by omega)
      have HS0 := Lib.hid (show L2 ad k a0 a1 w from ⟨x0, x1⟩)
      subst eA
      clear e1 htk ha hl64 hlen hxs0 hR0 hk x0 x1
      have hSD : wr.drew.cell? (ad.add (k * 2)) = some (.string a0) ∧ wr.drew.cell? ⟨(ad.add (k * 2)).block, (ad.add (k * 2)).off + 1, none⟩ = some (.int .i64 a1) := HS0.out.below HB0.out
      have HSA := Lib.hid (show ∀ (w' : World) (o : Obj), (w'.cell? (ad.add (k * 2)) = some (.string a0) ∧ w'.cell? ⟨(ad.add (k * 2)).block, (ad.add (k * 2)).off + 1, none⟩ = some (.int .i64 a1)) → ((w'.alloc o).cell? (ad.add (k * 2)) = some (.string a0) ∧ (w'.alloc o).cell? ⟨(ad.add (k * 2)).block, (ad.add (k * 2)).off + 1, none⟩ = some (.int .i64 a1)) from fun w' o ⟨s0, s1⟩ => by
        have hb := (Below.refl w'.heap.size w').alloc (Nat.le_refl _) o
        exact ⟨cell_keep hb s0, cell_keep hb s1⟩)
      go_wp2_with (fail)
      go_region_held3 (fun w' => w'.cell? (ad.add (k * 2)) = some (.string a0) ∧ w'.cell? ⟨(ad.add (k * 2)).block, (ad.add (k * 2)).off + 1, none⟩ = some (.int .i64 a1))
        (first | assumption | exact HSA.out _ _ (by assumption))
        (first
          | (refine Kd.R_append_step k131 (w0 := w) (W := wr.drew) w.heap.size (by rfl) (.tmp 23) (.tmp 37) 69 131 (.agg #[(.int .i64 0), (.int .i64 0), (.int .i64 0), (.int .i64 0), (.string ⟨#[]⟩), (.int .i64 0)]) 56 rfl Try.underlying69 info131 rfl (by decide) (by decide) u15 xs0 ⟨s, 1, y, 1, a0, a1⟩ [.int .i64 s, .int .i64 1, .int .i64 y, .int .i64 1, .string a0, .int .i64 a1] (fun _ => True) (fun _ => False) rfl rfl (k131_mkM _ _ _ _) (fun _ h => h.elim) (fun _ _ => trivial) HR0.out HB0.out HB0.out.size HQ.out ?_; intro v1 w6 ho hb hg hat; have kk6 : w6.cell? (ad.add (k * 2)) = some (.string a0) ∧ w6.cell? ⟨(ad.add (k * 2)).block, (ad.add (k * 2)).off + 1, none⟩ = some (.int .i64 a1) := HS0.out.below hb; have H6 := Lib.hid (And.intro ho hb); clear ho hb hg hat))
      go_wp2
      go_roundg (T.length - k)
      case measure => have := HI.out.1; have := HK.out; omega
      case rel =>
        refine ⟨k + 1, by rw [Hw.out], ⟨by have := HI.out.1; have := HK.out; omega, HK.out, ?_, H6.out.2⟩⟩
        rw [HT.out]
        exact H6.out.1
    · have q2 : ((k : Int) < (T.length : Int)) = False := eq_false (by omega)
      have hR0 := HI.out.2.2.1
      rw [List.take_of_length_le (by omega)] at hR0
      have hlen : (T.map (fun x => (⟨s, 1, y, 1, x.f0, x.f1⟩ : S131))).length ≤ 1000 := by
        have := HU.out.2.2.2.2
        rw [List.length_map]
        omega
      have hX : trR s y T cur cash = T.map (fun x => (⟨s, 1, y, 1, x.f0, x.f1⟩ : S131)) ++ [⟨y, 1, s, 1, cur, cash⟩] := rfl
      obtain ⟨xs0, hxs0⟩ : ∃ l, T.map (fun x => (⟨s, 1, y, 1, x.f0, x.f1⟩ : S131)) = l := ⟨_, rfl⟩
      rw [hxs0] at hlen hR0 hX
      have hXl : (xs0 ++ [(⟨y, 1, s, 1, cur, cash⟩ : S131)]).length ≤ 4000 := by simp; omega
      rw [← hX] at hXl
      obtain ⟨X, hXe⟩ : ∃ X, trR s y T cur cash = X := ⟨_, rfl⟩
      obtain ⟨R, hR⟩ : ∃ R, cmR L (trX s y T cur cash) = R := ⟨_, rfl⟩
      rw [hXe] at hXl hX
      have HQ := Lib.hid (And.intro hR0 (And.intro HI.out.2.2.2 (And.intro HI.out.2.2.2.size (show (xs0.length + 1) * 56 ≤ 140737488355328 by omega))))
      have hPO : ∀ (W : World) (A6 : Option Addr) (c6 : Nat), Below w.heap.size w W → Kd.C k131 W A6 X.length X → Calls Try.prog 67 #[.slice A L.length c, .slice A6 X.length c6] W fun o w' => ∃ (A' : Option Addr) (c' : Nat), o = .returned (.tuple #[.slice A' R.1.length c', .int .i64 R.2.1, .int .i64 R.2.2]) ∧ Hid (Kd.C k82 w' A' R.1.length R.1 ∧ R.1.length ≤ c' ∧ Below W.heap.size W w') := fun W A6 c6 hb hC6 => by
        have := rcmove_any W A c L (Kd.C_below HU.out.1 hb) HU.out.2.1 HU.out.2.2.1 A6 c6 X hC6 hXl
        rw [← hXe, trR_map, hR, hXe] at this
        exact this
      have HPO := Lib.hid hPO
      have HX := Lib.hid hX.symm
      have HE := Lib.hid hR
      clear hR0 hlen hxs0 hX hXl hXe hk hPO hR
      go_wp2_with (first
        | (go_at_call 67; refine (HPO.out _ A5 c5 H5.out.2 H5.out.1).mono ?_; rintro e w6 ⟨A7, c7, rfl, H6⟩)
        | (at_builtin; refine Kd.R_append k131 (w0 := w) (W := wr) w.heap.size rfl (.tmp 40) (.tmp 46) 69 131 (.agg #[(.int .i64 0), (.int .i64 0), (.int .i64 0), (.int .i64 0), (.string ⟨#[]⟩), (.int .i64 0)]) 56 rfl Try.underlying69 info131 rfl (by decide) (by decide) u15 xs0 ⟨y, 1, s, 1, cur, cash⟩ [.int .i64 y, .int .i64 1, .int .i64 s, .int .i64 1, .string cur, .int .i64 cash] (fun _ => True) (fun _ => False) rfl rfl (k131_mkM _ _ _ _) (fun _ h => h.elim) (fun _ _ => trivial) HQ.out.1 HQ.out.2.1 HQ.out.2.2.1 HQ.out.2.2.2 ?_; intro v1 w5 ho hb hg hat; rw [HX.out] at ho; obtain ⟨A5, c5, rfl, _, hC5⟩ := Kd.R_reads ho; have H5 := Lib.hid (And.intro hC5 hb); clear ho hb hg hat hC5))
      go_ret3
      rw [HE.out]
      exact ⟨A7, c7, rfl, ⟨H6.out.1, H6.out.2.1, H5.out.2.trans (H6.out.2.2.mono H5.out.2.size)⟩⟩
end Go.Proofs.Ytoknlpecbdlbfaa.PL

/- An act, as a row of eight cells. -/
namespace Go.Proofs.Ytoknlpecbdlbfaa.PL
open Go Go.RowKit Go.Proofs Go.Proofs.YtoknlpecbdlbfaaW.PrintWords Go.Proofs.YtoknlpecbdlbfaaW.PrintLast
structure S72 where
  f0 : Int
  f1 : Int
  f2 : Int
  f3 : Int
  f4 : ByteArray
  f5 : Int
  f6 : List S131
  f7 : List S79
def z72 : S72 := ⟨0, 0, 0, 0, (⟨#[]⟩ : ByteArray), 0, [], []⟩
def k72 : Kd S72 := Kd.iso (Kd.pair (Kd.int .i64) (Kd.pair (Kd.int .i64) (Kd.pair (Kd.int .i64) (Kd.pair (Kd.int .i64) (Kd.pair Kd.string (Kd.pair (Kd.int .i64) (Kd.pair (Kd.slice 131 k131) (Kd.slice 79 k79)))))))) (fun x : S72 => (x.f0, x.f1, x.f2, x.f3, x.f4, x.f5, x.f6, x.f7))
theorem k72_open {w : World} {x : S72} {cs : List Value} (h : k72.K w x cs) : ∃ (A : Option Addr) (c : Nat) (B : Option Addr) (d : Nat), cs = [.int .i64 x.f0, .int .i64 x.f1, .int .i64 x.f2, .int .i64 x.f3, .string x.f4, .int .i64 x.f5, .slice A x.f6.length c, .slice B x.f7.length d] ∧ x.f6.length ≤ c ∧ k131.C w A x.f6.length x.f6 ∧ x.f7.length ≤ d ∧ k79.C w B x.f7.length x.f7 := by
  obtain ⟨_, _, rfl, rfl, ⟨_, _, rfl, rfl, ⟨_, _, rfl, rfl, ⟨_, _, rfl, rfl, ⟨_, _, rfl, rfl, ⟨_, _, rfl, rfl, ⟨_, _, rfl, ⟨A, c, rfl, l1, g1⟩, ⟨B, d, rfl, l2, g2⟩⟩⟩⟩⟩⟩⟩⟩ := h
  exact ⟨A, c, B, d, rfl, l1, g1, l2, g2⟩
theorem k72_mk {w : World} (x : S72) {A : Option Addr} {c : Nat} {B : Option Addr} {d : Nat} (l1 : x.f6.length ≤ c) (g1 : k131.C w A x.f6.length x.f6) (l2 : x.f7.length ≤ d) (g2 : k79.C w B x.f7.length x.f7) :
    k72.K w x [.int .i64 x.f0, .int .i64 x.f1, .int .i64 x.f2, .int .i64 x.f3, .string x.f4, .int .i64 x.f5, .slice A x.f6.length c, .slice B x.f7.length d] :=
  ⟨[_], _, rfl, rfl, ⟨[_], _, rfl, rfl, ⟨[_], _, rfl, rfl, ⟨[_], _, rfl, rfl, ⟨[_], _, rfl, rfl, ⟨[_], _, rfl, rfl, ⟨[_], [_], rfl, ⟨A, c, rfl, l1, g1⟩, ⟨B, d, rfl, l2, g2⟩⟩⟩⟩⟩⟩⟩⟩
def rd_T72 (xs : List S72) (i : Int) : S72 := xs.getD i.toNat z72
theorem at_T72 {w : World} {A : Option Addr} {n : Nat} {xs : List S72} (h : Kd.C k72 w A n xs) (i : Int) (h0 : 0 ≤ i) (h1 : i < n) : ∃ (ad : Addr) (A6 : Option Addr) (c6 : Nat) (A7 : Option Addr) (c7 : Nat), A = some ad ∧
    w.cell? (ad.add (i.toNat * 8)) = some (.int .i64 (rd_T72 xs i).f0) ∧ w.cell? ⟨(ad.add (i.toNat * 8)).block, (ad.add (i.toNat * 8)).off + 1, none⟩ = some (.int .i64 (rd_T72 xs i).f1) ∧ w.cell? ⟨(ad.add (i.toNat * 8)).block, (ad.add (i.toNat * 8)).off + 2, none⟩ = some (.int .i64 (rd_T72 xs i).f2) ∧ w.cell? ⟨(ad.add (i.toNat * 8)).block, (ad.add (i.toNat * 8)).off + 3, none⟩ = some (.int .i64 (rd_T72 xs i).f3) ∧ w.cell? ⟨(ad.add (i.toNat * 8)).block, (ad.add (i.toNat * 8)).off + 4, none⟩ = some (.string (rd_T72 xs i).f4) ∧ w.cell? ⟨(ad.add (i.toNat * 8)).block, (ad.add (i.toNat * 8)).off + 5, none⟩ = some (.int .i64 (rd_T72 xs i).f5) ∧ w.cell? ⟨(ad.add (i.toNat * 8)).block, (ad.add (i.toNat * 8)).off + 6, none⟩ = some (.slice A6 (rd_T72 xs i).f6.length c6) ∧ w.cell? ⟨(ad.add (i.toNat * 8)).block, (ad.add (i.toNat * 8)).off + 7, none⟩ = some (.slice A7 (rd_T72 xs i).f7.length c7) ∧
    ((rd_T72 xs i).f6.length ≤ c6 ∧ k131.C w A6 (rd_T72 xs i).f6.length (rd_T72 xs i).f6 ∧ (rd_T72 xs i).f7.length ≤ c7 ∧ k79.C w A7 (rd_T72 xs i).f7.length (rd_T72 xs i).f7) := by
  obtain ⟨ad, c, e, _, hK, hc0⟩ := Kd.C_get h z72 i h0 h1
  have hc : ∀ j u, c[j]? = some u → w.cell? (ad.add (i.toNat * 8 + j)) = some u := hc0
  obtain ⟨A6, c6, A7, c7, rfl, g⟩ := k72_open hK
  exact ⟨ad, A6, c6, A7, c7, e, hc 0 _ rfl, by rw [← add_field _ _ 1 (by omega)]; exact hc 1 _ rfl, by rw [← add_field _ _ 2 (by omega)]; exact hc 2 _ rfl, by rw [← add_field _ _ 3 (by omega)]; exact hc 3 _ rfl, by rw [← add_field _ _ 4 (by omega)]; exact hc 4 _ rfl, by rw [← add_field _ _ 5 (by omega)]; exact hc 5 _ rfl, by rw [← add_field _ _ 6 (by omega)]; exact hc 6 _ rfl, by rw [← add_field _ _ 7 (by omega)]; exact hc 7 _ rfl, g⟩
end Go.Proofs.Ytoknlpecbdlbfaa.PL

/- Acts on both sides, and what stays as it is: plain. -/
namespace Go.Proofs.Ytoknlpecbdlbfaa.PL
open Go Go.RowKit Go.Maps Go.Sort Go.Shelf Go.Proofs Go.Proofs.YtoknlpecbdlbfaaW.PrintWords Go.Proofs.YtoknlpecbdlbfaaW.PrintLast
/-- What an act does on the program's side. -/
def actM (M : List (S42 × Int)) (x : S72) : List (S42 × Int) × Int × Int :=
  if x.f0 = 0 then ((brL M x.f1 x.f4 x.f5).1, 0, (brL M x.f1 x.f4 x.f5).2)
  else if x.f0 = 1 then cmL M (x.f6.map toLn)
  else if x.f0 = 2 then cmL M (shX x.f1 x.f2 x.f3 x.f7)
  else cmL M (trX x.f1 x.f2 x.f7 x.f4 x.f5)
/-- What it does on the document's. -/
def actL (L : List S82) (x : S72) : List S82 × Int × Int :=
  if x.f0 = 0 then ((brR L x.f1 x.f4 x.f5).1, 0, (brR L x.f1 x.f4 x.f5).2)
  else if x.f0 = 1 then cmR L (x.f6.map toLn)
  else if x.f0 = 2 then cmR L (shX x.f1 x.f2 x.f3 x.f7)
  else cmR L (trX x.f1 x.f2 x.f7 x.f4 x.f5)
theorem St.act {M : List (S42 × Int)} {L : List S82} (h : St M L) (x : S72) : St (actM M x).1 (actL L x).1 ∧ (actM M x).2.1 = (actL L x).2.1 ∧ (actM M x).2.2 = (actL L x).2.2 := by
  unfold actM actL
  split
  · exact ⟨(h.br _ _ _).1, rfl, (h.br _ _ _).2⟩
  · split
    · exact h.cm _
    · split
      · exact h.cm _
      · exact h.cm _
theorem length_actL (L : List S82) (x : S72) (h6 : x.f6.length ≤ 40) (h7 : x.f7.length ≤ 40) : (actL L x).1.length ≤ L.length + 82 := by
  unfold actL
  split
  · have := length_brR L x.f1 x.f4 x.f5
    show (brR L x.f1 x.f4 x.f5).1.length ≤ _
    omega
  · split
    · have := length_cmR L (x.f6.map toLn)
      rw [List.length_map] at this
      omega
    · split
      · have := length_cmR L (shX x.f1 x.f2 x.f3 x.f7)
        unfold shX at this ⊢
        rw [List.length_map] at this
        omega
      · have := length_cmR L (trX x.f1 x.f2 x.f7 x.f4 x.f5)
        have e : (trX x.f1 x.f2 x.f7 x.f4 x.f5).length = x.f7.length + 1 := by unfold trX; simp
        omega
/-- The accounts that a custody has. -/
def okAc (a : S42) : Prop := (a.f0 = 0 ∧ a.f1 = 0) ∨ (1 ≤ a.f0 ∧ a.f0 ≤ 32 ∧ 1 ≤ a.f1 ∧ a.f1 ≤ 4)
theorem wrB_ok {m b : Int} (h : wrB m b = false) : 1 ≤ m ∧ m ≤ 32 ∧ 1 ≤ b ∧ b ≤ 4 := by
  unfold wrB at h
  have := of_decide_eq_false h
  omega
/-- All that has something is such an account. -/
def Bk (M : List (S42 × Int)) : Prop := ∀ a, getM M a ≠ 0 → okAc a
theorem Bk.nil : Bk [] := fun _ h => absurd rfl h
theorem Bk.fin : ∀ (l : List S107) (M : List (S42 × Int)), Bk M → allOk M l → (∀ e ∈ l, okAc e.f0 ∧ okAc e.f1) → Bk (fin M l)
  | [], _, h, _, _ => h
  | e :: r, M, h, ho, hl => by
    refine Bk.fin r (moveM M e).1 ?_ ho.2 (fun e' he => hl e' (List.mem_cons_of_mem _ he))
    intro a ha
    rw [getM_move ho.1] at ha
    obtain ⟨o1, o2⟩ := hl e List.mem_cons_self
    by_cases h1 : a = e.f1
    · exact h1 ▸ o2
    · rw [if_neg h1] at ha
      by_cases h2 : a = e.f0
      · exact h2 ▸ o1
      · rw [if_neg h2] at ha
        exact h a ha
theorem Bk.post {M : List (S42 × Int)} {L : List S82} (h : St M L) (hb : Bk M) (l : List S107) (hl : ∀ e ∈ l, okAc e.f0 ∧ okAc e.f1) : Bk (postL [] M l).1 := by
  by_cases c : (postL [] M l).2.2 = 0
  · obtain ⟨h1, h2⟩ := post_allOk l [] M c
    rw [h2]
    exact Bk.fin l M hb h1 hl
  · intro a ha
    rw [(h.fail l c).same] at ha
    exact hb a (by rw [h.rep.same]; exact ha)
theorem fb_all : ∀ (X : List S125) (i : Nat), fbL i X = none → ∀ x ∈ X, wrB x.f0 x.f1 = false ∧ wrB x.f2 x.f3 = false
  | [], _, _, _, hx => by cases hx
  | y :: r, i, h, x, hx => by
    unfold fbL at h
    split at h
    · cases h
    · rename_i hn
      rcases List.mem_cons.1 hx with rfl | hx
      · constructor
        · cases hw : wrB x.f0 x.f1 with
          | false => rfl
          | true => exact absurd (.inl hw) hn
        · cases hw : wrB x.f2 x.f3 with
          | false => rfl
          | true => exact absurd (.inr hw) hn
      · exact fb_all r (i + 1) h x hx
theorem ok_lnE {X : List S125} (h : fbL 0 X = none) : ∀ e ∈ X.map lnE, okAc e.f0 ∧ okAc e.f1 := by
  intro e he
  obtain ⟨x, hx, rfl⟩ := List.mem_map.1 he
  obtain ⟨h1, h2⟩ := fb_all X 0 h x hx
  exact ⟨.inr (wrB_ok h1), .inr (wrB_ok h2)⟩
theorem Bk.br {M : List (S42 × Int)} {L : List S82} (h : St M L) (hb : Bk M) (m : Int) (t : ByteArray) (q : Int) : Bk (brL M m t q).1 := by
  unfold brL
  split
  · exact hb
  · rename_i hw
    split
    · exact hb
    · refine hb.post h _ ?_
      have hw' : wrB m 1 = false := by simpa using hw
      have := wrB_ok hw'
      intro e he
      obtain rfl := List.mem_singleton.1 he
      unfold brE
      split
      · exact ⟨.inr this, .inl ⟨rfl, rfl⟩⟩
      · exact ⟨.inl ⟨rfl, rfl⟩, .inr this⟩
theorem Bk.cm {M : List (S42 × Int)} {L : List S82} (h : St M L) (hb : Bk M) (X : List S125) : Bk (cmL M X).1 := by
  cases hf : fbL 0 X with
  | some i =>
    rw [cmL_bad hf]
    exact hb
  | none =>
    rw [cmL_ok hf]
    exact hb.post h _ (ok_lnE hf)
/-- What holds of a custody, whatever is done. -/
structure Iv (M : List (S42 × Int)) (L : List S82) : Prop where
  st : St M L
  wh : Wh M
  bk : Bk M
theorem Iv.nil : Iv [] [] := ⟨St.nil, Wh.nil, Bk.nil⟩
theorem Iv.act {M : List (S42 × Int)} {L : List S82} (h : Iv M L) (x : S72) : Iv (actM M x).1 (actL L x).1 := by
  refine ⟨(h.st.act x).1, ?_, ?_⟩
  · unfold actM
    split
    · exact h.wh.br h.st _ _ _
    · split
      · exact h.wh.cm h.st _
      · split
        · exact h.wh.cm h.st _
        · exact h.wh.cm h.st _
  · unfold actM
    split
    · exact h.bk.br h.st _ _ _
    · split
      · exact h.bk.cm h.st _
      · split
        · exact h.bk.cm h.st _
        · exact h.bk.cm h.st _
/-! Once. -/
end Go.Proofs.Ytoknlpecbdlbfaa.PL
