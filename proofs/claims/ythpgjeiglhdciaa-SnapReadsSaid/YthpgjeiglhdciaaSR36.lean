/- Part 36 of the proof's texts: what the theorem needs of them. -/
import Derived.Test.YthpgjeiglhdciaaSR35
import Derived.Test.YthpgjeiglhdciaaSR14
import Derived.Test.YthpgjeiglhdciaaSR15
import Derived.Test.YthpgjeiglhdciaaSR16
import Derived.Test.YthpgjeiglhdciaaSR17
import Derived.Test.YthpgjeiglhdciaaSR18
import Derived.Test.YthpgjeiglhdciaaSR19
import Derived.Test.YthpgjeiglhdciaaSR20
import Derived.Test.YthpgjeiglhdciaaSR21
import Derived.Test.YthpgjeiglhdciaaSR22
import Derived.Test.YthpgjeiglhdciaaSR23
import Derived.Test.YthpgjeiglhdciaaSR24
import Derived.Test.YthpgjeiglhdciaaSR25

set_option linter.unusedVariables false
set_option linter.unusedSimpArgs false
/- same, at two empty views. (printed by gen_same.py) -/
namespace Go.Proofs.Ythpgjeiglhdciaa.SN
open Go Go.RowKit Go.Proofs Go.Proofs.Ythpgjeiglhdciaa.PL Go.Proofs.YthpgjeiglhdciaaW.PrintWords Go.Proofs.YthpgjeiglhdciaaW.PrintLast Go.Proofs.YthpgjeiglhdciaaW.PrintMore
theorem cell_offj {W : World} {P G i j : Nat} {v : Value} (hne : P ≠ G) : (W.setCell ⟨G, i, none⟩ v).cell? ⟨P, j, none⟩ = W.cell? ⟨P, j, none⟩ := by
  have e : (W.setCell ⟨G, i, none⟩ v).heap[P]? = W.heap[P]? := Below.heap_setCell _ _ _ _ hne
  simp only [World.cell?]
  rw [e]
theorem cell_all {P G j : Nat} (hne : P ≠ G) : ∀ (vs : List Value) (i : Nat) {W : World}, (setAll W G vs i).cell? ⟨P, j, none⟩ = W.cell? ⟨P, j, none⟩
  | [], _, _ => rfl
  | v :: r, i, W => (cell_all hne r (i + 1)).trans (cell_offj hne)
theorem six_set {W : World} {P G : Nat} (hne : P ≠ G) (vs : List Value) (h : W.cell? ⟨P, 0, none⟩ = some (.int .i64 0) ∧ W.cell? ⟨P, 1, none⟩ = some (.slice none 0 0) ∧ W.cell? ⟨P, 4, none⟩ = some (.slice none 0 0) ∧ W.cell? ⟨P, 6, none⟩ = some (.slice none 0 0) ∧ W.cell? ⟨P, 7, none⟩ = some (.slice none 0 0) ∧ W.cell? ⟨P, 8, none⟩ = some (.int .i64 0)) : (setAll W G vs 0).cell? ⟨P, 0, none⟩ = some (.int .i64 0) ∧ (setAll W G vs 0).cell? ⟨P, 1, none⟩ = some (.slice none 0 0) ∧ (setAll W G vs 0).cell? ⟨P, 4, none⟩ = some (.slice none 0 0) ∧ (setAll W G vs 0).cell? ⟨P, 6, none⟩ = some (.slice none 0 0) ∧ (setAll W G vs 0).cell? ⟨P, 7, none⟩ = some (.slice none 0 0) ∧ (setAll W G vs 0).cell? ⟨P, 8, none⟩ = some (.int .i64 0) :=
  ⟨(cell_all hne vs 0).trans h.1, (cell_all hne vs 0).trans h.2.1, (cell_all hne vs 0).trans h.2.2.1, (cell_all hne vs 0).trans h.2.2.2.1, (cell_all hne vs 0).trans h.2.2.2.2.1, (cell_all hne vs 0).trans h.2.2.2.2.2⟩
theorem g_kept {W w5 : World} (hb : Below (W.alloc (.cells #[.int .i64 0, .slice none 0 0, .slice none 0 0, .slice none 0 0, .slice none 0 0, .slice none 0 0, .slice none 0 0, .int .i64 0, .slice none 0 0, .slice none 0 0, .slice none 0 0] 35)).drew.heap.size (W.alloc (.cells #[.int .i64 0, .slice none 0 0, .slice none 0 0, .slice none 0 0, .slice none 0 0, .slice none 0 0, .slice none 0 0, .int .i64 0, .slice none 0 0, .slice none 0 0, .slice none 0 0] 35)).drew w5) : w5.heap[W.heap.size]? = some (.cells #[.int .i64 0, .slice none 0 0, .slice none 0 0, .slice none 0 0, .slice none 0 0, .slice none 0 0, .slice none 0 0, .int .i64 0, .slice none 0 0, .slice none 0 0, .slice none 0 0] 35 (0, 0)) :=
  (hb.block W.heap.size (by show W.heap.size < (W.alloc _).heap.size; simp)).trans (Go.MapKept.heap_alloc W _).1
/-- The view's own block P and the answer's C stand, as they were laid. -/
structure TB0 (w W : World) (P C : Nat) : Prop where
  p : W.heap[P]? = some (.cells #[.int .i64 0, .slice none 0 0, .slice none 0 0, .slice none 0 0, .slice none 0 0, .slice none 0 0, .slice none 0 0, .slice none 0 0, .int .i64 0, .slice none 0 0, .slice none 0 0, .slice none 0 0] 45 (0, 0))
  c : W.heap[C]? = some (.cells #[.int .i64 0, .slice none 0 0, .slice none 0 0, .slice none 0 0, .slice none 0 0, .slice none 0 0, .slice none 0 0, .int .i64 0, .slice none 0 0, .slice none 0 0, .slice none 0 0] 35 (0, 0))
  b : Below P w W
  pc : P < C
  lt : C < W.heap.size
theorem TB0.up {w W W' : World} {P C : Nat} (h : TB0 w W P C) (hb : Below W.heap.size W W') : TB0 w W' P C :=
  ⟨(hb.block P (Nat.lt_trans h.pc h.lt)).trans h.p, (hb.block C h.lt).trans h.c, h.b.trans (hb.mono (Nat.le_of_lt (Nat.lt_trans h.pc h.lt))), h.pc, Nat.lt_of_lt_of_le h.lt hb.size⟩
theorem TB0.start (w : World) : TB0 w ((w.alloc (.cells #[.int .i64 0, .slice none 0 0, .slice none 0 0, .slice none 0 0, .slice none 0 0, .slice none 0 0, .slice none 0 0, .slice none 0 0, .int .i64 0, .slice none 0 0, .slice none 0 0, .slice none 0 0] 45)).alloc (.cells #[.int .i64 0, .slice none 0 0, .slice none 0 0, .slice none 0 0, .slice none 0 0, .slice none 0 0, .slice none 0 0, .int .i64 0, .slice none 0 0, .slice none 0 0, .slice none 0 0] 35)) w.heap.size (w.heap.size + 1) := by
  have h1 := (Go.MapKept.heap_alloc w (.cells #[.int .i64 0, .slice none 0 0, .slice none 0 0, .slice none 0 0, .slice none 0 0, .slice none 0 0, .slice none 0 0, .slice none 0 0, .int .i64 0, .slice none 0 0, .slice none 0 0, .slice none 0 0] 45)).1
  have h2 := (Go.MapKept.heap_alloc (w.alloc (.cells #[.int .i64 0, .slice none 0 0, .slice none 0 0, .slice none 0 0, .slice none 0 0, .slice none 0 0, .slice none 0 0, .slice none 0 0, .int .i64 0, .slice none 0 0, .slice none 0 0, .slice none 0 0] 45)) (.cells #[.int .i64 0, .slice none 0 0, .slice none 0 0, .slice none 0 0, .slice none 0 0, .slice none 0 0, .slice none 0 0, .int .i64 0, .slice none 0 0, .slice none 0 0, .slice none 0 0] 35)).1
  have hs : (w.alloc (.cells #[.int .i64 0, .slice none 0 0, .slice none 0 0, .slice none 0 0, .slice none 0 0, .slice none 0 0, .slice none 0 0, .slice none 0 0, .int .i64 0, .slice none 0 0, .slice none 0 0, .slice none 0 0] 45)).heap.size = w.heap.size + 1 := by simp
  rw [hs] at h2
  exact ⟨((below_alloc (Below.refl (w.alloc (.cells #[.int .i64 0, .slice none 0 0, .slice none 0 0, .slice none 0 0, .slice none 0 0, .slice none 0 0, .slice none 0 0, .slice none 0 0, .int .i64 0, .slice none 0 0, .slice none 0 0, .slice none 0 0] 45)).heap.size (w.alloc (.cells #[.int .i64 0, .slice none 0 0, .slice none 0 0, .slice none 0 0, .slice none 0 0, .slice none 0 0, .slice none 0 0, .slice none 0 0, .int .i64 0, .slice none 0 0, .slice none 0 0, .slice none 0 0] 45))) _).block w.heap.size (by rw [hs]; exact Nat.lt_succ_self _)).trans h1, h2, ((Below.refl w.heap.size w).alloc (Nat.le_refl _) _).alloc (by rw [hs]; exact Nat.le_succ _) _, Nat.lt_succ_self _, by simp⟩
/-- Behind the first statement: the document's view so far, at block G. -/
structure TG (w W : World) (P C G : Nat) (A : Option Addr) (c : Nat) : Prop where
  t : TB0 w W P C
  g : W.heap[G]? = some (.cells #[.int .i64 0, .slice A 0 c, .slice none 0 0, .slice none 0 0, .slice none 0 0, .slice none 0 0, .slice none 0 0, .int .i64 0, .slice none 0 0, .slice none 0 0, .slice none 0 0] 35 (0, 0))
  lt : C < G
theorem C_zero (W : World) (A : Option Addr) : k55.C W A 0 [] := ⟨rfl, by simp, fun h => absurd h (Nat.lt_irrefl 0)⟩
theorem set_heap {G j : Nat} (hne : j ≠ G) : ∀ (vs : List Value) (i : Nat) {W : World}, (setAll W G vs i).heap[j]? = W.heap[j]?
  | [], _, _ => rfl
  | v :: r, i, _ => (set_heap hne r (i + 1)).trans (Below.heap_setCell _ _ _ _ hne)
theorem set_size {G : Nat} : ∀ (vs : List Value) (i : Nat) {W : World}, (setAll W G vs i).heap.size = W.heap.size
  | [], _, _ => rfl
  | v :: r, i, W => (set_size r (i + 1)).trans (by show (W.setCell ⟨G, i, none⟩ v).heap.size = W.heap.size; simp)
theorem TG.new {w w5 : World} {P C : Nat} {A : Option Addr} {c : Nat} (h : TB0 w w5 P C) : TG w (w5.alloc (.cells #[.int .i64 0, .slice A 0 c, .slice none 0 0, .slice none 0 0, .slice none 0 0, .slice none 0 0, .slice none 0 0, .int .i64 0, .slice none 0 0, .slice none 0 0, .slice none 0 0] 35)) P C w5.heap.size A c :=
  ⟨h.up (below_alloc (Below.refl _ _) _), (Go.MapKept.heap_alloc w5 _).1, h.lt⟩
theorem TG.fill {w w5 : World} {P C G : Nat} {A : Option Addr} {c : Nat} (h : TB0 w w5 P C) (hg : w5.heap[G]? = some (.cells #[.int .i64 0, .slice none 0 0, .slice none 0 0, .slice none 0 0, .slice none 0 0, .slice none 0 0, .slice none 0 0, .int .i64 0, .slice none 0 0, .slice none 0 0, .slice none 0 0] 35 (0, 0))) (hG : C < G) : TG w (setAll w5 G [.int .i64 0, .slice A 0 c, .slice none 0 0, .slice none 0 0, .slice none 0 0, .slice none 0 0, .slice none 0 0, .int .i64 0, .slice none 0 0, .slice none 0 0, .slice none 0 0] 0) P C G A c :=
  ⟨⟨(set_heap (Nat.ne_of_lt (Nat.lt_trans h.pc hG)) _ 0).trans h.p, (set_heap (Nat.ne_of_lt hG) _ 0).trans h.c, fill_below (Nat.le_of_lt (Nat.lt_trans h.pc hG)) _ 0 h.b, h.pc, by rw [set_size]; exact h.lt⟩, fill_block hg [.int .i64 0, .slice A 0 c, .slice none 0 0, .slice none 0 0, .slice none 0 0, .slice none 0 0, .slice none 0 0, .int .i64 0, .slice none 0 0, .slice none 0 0, .slice none 0 0] rfl, hG⟩
set_option maxRecDepth 100000 in
set_option maxHeartbeats 4000000 in
theorem told0 (w : World) : Calls Try.prog 38 #[.agg #[.int .i64 0, .slice none 0 0, .slice none 0 0, .slice none 0 0, .slice none 0 0, .slice none 0 0, .slice none 0 0, .slice none 0 0, .int .i64 0, .slice none 0 0, .slice none 0 0, .slice none 0 0]] w fun o w' => ∃ (A : Option Addr) (c : Nat), o = .returned (.agg #[.int .i64 0, .slice A 0 c, .slice none 0 0, .slice none 0 0, .slice none 0 0, .slice none 0 0, .slice none 0 0, .int .i64 0, .slice none 0 0, .slice none 0 0, .slice none 0 0]) ∧ Hid (k55.C w' A 0 [] ∧ Below w.heap.size w w') := by
  go_enter Try.func38, Try.ntmps38
  go_upto_region 1 with (fail)
  have hts := TB0.start w
  obtain ⟨P, hP⟩ : ∃ P, w.heap.size = P := ⟨_, rfl⟩
  obtain ⟨C, hC⟩ : ∃ C, P + 1 = C := ⟨_, rfl⟩
  rw [hP, hC] at hts
  rw [hP, hC]
  generalize (w.alloc (.cells #[.int .i64 0, .slice none 0 0, .slice none 0 0, .slice none 0 0, .slice none 0 0, .slice none 0 0, .slice none 0 0, .slice none 0 0, .int .i64 0, .slice none 0 0, .slice none 0 0, .slice none 0 0] 45)).alloc (.cells #[.int .i64 0, .slice none 0 0, .slice none 0 0, .slice none 0 0, .slice none 0 0, .slice none 0 0, .slice none 0 0, .int .i64 0, .slice none 0 0, .slice none 0 0, .slice none 0 0] 35) = W1 at hts ⊢
  have HT := Lib.hid hts
  have HPP := Lib.hid hP
  have hSD : W1.drew.cell? ⟨P, 0, none⟩ = some (.int .i64 0) ∧ W1.drew.cell? ⟨P, 1, none⟩ = some (.slice none 0 0) ∧ W1.drew.cell? ⟨P, 4, none⟩ = some (.slice none 0 0) ∧ W1.drew.cell? ⟨P, 6, none⟩ = some (.slice none 0 0) ∧ W1.drew.cell? ⟨P, 7, none⟩ = some (.slice none 0 0) ∧ W1.drew.cell? ⟨P, 8, none⟩ = some (.int .i64 0) := ⟨cellsAt (show W1.drew.heap[P]? = _ from HT.out.p) 0, cellsAt (show W1.drew.heap[P]? = _ from HT.out.p) 1, cellsAt (show W1.drew.heap[P]? = _ from HT.out.p) 4, cellsAt (show W1.drew.heap[P]? = _ from HT.out.p) 6, cellsAt (show W1.drew.heap[P]? = _ from HT.out.p) 7, cellsAt (show W1.drew.heap[P]? = _ from HT.out.p) 8⟩
  have HSA := Lib.hid (show ∀ (W' : World) (x : Obj), TB0 w W' P C → (W'.alloc x).cell? ⟨P, 0, none⟩ = some (.int .i64 0) ∧ (W'.alloc x).cell? ⟨P, 1, none⟩ = some (.slice none 0 0) ∧ (W'.alloc x).cell? ⟨P, 4, none⟩ = some (.slice none 0 0) ∧ (W'.alloc x).cell? ⟨P, 6, none⟩ = some (.slice none 0 0) ∧ (W'.alloc x).cell? ⟨P, 7, none⟩ = some (.slice none 0 0) ∧ (W'.alloc x).cell? ⟨P, 8, none⟩ = some (.int .i64 0) from fun W' x h => ⟨cellsAt (h.up (below_alloc (Below.refl _ _) x)).p 0, cellsAt (h.up (below_alloc (Below.refl _ _) x)).p 1, cellsAt (h.up (below_alloc (Below.refl _ _) x)).p 4, cellsAt (h.up (below_alloc (Below.refl _ _) x)).p 6, cellsAt (h.up (below_alloc (Below.refl _ _) x)).p 7, cellsAt (h.up (below_alloc (Below.refl _ _) x)).p 8⟩)
  have HSD := Lib.hid (show ∀ x : Obj, (W1.alloc x).drew.cell? ⟨P, 0, none⟩ = some (.int .i64 0) ∧ (W1.alloc x).drew.cell? ⟨P, 1, none⟩ = some (.slice none 0 0) ∧ (W1.alloc x).drew.cell? ⟨P, 4, none⟩ = some (.slice none 0 0) ∧ (W1.alloc x).drew.cell? ⟨P, 6, none⟩ = some (.slice none 0 0) ∧ (W1.alloc x).drew.cell? ⟨P, 7, none⟩ = some (.slice none 0 0) ∧ (W1.alloc x).drew.cell? ⟨P, 8, none⟩ = some (.int .i64 0) from fun x => ⟨cellsAt (show (W1.alloc x).drew.heap[P]? = _ from (HT.out.up (below_alloc (Below.refl _ _) x)).p) 0, cellsAt (show (W1.alloc x).drew.heap[P]? = _ from (HT.out.up (below_alloc (Below.refl _ _) x)).p) 1, cellsAt (show (W1.alloc x).drew.heap[P]? = _ from (HT.out.up (below_alloc (Below.refl _ _) x)).p) 4, cellsAt (show (W1.alloc x).drew.heap[P]? = _ from (HT.out.up (below_alloc (Below.refl _ _) x)).p) 6, cellsAt (show (W1.alloc x).drew.heap[P]? = _ from (HT.out.up (below_alloc (Below.refl _ _) x)).p) 7, cellsAt (show (W1.alloc x).drew.heap[P]? = _ from (HT.out.up (below_alloc (Below.refl _ _) x)).p) 8⟩)
  clear hts hP hC
  go_cut [3] (fun v3 wx => ∃ (G : Nat) (A : Option Addr) (c : Nat), v3 = .pointer (some ⟨G, 0, none⟩) ∧ Hid (TG w wx P C G A c))
  case first =>
    have HC57 := Lib.hid (fun W => lombardlaw30_Told.calls 1 none 0 [] [] W (Kd.C_nil _ _) (Nat.le_refl _) rfl)
    go_region_held3 (fun w' => w'.cell? ⟨P, 0, none⟩ = some (.int .i64 0) ∧ w'.cell? ⟨P, 1, none⟩ = some (.slice none 0 0) ∧ w'.cell? ⟨P, 4, none⟩ = some (.slice none 0 0) ∧ w'.cell? ⟨P, 6, none⟩ = some (.slice none 0 0) ∧ w'.cell? ⟨P, 7, none⟩ = some (.slice none 0 0) ∧ w'.cell? ⟨P, 8, none⟩ = some (.int .i64 0))
      (first | with_reducible assumption | with_reducible exact HSA.out _ _ (by with_reducible assumption) | with_reducible exact HSD.out _ | exact six_set (by with_reducible assumption) [.int .i64 0, .slice A 0 c, .slice none 0 0, .slice none 0 0, .slice none 0 0, .slice none 0 0, .slice none 0 0, .int .i64 0, .slice none 0 0, .slice none 0 0, .slice none 0 0] (by with_reducible assumption))
      (first
        | (go_at_call 57; have hk0 : True := trivial; refine (HC57.out _).mono ?_; rintro e w5 ⟨v0, rfl, hr5, hb5⟩; obtain ⟨A, c, hv0⟩ := Kd.R_slice hr5; replace hv0 : v0 = .slice A 0 c := hv0; subst hv0; have HT5 := Lib.hid ((HT.out.up (below_drew (Below.refl _ _))).up hb5); have ht5 := HT5.out; have k5 : w5.cell? ⟨P, 0, none⟩ = some (.int .i64 0) ∧ w5.cell? ⟨P, 1, none⟩ = some (.slice none 0 0) ∧ w5.cell? ⟨P, 4, none⟩ = some (.slice none 0 0) ∧ w5.cell? ⟨P, 6, none⟩ = some (.slice none 0 0) ∧ w5.cell? ⟨P, 7, none⟩ = some (.slice none 0 0) ∧ w5.cell? ⟨P, 8, none⟩ = some (.int .i64 0) := ⟨cellsAt ht5.p 0, cellsAt ht5.p 1, cellsAt ht5.p 4, cellsAt ht5.p 6, cellsAt ht5.p 7, cellsAt ht5.p 8⟩; have HR5 := Lib.hid ((Kd.R_reads' hr5).2.2); clear hr5 hb5)
        | (go_at_call 57; refine (HC57.out _).mono ?_; rintro e w5 ⟨v0, rfl, hr5, hb5⟩; obtain ⟨A, c, hv0⟩ := Kd.R_slice hr5; replace hv0 : v0 = .slice A 0 c := hv0; subst hv0; have HT5 := Lib.hid (((HT.out.up (below_alloc (Below.refl _ _) _)).up (below_drew (Below.refl _ _))).up hb5); have ht5 := HT5.out; have k5 : w5.cell? ⟨P, 0, none⟩ = some (.int .i64 0) ∧ w5.cell? ⟨P, 1, none⟩ = some (.slice none 0 0) ∧ w5.cell? ⟨P, 4, none⟩ = some (.slice none 0 0) ∧ w5.cell? ⟨P, 6, none⟩ = some (.slice none 0 0) ∧ w5.cell? ⟨P, 7, none⟩ = some (.slice none 0 0) ∧ w5.cell? ⟨P, 8, none⟩ = some (.int .i64 0) := ⟨cellsAt ht5.p 0, cellsAt ht5.p 1, cellsAt ht5.p 4, cellsAt ht5.p 6, cellsAt ht5.p 7, cellsAt ht5.p 8⟩; have HR5 := Lib.hid ((Kd.R_reads' hr5).2.2); have HG5 := Lib.hid (g_kept (W := W1) hb5); have hPG : P ≠ W1.heap.size := Nat.ne_of_lt (Nat.lt_trans HT.out.pc HT.out.lt); have gg0 : w5.cell? ⟨W1.heap.size, 0, none⟩ = some (.int .i64 0) := cellsAt HG5.out 0; have gf0 := frzAt HG5.out 0; have gg1 : w5.cell? ⟨W1.heap.size, 1, none⟩ = some (.slice none 0 0) := cellsAt HG5.out 1; have gf1 := frzAt HG5.out 1; have gg2 : w5.cell? ⟨W1.heap.size, 2, none⟩ = some (.slice none 0 0) := cellsAt HG5.out 2; have gf2 := frzAt HG5.out 2; have gg3 : w5.cell? ⟨W1.heap.size, 3, none⟩ = some (.slice none 0 0) := cellsAt HG5.out 3; have gf3 := frzAt HG5.out 3; have gg4 : w5.cell? ⟨W1.heap.size, 4, none⟩ = some (.slice none 0 0) := cellsAt HG5.out 4; have gf4 := frzAt HG5.out 4; have gg5 : w5.cell? ⟨W1.heap.size, 5, none⟩ = some (.slice none 0 0) := cellsAt HG5.out 5; have gf5 := frzAt HG5.out 5; have gg6 : w5.cell? ⟨W1.heap.size, 6, none⟩ = some (.slice none 0 0) := cellsAt HG5.out 6; have gf6 := frzAt HG5.out 6; have gg7 : w5.cell? ⟨W1.heap.size, 7, none⟩ = some (.int .i64 0) := cellsAt HG5.out 7; have gf7 := frzAt HG5.out 7; have gg8 : w5.cell? ⟨W1.heap.size, 8, none⟩ = some (.slice none 0 0) := cellsAt HG5.out 8; have gf8 := frzAt HG5.out 8; have gg9 : w5.cell? ⟨W1.heap.size, 9, none⟩ = some (.slice none 0 0) := cellsAt HG5.out 9; have gf9 := frzAt HG5.out 9; have gg10 : w5.cell? ⟨W1.heap.size, 10, none⟩ = some (.slice none 0 0) := cellsAt HG5.out 10; have gf10 := frzAt HG5.out 10; clear hr5 hb5))
    all_goals (go_wp2_with (fail); go_meet; first | (have h0 : TG w _ P C W1.heap.size A c := TG.fill (A := A) (c := c) HT5.out HG5.out HT.out.lt; simp only [setAll, Nat.zero_add, Nat.reduceAdd] at h0; exact ⟨W1.heap.size, A, c, rfl, h0⟩) | exact ⟨w5.heap.size, A, c, rfl, TG.new (A := A) (c := c) HT5.out⟩)
  case rest =>
    obtain ⟨G, A, c, rfl, H⟩ := hcut
    have htp := H.out.t.p
    have htc := H.out.t.c
    have hg := H.out.g
    have kp2 : wc.cell? ⟨P, 2, none⟩ = some (.slice none 0 0) := cellsAt htp 2
    have kp3 : wc.cell? ⟨P, 3, none⟩ = some (.slice none 0 0) := cellsAt htp 3
    have kp5 : wc.cell? ⟨P, 5, none⟩ = some (.slice none 0 0) := cellsAt htp 5
    have kp9 : wc.cell? ⟨P, 9, none⟩ = some (.slice none 0 0) := cellsAt htp 9
    have kp10 : wc.cell? ⟨P, 10, none⟩ = some (.slice none 0 0) := cellsAt htp 10
    have kp11 : wc.cell? ⟨P, 11, none⟩ = some (.slice none 0 0) := cellsAt htp 11
    have kc0 : wc.cell? ⟨C, 0, none⟩ = some (.int .i64 0) := cellsAt htc 0
    have fc0 := frzAt htc 0
    have kc1 : wc.cell? ⟨C, 1, none⟩ = some (.slice none 0 0) := cellsAt htc 1
    have fc1 := frzAt htc 1
    have kc2 : wc.cell? ⟨C, 2, none⟩ = some (.slice none 0 0) := cellsAt htc 2
    have fc2 := frzAt htc 2
    have kc3 : wc.cell? ⟨C, 3, none⟩ = some (.slice none 0 0) := cellsAt htc 3
    have fc3 := frzAt htc 3
    have kc4 : wc.cell? ⟨C, 4, none⟩ = some (.slice none 0 0) := cellsAt htc 4
    have fc4 := frzAt htc 4
    have kc5 : wc.cell? ⟨C, 5, none⟩ = some (.slice none 0 0) := cellsAt htc 5
    have fc5 := frzAt htc 5
    have kc6 : wc.cell? ⟨C, 6, none⟩ = some (.slice none 0 0) := cellsAt htc 6
    have fc6 := frzAt htc 6
    have kc7 : wc.cell? ⟨C, 7, none⟩ = some (.int .i64 0) := cellsAt htc 7
    have fc7 := frzAt htc 7
    have kc8 : wc.cell? ⟨C, 8, none⟩ = some (.slice none 0 0) := cellsAt htc 8
    have fc8 := frzAt htc 8
    have kc9 : wc.cell? ⟨C, 9, none⟩ = some (.slice none 0 0) := cellsAt htc 9
    have fc9 := frzAt htc 9
    have kc10 : wc.cell? ⟨C, 10, none⟩ = some (.slice none 0 0) := cellsAt htc 10
    have fc10 := frzAt htc 10
    have kg0 : wc.cell? ⟨G, 0, none⟩ = some (.int .i64 0) := cellsAt hg 0
    have kg1 : wc.cell? ⟨G, 1, none⟩ = some (.slice A 0 c) := cellsAt hg 1
    have kg2 : wc.cell? ⟨G, 2, none⟩ = some (.slice none 0 0) := cellsAt hg 2
    have kg3 : wc.cell? ⟨G, 3, none⟩ = some (.slice none 0 0) := cellsAt hg 3
    have kg4 : wc.cell? ⟨G, 4, none⟩ = some (.slice none 0 0) := cellsAt hg 4
    have kg5 : wc.cell? ⟨G, 5, none⟩ = some (.slice none 0 0) := cellsAt hg 5
    have kg6 : wc.cell? ⟨G, 6, none⟩ = some (.slice none 0 0) := cellsAt hg 6
    have kg7 : wc.cell? ⟨G, 7, none⟩ = some (.int .i64 0) := cellsAt hg 7
    have kg8 : wc.cell? ⟨G, 8, none⟩ = some (.slice none 0 0) := cellsAt hg 8
    have kg9 : wc.cell? ⟨G, 9, none⟩ = some (.slice none 0 0) := cellsAt hg 9
    have kg10 : wc.cell? ⟨G, 10, none⟩ = some (.slice none 0 0) := cellsAt hg 10
    have HH := Lib.hid (And.intro htp (And.intro htc hg))
    clear htp htc hg
    go_wp2_with (fail)
    go_loopg [4] 1 (fun kq v w' => v = .int .i64 0 ∧ w' = wc)
    case atStart => exact ⟨rfl, rfl⟩
    case round =>
      obtain ⟨rfl, hw⟩ := hrel
      obtain rfl : wc = wr := hw.symm
      go_wp2_with (fail)
      go_loopg [7] 1 (fun kq v w' => v = .int .i64 0 ∧ w' = wc)
      case atStart => exact ⟨rfl, rfl⟩
      case round =>
        obtain ⟨rfl, hw⟩ := hrel
        obtain rfl : wc = wr := hw.symm
        go_wp2_with (fail)
        go_loopg [9] 1 (fun kq v w' => v = .int .i64 0 ∧ w' = wc)
        case atStart => exact ⟨rfl, rfl⟩
        case round =>
          obtain ⟨rfl, hw⟩ := hrel
          obtain rfl : wc = wr := hw.symm
          go_wp2_with (fail)
          go_loopg [10] 1 (fun kq v w' => v = .int .i64 0 ∧ w' = wc)
          case atStart => exact ⟨rfl, rfl⟩
          case round =>
            obtain ⟨rfl, hw⟩ := hrel
            obtain rfl : wc = wr := hw.symm
            go_wp2_with (fail)
            go_loopg [11] 1 (fun kq v w' => v = .int .i64 0 ∧ w' = wc)
            case atStart => exact ⟨rfl, rfl⟩
            case round =>
              obtain ⟨rfl, hw⟩ := hrel
              obtain rfl : wc = wr := hw.symm
              go_wp2_with (fail)
              refine bodyPost_ret (results_cell_row rfl _ _ C 35 #[.int .i64 0, .slice A 0 c, .slice none 0 0, .slice none 0 0, .slice none 0 0, .slice none 0 0, .slice none 0 0, .int .i64 0, .slice none 0 0, .slice none 0 0, .slice none 0 0] (0, 0) _ rfl (by exact fill_block HH.out.2.1 [.int .i64 0, .slice A 0 c, .slice none 0 0, .slice none 0 0, .slice none 0 0, .slice none 0 0, .slice none 0 0, .int .i64 0, .slice none 0 0, .slice none 0 0, .slice none 0 0] rfl) Try.underlying35 rfl (by kernel_rfl)) rfl ?_
              refine ⟨A, ⟨c, rfl⟩, C_zero _ _, ?_⟩
              (try rw [HPP.out])
              have h0 := fill_below (Nat.le_of_lt H.out.t.pc) [.int .i64 0, .slice A 0 c, .slice none 0 0, .slice none 0 0, .slice none 0 0, .slice none 0 0, .slice none 0 0, .int .i64 0, .slice none 0 0, .slice none 0 0, .slice none 0 0] 0 H.out.t.b
              simp only [setAll, Nat.zero_add, Nat.reduceAdd] at h0
              exact h0
end Go.Proofs.Ythpgjeiglhdciaa.SN

/- Same, and same, at empty views. (printed by gen_same37.py) -/
namespace Go.Proofs.Ythpgjeiglhdciaa.SN
open Go Go.RowKit Go.Proofs Go.Proofs.Ythpgjeiglhdciaa.PL Go.Proofs.YthpgjeiglhdciaaW.PrintWords Go.Proofs.YthpgjeiglhdciaaW.PrintLast Go.Proofs.YthpgjeiglhdciaaW.PrintMore
theorem drawn_below {w w' : World} (h : Drawn0 w w') : Below w.heap.size w w' := by
  obtain ⟨n, rfl⟩ := h
  exact pw_below_drewN (Below.refl _ _) _
/-- Both views' blocks stand. -/
structure TS (w W : World) (P Q : Nat) (A B : Option Addr) (c d : Nat) : Prop where
  p : W.heap[P]? = some (.cells #[.int .i64 0, .slice A 0 c, .slice none 0 0, .slice none 0 0, .slice none 0 0, .slice none 0 0, .slice none 0 0, .int .i64 0, .slice none 0 0, .slice none 0 0, .slice none 0 0] 35 (0, 0))
  q : W.heap[Q]? = some (.cells #[.int .i64 0, .slice B 0 d, .slice none 0 0, .slice none 0 0, .slice none 0 0, .slice none 0 0, .slice none 0 0, .int .i64 0, .slice none 0 0, .slice none 0 0, .slice none 0 0] 35 (0, 0))
  b : Below P w W
  pq : P < Q
  lt : Q < W.heap.size
theorem TS.up {w W W' : World} {P Q : Nat} {A B : Option Addr} {c d : Nat} (h : TS w W P Q A B c d) (hb : Below W.heap.size W W') : TS w W' P Q A B c d :=
  ⟨(hb.block P (Nat.lt_trans h.pq h.lt)).trans h.p, (hb.block Q h.lt).trans h.q, h.b.trans (hb.mono (Nat.le_of_lt (Nat.lt_trans h.pq h.lt))), h.pq, Nat.lt_of_lt_of_le h.lt hb.size⟩
theorem TS.start (w : World) (A B : Option Addr) (c d : Nat) : TS w ((w.alloc (.cells #[.int .i64 0, .slice A 0 c, .slice none 0 0, .slice none 0 0, .slice none 0 0, .slice none 0 0, .slice none 0 0, .int .i64 0, .slice none 0 0, .slice none 0 0, .slice none 0 0] 35)).alloc (.cells #[.int .i64 0, .slice B 0 d, .slice none 0 0, .slice none 0 0, .slice none 0 0, .slice none 0 0, .slice none 0 0, .int .i64 0, .slice none 0 0, .slice none 0 0, .slice none 0 0] 35)) w.heap.size (w.heap.size + 1) A B c d := by
  have h1 := (Go.MapKept.heap_alloc w (.cells #[.int .i64 0, .slice A 0 c, .slice none 0 0, .slice none 0 0, .slice none 0 0, .slice none 0 0, .slice none 0 0, .int .i64 0, .slice none 0 0, .slice none 0 0, .slice none 0 0] 35)).1
  have h2 := (Go.MapKept.heap_alloc (w.alloc (.cells #[.int .i64 0, .slice A 0 c, .slice none 0 0, .slice none 0 0, .slice none 0 0, .slice none 0 0, .slice none 0 0, .int .i64 0, .slice none 0 0, .slice none 0 0, .slice none 0 0] 35)) (.cells #[.int .i64 0, .slice B 0 d, .slice none 0 0, .slice none 0 0, .slice none 0 0, .slice none 0 0, .slice none 0 0, .int .i64 0, .slice none 0 0, .slice none 0 0, .slice none 0 0] 35)).1
  have hs : (w.alloc (.cells #[.int .i64 0, .slice A 0 c, .slice none 0 0, .slice none 0 0, .slice none 0 0, .slice none 0 0, .slice none 0 0, .int .i64 0, .slice none 0 0, .slice none 0 0, .slice none 0 0] 35)).heap.size = w.heap.size + 1 := by simp
  rw [hs] at h2
  exact ⟨((below_alloc (Below.refl (w.alloc (.cells #[.int .i64 0, .slice A 0 c, .slice none 0 0, .slice none 0 0, .slice none 0 0, .slice none 0 0, .slice none 0 0, .int .i64 0, .slice none 0 0, .slice none 0 0, .slice none 0 0] 35)).heap.size (w.alloc (.cells #[.int .i64 0, .slice A 0 c, .slice none 0 0, .slice none 0 0, .slice none 0 0, .slice none 0 0, .slice none 0 0, .int .i64 0, .slice none 0 0, .slice none 0 0, .slice none 0 0] 35))) _).block w.heap.size (by rw [hs]; exact Nat.lt_succ_self _)).trans h1, h2, ((Below.refl w.heap.size w).alloc (Nat.le_refl _) _).alloc (by rw [hs]; exact Nat.le_succ _) _, Nat.lt_succ_self _, by simp⟩
set_option maxRecDepth 100000 in
set_option maxHeartbeats 4000000 in
theorem same37 (w : World) (A B : Option Addr) (c d : Nat) : Calls Try.prog 37 #[.agg #[.int .i64 0, .slice A 0 c, .slice none 0 0, .slice none 0 0, .slice none 0 0, .slice none 0 0, .slice none 0 0, .int .i64 0, .slice none 0 0, .slice none 0 0, .slice none 0 0], .agg #[.int .i64 0, .slice B 0 d, .slice none 0 0, .slice none 0 0, .slice none 0 0, .slice none 0 0, .slice none 0 0, .int .i64 0, .slice none 0 0, .slice none 0 0, .slice none 0 0]] w fun o w' => o = .returned (.bool true) ∧ Below w.heap.size w w' := by
  have H50 := Lib.hid (show ∀ W, Calls Try.prog 50 #[.slice A 0 c, .slice B 0 d] W (fun e w' => e = .returned (.bool true) ∧ Below W.heap.size W w') from fun W => (lombardref30_Same.calls 1 A c [] B d [] true W (C_zero _ _) (Nat.zero_le _) (C_zero _ _) (Nat.zero_le _) rfl).mono (by rintro e w' ⟨rfl, hd⟩; exact ⟨rfl, drawn_below hd⟩))
  have H53 := Lib.hid (show ∀ W, Calls Try.prog 53 #[.slice none 0 0, .slice none 0 0] W (fun e w' => e = .returned (.bool true) ∧ Below W.heap.size W w') from fun W => (lombardref11_Same.calls 1 none 0 [] none 0 [] true W (Kd.C_nil _ _) (Nat.zero_le _) (Kd.C_nil _ _) (Nat.zero_le _) rfl).mono (by rintro e w' ⟨rfl, hd⟩; exact ⟨rfl, drawn_below hd⟩))
  have H54 := Lib.hid (show ∀ W, Calls Try.prog 54 #[.slice none 0 0, .slice none 0 0] W (fun e w' => e = .returned (.bool true) ∧ Below W.heap.size W w') from fun W => (lombardref21_Same.calls 1 none 0 [] none 0 [] true W (Kd.C_nil _ _) (Nat.zero_le _) (Kd.C_nil _ _) (Nat.zero_le _) rfl).mono (by rintro e w' ⟨rfl, hd⟩; exact ⟨rfl, drawn_below hd⟩))
  have H55 := Lib.hid (show ∀ W, Calls Try.prog 55 #[.slice none 0 0, .slice none 0 0] W (fun e w' => e = .returned (.bool true) ∧ Below W.heap.size W w') from fun W => (lombardref23_All.calls 1 none 0 [] none 0 [] true W (Kd.C_nil _ _) (Nat.zero_le _) (Kd.C_nil _ _) (Nat.zero_le _) rfl).mono (by rintro e w' ⟨rfl, hd⟩; exact ⟨rfl, hd⟩))
  have H56 := Lib.hid (show ∀ W, Calls Try.prog 56 #[.slice none 0 0, .slice none 0 0] W (fun e w' => e = .returned (.bool true) ∧ Below W.heap.size W w') from fun W => (lombardref20_Same.calls 1 none 0 [] none 0 [] true W (Kd.C_nil _ _) (Nat.zero_le _) (Kd.C_nil _ _) (Nat.zero_le _) rfl).mono (by rintro e w' ⟨rfl, hd⟩; exact ⟨rfl, drawn_below hd⟩))
  go_enter Try.func37, Try.ntmps37
  go_upto_region 1 with (fail)
  have hts := TS.start w A B c d
  obtain ⟨P, hP⟩ : ∃ P, w.heap.size = P := ⟨_, rfl⟩
  obtain ⟨Q, hQ⟩ : ∃ Q, P + 1 = Q := ⟨_, rfl⟩
  rw [hP, hQ] at hts
  rw [hP, hQ]
  generalize (w.alloc (.cells #[.int .i64 0, .slice A 0 c, .slice none 0 0, .slice none 0 0, .slice none 0 0, .slice none 0 0, .slice none 0 0, .int .i64 0, .slice none 0 0, .slice none 0 0, .slice none 0 0] 35)).alloc (.cells #[.int .i64 0, .slice B 0 d, .slice none 0 0, .slice none 0 0, .slice none 0 0, .slice none 0 0, .slice none 0 0, .int .i64 0, .slice none 0 0, .slice none 0 0, .slice none 0 0] 35) = W1 at hts ⊢
  have HT0 := Lib.hid hts
  have HPP := Lib.hid hP
  have p0_0 : W1.cell? ⟨P, 0, none⟩ = some (.int .i64 0) := cellsAt HT0.out.p 0
  have q0_0 : W1.cell? ⟨Q, 0, none⟩ = some (.int .i64 0) := cellsAt HT0.out.q 0
  have p0_1 : W1.cell? ⟨P, 1, none⟩ = some (.slice A 0 c) := cellsAt HT0.out.p 1
  have q0_1 : W1.cell? ⟨Q, 1, none⟩ = some (.slice B 0 d) := cellsAt HT0.out.q 1
  have p0_2 : W1.cell? ⟨P, 2, none⟩ = some (.slice none 0 0) := cellsAt HT0.out.p 2
  have q0_2 : W1.cell? ⟨Q, 2, none⟩ = some (.slice none 0 0) := cellsAt HT0.out.q 2
  have p0_3 : W1.cell? ⟨P, 3, none⟩ = some (.slice none 0 0) := cellsAt HT0.out.p 3
  have q0_3 : W1.cell? ⟨Q, 3, none⟩ = some (.slice none 0 0) := cellsAt HT0.out.q 3
  have p0_4 : W1.cell? ⟨P, 4, none⟩ = some (.slice none 0 0) := cellsAt HT0.out.p 4
  have q0_4 : W1.cell? ⟨Q, 4, none⟩ = some (.slice none 0 0) := cellsAt HT0.out.q 4
  have p0_5 : W1.cell? ⟨P, 5, none⟩ = some (.slice none 0 0) := cellsAt HT0.out.p 5
  have q0_5 : W1.cell? ⟨Q, 5, none⟩ = some (.slice none 0 0) := cellsAt HT0.out.q 5
  have p0_6 : W1.cell? ⟨P, 6, none⟩ = some (.slice none 0 0) := cellsAt HT0.out.p 6
  have q0_6 : W1.cell? ⟨Q, 6, none⟩ = some (.slice none 0 0) := cellsAt HT0.out.q 6
  have p0_7 : W1.cell? ⟨P, 7, none⟩ = some (.int .i64 0) := cellsAt HT0.out.p 7
  have q0_7 : W1.cell? ⟨Q, 7, none⟩ = some (.int .i64 0) := cellsAt HT0.out.q 7
  have p0_8 : W1.cell? ⟨P, 8, none⟩ = some (.slice none 0 0) := cellsAt HT0.out.p 8
  have q0_8 : W1.cell? ⟨Q, 8, none⟩ = some (.slice none 0 0) := cellsAt HT0.out.q 8
  have p0_9 : W1.cell? ⟨P, 9, none⟩ = some (.slice none 0 0) := cellsAt HT0.out.p 9
  have q0_9 : W1.cell? ⟨Q, 9, none⟩ = some (.slice none 0 0) := cellsAt HT0.out.q 9
  have p0_10 : W1.cell? ⟨P, 10, none⟩ = some (.slice none 0 0) := cellsAt HT0.out.p 10
  have q0_10 : W1.cell? ⟨Q, 10, none⟩ = some (.slice none 0 0) := cellsAt HT0.out.q 10
  clear hts hP hQ
  go_wp2_with (go_at_call 50; have hk := HT0; clear hk; refine (H50.out _).mono ?_; rintro e w1 ⟨rfl, K1⟩; have HT1 := Lib.hid (HT0.out.up K1); have p1_0 : w1.cell? ⟨P, 0, none⟩ = some (.int .i64 0) := cellsAt HT1.out.p 0; have q1_0 : w1.cell? ⟨Q, 0, none⟩ = some (.int .i64 0) := cellsAt HT1.out.q 0; have p1_1 : w1.cell? ⟨P, 1, none⟩ = some (.slice A 0 c) := cellsAt HT1.out.p 1; have q1_1 : w1.cell? ⟨Q, 1, none⟩ = some (.slice B 0 d) := cellsAt HT1.out.q 1; have p1_2 : w1.cell? ⟨P, 2, none⟩ = some (.slice none 0 0) := cellsAt HT1.out.p 2; have q1_2 : w1.cell? ⟨Q, 2, none⟩ = some (.slice none 0 0) := cellsAt HT1.out.q 2; have p1_3 : w1.cell? ⟨P, 3, none⟩ = some (.slice none 0 0) := cellsAt HT1.out.p 3; have q1_3 : w1.cell? ⟨Q, 3, none⟩ = some (.slice none 0 0) := cellsAt HT1.out.q 3; have p1_4 : w1.cell? ⟨P, 4, none⟩ = some (.slice none 0 0) := cellsAt HT1.out.p 4; have q1_4 : w1.cell? ⟨Q, 4, none⟩ = some (.slice none 0 0) := cellsAt HT1.out.q 4; have p1_5 : w1.cell? ⟨P, 5, none⟩ = some (.slice none 0 0) := cellsAt HT1.out.p 5; have q1_5 : w1.cell? ⟨Q, 5, none⟩ = some (.slice none 0 0) := cellsAt HT1.out.q 5; have p1_6 : w1.cell? ⟨P, 6, none⟩ = some (.slice none 0 0) := cellsAt HT1.out.p 6; have q1_6 : w1.cell? ⟨Q, 6, none⟩ = some (.slice none 0 0) := cellsAt HT1.out.q 6; have p1_7 : w1.cell? ⟨P, 7, none⟩ = some (.int .i64 0) := cellsAt HT1.out.p 7; have q1_7 : w1.cell? ⟨Q, 7, none⟩ = some (.int .i64 0) := cellsAt HT1.out.q 7; have p1_8 : w1.cell? ⟨P, 8, none⟩ = some (.slice none 0 0) := cellsAt HT1.out.p 8; have q1_8 : w1.cell? ⟨Q, 8, none⟩ = some (.slice none 0 0) := cellsAt HT1.out.q 8; have p1_9 : w1.cell? ⟨P, 9, none⟩ = some (.slice none 0 0) := cellsAt HT1.out.p 9; have q1_9 : w1.cell? ⟨Q, 9, none⟩ = some (.slice none 0 0) := cellsAt HT1.out.q 9; have p1_10 : w1.cell? ⟨P, 10, none⟩ = some (.slice none 0 0) := cellsAt HT1.out.p 10; have q1_10 : w1.cell? ⟨Q, 10, none⟩ = some (.slice none 0 0) := cellsAt HT1.out.q 10; clear K1)
  go_loopg [5] 1 (fun kq v w' => v = .int .i64 0 ∧ w' = w1)
  case atStart => exact ⟨rfl, rfl⟩
  case round =>
    obtain ⟨rfl, hw⟩ := hrel
    obtain rfl : w1 = wr := hw.symm
    go_wp2_with (fail)
    go_loopg [6] 1 (fun kq v w' => v = .int .i64 0 ∧ w' = w1)
    case atStart => exact ⟨rfl, rfl⟩
    case round =>
      obtain ⟨rfl, hw⟩ := hrel
      obtain rfl : w1 = wr := hw.symm
      go_wp2_with (fail)
      go_loopg [7] 1 (fun kq v w' => v = .int .i64 0 ∧ w' = w1)
      case atStart => exact ⟨rfl, rfl⟩
      case round =>
        obtain ⟨rfl, hw⟩ := hrel
        obtain rfl : w1 = wr := hw.symm
        go_wp2_with (first
          | (go_at_call 56; have hk := HT5; clear hk; refine (H56.out _).mono ?_; rintro e w6 ⟨rfl, K6⟩; have HT6 := Lib.hid (HT5.out.up K6); have p6_0 : w6.cell? ⟨P, 0, none⟩ = some (.int .i64 0) := cellsAt HT6.out.p 0; have q6_0 : w6.cell? ⟨Q, 0, none⟩ = some (.int .i64 0) := cellsAt HT6.out.q 0; have p6_1 : w6.cell? ⟨P, 1, none⟩ = some (.slice A 0 c) := cellsAt HT6.out.p 1; have q6_1 : w6.cell? ⟨Q, 1, none⟩ = some (.slice B 0 d) := cellsAt HT6.out.q 1; have p6_2 : w6.cell? ⟨P, 2, none⟩ = some (.slice none 0 0) := cellsAt HT6.out.p 2; have q6_2 : w6.cell? ⟨Q, 2, none⟩ = some (.slice none 0 0) := cellsAt HT6.out.q 2; have p6_3 : w6.cell? ⟨P, 3, none⟩ = some (.slice none 0 0) := cellsAt HT6.out.p 3; have q6_3 : w6.cell? ⟨Q, 3, none⟩ = some (.slice none 0 0) := cellsAt HT6.out.q 3; have p6_4 : w6.cell? ⟨P, 4, none⟩ = some (.slice none 0 0) := cellsAt HT6.out.p 4; have q6_4 : w6.cell? ⟨Q, 4, none⟩ = some (.slice none 0 0) := cellsAt HT6.out.q 4; have p6_5 : w6.cell? ⟨P, 5, none⟩ = some (.slice none 0 0) := cellsAt HT6.out.p 5; have q6_5 : w6.cell? ⟨Q, 5, none⟩ = some (.slice none 0 0) := cellsAt HT6.out.q 5; have p6_6 : w6.cell? ⟨P, 6, none⟩ = some (.slice none 0 0) := cellsAt HT6.out.p 6; have q6_6 : w6.cell? ⟨Q, 6, none⟩ = some (.slice none 0 0) := cellsAt HT6.out.q 6; have p6_7 : w6.cell? ⟨P, 7, none⟩ = some (.int .i64 0) := cellsAt HT6.out.p 7; have q6_7 : w6.cell? ⟨Q, 7, none⟩ = some (.int .i64 0) := cellsAt HT6.out.q 7; have p6_8 : w6.cell? ⟨P, 8, none⟩ = some (.slice none 0 0) := cellsAt HT6.out.p 8; have q6_8 : w6.cell? ⟨Q, 8, none⟩ = some (.slice none 0 0) := cellsAt HT6.out.q 8; have p6_9 : w6.cell? ⟨P, 9, none⟩ = some (.slice none 0 0) := cellsAt HT6.out.p 9; have q6_9 : w6.cell? ⟨Q, 9, none⟩ = some (.slice none 0 0) := cellsAt HT6.out.q 9; have p6_10 : w6.cell? ⟨P, 10, none⟩ = some (.slice none 0 0) := cellsAt HT6.out.p 10; have q6_10 : w6.cell? ⟨Q, 10, none⟩ = some (.slice none 0 0) := cellsAt HT6.out.q 10; clear K6)
          | (go_at_call 56; have hk := HT4; clear hk; refine (H56.out _).mono ?_; rintro e w5 ⟨rfl, K5⟩; have HT5 := Lib.hid (HT4.out.up K5); have p5_0 : w5.cell? ⟨P, 0, none⟩ = some (.int .i64 0) := cellsAt HT5.out.p 0; have q5_0 : w5.cell? ⟨Q, 0, none⟩ = some (.int .i64 0) := cellsAt HT5.out.q 0; have p5_1 : w5.cell? ⟨P, 1, none⟩ = some (.slice A 0 c) := cellsAt HT5.out.p 1; have q5_1 : w5.cell? ⟨Q, 1, none⟩ = some (.slice B 0 d) := cellsAt HT5.out.q 1; have p5_2 : w5.cell? ⟨P, 2, none⟩ = some (.slice none 0 0) := cellsAt HT5.out.p 2; have q5_2 : w5.cell? ⟨Q, 2, none⟩ = some (.slice none 0 0) := cellsAt HT5.out.q 2; have p5_3 : w5.cell? ⟨P, 3, none⟩ = some (.slice none 0 0) := cellsAt HT5.out.p 3; have q5_3 : w5.cell? ⟨Q, 3, none⟩ = some (.slice none 0 0) := cellsAt HT5.out.q 3; have p5_4 : w5.cell? ⟨P, 4, none⟩ = some (.slice none 0 0) := cellsAt HT5.out.p 4; have q5_4 : w5.cell? ⟨Q, 4, none⟩ = some (.slice none 0 0) := cellsAt HT5.out.q 4; have p5_5 : w5.cell? ⟨P, 5, none⟩ = some (.slice none 0 0) := cellsAt HT5.out.p 5; have q5_5 : w5.cell? ⟨Q, 5, none⟩ = some (.slice none 0 0) := cellsAt HT5.out.q 5; have p5_6 : w5.cell? ⟨P, 6, none⟩ = some (.slice none 0 0) := cellsAt HT5.out.p 6; have q5_6 : w5.cell? ⟨Q, 6, none⟩ = some (.slice none 0 0) := cellsAt HT5.out.q 6; have p5_7 : w5.cell? ⟨P, 7, none⟩ = some (.int .i64 0) := cellsAt HT5.out.p 7; have q5_7 : w5.cell? ⟨Q, 7, none⟩ = some (.int .i64 0) := cellsAt HT5.out.q 7; have p5_8 : w5.cell? ⟨P, 8, none⟩ = some (.slice none 0 0) := cellsAt HT5.out.p 8; have q5_8 : w5.cell? ⟨Q, 8, none⟩ = some (.slice none 0 0) := cellsAt HT5.out.q 8; have p5_9 : w5.cell? ⟨P, 9, none⟩ = some (.slice none 0 0) := cellsAt HT5.out.p 9; have q5_9 : w5.cell? ⟨Q, 9, none⟩ = some (.slice none 0 0) := cellsAt HT5.out.q 9; have p5_10 : w5.cell? ⟨P, 10, none⟩ = some (.slice none 0 0) := cellsAt HT5.out.p 10; have q5_10 : w5.cell? ⟨Q, 10, none⟩ = some (.slice none 0 0) := cellsAt HT5.out.q 10; clear K5)
          | (go_at_call 55; have hk := HT3; clear hk; refine (H55.out _).mono ?_; rintro e w4 ⟨rfl, K4⟩; have HT4 := Lib.hid (HT3.out.up K4); have p4_0 : w4.cell? ⟨P, 0, none⟩ = some (.int .i64 0) := cellsAt HT4.out.p 0; have q4_0 : w4.cell? ⟨Q, 0, none⟩ = some (.int .i64 0) := cellsAt HT4.out.q 0; have p4_1 : w4.cell? ⟨P, 1, none⟩ = some (.slice A 0 c) := cellsAt HT4.out.p 1; have q4_1 : w4.cell? ⟨Q, 1, none⟩ = some (.slice B 0 d) := cellsAt HT4.out.q 1; have p4_2 : w4.cell? ⟨P, 2, none⟩ = some (.slice none 0 0) := cellsAt HT4.out.p 2; have q4_2 : w4.cell? ⟨Q, 2, none⟩ = some (.slice none 0 0) := cellsAt HT4.out.q 2; have p4_3 : w4.cell? ⟨P, 3, none⟩ = some (.slice none 0 0) := cellsAt HT4.out.p 3; have q4_3 : w4.cell? ⟨Q, 3, none⟩ = some (.slice none 0 0) := cellsAt HT4.out.q 3; have p4_4 : w4.cell? ⟨P, 4, none⟩ = some (.slice none 0 0) := cellsAt HT4.out.p 4; have q4_4 : w4.cell? ⟨Q, 4, none⟩ = some (.slice none 0 0) := cellsAt HT4.out.q 4; have p4_5 : w4.cell? ⟨P, 5, none⟩ = some (.slice none 0 0) := cellsAt HT4.out.p 5; have q4_5 : w4.cell? ⟨Q, 5, none⟩ = some (.slice none 0 0) := cellsAt HT4.out.q 5; have p4_6 : w4.cell? ⟨P, 6, none⟩ = some (.slice none 0 0) := cellsAt HT4.out.p 6; have q4_6 : w4.cell? ⟨Q, 6, none⟩ = some (.slice none 0 0) := cellsAt HT4.out.q 6; have p4_7 : w4.cell? ⟨P, 7, none⟩ = some (.int .i64 0) := cellsAt HT4.out.p 7; have q4_7 : w4.cell? ⟨Q, 7, none⟩ = some (.int .i64 0) := cellsAt HT4.out.q 7; have p4_8 : w4.cell? ⟨P, 8, none⟩ = some (.slice none 0 0) := cellsAt HT4.out.p 8; have q4_8 : w4.cell? ⟨Q, 8, none⟩ = some (.slice none 0 0) := cellsAt HT4.out.q 8; have p4_9 : w4.cell? ⟨P, 9, none⟩ = some (.slice none 0 0) := cellsAt HT4.out.p 9; have q4_9 : w4.cell? ⟨Q, 9, none⟩ = some (.slice none 0 0) := cellsAt HT4.out.q 9; have p4_10 : w4.cell? ⟨P, 10, none⟩ = some (.slice none 0 0) := cellsAt HT4.out.p 10; have q4_10 : w4.cell? ⟨Q, 10, none⟩ = some (.slice none 0 0) := cellsAt HT4.out.q 10; clear K4)
          | (go_at_call 54; have hk := HT2; clear hk; refine (H54.out _).mono ?_; rintro e w3 ⟨rfl, K3⟩; have HT3 := Lib.hid (HT2.out.up K3); have p3_0 : w3.cell? ⟨P, 0, none⟩ = some (.int .i64 0) := cellsAt HT3.out.p 0; have q3_0 : w3.cell? ⟨Q, 0, none⟩ = some (.int .i64 0) := cellsAt HT3.out.q 0; have p3_1 : w3.cell? ⟨P, 1, none⟩ = some (.slice A 0 c) := cellsAt HT3.out.p 1; have q3_1 : w3.cell? ⟨Q, 1, none⟩ = some (.slice B 0 d) := cellsAt HT3.out.q 1; have p3_2 : w3.cell? ⟨P, 2, none⟩ = some (.slice none 0 0) := cellsAt HT3.out.p 2; have q3_2 : w3.cell? ⟨Q, 2, none⟩ = some (.slice none 0 0) := cellsAt HT3.out.q 2; have p3_3 : w3.cell? ⟨P, 3, none⟩ = some (.slice none 0 0) := cellsAt HT3.out.p 3; have q3_3 : w3.cell? ⟨Q, 3, none⟩ = some (.slice none 0 0) := cellsAt HT3.out.q 3; have p3_4 : w3.cell? ⟨P, 4, none⟩ = some (.slice none 0 0) := cellsAt HT3.out.p 4; have q3_4 : w3.cell? ⟨Q, 4, none⟩ = some (.slice none 0 0) := cellsAt HT3.out.q 4; have p3_5 : w3.cell? ⟨P, 5, none⟩ = some (.slice none 0 0) := cellsAt HT3.out.p 5; have q3_5 : w3.cell? ⟨Q, 5, none⟩ = some (.slice none 0 0) := cellsAt HT3.out.q 5; have p3_6 : w3.cell? ⟨P, 6, none⟩ = some (.slice none 0 0) := cellsAt HT3.out.p 6; have q3_6 : w3.cell? ⟨Q, 6, none⟩ = some (.slice none 0 0) := cellsAt HT3.out.q 6; have p3_7 : w3.cell? ⟨P, 7, none⟩ = some (.int .i64 0) := cellsAt HT3.out.p 7; have q3_7 : w3.cell? ⟨Q, 7, none⟩ = some (.int .i64 0) := cellsAt HT3.out.q 7; have p3_8 : w3.cell? ⟨P, 8, none⟩ = some (.slice none 0 0) := cellsAt HT3.out.p 8; have q3_8 : w3.cell? ⟨Q, 8, none⟩ = some (.slice none 0 0) := cellsAt HT3.out.q 8; have p3_9 : w3.cell? ⟨P, 9, none⟩ = some (.slice none 0 0) := cellsAt HT3.out.p 9; have q3_9 : w3.cell? ⟨Q, 9, none⟩ = some (.slice none 0 0) := cellsAt HT3.out.q 9; have p3_10 : w3.cell? ⟨P, 10, none⟩ = some (.slice none 0 0) := cellsAt HT3.out.p 10; have q3_10 : w3.cell? ⟨Q, 10, none⟩ = some (.slice none 0 0) := cellsAt HT3.out.q 10; clear K3)
          | (go_at_call 53; have hk := HT1; clear hk; refine (H53.out _).mono ?_; rintro e w2 ⟨rfl, K2⟩; have HT2 := Lib.hid (HT1.out.up K2); have p2_0 : w2.cell? ⟨P, 0, none⟩ = some (.int .i64 0) := cellsAt HT2.out.p 0; have q2_0 : w2.cell? ⟨Q, 0, none⟩ = some (.int .i64 0) := cellsAt HT2.out.q 0; have p2_1 : w2.cell? ⟨P, 1, none⟩ = some (.slice A 0 c) := cellsAt HT2.out.p 1; have q2_1 : w2.cell? ⟨Q, 1, none⟩ = some (.slice B 0 d) := cellsAt HT2.out.q 1; have p2_2 : w2.cell? ⟨P, 2, none⟩ = some (.slice none 0 0) := cellsAt HT2.out.p 2; have q2_2 : w2.cell? ⟨Q, 2, none⟩ = some (.slice none 0 0) := cellsAt HT2.out.q 2; have p2_3 : w2.cell? ⟨P, 3, none⟩ = some (.slice none 0 0) := cellsAt HT2.out.p 3; have q2_3 : w2.cell? ⟨Q, 3, none⟩ = some (.slice none 0 0) := cellsAt HT2.out.q 3; have p2_4 : w2.cell? ⟨P, 4, none⟩ = some (.slice none 0 0) := cellsAt HT2.out.p 4; have q2_4 : w2.cell? ⟨Q, 4, none⟩ = some (.slice none 0 0) := cellsAt HT2.out.q 4; have p2_5 : w2.cell? ⟨P, 5, none⟩ = some (.slice none 0 0) := cellsAt HT2.out.p 5; have q2_5 : w2.cell? ⟨Q, 5, none⟩ = some (.slice none 0 0) := cellsAt HT2.out.q 5; have p2_6 : w2.cell? ⟨P, 6, none⟩ = some (.slice none 0 0) := cellsAt HT2.out.p 6; have q2_6 : w2.cell? ⟨Q, 6, none⟩ = some (.slice none 0 0) := cellsAt HT2.out.q 6; have p2_7 : w2.cell? ⟨P, 7, none⟩ = some (.int .i64 0) := cellsAt HT2.out.p 7; have q2_7 : w2.cell? ⟨Q, 7, none⟩ = some (.int .i64 0) := cellsAt HT2.out.q 7; have p2_8 : w2.cell? ⟨P, 8, none⟩ = some (.slice none 0 0) := cellsAt HT2.out.p 8; have q2_8 : w2.cell? ⟨Q, 8, none⟩ = some (.slice none 0 0) := cellsAt HT2.out.q 8; have p2_9 : w2.cell? ⟨P, 9, none⟩ = some (.slice none 0 0) := cellsAt HT2.out.p 9; have q2_9 : w2.cell? ⟨Q, 9, none⟩ = some (.slice none 0 0) := cellsAt HT2.out.q 9; have p2_10 : w2.cell? ⟨P, 10, none⟩ = some (.slice none 0 0) := cellsAt HT2.out.p 10; have q2_10 : w2.cell? ⟨Q, 10, none⟩ = some (.slice none 0 0) := cellsAt HT2.out.q 10; clear K2))
        go_ret
        refine ⟨rfl, ?_⟩
        (try rw [HPP.out])
        exact HT6.out.b
end Go.Proofs.Ythpgjeiglhdciaa.SN
