/- Part 22 of the proof's texts: what the theorem needs of them. -/
import Derived.Test.YtlhdbcjlmkglkaaGreatSQG14
import Derived.Shelf.Abstract

set_option linter.unusedVariables false
set_option linter.unusedSimpArgs false
/- Boards of quotes: predicates handed over as function values; slices.IndexFunc at quotes; the board's place of a number. -/
set_option linter.unusedSimpArgs false
set_option linter.unusedVariables false
namespace Go.Proofs.YtlhdbcjlmkglkaaGreat.Q
open Go Go.RowKit Go.Proofs Go.Proofs.YtlhdbcjlmkglkaaGreat.PL Go.Proofs.YtlhdbcjlmkglkaaGreatW.PrintWords
def qA (x : S24) : Value := .agg #[.int .i64 x.f0, .int .i64 x.f1, .int .i64 x.f2, .int .i64 x.f3, .int .i64 x.f4, .int .i64 x.f5, .int .i64 x.f6, .int .i64 x.f7]
/-- A function value that tells p of a quote, in every world in which what lies in w lies on. -/
def PredC (g : Nat) (lb : Array Value) (p : S24 → Bool) (w : World) : Prop :=
  ∀ (W : World) (x : S24), Below w.heap.size w W → Calls Tryz.prog g (#[qA x] ++ lb) W fun e w' => e = .returned (.bool (p x)) ∧ Below W.heap.size W w'
theorem cell_lt {w : World} {k j : Nat} {v : Value} (h : w.cell? ⟨k, j, none⟩ = some v) : k < w.heap.size := World.block_lt_of_cell? w _ h
theorem cell_alloc {w : World} {k j : Nat} {v : Value} (h : w.cell? ⟨k, j, none⟩ = some v) (o : Obj) : (w.alloc o).cell? ⟨k, j, none⟩ = some v :=
  ((below_alloc (Below.refl _ w) o).cell (cell_lt h)).trans h
theorem cell_below {w W : World} {k j : Nat} {v : Value} (h : w.cell? ⟨k, j, none⟩ = some v) (hb : Below w.heap.size w W) : W.cell? ⟨k, j, none⟩ = some v :=
  (hb.cell (cell_lt h)).trans h
set_option maxHeartbeats 1000000 in
set_option maxRecDepth 1000000 in
theorem at1 (k : Nat) (id : Int) (w : World) (h : w.cell? ⟨k, 0, none⟩ = some (.int .i64 id)) : PredC 67 #[.pointer (some ⟨k, 0, none⟩)] (fun x => x.f0 == id) w := by
  intro W x hb
  have h1 := cell_below h hb
  have h2 := fun o => cell_alloc h1 o
  show Calls Tryz.prog 67 #[qA x, .pointer (some ⟨k, 0, none⟩)] W _
  unfold qA
  obtain ⟨x0, x1, x2, x3, x4, x5, x6, x7⟩ := x
  simp only
  go_enter Tryz.func67, Tryz.ntmps67
  go_wp2
  go_ret
  exact ⟨rfl, below_alloc (Below.refl _ _) _⟩
set_option maxHeartbeats 1000000 in
set_option maxRecDepth 1000000 in
theorem leave1 (k : Nat) (id : Int) (w : World) (h : w.cell? ⟨k, 0, none⟩ = some (.int .i64 id)) : PredC 59 #[.pointer (some ⟨k, 0, none⟩)] (fun x => x.f1 == id) w := by
  intro W x hb
  have h1 := cell_below h hb
  have h2 := fun o => cell_alloc h1 o
  show Calls Tryz.prog 59 #[qA x, .pointer (some ⟨k, 0, none⟩)] W _
  unfold qA
  obtain ⟨x0, x1, x2, x3, x4, x5, x6, x7⟩ := x
  simp only
  go_enter Tryz.func59, Tryz.ntmps59
  go_wp2
  go_ret
  exact ⟨rfl, below_alloc (Below.refl _ _) _⟩
set_option maxHeartbeats 1000000 in
set_option maxRecDepth 1000000 in
theorem expire1 (k : Nat) (id : Int) (w : World) (h : w.cell? ⟨k, 0, none⟩ = some (.int .i64 id)) : PredC 60 #[.pointer (some ⟨k, 0, none⟩)] (fun x => decide (x.f6 < id)) w := by
  intro W x hb
  have h1 := cell_below h hb
  have h2 := fun o => cell_alloc h1 o
  show Calls Tryz.prog 60 #[qA x, .pointer (some ⟨k, 0, none⟩)] W _
  unfold qA
  obtain ⟨x0, x1, x2, x3, x4, x5, x6, x7⟩ := x
  simp only
  go_enter Tryz.func60, Tryz.ntmps60
  go_wp2
  go_ret
  exact ⟨rfl, below_alloc (Below.refl _ _) _⟩
/-- The first place at which p holds; -1: nowhere. -/
def idxF (p : S24 → Bool) : List S24 → Int → Int
  | [], _ => -1
  | x :: l, k => if p x = true then k else idxF p l (k + 1)
theorem rd_drop (xs : List S24) (k : Nat) (h : k < xs.length) : xs.drop k = rd_T24 xs (k : Int) :: xs.drop (k + 1) := by
  unfold rd_T24
  rw [List.drop_eq_getElem_cons h]
  simp [List.getD_eq_getElem?_getD, h]
end Go.Proofs.YtlhdbcjlmkglkaaGreat.Q

/- slices.IndexFunc at quotes. -/
set_option linter.unusedSimpArgs false
set_option linter.unusedVariables false
namespace Go.Proofs.YtlhdbcjlmkglkaaGreat.Q
open Go Go.RowKit Go.Proofs Go.Proofs.YtlhdbcjlmkglkaaGreat.PL Go.Proofs.YtlhdbcjlmkglkaaGreatW.PrintWords
set_option maxHeartbeats 200000 in
set_option maxRecDepth 200000 in
theorem idx_any (g : Nat) (lb : Array Value) (eg : ∀ args w, (callFunc g args).run Tryz.prog w = .ok (.enter g args) w) (p : S24 → Bool) (A : Option Addr) (c : Nat) (xs : List S24) (w : World)
    (hp : PredC g lb p w) (hC : Kd.C k24 w A xs.length xs) (hlen : xs.length ≤ 1000000) :
    Calls Tryz.prog 66 #[.slice A xs.length c, .func (.func g) #[] lb] w fun e w' => e = .returned (.int .i64 (idxF p xs 0)) ∧ Below w.heap.size w w' := by
  have hu24 := Tryz.underlying24
  have HR0 := Aside0.mk hC
  have HP := Aside0.mk hp
  have HLN := Aside0.mk hlen
  clear hC hp hlen
  obtain ⟨v, hv⟩ : ∃ v, idxF p xs 0 = v := ⟨_, rfl⟩
  rw [hv]
  go_enter Tryz.func66, Tryz.ntmps66
  go_wp2
  go_loopg [5, 8] (xs.length + 1) (fun kq v5 v8 w' => ∃ k : Nat, v8 = .int .i64 (k : Int) ∧ Aside0 (k ≤ xs.length ∧ xs.length + 1 ≤ k + kq) ∧ Aside0 (idxF p (xs.drop k) (k : Int) = v) ∧ Aside0 (Below w.heap.size w w'))
  case atStart => exact ⟨0, rfl, ⟨by omega⟩, ⟨by rw [List.drop_zero]; exact hv⟩, ⟨Below.refl _ _⟩⟩
  case round =>
    obtain ⟨k, rfl, HK, HV, HB⟩ := hrel
    obtain ⟨k1, k2⟩ := HK.out
    have hlen := HLN.out
    cases gk with
    | zero => omega
    | succ k0 =>
      by_cases c4 : k < xs.length
      · have c4a : decide ((k : Int) < (xs.length : Int)) = true := decide_eq_true (by omega)
        have c4b : decide (k < xs.length) = true := decide_eq_true c4
        have p0 : 0 ≤ (k : Int) := by omega
        have q0 : (k : Int) < (xs.length : Int) := by omega
        obtain ⟨ad, e0, hx0, hx1, hx2, hx3, hx4, hx5, hx6, hx7⟩ := at_T24 HR0.out (k : Int) p0 q0
        cases e0
        simp only [Int.toNat_natCast] at hx0 hx1 hx2 hx3 hx4 hx5 hx6 hx7
        replace hx0 := (HB.out.cell (World.block_lt_of_cell? w _ hx0)).trans hx0
        replace hx1 := (HB.out.cell (World.block_lt_of_cell? w _ hx1)).trans hx1
        replace hx2 := (HB.out.cell (World.block_lt_of_cell? w _ hx2)).trans hx2
        replace hx3 := (HB.out.cell (World.block_lt_of_cell? w _ hx3)).trans hx3
        replace hx4 := (HB.out.cell (World.block_lt_of_cell? w _ hx4)).trans hx4
        replace hx5 := (HB.out.cell (World.block_lt_of_cell? w _ hx5)).trans hx5
        replace hx6 := (HB.out.cell (World.block_lt_of_cell? w _ hx6)).trans hx6
        replace hx7 := (HB.out.cell (World.block_lt_of_cell? w _ hx7)).trans hx7
        have hV := HV.out
        rw [rd_drop xs k c4, idxF] at hV
        have hpc := HP.out wr (rd_T24 xs (k : Int)) HB.out
        generalize hy : rd_T24 xs (k : Int) = y at *
        have hwr : wrap64 ((k : Int) + 1) = ((k + 1 : Nat) : Int) := by unfold wrap64; omega
        have KX : k + 1 ≤ xs.length ∧ xs.length + 1 ≤ k + 1 + k0 := by omega
        have pp0 : (0 ≤ (k : Int)) = True := eq_true p0
        have qq0 : ((k : Int) < (xs.length : Int)) = True := eq_true q0
        by_cases hpy : p y = true
        · rw [if_pos hpy] at hV
          rw [hpy] at hpc
          subst hV
          clear p0 q0 k1 k2 c4 hlen HK
          go_wp2_with (first | (go_at_fn g; refine (hpc).mono ?_; rintro e W1 ⟨rfl, b1⟩))
          go_ret
          exact ⟨rfl, HB.out.trans (b1.mono HB.out.size)⟩
        · rw [if_neg hpy] at hV
          rw [Bool.eq_false_iff.2 hpy] at hpc
          clear p0 q0 k1 k2 c4 hlen HK
          go_wp2_with (first | (go_at_fn g; refine (hpc).mono ?_; rintro e W1 ⟨rfl, b1⟩))
          go_roundg k0
          case measure => omega
          case rel => exact ⟨k + 1, congrArg (Value.int .i64) hwr, ⟨KX⟩, ⟨hV⟩, ⟨HB.out.trans (b1.mono HB.out.size)⟩⟩
      · have c4a : decide ((k : Int) < (xs.length : Int)) = false := decide_eq_false (by omega)
        have c4b : decide (k < xs.length) = false := decide_eq_false c4
        have hV := HV.out
        rw [List.drop_eq_nil_of_le (by omega), idxF] at hV
        subst hV
        go_wp2
        go_ret
        exact ⟨rfl, HB.out⟩
end Go.Proofs.YtlhdbcjlmkglkaaGreat.Q

/- The board in memory; the place of a number. -/
set_option linter.unusedSimpArgs false
set_option linter.unusedVariables false
namespace Go.Proofs.YtlhdbcjlmkglkaaGreat.Q
open Go Go.RowKit Go.Proofs Go.Proofs.YtlhdbcjlmkglkaaGreat.PL Go.Proofs.YtlhdbcjlmkglkaaGreatW.PrintWords
/-- A board at block p, whose quotes lie in the slice v. -/
def Bd (p : Nat) (v : Value) (w : World) : Prop := w.heap[p]? = some (.cells #[v, .bool true] 63 (0, 0))
theorem Bd.below {p : Nat} {v : Value} {w W : World} (h : Bd p v w) (hb : Below w.heap.size w W) : Bd p v W :=
  (hb.block p (Array.getElem?_eq_some_iff.1 h).1).trans h
theorem Bd.c0 {p : Nat} {v : Value} {w : World} (h : Bd p v w) : w.cell? ⟨p, 0, none⟩ = some v := by unfold Bd at h; simp [World.cell?, h]
theorem Bd.c1 {p : Nat} {v : Value} {w : World} (h : Bd p v w) : w.cell? ⟨p, 1, none⟩ = some (.bool true) := by unfold Bd at h; simp [World.cell?, h]
theorem cell_new (w : World) (cs : Array Value) (t : TypeId) (j : Nat) (v : Value) (h : cs[j]? = some v) : (w.alloc (.cells cs t)).cell? ⟨w.heap.size, j, none⟩ = some v :=
  (World.cell?_alloc_at cs t w.heap.size j rfl).trans h
theorem mkFunc : ∀ (fn : Fn) (first cap : Array Value) (w : World), (Instr.makeFunc fn first cap).run Tryz.prog w = .ok (.func fn first cap) w := fun _ _ _ _ => rfl
def findI (id : Int) (xs : List S24) : Int := idxF (fun x => x.f0 == id) xs 0
set_option maxHeartbeats 400000 in
set_option maxRecDepth 1000000 in
theorem at_any (p : Nat) (id : Int) (A : Option Addr) (c : Nat) (xs : List S24) (w : World) (hB : Bd p (.slice A xs.length c) w) (hC : Kd.C k24 w A xs.length xs) (hlen : xs.length ≤ 1000000) :
    Calls Tryz.prog 40 #[.pointer (some ⟨p, 0, none⟩), .int .i64 id] w fun e w' => e = .returned (.int .i64 (findI id xs)) ∧ Below w.heap.size w w' := by
  have hmf := mkFunc
  have h0 := fun o => (hB.below (below_alloc (Below.refl _ w) o)).c0
  have hcl : ∀ o : Obj, o = .cells #[.int .i64 id] 3 → Calls Tryz.prog 66 #[.slice A xs.length c, .func (.func 67) #[] #[.pointer (some ⟨w.heap.size, 0, none⟩)]] (w.alloc o) fun e w' => e = .returned (.int .i64 (findI id xs)) ∧ Below (w.alloc o).heap.size (w.alloc o) w' := fun o ho =>
    idx_any 67 _ (enters_of Tryz.func67 (by kernel_rfl) rfl) _ A c xs _ (at1 w.heap.size id _ (by subst ho; exact cell_new w _ 3 0 _ rfl)) (Kd.C_below hC (below_alloc (Below.refl _ w) o)) hlen
  have hcl := hcl _ rfl
  clear hC
  go_enter Tryz.func40, Tryz.ntmps40
  go_wp2_with (first | (go_at_call 66; refine hcl.mono ?_; rintro e W1 ⟨rfl, b1⟩))
  go_ret
  exact ⟨rfl, (below_alloc (Below.refl _ w) _).trans (b1.mono (by simp))⟩
end Go.Proofs.YtlhdbcjlmkglkaaGreat.Q
