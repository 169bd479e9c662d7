/- Part 33 of the proof's texts: what the theorem needs of them. -/
import Derived.Test.YtoknlpecbdlbfaaSCWhole32
import Derived.Test.YtoknlpecbdlbfaaSCWhole30
import Derived.Deep.DeepCutAuto
import Derived.Test.YtoknlpecbdlbfaaSCWhole31
import Derived.Test.YtoknlpecbdlbfaaSCWhole16
import Derived.Test.YtoknlpecbdlbfaaSCWhole23
import Derived.Test.YtoknlpecbdlbfaaSCWhole21
import Derived.Test.YtoknlpecbdlbfaaSCWhole18

/- What all members have together: plain. -/
namespace Go.Proofs.Ytoknlpecbdlbfaa.PL
open Go Go.RowKit Go.Maps Go.Sort Go.Shelf Go.Proofs Go.Proofs.YtoknlpecbdlbfaaW.PrintWords Go.Proofs.YtoknlpecbdlbfaaW.PrintLast
/-- Owners and books. -/
def K0 : List (Int × Int) := (0, 0) :: (List.range 32).flatMap (fun j : Nat => [((j : Int) + 1, 1), ((j : Int) + 1, 2), ((j : Int) + 1, 3), ((j : Int) + 1, 4)])
theorem K0_nodup : K0.Nodup := by decide +kernel
theorem K0_mem {a b : Int} (h : okAc ⟨a, b, ⟨#[]⟩⟩) : (a, b) ∈ K0 := by
  unfold K0
  rcases h with ⟨h1, h2⟩ | ⟨h1, h2, h3, h4⟩
  · simp only at h1 h2
    rw [h1, h2]
    exact List.mem_cons_self
  · simp only at h1 h2 h3 h4
    refine List.mem_cons_of_mem _ (List.mem_flatMap.2 ⟨(a - 1).toNat, List.mem_range.2 (by omega), ?_⟩)
    have e : (((a - 1).toNat : Nat) : Int) + 1 = a := by omega
    rw [e]
    have : b = 1 ∨ b = 2 ∨ b = 3 ∨ b = 4 := by omega
    rcases this with rfl | rfl | rfl | rfl <;> simp
/-- What is added up over accounts. -/
def sumK (K : List (Int × Int)) (f : Int → Int → Int) : Int := (K.map (fun k => f k.1 k.2)).sum
theorem sumK_zero : ∀ (K : List (Int × Int)), sumK K (fun _ _ => 0) = 0
  | [] => rfl
  | k :: r => by
    have := sumK_zero r
    unfold sumK at this ⊢
    rw [List.map_cons, List.sum_cons, this]
    rfl
theorem sumK_upd : ∀ (K : List (Int × Int)) (f : Int → Int → Int) (a b v : Int), K.Nodup → (a, b) ∈ K → f a b = 0 → sumK K (fun x y => if a = x ∧ b = y then v else f x y) = sumK K f + v
  | [], _, _, _, _, _, h, _ => by cases h
  | k :: r, f, a, b, v, hn, hm, h0 => by
    have hn' := List.nodup_cons.1 hn
    unfold sumK
    rw [List.map_cons, List.sum_cons, List.map_cons, List.sum_cons]
    by_cases e : (a, b) = k
    · subst e
      have : r.map (fun k => if a = k.1 ∧ b = k.2 then v else f k.1 k.2) = r.map (fun k => f k.1 k.2) := List.map_congr_left fun k hk => if_neg (fun h => hn'.1 (by
        have : (a, b) = k := Prod.ext h.1 h.2
        rw [this]; exact hk))
      rw [this]
      show (if a = a ∧ b = b then v else f a b) + _ = f a b + _ + v
      rw [if_pos ⟨rfl, rfl⟩, h0]
      omega
    · have hr : (a, b) ∈ r := by
        rcases List.mem_cons.1 hm with h | h
        · exact absurd h e
        · exact h
      have := sumK_upd r f a b v hn'.2 hr h0
      unfold sumK at this
      rw [this]
      show (if a = k.1 ∧ b = k.2 then v else f k.1 k.2) + _ = _
      rw [if_neg (fun h => e (Prod.ext h.1 h.2))]
      omega
theorem sumK_congr {K : List (Int × Int)} {f g : Int → Int → Int} (h : ∀ x y, (x, y) ∈ K → f x y = g x y) : sumK K f = sumK K g := by
  unfold sumK
  congr 1
  exact List.map_congr_left fun k hk => h k.1 k.2 hk
theorem sumM_K (t : ByteArray) : ∀ (M : List (S42 × Int)), (M.map Prod.fst).Nodup → (∀ p ∈ M, okAc p.1) → sumM M t = sumK K0 (fun x y => getM M ⟨x, y, t⟩)
  | [], _, _ => (sumK_zero K0).symm
  | p :: r, hn, hb => by
    have hn' := List.nodup_cons.1 hn
    have ih := sumM_K t r hn'.2 (fun q hq => hb q (List.mem_cons_of_mem _ hq))
    have e1 : sumM (p :: r) t = (if p.1.f2 = t then p.2 else 0) + sumM r t := by unfold sumM; rw [List.map_cons, List.sum_cons]
    rw [e1, ih]
    by_cases h : p.1.f2 = t
    · rw [if_pos h]
      have hk : (p.1.f0, p.1.f1) ∈ K0 := K0_mem (hb p List.mem_cons_self)
      have h0 : getM r ⟨p.1.f0, p.1.f1, t⟩ = 0 := by
        refine getM_none ?_
        have : (⟨p.1.f0, p.1.f1, t⟩ : S42) = p.1 := by rw [← h]
        rw [this]
        exact hn'.1
      have := sumK_upd K0 (fun x y => getM r ⟨x, y, t⟩) p.1.f0 p.1.f1 p.2 K0_nodup hk h0
      rw [Int.add_comm, ← this]
      refine sumK_congr fun x y _ => ?_
      show _ = (if p.1 = ⟨x, y, t⟩ then p.2 else getM r ⟨x, y, t⟩)
      by_cases e : p.1 = ⟨x, y, t⟩
      · rw [if_pos e, if_pos (by rw [e]; exact ⟨rfl, rfl⟩)]
      · rw [if_neg e, if_neg]
        intro h1
        apply e
        obtain ⟨⟨p0, p1, p2⟩, v⟩ := p
        simp only at h h1 ⊢
        rw [h1.1, h1.2, h]
    · rw [if_neg h, Int.zero_add]
      refine sumK_congr fun x y _ => ?_
      show _ = (if p.1 = ⟨x, y, t⟩ then p.2 else getM r ⟨x, y, t⟩)
      rw [if_neg (fun e => h (by rw [e]))]
/-- What a member has of a thing. -/
def memS (M : List (S42 × Int)) (t : ByteArray) (m : Int) : Int := getM M ⟨m, 1, t⟩ + getM M ⟨m, 2, t⟩ + getM M ⟨m, 3, t⟩ + getM M ⟨m, 4, t⟩
/-- What the first n members have. -/
def memN (M : List (S42 × Int)) (t : ByteArray) : Nat → Int
  | 0 => 0
  | n + 1 => memN M t n + memS M t ((n : Int) + 1)
theorem sumK_members (M : List (S42 × Int)) (t : ByteArray) : ∀ n : Nat, sumK ((List.range n).flatMap (fun j : Nat => [((j : Int) + 1, (1 : Int)), ((j : Int) + 1, 2), ((j : Int) + 1, 3), ((j : Int) + 1, 4)])) (fun x y => getM M ⟨x, y, t⟩) = memN M t n
  | 0 => rfl
  | n + 1 => by
    have ih := sumK_members M t n
    unfold sumK at ih ⊢
    rw [List.range_succ, List.flatMap_append, List.map_append, List.sum_append, ih]
    have h3 : memN M t (n + 1) = memN M t n + memS M t ((n : Int) + 1) := rfl
    have h4 : memS M t ((n : Int) + 1) = getM M ⟨(n : Int) + 1, 1, t⟩ + getM M ⟨(n : Int) + 1, 2, t⟩ + getM M ⟨(n : Int) + 1, 3, t⟩ + getM M ⟨(n : Int) + 1, 4, t⟩ := rfl
    rw [h3, h4]
    simp
    omega
theorem whole_sum {M : List (S42 × Int)} {L : List S82} (h : Iv M L) (t : ByteArray) : getM M ⟨0, 0, t⟩ + memN M t 32 = 0 := by
  have hok : ∀ p ∈ M, okAc p.1 := fun p hp => h.bk p.1 ((h.st.rep.ok.mem_iff p.1).1 (List.mem_map.2 ⟨p, hp, rfl⟩))
  have e1 := sumM_K t M h.st.rep.ok.nd hok
  rw [h.wh.sum t] at e1
  have e2 : sumK K0 (fun x y => getM M ⟨x, y, t⟩) = getM M ⟨0, 0, t⟩ + memN M t 32 := by
    rw [← sumK_members M t 32]
    unfold K0 sumK
    rw [List.map_cons, List.sum_cons]
  omega
theorem memS_nn {M : List (S42 × Int)} {L : List S82} (h : Iv M L) (t : ByteArray) (n : Nat) : 0 ≤ getM M ⟨(n : Int) + 1, 1, t⟩ ∧ 0 ≤ getM M ⟨(n : Int) + 1, 2, t⟩ ∧ 0 ≤ getM M ⟨(n : Int) + 1, 3, t⟩ ∧ 0 ≤ getM M ⟨(n : Int) + 1, 4, t⟩ := by
  have hz : ∀ k : Int, 0 ≤ getM M ⟨(n : Int) + 1, k, t⟩ := fun k => h.st.nn _ (by show (n : Int) + 1 ≠ 0; omega)
  exact ⟨hz 1, hz 2, hz 3, hz 4⟩
theorem memN_nn {M : List (S42 × Int)} {L : List S82} (h : Iv M L) (t : ByteArray) : ∀ n : Nat, 0 ≤ memN M t n
  | 0 => Int.le_refl _
  | n + 1 => by
    have h1 := memN_nn h t n
    have h2 := memS_nn h t n
    have h3 : memN M t (n + 1) = memN M t n + memS M t ((n : Int) + 1) := rfl
    have h4 : memS M t ((n : Int) + 1) = getM M ⟨(n : Int) + 1, 1, t⟩ + getM M ⟨(n : Int) + 1, 2, t⟩ + getM M ⟨(n : Int) + 1, 3, t⟩ + getM M ⟨(n : Int) + 1, 4, t⟩ := rfl
    omega
theorem memN_le {M : List (S42 × Int)} {L : List S82} (h : Iv M L) (t : ByteArray) (n : Nat) : ∀ k : Nat, memN M t n ≤ memN M t (n + k)
  | 0 => Int.le_refl _
  | k + 1 => by
    have h1 := memN_le h t n k
    have h2 := memS_nn h t (n + k)
    have h3 : memN M t (n + (k + 1)) = memN M t (n + k) + memS M t (((n + k : Nat) : Int) + 1) := rfl
    have h4 : memS M t (((n + k : Nat) : Int) + 1) = getM M ⟨((n + k : Nat) : Int) + 1, 1, t⟩ + getM M ⟨((n + k : Nat) : Int) + 1, 2, t⟩ + getM M ⟨((n + k : Nat) : Int) + 1, 3, t⟩ + getM M ⟨((n + k : Nat) : Int) + 1, 4, t⟩ := rfl
    omega
/-- What the members ahead have, and the next one, is small. -/
theorem mem_small {M : List (S42 × Int)} {L : List S82} (h : Iv M L) (t : ByteArray) (n : Nat) (hn : n < 32) : 0 ≤ memN M t n ∧ memN M t n ≤ 72057594037927936 ∧ memN M t n + memS M t ((n : Int) + 1) ≤ 72057594037927936 ∧ memS M t ((n : Int) + 1) ≤ 72057594037927936 := by
  have h1 := memN_nn h t n
  have h2 := whole_sum h t
  have h3 := (h.st.bm ⟨0, 0, t⟩).1
  obtain ⟨k, hk⟩ : ∃ k, 32 = (n + 1) + k := ⟨32 - (n + 1), by omega⟩
  have h4 := memN_le h t (n + 1) k
  rw [← hk] at h4
  have h5 : memN M t (n + 1) = memN M t n + memS M t ((n : Int) + 1) := rfl
  have h6 := memS_nn h t n
  have h7 : memS M t ((n : Int) + 1) = getM M ⟨(n : Int) + 1, 1, t⟩ + getM M ⟨(n : Int) + 1, 2, t⟩ + getM M ⟨(n : Int) + 1, 3, t⟩ + getM M ⟨(n : Int) + 1, 4, t⟩ := rfl
  omega
theorem wrap64_twice (a : Int) : wrap64 (wrap64 a) = wrap64 a := by
  have := wrap64_add a 0
  rwa [Int.add_zero, Int.add_zero] at this
/-- What the world has. -/
theorem heldL_zero (t : ByteArray) : ∀ (L : List S82) (n : Int), Up L → (∀ x ∈ L, okAc (to42 x.f0)) → wrap64 n = n → L.foldl (fun n b => if b.f0.f0 = 0 ∧ b.f0.f2.toList = t.toList then wrap64 (n + b.f1) else n) n = wrap64 (n + gL L ⟨0, 0, t⟩)
  | [], n, _, _, hw => by
    rw [gL_nil, Int.add_zero]
    exact hw.symm
  | b :: r, n, hu, hk, hw => by
    have hu' := List.pairwise_cons.1 hu
    rw [List.foldl_cons, gL_cons]
    by_cases e : b.f0.f0 = 0 ∧ b.f0.f2.toList = t.toList
    · have hb := hk b List.mem_cons_self
      have e1 : to42 b.f0 = ⟨0, 0, t⟩ := by
        rcases hb with ⟨h1, h2⟩ | ⟨h1, _⟩
        · have h3 := (toList_iff _ _).1 e.2
          unfold to42 at h1 h2 ⊢
          simp only at h1 h2
          rw [h1, h2, h3]
        · exact absurd e.1 (by unfold to42 at h1; simp only at h1; omega)
      rw [if_pos e, if_pos e1]
      have h0 : gL r ⟨0, 0, t⟩ = 0 := by
        refine gL_none fun hm => ?_
        obtain ⟨x, hx, hxe⟩ := List.mem_map.1 hm
        have h2 := hu'.1 x hx
        rw [e1, ← hxe] at h2
        exact Bef.irrefl _ h2
      rw [heldL_zero t r _ hu'.2 (fun x hx => hk x (List.mem_cons_of_mem _ hx)) (wrap64_twice _), h0, Int.add_zero]
      exact wrap64_twice _
    · rw [if_neg e, if_neg (fun e1 => e ⟨congrArg S42.f0 e1, by
        have : b.f0.f2 = t := congrArg S42.f2 e1
        rw [this]⟩)]
      exact heldL_zero t r n hu'.2 (fun x hx => hk x (List.mem_cons_of_mem _ hx)) hw
theorem held_world {M : List (S42 × Int)} {L : List S82} (h : Iv M L) (t : ByteArray) : heldL L 0 t = getM M ⟨0, 0, t⟩ := by
  have hk : ∀ x ∈ L, okAc (to42 x.f0) := fun x hx => h.bk _ (by
    rw [h.st.rep.same, gL_mem h.st.rep.up hx]
    exact h.st.rep.nz x hx)
  have e := heldL_zero t L 0 h.st.rep.up hk (wrap_id (by decide) (by decide))
  have hb := h.st.bm ⟨0, 0, t⟩
  rw [Int.zero_add, ← h.st.rep.same, wrap_id (by omega) (by omega)] at e
  exact e
end Go.Proofs.Ytoknlpecbdlbfaa.PL

-- LedgerNobody, walked.
namespace Go.Proofs.Ytoknlpecbdlbfaa.PL
open Go Go.RowKit Go.Maps Go.Sort Go.Shelf Go.Proofs Go.Proofs.YtoknlpecbdlbfaaW.PrintWords Go.Proofs.YtoknlpecbdlbfaaW.PrintLast
theorem NoLG.below {w w' : World} {p : Value} (h : NoLG w p) (hb : Below w.heap.size w w') : NoLG w' p := by
  rcases h with rfl | ⟨g, rfl, hc⟩
  · exact .inl rfl
  · exact .inr ⟨g, rfl, cell_keep hb hc⟩
theorem of_any (a0 a1 : Int) (a2 : ByteArray) (w : World) : Calls Try.prog 26 #[.agg #[.int .i64 a0, .int .i64 a1, .string a2]] w fun e w' => e = .returned (.agg #[.int .i64 a0, .int .i64 a1, .string a2]) ∧ Below w.heap.size w w' :=
  lombardlaw11_of.calls a0 a1 a2 a0 a1 a2 w rfl
/-- a's own cells, at the block k. -/
def A3 (a0 a1 : Int) (a2 : ByteArray) (k : Nat) (W : World) : Prop := W.cell? ⟨k, 0, none⟩ = some (.int .i64 a0) ∧ W.cell? ⟨k, 1, none⟩ = some (.int .i64 a1) ∧ W.cell? ⟨k, 2, none⟩ = some (.string a2)
theorem A3.below {a0 a1 : Int} {a2 : ByteArray} {k : Nat} {w w' : World} (h : A3 a0 a1 a2 k w) (hb : Below w.heap.size w w') : A3 a0 a1 a2 k w' := ⟨cell_keep hb h.1, cell_keep hb h.2.1, cell_keep hb h.2.2⟩
theorem cell_at {W : World} {k : Nat} {cs : Array Value} {t : TypeId} {f : Nat × Nat} (h : W.heap[k]? = some (.cells cs t f)) (i : Nat) : W.cell? ⟨k, i, none⟩ = cs[i]? := by
  unfold World.cell?
  rw [h]
  rfl
/-- What the walk of LedgerNobody has laid. -/
structure NS (w : World) (a0 a1 : Int) (a2 : ByteArray) (p : Value) (W : World) : Prop where
  a3 : A3 a0 a1 a2 w.heap.size W
  c0 : W.cell? ⟨w.heap.size + 1, 0, none⟩ = some (.map none)
  c1 : W.cell? ⟨w.heap.size + 1 + 1, 0, none⟩ = some (.pointer none)
  c2 : W.cell? ⟨w.heap.size + 1 + 1, 1, none⟩ = some (.pointer (some ⟨w.heap.size + 1, 0, none⟩))
  no : NoLG W p
  bl : Below w.heap.size w W
theorem NS.below {w : World} {a0 a1 : Int} {a2 : ByteArray} {p : Value} {W W' : World} (h : NS w a0 a1 a2 p W) (hb : Below W.heap.size W W') : NS w a0 a1 a2 p W' :=
  ⟨h.a3.below hb, cell_keep hb h.c0, cell_keep hb h.c1, cell_keep hb h.c2, h.no.below hb, h.bl.trans (hb.mono h.bl.size)⟩
theorem NS.new {w : World} {a0 a1 : Int} {a2 : ByteArray} : NS w a0 a1 a2 (.pointer none) (((w.alloc (.cells #[.int .i64 a0, .int .i64 a1, .string a2] 45)).alloc (.cells #[.map none] 62)).alloc (.cells #[.pointer none, .pointer (some ⟨w.heap.size + 1, 0, none⟩)] 25)) := by
  have e1 : (w.alloc (.cells #[.int .i64 a0, .int .i64 a1, .string a2] 45)).heap.size = w.heap.size + 1 := by simp
  have e2 : ((w.alloc (.cells #[.int .i64 a0, .int .i64 a1, .string a2] 45)).alloc (.cells #[.map none] 62)).heap.size = w.heap.size + 1 + 1 := by simp
  have hA := (Go.MapKept.heap_alloc w (.cells #[.int .i64 a0, .int .i64 a1, .string a2] 45)).1
  have hB := (Go.MapKept.heap_alloc (w.alloc (.cells #[.int .i64 a0, .int .i64 a1, .string a2] 45)) (.cells #[.map none] 62))
  have hC := (Go.MapKept.heap_alloc ((w.alloc (.cells #[.int .i64 a0, .int .i64 a1, .string a2] 45)).alloc (.cells #[.map none] 62)) (.cells #[.pointer none, .pointer (some ⟨w.heap.size + 1, 0, none⟩)] 25))
  have hb : Below w.heap.size w (((w.alloc (.cells #[.int .i64 a0, .int .i64 a1, .string a2] 45)).alloc (.cells #[.map none] 62)).alloc (.cells #[.pointer none, .pointer (some ⟨w.heap.size + 1, 0, none⟩)] 25)) := (((Below.refl _ _).alloc (Nat.le_refl _) _).alloc (by simp) _).alloc (by simp; omega) _
  rw [e1] at hB
  rw [e2] at hC
  have h1 := (hC.2 w.heap.size (by omega)).trans ((hB.2 w.heap.size (by omega)).trans hA)
  have h2 := (hC.2 (w.heap.size + 1) (by omega)).trans hB.1
  have h3 := hC.1
  clear hA hB hC e1 e2
  generalize (((w.alloc (.cells #[.int .i64 a0, .int .i64 a1, .string a2] 45)).alloc (.cells #[.map none] 62)).alloc (.cells #[.pointer none, .pointer (some ⟨w.heap.size + 1, 0, none⟩)] 25)) = W at h1 h2 h3 hb ⊢
  exact ⟨⟨cell_at h1 0, cell_at h1 1, cell_at h1 2⟩, cell_at h2 0, cell_at h3 0, cell_at h3 1, .inl rfl, hb⟩
theorem NS.at {w : World} {a0 a1 : Int} {a2 : ByteArray} {W : World} (h : NS w a0 a1 a2 (.pointer none) W) {k : Nat} (hk : k < 2) : ∃ p, W.cell? ⟨w.heap.size + 1 + 1, k, none⟩ = some p ∧ NS w a0 a1 a2 p W := by
  have h2 : k = 0 ∨ k = 1 := by omega
  rcases h2 with rfl | rfl
  · exact ⟨_, h.c1, h⟩
  · exact ⟨_, h.c2, h.a3, h.c0, h.c1, h.c2, .inr ⟨_, rfl, h.c0⟩, h.bl⟩
end Go.Proofs.Ytoknlpecbdlbfaa.PL

-- LedgerTells, walked.
namespace Go.Proofs.Ytoknlpecbdlbfaa.PL
open Go Go.RowKit Go.Maps Go.Sort Go.Shelf Go.Proofs Go.Proofs.YtoknlpecbdlbfaaW.PrintWords Go.Proofs.YtoknlpecbdlbfaaW.PrintLast
theorem A3.grown {a0 a1 : Int} {a2 : ByteArray} {k b : Nat} {w w' : World} (h : A3 a0 a1 a2 k w) (hg : w.grownBy w' (some b)) (hk : k ≠ b) : A3 a0 a1 a2 k w' := by
  have e : ∀ {i : Nat} {v : Value}, w.cell? ⟨k, i, none⟩ = some v → w'.cell? ⟨k, i, none⟩ = some v := fun hc => (World.cell?_of_block (hg.block _ (World.block_lt_of_cell? w _ hc) (by simpa using hk))).trans hc
  exact ⟨e h.1, e h.2.1, e h.2.2⟩
/-- What stands behind the posts of LedgerTells. -/
structure TS (w : World) (g b : Nat) (L : List S82) (A : Option Addr) (c : Nat) (M : List (S42 × Int)) (a0 a1 : Int) (a2 : ByteArray) (W : World) : Prop where
  lg : LG W g b M
  rep : Rep M L
  hC : Kd.C k82 W A L.length L
  hc : L.length ≤ c
  len : L.length ≤ 1000000
  a3 : A3 a0 a1 a2 w.heap.size W
  below : Below w.heap.size w W
theorem TS.step {w : World} {g b : Nat} {L : List S82} {A : Option Addr} {c : Nat} {M : List (S42 × Int)} {a0 a1 : Int} {a2 : ByteArray} {W W' : World} (h : TS w g b L A c M a0 a1 a2 W) (hb : Below W.heap.size W W') : TS w g b L A c M a0 a1 a2 W' :=
  ⟨h.lg.below hb, h.rep, Kd.C_below h.hC hb, h.hc, h.len, h.a3.below hb, h.below.trans (hb.mono h.below.size)⟩
section
variable {w : World} {g b : Nat} {L : List S82} {A : Option Addr} {c : Nat} {M : List (S42 × Int)} {a0 a1 : Int} {a2 : ByteArray} {W : World} (h : TS w g b L A c M a0 a1 a2 W)
include h
theorem TS.of : Calls Try.prog 26 #[.agg #[.int .i64 a0, .int .i64 a1, .string a2]] W fun e w' => e = .returned (.agg #[.int .i64 a0, .int .i64 a1, .string a2]) ∧ TS w g b L A c M a0 a1 a2 w' ∧ A3 a0 a1 a2 w.heap.size w' :=
  (of_any a0 a1 a2 W).mono (fun _ _ ⟨e, hb⟩ => ⟨e, h.step hb, (h.step hb).a3⟩)
theorem TS.get : Calls Try.prog 27 #[.slice A L.length c, .agg #[.int .i64 a0, .int .i64 a1, .string a2]] W fun e w' => e = .returned (.int .i64 (getL L a0 a1 a2)) ∧ TS w g b L A c M a0 a1 a2 w' ∧ A3 a0 a1 a2 w.heap.size w' :=
  (get_any (by have := h.len; omega) h.hC h.hc ⟨a0, a1, a2⟩).mono (fun _ _ ⟨e, hb⟩ => ⟨e, h.step hb, (h.step hb).a3⟩)
theorem TS.held (o : Int) (t : ByteArray) : Calls Try.prog 28 #[.pointer (some ⟨g, 0, none⟩), .int .i64 o, .string t] W fun e w' => e = .returned (.int .i64 (heldL L o t)) ∧ TS w g b L A c M a0 a1 a2 w' ∧ A3 a0 a1 a2 w.heap.size w' :=
  (held_walk _ W L o t (all_gives h.lg h.rep (by have := h.len; omega)) (by have := h.len; omega)).mono (fun _ _ ⟨e, hb⟩ => ⟨e, h.step hb, (h.step hb).a3⟩)
theorem TS.out (t : ByteArray) : Calls Try.prog 30 #[.pointer (some ⟨g, 0, none⟩), .string t] W fun e w' => e = .returned (.int .i64 (wrap64 (0 - heldL L 0 t))) ∧ TS w g b L A c M a0 a1 a2 w' ∧ A3 a0 a1 a2 w.heap.size w' :=
  (out_walk _ W L t (all_gives h.lg h.rep (by have := h.len; omega)) (by have := h.len; omega)).mono (fun _ _ ⟨e, hb⟩ => ⟨by rw [Int.zero_sub]; exact e, h.step hb, (h.step hb).a3⟩)
theorem TS.things : Calls Try.prog 32 #[.pointer (some ⟨g, 0, none⟩)] W fun e w' => ∃ (A2 : Option Addr) (c2 : Nat), e = .returned (.slice A2 (compB (thingsOf L)).length c2) ∧ Hid (TS w g b L A c M a0 a1 a2 w' ∧ Kd.C Kd.string w' A2 (compB (thingsOf L)).length (compB (thingsOf L)) ∧ (compB (thingsOf L)).length ≤ c2) ∧ A3 a0 a1 a2 w.heap.size w' := by
  refine (things_walk _ W L (all_gives h.lg h.rep (by have := h.len; omega)) (by have := h.len; omega)).mono ?_
  rintro e w' ⟨v, rfl, h1, hb⟩
  obtain ⟨A2, c2, rfl, h3, h4⟩ := Kd.R_reads h1
  exact ⟨A2, c2, rfl, ⟨h.step hb, h4, h3⟩, (h.step hb).a3⟩
theorem TS.awake : Calls Try.prog 16 #[] W fun e w' => e = .returned (.bool true) ∧ TS w g b L A c M a0 a1 a2 w' ∧ A3 a0 a1 a2 w.heap.size w' :=
  (awake_walk W).mono (fun _ _ ⟨e, hb⟩ => ⟨e, h.step hb, (h.step hb).a3⟩)
end
end Go.Proofs.Ytoknlpecbdlbfaa.PL

-- CustodyTells, walked. (printed by genUG.py)
namespace Go.Proofs.Ytoknlpecbdlbfaa.PL
open Go Go.RowKit Go.Maps Go.Sort Go.Shelf Go.Proofs Go.Proofs.YtoknlpecbdlbfaaW.PrintWords Go.Proofs.YtoknlpecbdlbfaaW.PrintLast
set_option maxRecDepth 100000 in
theorem pall_any (a b c d : Int) (ha : -72057594037927936 ≤ a ∧ a ≤ 72057594037927936) (hb : -72057594037927936 ≤ b ∧ b ≤ 72057594037927936) (hc : -72057594037927936 ≤ c ∧ c ≤ 72057594037927936) (hd : -72057594037927936 ≤ d ∧ d ≤ 72057594037927936) (W : World) :
    Calls Try.prog 48 #[.agg #[.int .i64 a, .int .i64 b, .int .i64 c, .int .i64 d]] W fun e w' => e = .returned (.int .i64 (a + b + c + d)) ∧ Below W.heap.size W w' := by
  obtain ⟨a1, a2⟩ := ha
  obtain ⟨b1, b2⟩ := hb
  obtain ⟨c1, c2⟩ := hc
  obtain ⟨d1, d2⟩ := hd
  go_enter Try.func48, Try.ntmps48
  go_wp2
  go_ret
  exact ⟨rfl, (Below.refl _ _).alloc (Nat.le_refl _) _⟩
theorem cthings_C {w : World} {p g b : Nat} {M : List (S42 × Int)} (h : CU w p g b M) {L : List S82} (hr : Rep M L) (hs : L.length ≤ 1000000) :
    Calls Try.prog 46 #[.pointer (some ⟨p, 0, none⟩)] w fun e w' => ∃ (A : Option Addr) (c : Nat), e = .returned (.slice A (compB (thingsOf L)).length c) ∧ Hid (Kd.C Kd.string w' A (compB (thingsOf L)).length (compB (thingsOf L)) ∧ (compB (thingsOf L)).length ≤ c ∧ Below w.heap.size w w') := by
  refine (cthings_any h hr hs).mono ?_
  rintro e w' ⟨v, rfl, H⟩
  obtain ⟨A, c, rfl, h3, h4⟩ := Kd.R_reads H.out.1
  exact ⟨A, c, rfl, ⟨h4, h3, H.out.2⟩⟩
/-- Four cells, of which the first k are set. -/
def a4 (g : Nat → Int) (k : Nat) : Obj := .cells #[.int .i64 (if 0 < k then g 0 else 0), .int .i64 (if 1 < k then g 1 else 0), .int .i64 (if 2 < k then g 2 else 0), .int .i64 (if 3 < k then g 3 else 0)] 96 (0, 0)
end Go.Proofs.Ytoknlpecbdlbfaa.PL

-- CustodyWhole, walked. (printed by genUH.py)
namespace Go.Proofs.Ytoknlpecbdlbfaa.PL
open Go Go.RowKit Go.Maps Go.Sort Go.Shelf Go.Proofs Go.Proofs.YtoknlpecbdlbfaaW.PrintWords Go.Proofs.YtoknlpecbdlbfaaW.PrintLast
theorem mem_compB {xs : List ByteArray} {t : ByteArray} (h : t ∈ compB xs) : t ∈ xs := by
  unfold compB Lib.compact Lib.compactUpTo at h
  obtain ⟨b, hb, rfl⟩ := List.mem_map.1 h
  obtain ⟨j, hj, rfl⟩ := List.mem_map.1 hb
  have hj' : j < xs.length := by
    have := (List.mem_filter.1 hj).1
    rw [List.mem_range, List.length_map] at this
    exact this
  have e : (xs.map bl).toArray[j]! = bl xs[j] := by
    rw [getElem!_pos _ j (by simpa using hj')]
    simp
  rw [e]
  have e2 : (⟨(bl xs[j]).toArray⟩ : ByteArray) = xs[j] := by unfold bl; simp
  rw [e2]
  exact List.getElem_mem hj'
theorem thing_size {M : List (S42 × Int)} {L : List S82} (h : Iv M L) {t : ByteArray} (ht : t ∈ compB (thingsOf L)) : t.size ≤ 40 := by
  obtain ⟨x, hx, rfl⟩ := List.mem_map.1 (mem_compB ht)
  have hg := h.wh.good (to42 x.f0) (by
    rw [h.st.rep.same, gL_mem h.st.rep.up hx]
    exact h.st.rep.nz x hx)
  unfold goodI at hg
  split at hg
  · exact absurd hg (by decide)
  · split at hg
    · exact absurd hg (by decide)
    · rename_i h2
      have : ¬ 40 < (to42 x.f0).f2.size := fun h3 => h2 (.inr h3)
      show (to42 x.f0).f2.size ≤ 40
      omega
/-- What stands at a round's head, the document's list being thought alone. -/
structure RV (w : World) (p g b k : Nat) (L : List S82) (M : List (S42 × Int)) (W : World) : Prop where
  cu : CU W p g b M
  iv : Iv M L
  bl : Below w.heap.size w W
  hb : w.heap.size ≤ b
  len : L.length ≤ 82 * k
theorem RV.below {w : World} {p g b k : Nat} {L : List S82} {M : List (S42 × Int)} {W W' : World} (h : RV w p g b k L M W) (hb : Below W.heap.size W W') : RV w p g b k L M W' :=
  ⟨h.cu.below hb, h.iv, h.bl.trans (hb.mono h.bl.size), h.hb, h.len⟩
theorem RV.next {w : World} {p g b k : Nat} {L : List S82} {M : List (S42 × Int)} {W : World} (h : RV w p g b k L M W) : RV w p g b (k + 1) L M W :=
  ⟨h.cu, h.iv, h.bl, h.hb, by have := h.len; omega⟩
theorem RV.act {w : World} {p g b k : Nat} {L : List S82} {M : List (S42 × Int)} {W W' : World} (h : RV w p g b k L M W) (x : S72) (s6 : x.f6.length ≤ 40) (s7 : x.f7.length ≤ 40) (hc : CU W' p g b (actM M x).1) (hg : W.grownBy W' (some b)) : RV w p g b (k + 1) (actL L x).1 (actM M x).1 W' :=
  ⟨hc, h.iv.act x, h.bl.grown hg h.bl.size (by simp; exact h.hb), h.hb, by have := length_actL L x s6 s7; have := h.len; omega⟩
theorem RV.few {w : World} {p g b k : Nat} {L : List S82} {M : List (S42 × Int)} {W : World} (h : RV w p g b k L M W) (hk : k ≤ 41) : L.length ≤ 1000000 ∧ M.length ≤ 1000000000 := by
  have := h.len
  rw [rep_length h.iv.st.rep]
  omega
theorem wrapS {S r S' a b c d : Int} (h : S + r = S') (h1 : S + r ≤ 72057594037927936) (h2 : 0 ≤ S) (ha : 0 ≤ a) (hb : 0 ≤ b) (hc : 0 ≤ c) (hd : 0 ≤ d) (hr : a + b + c + d = r) : wrap64 (S + r) = S' := by
  rw [wrap_id (by omega) (by omega)]
  exact h
theorem le33 {n : Nat} (h : n < 32) : (n : Int) + 1 ≤ 32 := by omega
theorem lt32 {n : Nat} (h : n < 32) : (n : Int) < 32 := by omega
theorem wrapN1 {n : Nat} (h : n < 32) : wrap64 ((n : Int) + 1 + 1) = ((n + 1 : Nat) : Int) + 1 := by
  rw [wrap_id (by omega) (by omega)]
  rfl
set_option maxRecDepth 100000 in
set_option maxHeartbeats 8000000 in
theorem whole_walk' (A : Option Addr) (c : Nat) (P : List S72) (w : World) (hr : Kd.C k72 w A P.length P) (hl : P.length ≤ 9223372036854775807) :
    Calls Try.prog 11 #[.slice A P.length c] w fun e w' => e = .returned (.bool true) ∧ Below w.heap.size w w' := by
  have HP := Lib.hid (And.intro hr hl)
  clear hr hl
  go_enter Try.func11, Try.ntmps11
  go_wp2_with (go_at_call 34; refine (cnew_any _).mono ?_; rintro e w1 ⟨p, g, b, rfl, H1⟩)
  go_loopg [4] (P.length + 1) (fun kq v4 w' => ∃ (k : Nat) (L : List S82) (M : List (S42 × Int)), v4 = .int .i64 k ∧ Hid (kq + k = P.length + 1 ∧ k ≤ P.length ∧ k ≤ 40 ∧ RV w p g b k L M w'))
  case atStart =>
    exact ⟨0, [], [], rfl, ⟨rfl, Nat.zero_le _, Nat.zero_le _, H1.out.1, Iv.nil, H1.out.2.1, H1.out.2.2.1, Nat.zero_le _⟩⟩
  case round =>
    obtain ⟨k, L, M, rfl, HI⟩ := hrel
    by_cases hk : k < P.length ∧ k < 40
    · obtain ⟨hk1, hk2⟩ := hk
      obtain ⟨ad, A6, c6, A7, c7, eA, x0, x1, x2, x3, x4, x5, x6, x7, hg⟩ := at_T72 HP.out.1 (k : Int) (by omega) (by omega)
      simp only [Int.toNat_natCast] at x0 x1 x2 x3 x4 x5 x6 x7
      obtain ⟨x, ha⟩ : ∃ a, rd_T72 P (k : Int) = a := ⟨_, rfl⟩
      rw [ha] at x0 x1 x2 x3 x4 x5 x6 x7 hg
      have HS0 := Lib.hid (show L8 ad k x A6 c6 A7 c7 w from ⟨x0, x1, x2, x3, x4, x5, x6, x7⟩)
      have HG := Lib.hid hg
      have hl64 : wrap64 ((k : Int) + 1) = ((k + 1 : Nat) : Int) := by
        have h3 := HP.out.2
        rw [wrap_id (by omega) (by omega)]; rfl
      have Hw := Lib.hid hl64
      have HK := Lib.hid (And.intro hk1 hk2)
      have p1 : (0 ≤ (k : Int)) = True := eq_true (by omega)
      have q1 : ((k : Int) < (P.length : Int)) = True := eq_true (by omega)
      have q2 : ((k : Int) < 40) = True := eq_true (by omega)
      have hr8 := HS0.out.below HI.out.2.2.2.bl
      clear x0 x1 x2 x3 x4 x5 x6 x7
      obtain ⟨x0, x1, x2, x3, x4, x5, x6, x7⟩ := hr8
      subst eA
      have HSH := Lib.hid (show ∀ W, Below w.heap.size w W → Calls Try.prog 35 #[.agg #[.int .i64 x.f0, .int .i64 x.f1, .int .i64 x.f2, .int .i64 x.f3, .string x.f4, .int .i64 x.f5, .slice A6 x.f6.length c6, .slice A7 x.f7.length c7]] W fun e w' => e = .returned (.bool (shB x)) ∧ Below W.heap.size W w' from fun W hb => lombardlaw12_short.calls x.f0 x.f1 x.f2 x.f3 x.f4 x.f5 A6 c6 x.f6 A7 c7 x.f7 (shB x) W (Kd.C_below HG.out.2.1 hb) HG.out.1 (Kd.C_below HG.out.2.2.2 hb) HG.out.2.2.1 (cshort_f x))
      clear ha hg hl64 hk1 hk2
      obtain ⟨z, hz⟩ : ∃ z, shB x = z := ⟨_, rfl⟩
      rw [hz] at HSH
      have HZ := Lib.hid hz
      clear hz
      cases z with
      | false =>
        go_wp2_with (go_at_call 35; refine (HSH.out _ (HI.out.2.2.2.bl.alloc HI.out.2.2.2.bl.size _)).mono ?_; rintro e w3 ⟨rfl, H3⟩; replace H3 := Lib.hid H3)
        go_roundg (P.length - k)
        case measure => have := HI.out.1; have := HK.out; omega
        case rel =>
          have hb := (Below.refl wr.heap.size wr).alloc (Nat.le_refl _) (.cells #[.int .i64 x.f0, .int .i64 x.f1, .int .i64 x.f2, .int .i64 x.f3, .string x.f4, .int .i64 x.f5, .slice A6 x.f6.length c6, .slice A7 x.f7.length c7] 72)
          exact ⟨k + 1, L, M, by rw [Hw.out], ⟨by have := HI.out.1; have := HK.out; omega, by have := HK.out; omega, by have := HK.out; omega, ((HI.out.2.2.2.below hb).below H3.out).next⟩⟩
      | true =>
        have HZ2 := Lib.hid (show x.f6.length ≤ 40 ∧ x.f7.length ≤ 40 from of_decide_eq_true HZ.out)
        have HLe := Lib.hid (HI.out.2.2.2.few (by have := HK.out; omega))
        go_upto_block 2 with (go_at_call 35; refine (HSH.out _ (HI.out.2.2.2.bl.alloc HI.out.2.2.2.bl.size _)).mono ?_; rintro e w3 ⟨rfl, H3⟩; have hb := (Below.refl wr.heap.size wr).alloc (Nat.le_refl _) (.cells #[.int .i64 x.f0, .int .i64 x.f1, .int .i64 x.f2, .int .i64 x.f3, .string x.f4, .int .i64 x.f5, .slice A6 x.f6.length c6, .slice A7 x.f7.length c7] 72); have HRV := Lib.hid ((HI.out.2.2.2.below hb).below H3); have bx := (H3.block wr.heap.size (by simp)).trans (Go.MapKept.heap_alloc wr _).1; have HBX := Lib.hid bx; have j0 := cellA bx 0; clear bx hb H3; simp only [List.getElem?_toArray, List.getElem?_cons_zero] at j0)
        obtain ⟨G, hG⟩ : ∃ G, wr.heap.size = G := ⟨_, rfl⟩
        have hbx := HBX.out
        rw [hG] at hbx j0
        rw [hG]
        replace HBX := Lib.hid hbx
        clear hbx hG
        go_cut [] (fun wx => Hid (RV w p g b (k + 1) (actL L x).1 (actM M x).1 wx))
        case first =>
          have j1 : w3.cell? ⟨G, 1, none⟩ = some (.int .i64 x.f1) := cellA HBX.out 1
          have j2 : w3.cell? ⟨G, 2, none⟩ = some (.int .i64 x.f2) := cellA HBX.out 2
          have j3 : w3.cell? ⟨G, 3, none⟩ = some (.int .i64 x.f3) := cellA HBX.out 3
          have j4 : w3.cell? ⟨G, 4, none⟩ = some (.string x.f4) := cellA HBX.out 4
          have j5 : w3.cell? ⟨G, 5, none⟩ = some (.int .i64 x.f5) := cellA HBX.out 5
          have j6 : w3.cell? ⟨G, 6, none⟩ = some (.slice A6 x.f6.length c6) := cellA HBX.out 6
          have j7 : w3.cell? ⟨G, 7, none⟩ = some (.slice A7 x.f7.length c7) := cellA HBX.out 7
          by_cases n0 : x.f0 = 0
          · have m0 : (x.f0 == 0) = true := by simpa using n0
            have HE := Lib.hid (show (actM M x).1 = (brL M x.f1 x.f4 x.f5).1 by unfold actM; rw [if_pos n0])
            clear n0
            go_wp2_with (go_at_call 42; refine (bring_any HRV.out.cu HRV.out.iv.st.bm HLe.out.2 x.f1 x.f5 x.f4).mono ?_; rintro e w4 ⟨rfl, H4⟩)
            go_meet
            exact Lib.hid (HRV.out.act x HZ2.out.1 HZ2.out.2 (by rw [HE.out]; exact H4.out.1) H4.out.2)
          · by_cases n1 : x.f0 = 1
            · have m0 : (x.f0 == 0) = false := by simpa using n0
              have m1 : (x.f0 == 1) = true := by simpa using n1
              have HE := Lib.hid (show (actM M x).1 = (cmL M (x.f6.map toLn)).1 by unfold actM; rw [if_neg n0, if_pos n1])
              have HN := Lib.hid (show Calls Try.prog 44 #[.slice A6 x.f6.length c6] w3 fun e w' => ∃ (A8 : Option Addr) (c8 : Nat), e = .returned (.slice A8 x.f6.length c8) ∧ Hid (Kd.C k125 w' A8 x.f6.length (x.f6.map toLn) ∧ Below w3.heap.size w3 w') from lines_any A6 c6 x.f6 w3 (Kd.C_below HG.out.2.1 HRV.out.bl) HG.out.1 (by have := HZ2.out.1; omega))
              have HM := Lib.hid (show ∀ W A8 c8, Below w3.heap.size w3 W → Kd.C k125 W A8 x.f6.length (x.f6.map toLn) → Calls Try.prog 43 #[.pointer (some ⟨p, 0, none⟩), .slice A8 x.f6.length c8] W fun e w' => e = .returned (.tuple #[.int .i64 (cmL M (x.f6.map toLn)).2.1, .int .i64 (cmL M (x.f6.map toLn)).2.2]) ∧ Hid (CU w' p g b (cmL M (x.f6.map toLn)).1 ∧ W.grownBy w' (some b)) from fun W A8 c8 hb hC => by
                have := cmove_any (HRV.out.below hb).cu HRV.out.iv.st.bm HLe.out.2 A8 c8 (x.f6.map toLn) (by rw [List.length_map]; exact hC) (by rw [List.length_map]; have := HZ2.out.1; omega)
                rw [List.length_map] at this
                exact this)
              clear n0 n1
              go_wp2_with (first
                | (go_at_call 43; refine (HM.out _ A8 c8 H5.out.2 H5.out.1).mono ?_; rintro e w4 ⟨rfl, H4⟩)
                | (go_at_call 44; refine HN.out.mono ?_; rintro e w5 ⟨A8, c8, rfl, H5⟩))
              go_meet
              exact Lib.hid ((HRV.out.below H5.out.2).act x HZ2.out.1 HZ2.out.2 (by rw [HE.out]; exact H4.out.1) H4.out.2)
            · by_cases n2 : x.f0 = 2
              · have m0 : (x.f0 == 0) = false := by simpa using n0
                have m1 : (x.f0 == 1) = false := by simpa using n1
                have m2 : (x.f0 == 2) = true := by simpa using n2
                have HE := Lib.hid (show (actM M x).1 = (cmL M (shX x.f1 x.f2 x.f3 x.f7)).1 by unfold actM; rw [if_neg n0, if_neg n1, if_pos n2])
                clear n0 n1 n2
                go_wp2_with (go_at_call 45; refine (cshift_any HRV.out.cu HRV.out.iv.st.bm HLe.out.2 x.f1 x.f2 x.f3 A7 c7 x.f7 (Kd.C_below HG.out.2.2.2 HRV.out.bl) (by have := HZ2.out.2; omega)).mono ?_; rintro e w4 ⟨rfl, H4⟩)
                go_meet
                exact Lib.hid (HRV.out.act x HZ2.out.1 HZ2.out.2 (by rw [HE.out]; exact H4.out.1) H4.out.2)
              · have m0 : (x.f0 == 0) = false := by simpa using n0
                have m1 : (x.f0 == 1) = false := by simpa using n1
                have m2 : (x.f0 == 2) = false := by simpa using n2
                have HE := Lib.hid (show (actM M x).1 = (cmL M (trX x.f1 x.f2 x.f7 x.f4 x.f5)).1 by unfold actM; rw [if_neg n0, if_neg n1, if_neg n2])
                clear n0 n1 n2
                go_wp2_with (go_at_call 39; refine (ctrade_any HRV.out.cu HRV.out.iv.st.bm HLe.out.2 x.f1 x.f2 x.f5 x.f4 A7 c7 x.f7 (Kd.C_below HG.out.2.2.2 HRV.out.bl) (by have := HZ2.out.2; omega)).mono ?_; rintro e w4 ⟨rfl, H4⟩)
                go_meet
                exact Lib.hid (HRV.out.act x HZ2.out.1 HZ2.out.2 (by rw [HE.out]; exact H4.out.1) H4.out.2)
        case rest =>
          have HX := hcut
          obtain ⟨L', hL'⟩ : ∃ l, (actL L x).1 = l := ⟨_, rfl⟩
          obtain ⟨M', hM'⟩ : ∃ l, (actM M x).1 = l := ⟨_, rfl⟩
          rw [hL', hM'] at HX
          have HLL := Lib.hid (HX.out.few (by have := HK.out; omega)).1
          clear hcut hL' hM' j0 x0 x1 x2 x3 x4 x5 x6 x7
          go_wp2_with (go_at_call 46; refine (cthings_C HX.out.cu HX.out.iv.st.rep HLL.out).mono ?_; rintro e w6 ⟨A46, c46, rfl, H46⟩)
          have HTS := Lib.hid (show ∀ t ∈ compB (thingsOf L'), t.size ≤ 40 from fun t ht => thing_size HX.out.iv ht)
          have H6 := Lib.hid (HX.out.below H46.out.2.2)
          obtain ⟨T, hT⟩ : ∃ T, compB (thingsOf L') = T := ⟨_, rfl⟩
          rw [hT] at H46 HTS
          rw [hT]
          have htl : T.length ≤ 9223372036854775807 := C_len H46.out.1
          clear hT
          go_loopg [7] (T.length + 1) (fun kq v7 w' => ∃ j : Nat, v7 = .int .i64 j ∧ Hid (kq + j = T.length + 1 ∧ j ≤ T.length ∧ Below w6.heap.size w6 w'))
          case atStart => exact ⟨0, rfl, ⟨rfl, Nat.zero_le _, Below.refl _ _⟩⟩
          case round =>
            obtain ⟨j, rfl, HJ⟩ := hrel
            obtain ⟨wo, rfl⟩ : ∃ wo : World, wo = wr := ⟨_, rfl⟩
            by_cases hj : j < T.length
            · obtain ⟨ad2, eA, t0⟩   := Kd.at_string H46.out.1 (j : Int) (by omega) (by omega)
              simp only [Int.toNat_natCast] at t0
              obtain ⟨t, ht⟩ : ∃ t, rdOf ByteArray.empty T (j : Int) = t := ⟨_, rfl⟩
              rw [ht] at t0
              have hts : t.size ≤ 40 := by
                refine HTS.out t ?_
                rw [← ht]
                unfold rdOf
                simp [List.getD, hj]
              have HT0 := Lib.hid t0
              have HTZ := Lib.hid hts
              have HJ2 := Lib.hid hj
              have p1 : (0 ≤ (j : Int)) = True := eq_true (by omega)
              have q3 : ((j : Int) < (T.length : Int)) = True := eq_true (by omega)
              have hl2 : wrap64 ((j : Int) + 1) = ((j + 1 : Nat) : Int) := by
                rw [wrap_id (by omega) (by omega)]; rfl
              have Hw2 := Lib.hid hl2
              subst eA
              clear t0 ht hts hl2 hj
              go_wp2_with (fail)
              go_loopg [8, 9] 33 (fun kq v8 v9 w' => ∃ n : Nat, v8 = .int .i64 (memN M' t n) ∧ v9 = .int .i64 ((n : Int) + 1) ∧ Hid (kq + n = 33 ∧ n ≤ 32 ∧ Below w6.heap.size w6 w'))
              case atStart => exact ⟨0, rfl, rfl, ⟨rfl, Nat.zero_le _, HJ.out.2.2⟩⟩
              case round =>
                obtain ⟨n, rfl, rfl, HN⟩ := hrel
                have hcell := cell_keep HN.out.2.2 HT0.out
                have h7 := H6.out.below HN.out.2.2
                by_cases hn : n < 32
                · obtain ⟨a, ha⟩ : ∃ v, getM M' ⟨(n : Int) + 1, 1, t⟩ = v := ⟨_, rfl⟩
                  obtain ⟨a2, ha2⟩ : ∃ v, getM M' ⟨(n : Int) + 1, 2, t⟩ = v := ⟨_, rfl⟩
                  obtain ⟨a3, ha3⟩ : ∃ v, getM M' ⟨(n : Int) + 1, 3, t⟩ = v := ⟨_, rfl⟩
                  obtain ⟨a4, ha4⟩ : ∃ v, getM M' ⟨(n : Int) + 1, 4, t⟩ = v := ⟨_, rfl⟩
                  have nn := memS_nn h7.iv t n
                  have ms := mem_small h7.iv t n hn
                  have b1 := h7.iv.st.bm ⟨(n : Int) + 1, 1, t⟩
                  have b2 := h7.iv.st.bm ⟨(n : Int) + 1, 2, t⟩
                  have b3 := h7.iv.st.bm ⟨(n : Int) + 1, 3, t⟩
                  have b4 := h7.iv.st.bm ⟨(n : Int) + 1, 4, t⟩
                  have eS : memS M' t ((n : Int) + 1) = a + a2 + a3 + a4 := by rw [← ha, ← ha2, ← ha3, ← ha4]; rfl
                  have eN : memN M' t (n + 1) = memN M' t n + memS M' t ((n : Int) + 1) := rfl
                  have hpos := pos_any h7.cu ((n : Int) + 1) t (WalkArith.wf_i64 (by omega)) (by unfold maxLen; have := HTZ.out; omega)
                  rw [ha, ha2, ha3, ha4] at hpos nn
                  rw [ha] at b1
                  rw [ha2] at b2
                  rw [ha3] at b3
                  rw [ha4] at b4
                  rw [eS] at ms eN
                  obtain ⟨r, hr⟩ : ∃ r, a + a2 + a3 + a4 = r := ⟨_, rfl⟩
                  obtain ⟨S, hS⟩ : ∃ S, memN M' t n = S := ⟨_, rfl⟩
                  obtain ⟨S', hS'⟩ : ∃ S, memN M' t (n + 1) = S := ⟨_, rfl⟩
                  rw [hS, hS'] at eN
                  rw [hS] at ms ⊢
                  rw [hr] at ms eN
                  have HALL := Lib.hid (show ∀ W, Calls Try.prog 48 #[.agg #[.int .i64 a, .int .i64 a2, .int .i64 a3, .int .i64 a4]] W fun e w' => e = .returned (.int .i64 r) ∧ Below W.heap.size W w' from fun W => by
                    have := pall_any a a2 a3 a4 b1 b2 b3 b4 W
                    rw [hr] at this
                    exact this)
                  have z1 : (a < 0) = False := eq_false (by omega)
                  have z2 : (a2 < 0) = False := eq_false (by omega)
                  have z3 : (a3 < 0) = False := eq_false (by omega)
                  have z4 : (a4 < 0) = False := eq_false (by omega)
                  have ws : wrap64 (S + r) = S' := wrapS eN.symm ms.2.2.1 ms.1 nn.1 nn.2.1 nn.2.2.1 nn.2.2.2 hr
                  have wn : wrap64 ((n : Int) + 1 + 1) = ((n + 1 : Nat) : Int) + 1 := wrapN1 hn
                  have q5 : ((n : Int) + 1 ≤ 32) = True := eq_true (le33 hn)
                  have q6 : ((n : Int) < 32) = True := eq_true (lt32 hn)
                  have HPOS := Lib.hid hpos
                  have HSS := Lib.hid hS'
                  have HWS := Lib.hid ws
                  have Hwn := Lib.hid wn
                  have HN2 := Lib.hid hn
                  clear ws wn ha ha2 ha3 ha4 nn ms b1 b2 b3 b4 eS eN hpos hr hS hS' h7 hn
                  go_wp2_with (first
                    | (go_at_call 48; refine (HALL.out _).mono ?_; rintro e w9 ⟨rfl, H9⟩; replace H9 := Lib.hid H9)
                    | (go_at_call 47; refine HPOS.out.mono ?_; rintro e w8 ⟨rfl, H8⟩; replace H8 := Lib.hid H8))
                  go_roundg (32 - n)
                  case measure => have := HN.out.1; have := HN2.out; omega
                  case rel =>
                    have b8 := HN.out.2.2.trans (H8.out.mono HN.out.2.2.size)
                    have b8' := b8.alloc b8.size (.cells #[.int .i64 a, .int .i64 a2, .int .i64 a3, .int .i64 a4] 93)
                    exact ⟨n + 1, by first | rw [HSS.out, HWS.out] | rw [HSS.out], by first | rw [Hwn.out] | go_num, ⟨by have := HN.out.1; have := HN2.out; omega, by have := HN2.out; omega, b8'.trans (H9.out.mono b8'.size)⟩⟩
                · obtain rfl : n = 32 := by have := HN.out.2.1; omega
                  have hws := whole_sum h7.iv t
                  have hbm := h7.iv.st.bm ⟨0, 0, t⟩
                  have hhw := held_world h7.iv t
                  obtain ⟨S, hS⟩ : ∃ S, memN M' t 32 = S := ⟨_, rfl⟩
                  rw [hS] at hws ⊢
                  have HOUT := Lib.hid (show Calls Try.prog 49 #[.pointer (some ⟨p, 0, none⟩), .string t] wr fun e w' => e = .returned (.int .i64 S) ∧ Below wr.heap.size wr w' from by
                    have := cout_any h7.cu h7.iv.st.rep HLL.out t
                    rw [hhw, show -getM M' ⟨0, 0, t⟩ = S by omega, wrap_id (by omega) (by omega)] at this
                    exact this)
                  clear hws hbm hhw hS hn h7
                  go_wp2_with (go_at_call 49; refine HOUT.out.mono ?_; rintro e w8 ⟨rfl, H8⟩; replace H8 := Lib.hid H8)
                  go_roundg (T.length - j)
                  case measure => have := HJ.out.1; have := HJ2.out; omega
                  case rel =>
                    exact ⟨j + 1, by rw [Hw2.out], ⟨by have := HJ.out.1; have := HJ2.out; omega, HJ2.out, HN.out.2.2.trans (H8.out.mono HN.out.2.2.size)⟩⟩
            · have q3 : ((j : Int) < (T.length : Int)) = False := eq_false (by omega)
              clear hj
              go_wp2_with (fail)
              go_roundg (P.length - k)
              case measure => have := HI.out.1; have := HK.out; omega
              case rel =>
                exact ⟨k + 1, L', M', by rw [Hw.out], ⟨by have := HI.out.1; have := HK.out; omega, by have := HK.out; omega, by have := HK.out; omega, H6.out.below HJ.out.2.2⟩⟩
    · by_cases hk1 : k < P.length
      · have q1 : ((k : Int) < (P.length : Int)) = True := eq_true (by omega)
        have q2 : ((k : Int) < 40) = False := eq_false (by omega)
        clear hk hk1
        go_wp2_with (go_at_call 38; refine (cawake_walk _).mono ?_; rintro e w2 ⟨rfl, H2⟩; replace H2 := Lib.hid H2)
        go_ret
        exact ⟨rfl, HI.out.2.2.2.bl.trans (H2.out.mono HI.out.2.2.2.bl.size)⟩
      · have q1 : ((k : Int) < (P.length : Int)) = False := eq_false (by omega)
        clear hk hk1
        go_wp2_with (go_at_call 38; refine (cawake_walk _).mono ?_; rintro e w2 ⟨rfl, H2⟩; replace H2 := Lib.hid H2)
        go_ret
        exact ⟨rfl, HI.out.2.2.2.bl.trans (H2.out.mono HI.out.2.2.2.bl.size)⟩
theorem cwhole_row (A : Option Addr) (c : Nat) (P : List S72) (w : World) (hr : Kd.C k72 w A P.length P) (_ : P.length ≤ c) :
    Calls Try.prog 11 #[.slice A P.length c] w fun e w' => e = .returned (.bool true) ∧ Below w.heap.size w w' := whole_walk' A c P w hr (C_len hr)
end Go.Proofs.Ytoknlpecbdlbfaa.PL

-- CustodyNobody, walked (lists of at most two million).
namespace Go.Proofs.Ytoknlpecbdlbfaa.PL
open Go Go.RowKit Go.Maps Go.Sort Go.Shelf Go.Proofs Go.Proofs.YtoknlpecbdlbfaaW.PrintWords Go.Proofs.YtoknlpecbdlbfaaW.PrintLast
theorem A8.cells {W : World} {k : Nat} {v0 v1 v2 v3 v4 v5 v6 v7 : Value} (h : A8 W k #[v0, v1, v2, v3, v4, v5, v6, v7]) : W.cell? ⟨k, 1, none⟩ = some v1 ∧ W.cell? ⟨k, 2, none⟩ = some v2 ∧ W.cell? ⟨k, 3, none⟩ = some v3 ∧ W.cell? ⟨k, 4, none⟩ = some v4 ∧ W.cell? ⟨k, 5, none⟩ = some v5 ∧ W.cell? ⟨k, 6, none⟩ = some v6 ∧ W.cell? ⟨k, 7, none⟩ = some v7 := by
  have hb := h.blk
  refine ⟨?_, ?_, ?_, ?_, ?_, ?_, ?_⟩ <;> (unfold World.cell?; rw [hb]; rfl)
end Go.Proofs.Ytoknlpecbdlbfaa.PL
