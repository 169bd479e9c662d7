/- SnapReads holds: whatever text comes in (a text of more than 20000 bytes is let go, as the statement says), where it begins otherwise than the mark that is told, at just that byte; where it is too short, where it ends; what can't be read is told at a place behind the mark and within the text, and the view is then the empty one; what is read is written again just as it stood there; and the chapter's example holds. No condition on the inputs. -/
import Derived.Test.YthpgjeiglhdciaaSR36
import Derived.Test.YthpgjeiglhdciaaSR33
import Derived.Test.YthpgjeiglhdciaaRows
import Derived.WalkKit
import Derived.ProofKit
import Derived.OpenShut
import Derived.ShutString
import Derived.ChangeOld
import Derived.Below
import Derived.SizedLaws

set_option linter.unusedVariables false
set_option linter.unusedSimpArgs false
/- same at two empty views. (printed by gen_same0.py) -/
namespace Go.Proofs.Ythpgjeiglhdciaa.SN
open Go Go.RowKit Go.Proofs Go.Proofs.Ythpgjeiglhdciaa.PL Go.Proofs.YthpgjeiglhdciaaW.PrintWords Go.Proofs.YthpgjeiglhdciaaW.PrintLast Go.Proofs.YthpgjeiglhdciaaW.PrintMore
/-- Both views' blocks stand. -/
structure TE (w W : World) (P Q : Nat) : Prop where
  p : W.heap[P]? = some (.cells #[.int .i64 0, .slice none 0 0, .slice none 0 0, .slice none 0 0, .slice none 0 0, .slice none 0 0, .slice none 0 0, .slice none 0 0, .int .i64 0, .slice none 0 0, .slice none 0 0, .slice none 0 0] 45 (0, 0))
  q : W.heap[Q]? = some (.cells #[.int .i64 0, .slice none 0 0, .slice none 0 0, .slice none 0 0, .slice none 0 0, .slice none 0 0, .slice none 0 0, .slice none 0 0, .int .i64 0, .slice none 0 0, .slice none 0 0, .slice none 0 0] 45 (0, 0))
  b : Below P w W
  pq : P < Q
  lt : Q < W.heap.size
theorem TE.up {w W W' : World} {P Q : Nat} (h : TE w W P Q) (hb : Below W.heap.size W W') : TE w W' P Q :=
  ⟨(hb.block P (Nat.lt_trans h.pq h.lt)).trans h.p, (hb.block Q h.lt).trans h.q, h.b.trans (hb.mono (Nat.le_of_lt (Nat.lt_trans h.pq h.lt))), h.pq, Nat.lt_of_lt_of_le h.lt hb.size⟩
theorem TE.start (w : World) : TE w ((w.alloc (.cells #[.int .i64 0, .slice none 0 0, .slice none 0 0, .slice none 0 0, .slice none 0 0, .slice none 0 0, .slice none 0 0, .slice none 0 0, .int .i64 0, .slice none 0 0, .slice none 0 0, .slice none 0 0] 45)).alloc (.cells #[.int .i64 0, .slice none 0 0, .slice none 0 0, .slice none 0 0, .slice none 0 0, .slice none 0 0, .slice none 0 0, .slice none 0 0, .int .i64 0, .slice none 0 0, .slice none 0 0, .slice none 0 0] 45)) w.heap.size (w.heap.size + 1) := by
  have h1 := (Go.MapKept.heap_alloc w (.cells #[.int .i64 0, .slice none 0 0, .slice none 0 0, .slice none 0 0, .slice none 0 0, .slice none 0 0, .slice none 0 0, .slice none 0 0, .int .i64 0, .slice none 0 0, .slice none 0 0, .slice none 0 0] 45)).1
  have h2 := (Go.MapKept.heap_alloc (w.alloc (.cells #[.int .i64 0, .slice none 0 0, .slice none 0 0, .slice none 0 0, .slice none 0 0, .slice none 0 0, .slice none 0 0, .slice none 0 0, .int .i64 0, .slice none 0 0, .slice none 0 0, .slice none 0 0] 45)) (.cells #[.int .i64 0, .slice none 0 0, .slice none 0 0, .slice none 0 0, .slice none 0 0, .slice none 0 0, .slice none 0 0, .slice none 0 0, .int .i64 0, .slice none 0 0, .slice none 0 0, .slice none 0 0] 45)).1
  have hs : (w.alloc (.cells #[.int .i64 0, .slice none 0 0, .slice none 0 0, .slice none 0 0, .slice none 0 0, .slice none 0 0, .slice none 0 0, .slice none 0 0, .int .i64 0, .slice none 0 0, .slice none 0 0, .slice none 0 0] 45)).heap.size = w.heap.size + 1 := by simp
  rw [hs] at h2
  exact ⟨((below_alloc (Below.refl (w.alloc (.cells #[.int .i64 0, .slice none 0 0, .slice none 0 0, .slice none 0 0, .slice none 0 0, .slice none 0 0, .slice none 0 0, .slice none 0 0, .int .i64 0, .slice none 0 0, .slice none 0 0, .slice none 0 0] 45)).heap.size (w.alloc (.cells #[.int .i64 0, .slice none 0 0, .slice none 0 0, .slice none 0 0, .slice none 0 0, .slice none 0 0, .slice none 0 0, .slice none 0 0, .int .i64 0, .slice none 0 0, .slice none 0 0, .slice none 0 0] 45))) _).block w.heap.size (by rw [hs]; exact Nat.lt_succ_self _)).trans h1, h2, ((Below.refl w.heap.size w).alloc (Nat.le_refl _) _).alloc (by rw [hs]; exact Nat.le_succ _) _, Nat.lt_succ_self _, by simp⟩
theorem TE.all {w W : World} {P Q : Nat} (h : TE w W P Q) : W.cell? ⟨P, 0, none⟩ = some (.int .i64 0) ∧ W.cell? ⟨P, 1, none⟩ = some (.slice none 0 0) ∧ W.cell? ⟨P, 2, none⟩ = some (.slice none 0 0) ∧ W.cell? ⟨P, 3, none⟩ = some (.slice none 0 0) ∧ W.cell? ⟨P, 4, none⟩ = some (.slice none 0 0) ∧ W.cell? ⟨P, 5, none⟩ = some (.slice none 0 0) ∧ W.cell? ⟨P, 6, none⟩ = some (.slice none 0 0) ∧ W.cell? ⟨P, 7, none⟩ = some (.slice none 0 0) ∧ W.cell? ⟨P, 8, none⟩ = some (.int .i64 0) ∧ W.cell? ⟨P, 9, none⟩ = some (.slice none 0 0) ∧ W.cell? ⟨P, 10, none⟩ = some (.slice none 0 0) ∧ W.cell? ⟨P, 11, none⟩ = some (.slice none 0 0) ∧ W.cell? ⟨Q, 0, none⟩ = some (.int .i64 0) ∧ W.cell? ⟨Q, 1, none⟩ = some (.slice none 0 0) ∧ W.cell? ⟨Q, 2, none⟩ = some (.slice none 0 0) ∧ W.cell? ⟨Q, 3, none⟩ = some (.slice none 0 0) ∧ W.cell? ⟨Q, 4, none⟩ = some (.slice none 0 0) ∧ W.cell? ⟨Q, 5, none⟩ = some (.slice none 0 0) ∧ W.cell? ⟨Q, 6, none⟩ = some (.slice none 0 0) ∧ W.cell? ⟨Q, 7, none⟩ = some (.slice none 0 0) ∧ W.cell? ⟨Q, 8, none⟩ = some (.int .i64 0) ∧ W.cell? ⟨Q, 9, none⟩ = some (.slice none 0 0) ∧ W.cell? ⟨Q, 10, none⟩ = some (.slice none 0 0) ∧ W.cell? ⟨Q, 11, none⟩ = some (.slice none 0 0) := ⟨cellsAt h.p 0, cellsAt h.p 1, cellsAt h.p 2, cellsAt h.p 3, cellsAt h.p 4, cellsAt h.p 5, cellsAt h.p 6, cellsAt h.p 7, cellsAt h.p 8, cellsAt h.p 9, cellsAt h.p 10, cellsAt h.p 11, cellsAt h.q 0, cellsAt h.q 1, cellsAt h.q 2, cellsAt h.q 3, cellsAt h.q 4, cellsAt h.q 5, cellsAt h.q 6, cellsAt h.q 7, cellsAt h.q 8, cellsAt h.q 9, cellsAt h.q 10, cellsAt h.q 11⟩
set_option maxRecDepth 100000 in
set_option maxHeartbeats 4000000 in
theorem same0 (w : World) : Calls Try.prog 10 #[.agg #[.int .i64 0, .slice none 0 0, .slice none 0 0, .slice none 0 0, .slice none 0 0, .slice none 0 0, .slice none 0 0, .slice none 0 0, .int .i64 0, .slice none 0 0, .slice none 0 0, .slice none 0 0], .agg #[.int .i64 0, .slice none 0 0, .slice none 0 0, .slice none 0 0, .slice none 0 0, .slice none 0 0, .slice none 0 0, .slice none 0 0, .int .i64 0, .slice none 0 0, .slice none 0 0, .slice none 0 0]] w fun o w' => o = .returned (.bool true) ∧ Below w.heap.size w w' := by
  have HT38 := Lib.hid told0
  have HS37 := Lib.hid same37
  go_enter Try.func10, Try.ntmps10
  go_upto_region 1 with (fail)
  have hts := TE.start w
  obtain ⟨P, hP⟩ : ∃ P, w.heap.size = P := ⟨_, rfl⟩
  obtain ⟨Q, hQ⟩ : ∃ Q, P + 1 = Q := ⟨_, rfl⟩
  rw [hP, hQ] at hts
  rw [hP, hQ]
  generalize (w.alloc (.cells #[.int .i64 0, .slice none 0 0, .slice none 0 0, .slice none 0 0, .slice none 0 0, .slice none 0 0, .slice none 0 0, .slice none 0 0, .int .i64 0, .slice none 0 0, .slice none 0 0, .slice none 0 0] 45)).alloc (.cells #[.int .i64 0, .slice none 0 0, .slice none 0 0, .slice none 0 0, .slice none 0 0, .slice none 0 0, .slice none 0 0, .slice none 0 0, .int .i64 0, .slice none 0 0, .slice none 0 0, .slice none 0 0] 45) = W1 at hts ⊢
  have HT0 := Lib.hid hts
  have HPP := Lib.hid hP
  have p0_2 : W1.cell? ⟨P, 2, none⟩ = some (.slice none 0 0) := cellsAt hts.p 2
  have q0_2 : W1.cell? ⟨Q, 2, none⟩ = some (.slice none 0 0) := cellsAt hts.q 2
  have p0_3 : W1.cell? ⟨P, 3, none⟩ = some (.slice none 0 0) := cellsAt hts.p 3
  have q0_3 : W1.cell? ⟨Q, 3, none⟩ = some (.slice none 0 0) := cellsAt hts.q 3
  clear hts hP hQ
  go_wp2_with (fail)
  go_loopg [5] 1 (fun kq v w' => v = .int .i64 0 ∧ w' = W1)
  case atStart => exact ⟨rfl, rfl⟩
  case round =>
    obtain ⟨rfl, hw⟩ := hrel
    obtain rfl : W1 = wr := hw.symm
    go_upto_region 8 with (fail)
    have HD0 := Lib.hid (HT0.out.up (below_drew (Below.refl _ _)))
    have kd := HD0.out.all
    go_region_held3 (fun w' => w'.cell? ⟨P, 0, none⟩ = some (.int .i64 0) ∧ w'.cell? ⟨P, 1, none⟩ = some (.slice none 0 0) ∧ w'.cell? ⟨P, 2, none⟩ = some (.slice none 0 0) ∧ w'.cell? ⟨P, 3, none⟩ = some (.slice none 0 0) ∧ w'.cell? ⟨P, 4, none⟩ = some (.slice none 0 0) ∧ w'.cell? ⟨P, 5, none⟩ = some (.slice none 0 0) ∧ w'.cell? ⟨P, 6, none⟩ = some (.slice none 0 0) ∧ w'.cell? ⟨P, 7, none⟩ = some (.slice none 0 0) ∧ w'.cell? ⟨P, 8, none⟩ = some (.int .i64 0) ∧ w'.cell? ⟨P, 9, none⟩ = some (.slice none 0 0) ∧ w'.cell? ⟨P, 10, none⟩ = some (.slice none 0 0) ∧ w'.cell? ⟨P, 11, none⟩ = some (.slice none 0 0) ∧ w'.cell? ⟨Q, 0, none⟩ = some (.int .i64 0) ∧ w'.cell? ⟨Q, 1, none⟩ = some (.slice none 0 0) ∧ w'.cell? ⟨Q, 2, none⟩ = some (.slice none 0 0) ∧ w'.cell? ⟨Q, 3, none⟩ = some (.slice none 0 0) ∧ w'.cell? ⟨Q, 4, none⟩ = some (.slice none 0 0) ∧ w'.cell? ⟨Q, 5, none⟩ = some (.slice none 0 0) ∧ w'.cell? ⟨Q, 6, none⟩ = some (.slice none 0 0) ∧ w'.cell? ⟨Q, 7, none⟩ = some (.slice none 0 0) ∧ w'.cell? ⟨Q, 8, none⟩ = some (.int .i64 0) ∧ w'.cell? ⟨Q, 9, none⟩ = some (.slice none 0 0) ∧ w'.cell? ⟨Q, 10, none⟩ = some (.slice none 0 0) ∧ w'.cell? ⟨Q, 11, none⟩ = some (.slice none 0 0))
      (first | with_reducible assumption | exact by assumption)
      (first
        | (go_at_call 37; have hk := HE2; clear hk; refine (HS37.out _ _ _ _ _).mono ?_; rintro e w3 ⟨rfl, hb3⟩; have HE3 := Lib.hid (HE2.out.up hb3); have k3 := HE3.out.all; clear hb3)
        | (go_at_call 38; have hk := HE1; clear hk; refine (HT38.out _).mono ?_; rintro e w2 ⟨A2, c2, rfl, h2⟩; have HE2 := Lib.hid (HE1.out.up h2.out.2); have k2 := HE2.out.all; clear h2)
        | (go_at_call 38; refine (HT38.out _).mono ?_; rintro e w1 ⟨A1, c1, rfl, h1⟩; have HE1 := Lib.hid (HD0.out.up h1.out.2); have k1 := HE1.out.all; clear h1))
    all_goals
      go_wp2_with (fail)
      go_ret
      refine ⟨rfl, ?_⟩
      (try rw [HPP.out])
      exact HE3.out.b
end Go.Proofs.Ythpgjeiglhdciaa.SN

/- The plain law: what is read without a fault is the view that is written there, and all its numbers are of 64 bits. -/
namespace Go.Proofs.Ythpgjeiglhdciaa.SN
open Go Go.RowKit Go.Proofs Go.Proofs.Ythpgjeiglhdciaa.PL Go.Proofs.YthpgjeiglhdciaaW.PrintWords Go.Proofs.YthpgjeiglhdciaaW.PrintLast Go.Proofs.YthpgjeiglhdciaaW.PrintMore
/-- Whatever is read is so. -/
def AllF {α : Type} (f : St → α × St) (P : α → Prop) : Prop := ∀ st, P (f st).1
theorem all_and {α β : Type} {f : St → α × St} {g : St → β × St} {P : α → Prop} {Q : β → Prop} (hf : AllF f P) (hg : AllF g Q) : AllF (andR f g) (fun p => P p.1 ∧ Q p.2) := fun st => ⟨hf st, hg (f st).2⟩
theorem all_map {α β : Type} {f : St → α × St} {P : α → Prop} {Q : β → Prop} {k : α → β} (hf : AllF f P) (hk : ∀ a, P a → Q (k a)) : AllF (mapR k f) Q := fun st => hk _ (hf st)
theorem all_any {α : Type} (f : St → α × St) : AllF f (fun _ => True) := fun _ => trivial
theorem all_rep {α : Type} {f : St → α × St} {P : α → Prop} (hf : AllF f P) : ∀ (n : Nat) (st : St), ∀ x ∈ (repR f n st).1, P x
  | 0, _, x, hx => absurd hx List.not_mem_nil
  | n + 1, st, x, hx => by
    have hx2 : x ∈ (f st).1 :: (repR f n (f st).2).1 := hx
    rcases List.mem_cons.1 hx2 with rfl | h
    · exact hf st
    · exact all_rep hf n _ x h
theorem all_l {α : Type} {s : Bs} {f : St → α × St} {P : α → Prop} (hf : AllF f P) : AllF (lR s f) (fun l => ∀ x ∈ l, P x) := fun st => all_rep hf _ _
theorem all_i (s : Bs) : AllF (iR s) I64 := fun st => by
  have h := uR_lt s st
  show I64 (zag (uR s st).1)
  unfold zag I64
  split <;> omega
theorem all_ns (s : Bs) : AllF (nsR s) (fun l => ∀ x ∈ l, I64 x) := fun st => by
  show ∀ x ∈ (if (lR s (iR s) st).2.e ≠ 0 then [] else (lR s (iR s) st).1), I64 x
  split
  · exact fun x hx => absurd hx List.not_mem_nil
  · exact all_l (all_i s) st
theorem all_members (s : Bs) : AllF (membersR s) membersO := all_map (all_and (all_i s) (all_and (all_i s) (all_and (all_i s) (all_and (all_any _) (all_any _))))) (fun _ h => ⟨h.1, h.2.1, h.2.2.1⟩)
theorem all_assets (s : Bs) : AllF (assetsR s) assetsO := all_map (all_and (all_any _) (all_and (all_i s) (all_and (all_i s) (all_and (all_i s) (all_any _))))) (fun _ h => ⟨h.2.1, h.2.2.1, h.2.2.2.1⟩)
theorem all_prices (s : Bs) : AllF (pricesR s) pricesO := all_map (all_and (all_any _) (all_i s)) (fun _ h => h.2)
theorem all_balances (s : Bs) : AllF (balancesR s) balancesO := all_map (all_and (all_i s) (all_and (all_i s) (all_and (all_any _) (all_i s)))) (fun _ h => ⟨h.1, h.2.1, h.2.2.2⟩)
theorem all_quotes (s : Bs) : AllF (quotesR s) quotesO := all_map (all_and (all_i s) (all_and (all_i s) (all_and (all_i s) (all_and (all_i s) (all_and (all_i s) (all_and (all_i s) (all_and (all_i s) (all_i s)))))))) (fun _ h => h)
theorem all_links (s : Bs) : AllF (linksR s) linksO := all_map (all_and (all_i s) (all_and (all_i s) (all_and (all_any _) (all_i s)))) (fun _ h => ⟨h.1, h.2.1, h.2.2.2⟩)
theorem all_lot (s : Bs) : AllF (lotR s) lotO := all_map (all_and (all_any _) (all_i s)) (fun _ h => h.2)
theorem all_reset (s : Bs) : AllF (resetR s) resetO := all_map (all_and (all_i s) (all_i s)) (fun _ h => h)
theorem all_cut (s : Bs) : AllF (cutR s) cutO := all_map (all_and (all_i s) (all_and (all_i s) (all_i s))) (fun _ h => h)
theorem all_covers (s : Bs) : AllF (coversR s) coversO := all_map (all_and (all_i s) (all_l (all_lot s))) (fun _ h => h)
theorem all_trades (s : Bs) : AllF (tradesR s) tradesO := all_map (all_and (all_i s) (all_and (all_i s) (all_and (all_i s) (all_and (all_i s) (all_and (all_i s) (all_and (all_i s) (all_and (all_i s) (all_and (all_i s) (all_and (all_i s) (all_and (all_any _) (all_l (all_reset s)))))))))))) (fun _ h => ⟨⟨h.1, h.2.1, h.2.2.1, h.2.2.2.1, h.2.2.2.2.1, h.2.2.2.2.2.1, h.2.2.2.2.2.2.1, h.2.2.2.2.2.2.2.1, h.2.2.2.2.2.2.2.2.1⟩, h.2.2.2.2.2.2.2.2.2.2⟩)
theorem all_baskets (s : Bs) : AllF (basketsR s) basketsO := all_map (all_and (all_i s) (all_and (all_i s) (all_and (all_i s) (all_and (all_i s) (all_and (all_i s) (all_and (all_i s) (all_and (all_i s) (all_and (all_any _) (all_and (all_l (all_cut s)) (all_ns s)))))))))) (fun _ h => ⟨⟨h.1, h.2.1, h.2.2.1, h.2.2.2.1, h.2.2.2.2.1, h.2.2.2.2.2.1, h.2.2.2.2.2.2.1⟩, h.2.2.2.2.2.2.2.2.1, h.2.2.2.2.2.2.2.2.2⟩)
theorem all_view (s : Bs) : AllF (viewR s) VO := all_map (all_and (all_i s) (all_and (all_i s) (all_and (all_l (all_members s)) (all_and (all_l (all_assets s)) (all_and (all_l (all_prices s)) (all_and (all_l (all_baskets s)) (all_and (all_l (all_balances s)) (all_and (all_l (all_quotes s)) (all_and (all_l (all_trades s)) (all_and (all_l (all_covers s)) (all_and (all_l (all_links s)) (all_l (all_links s))))))))))))) (fun _ h => ⟨h.1, h.2.1, h.2.2.1, h.2.2.2.1, h.2.2.2.2.1, h.2.2.2.2.2.1, h.2.2.2.2.2.2.1, h.2.2.2.2.2.2.2.1, h.2.2.2.2.2.2.2.2.1, h.2.2.2.2.2.2.2.2.2.1, h.2.2.2.2.2.2.2.2.2.2.1, h.2.2.2.2.2.2.2.2.2.2.2⟩)
theorem view_O {s : Bs} {st st' : St} {V : VW} (h : viewR s st = (V, st')) : VO V := by
  have h1 := all_view s st
  rw [h] at h1
  exact h1
/-- What is read to the end without a fault is what is written there. -/
theorem view_same {s : Bs} {V : VW} {stV stZ : St} (hv : viewR s ⟨0, 0⟩ = (V, stV)) (hz : endR s stV = stZ) (he : stZ.e = 0) : encV V = s := by
  have hf := (viewR_good s).fwd ⟨0, 0⟩ (Nat.zero_le _)
  have hs := (viewR_good s).same ⟨0, 0⟩ (Nat.zero_le _)
  rw [hv] at hf hs
  simp only at hf hs
  unfold endR at hz
  split at hz
  · rename_i h
    rw [← hz] at he
    exact absurd he h
  · rename_i h
    have h0 : stV.e = 0 := Decidable.byContradiction h
    split at hz
    · rw [← hz] at he
      exact absurd he (by show ¬ (16 : Int) = 0; decide)
    · rename_i hl
      have h2 := hs h0
      rw [← h2, List.drop_zero, List.take_of_length_le (by omega)]
/-- Where reading ends: within the text. -/
theorem view_at {s : Bs} {V : VW} {stV stZ : St} (hv : viewR s ⟨0, 0⟩ = (V, stV)) (hz : endR s stV = stZ) : stZ.at' ≤ s.length := by
  have hf := (viewR_good s).fwd ⟨0, 0⟩ (Nat.zero_le _)
  rw [hv] at hf
  simp only at hf
  have h1 : stZ.at' = stV.at' := by
    rw [← hz]
    unfold endR
    split
    · rfl
    · split <;> rfl
  omega
/-- A text that begins with the mark. -/
theorem mark_front {s t : ByteArray} (hs : 8 ≤ s.size) (hm : ∀ j, j < 8 → (lst s)[j]? = mark[j]?) (ht : s.extract 8 s.size = t) : lst s = mark ++ lst t := by
  have h1 : lst t = (lst s).drop 8 := by
    rw [← ht, cut_bst, lst_bst, List.take_of_length_le]
    rw [List.length_drop, lst_len]
    exact Nat.le_refl _
  have h2 : (lst s).take 8 = mark := by
    apply List.ext_getElem?
    intro j
    by_cases hj : j < 8
    · rw [List.getElem?_take_of_lt hj]
      exact hm j hj
    · rw [List.getElem?_eq_none (by rw [List.length_take]; omega), List.getElem?_eq_none (by show mark.length ≤ j; have : mark.length = 8 := rfl; omega)]
  rw [h1, ← h2, List.take_append_drop]
/-- What was read so is written as it stood there. -/
theorem reads_plain {s t : ByteArray} {V : VW} {stV stZ : St} (hs : 8 ≤ s.size) (hs2 : s.size ≤ 20000) (hm : ∀ j, j < 8 → (lst s)[j]? = mark[j]?) (ht : s.extract 8 s.size = t) (hv : viewR (lst t) ⟨0, 0⟩ = (V, stV)) (hz : endR (lst t) stV = stZ) (he : stZ.e = 0) : encA V = (lst s, 0) ∧ (encV V).length + 20 ≤ 140737488355328 := by
  have h1 := view_same hv hz he
  have h2 := mark_front hs hm ht
  have h3 : (mark ++ encV V).length = s.size := by rw [h1, ← h2, lst_len]
  constructor
  · unfold encA
    rw [if_neg (by omega), h1, ← h2]
  · rw [List.length_append] at h3
    omega
end Go.Proofs.Ythpgjeiglhdciaa.SN

/- SnapReads, walked: texts that are too long. -/
namespace Go.Proofs.Ythpgjeiglhdciaa.SN
open Go Go.RowKit Go.Proofs Go.Proofs.Ythpgjeiglhdciaa.PL Go.Proofs.YthpgjeiglhdciaaW.PrintWords Go.Proofs.YthpgjeiglhdciaaW.PrintLast Go.Proofs.YthpgjeiglhdciaaW.PrintMore
set_option maxRecDepth 100000 in
set_option maxHeartbeats 2000000 in
theorem reads_long (w : World) (s : ByteArray) (h : 20000 < s.size) : Calls Try.prog 4 #[.string s] w fun o w' => o = .returned (.bool true) ∧ Below w.heap.size w w' := by
  have b1 : ((s.size : Int) > 20000) = True := eq_true (by omega)
  clear h
  go_enter Try.func4, Try.ntmps4
  go_wp2_with (go_at_call 6; refine (awake_walk _).mono ?_; rintro e w1 ⟨rfl, K1⟩; replace K1 := Lib.hid K1)
  go_ret
  exact ⟨rfl, K1.out⟩
end Go.Proofs.Ythpgjeiglhdciaa.SN

/- SnapReads, walked: texts that begin wrong. (printed by gen_reads.py) -/
namespace Go.Proofs.Ythpgjeiglhdciaa.SN
open Go Go.RowKit Go.Proofs Go.Proofs.Ythpgjeiglhdciaa.PL Go.Proofs.YthpgjeiglhdciaaW.PrintWords Go.Proofs.YthpgjeiglhdciaaW.PrintLast Go.Proofs.YthpgjeiglhdciaaW.PrintMore
set_option maxRecDepth 100000 in
set_option maxHeartbeats 4000000 in
theorem reads_bad (w : World) {s : ByteArray} {i : Nat} (h20 : s.size ≤ 20000) (hi : i < s.size) (hi8 : i < 8) (hm : ∀ j, j < i → (lst s)[j]? = mark[j]?) (hn : (lst s)[i]? ≠ mark[i]?) :
    Calls Try.prog 4 #[.string s] w fun o w' => o = .returned (.bool true) ∧ Below w.heap.size w w' := by
  have HM := Lib.hid (And.intro hi (And.intro hi8 (And.intro hm hn)))
  have HD := Lib.hid (fun w => decode_bad (w := w) hi hi8 hm hn)
  have b1 : ((s.size : Int) > 20000) = False := eq_false (by omega)
  clear h20 hi hi8 hm hn
  go_enter Try.func4, Try.ntmps4
  go_wp2_with (go_at_call 9; refine (HD.out _).mono ?_; rintro e w1 ⟨rfl, K1⟩; replace K1 := Lib.hid K1)
  go_loopg [6] (i + 1) (fun kq v6 w' => ∃ (k d : Nat), v6 = .int .i64 k ∧ w' = (w1.alloc (.cells #[.int .i64 0, .slice none 0 0, .slice none 0 0, .slice none 0 0, .slice none 0 0, .slice none 0 0, .slice none 0 0, .slice none 0 0, .int .i64 0, .slice none 0 0, .slice none 0 0, .slice none 0 0] 45)).drewN d ∧ Hid (kq + k = i + 1 ∧ k ≤ i))
  case atStart => exact ⟨0, 0, rfl, rfl, ⟨rfl, Nat.zero_le _⟩⟩
  case round =>
    obtain ⟨k, d, rfl, rfl, HI⟩ := hrel
    have hk : k < s.size := Nat.lt_of_le_of_lt HI.out.2 HM.out.1
    have hk8 : k < ({ data := #[108, 111, 109, 98, 97, 114, 100, 49] } : ByteArray).size := Nat.lt_of_le_of_lt HI.out.2 HM.out.2.1
    have hkq : (k : Int) < (s.size : Int) := by omega
    have hkm : (k : Int) < 8 := by have h : k < 8 := hk8; omega
    have hk1 : IntKind.i64.wrap ((k : Int) + 1) = (k : Int) + 1 := IntWalk.i64_in _ (by omega)
    by_cases he : k = i
    · have hq := mark_other hk hk8 (he ▸ HM.out.2.2.2)
      subst he
      go_wp2_with (fail)
      go_quiet (fail)
      go_wp2_with (first
        | (go_at_call 6; refine (awake_walk _).mono ?_; rintro e w3 ⟨rfl, K3⟩; replace K3 := Lib.hid K3)
        | (go_at_call 10; refine (same0 _).mono ?_; rintro e w2 ⟨rfl, K2⟩; replace K2 := Lib.hid K2))
      go_ret
      have b1 := K1.out.alloc K1.out.size (.cells #[.int .i64 0, .slice none 0 0, .slice none 0 0, .slice none 0 0, .slice none 0 0, .slice none 0 0, .slice none 0 0, .slice none 0 0, .int .i64 0, .slice none 0 0, .slice none 0 0, .slice none 0 0] 45)
      have b2 := fun n => pw_below_drewN b1 n
      have b3 := (b2 _).trans (K2.out.mono (b2 _).size)
      exact ⟨rfl, b3.trans (K3.out.mono b3.size)⟩
    · have hlt : k < i := by have := HI.out.2; omega
      have hq := mark_same hk hk8 (HM.out.2.2.1 k hlt)
      have HE := Lib.hid hlt
      clear he hlt
      go_wp2_with (fail)
      go_quiet (fail)
      go_wp2_with (fail)
      go_roundg (i - k)
      case measure => have := HI.out.1; have := HE.out; omega
      case rel => exact ⟨k + 1, _, rfl, rfl, ⟨by have := HI.out.1; have := HE.out; omega, HE.out⟩⟩
set_option maxRecDepth 100000 in
set_option maxHeartbeats 4000000 in
theorem reads_short (w : World) {s : ByteArray} (hs : s.size < 8) (hm : ∀ j, j < s.size → (lst s)[j]? = mark[j]?) :
    Calls Try.prog 4 #[.string s] w fun o w' => o = .returned (.bool true) ∧ Below w.heap.size w w' := by
  have HM := Lib.hid (And.intro hs hm)
  have HD := Lib.hid (fun w => decode_short (w := w) hs hm)
  have b1 : ((s.size : Int) > 20000) = False := eq_false (by omega)
  have b8 : ((s.size : Int) < 8) := by omega
  clear hm
  go_enter Try.func4, Try.ntmps4
  go_wp2_with (go_at_call 9; refine (HD.out _).mono ?_; rintro e w1 ⟨rfl, K1⟩; replace K1 := Lib.hid K1)
  go_loopg [6] (s.size + 1) (fun kq v6 w' => ∃ (k d : Nat), v6 = .int .i64 k ∧ w' = (w1.alloc (.cells #[.int .i64 0, .slice none 0 0, .slice none 0 0, .slice none 0 0, .slice none 0 0, .slice none 0 0, .slice none 0 0, .slice none 0 0, .int .i64 0, .slice none 0 0, .slice none 0 0, .slice none 0 0] 45)).drewN d ∧ Hid (kq + k = s.size + 1 ∧ k ≤ s.size))
  case atStart => exact ⟨0, 0, rfl, rfl, ⟨rfl, Nat.zero_le _⟩⟩
  case round =>
    obtain ⟨k, d, rfl, rfl, HI⟩ := hrel
    by_cases hk : k < s.size
    · have hk8 : k < ({ data := #[108, 111, 109, 98, 97, 114, 100, 49] } : ByteArray).size := by have : ({ data := #[108, 111, 109, 98, 97, 114, 100, 49] } : ByteArray).size = 8 := rfl; omega
      have hkq : (k : Int) < (s.size : Int) := by omega
      have hkm : (k : Int) < 8 := by omega
      have hk1 : IntKind.i64.wrap ((k : Int) + 1) = (k : Int) + 1 := IntWalk.i64_in _ (by omega)
      have hq := mark_same hk hk8 (HM.out.2 k hk)
      go_wp2_with (fail)
      go_quiet (fail)
      go_wp2_with (fail)
      go_roundg (s.size - k)
      case measure => have := HI.out.1; omega
      case rel => exact ⟨k + 1, _, rfl, rfl, ⟨by have := HI.out.1; omega, hk⟩⟩
    · have q1 := idx_out hk
      clear hk
      go_wp2_with (first
        | (go_at_call 6; refine (awake_walk _).mono ?_; rintro e w3 ⟨rfl, K3⟩; replace K3 := Lib.hid K3)
        | (go_at_call 10; refine (same0 _).mono ?_; rintro e w2 ⟨rfl, K2⟩; replace K2 := Lib.hid K2))
      go_ret
      have b1 := K1.out.alloc K1.out.size (.cells #[.int .i64 0, .slice none 0 0, .slice none 0 0, .slice none 0 0, .slice none 0 0, .slice none 0 0, .slice none 0 0, .slice none 0 0, .int .i64 0, .slice none 0 0, .slice none 0 0, .slice none 0 0] 45)
      have b2 := fun n => pw_below_drewN b1 n
      have b3 := (b2 _).trans (K2.out.mono (b2 _).size)
      exact ⟨rfl, b3.trans (K3.out.mono b3.size)⟩
end Go.Proofs.Ythpgjeiglhdciaa.SN

/- SnapReads, walked: texts that begin right and can't be read. (printed by gen_reads2.py) -/
namespace Go.Proofs.Ythpgjeiglhdciaa.SN
open Go Go.RowKit Go.Proofs Go.Proofs.Ythpgjeiglhdciaa.PL Go.Proofs.YthpgjeiglhdciaaW.PrintWords Go.Proofs.YthpgjeiglhdciaaW.PrintLast Go.Proofs.YthpgjeiglhdciaaW.PrintMore
theorem fail_facts {s t : ByteArray} {a : Nat} (hs : 8 ≤ s.size) (ht : s.extract 8 s.size = t) (ha : a ≤ (lst t).length) : (8 + (a : Int) ≥ 8) = True ∧ (8 ≤ 8 + (a : Int)) = True ∧ (8 + (a : Int) ≤ (s.size : Int)) = True := by
  rw [lst_len, ← ht, ByteArray.size_extract] at ha
  exact ⟨eq_true (by omega), eq_true (by omega), eq_true (by omega)⟩
set_option maxRecDepth 100000 in
set_option maxHeartbeats 4000000 in
theorem reads_fail (w : World) {s t : ByteArray} {V : VW} {stV stZ : St} (hs : 8 ≤ s.size) (h20 : s.size ≤ 20000) (hm : ∀ j, j < 8 → (lst s)[j]? = mark[j]?) (ht : s.extract 8 s.size = t) (hv : viewR (lst t) ⟨0, 0⟩ = (V, stV)) (hz : endR (lst t) stV = stZ) (hzz : stZ.e ≠ 0) :
    Calls Try.prog 4 #[.string s] w fun o w' => o = .returned (.bool true) ∧ Below w.heap.size w w' := by
  have HM := Lib.hid (And.intro hs hm)
  have HD := Lib.hid (fun w => decode_fail (w := w) hs (by omega) hm ht hv hz hzz)
  have b1 : ((s.size : Int) > 20000) = False := eq_false (by omega)
  have b8 : ((s.size : Int) < 8) = False := eq_false (by omega)
  obtain ⟨f1, f2, f3⟩ := fail_facts hs ht (view_at hv hz)
  have f4 : (stZ.e != 0) = true := by simpa using hzz
  clear hm ht hv hz hzz h20
  go_enter Try.func4, Try.ntmps4
  go_wp2_with (go_at_call 9; refine (HD.out _).mono ?_; rintro e w1 ⟨rfl, K1⟩; replace K1 := Lib.hid K1)
  go_loopg [6] (8 + 1) (fun kq v6 w' => ∃ (k d : Nat), v6 = .int .i64 k ∧ w' = (w1.alloc (.cells #[.int .i64 0, .slice none 0 0, .slice none 0 0, .slice none 0 0, .slice none 0 0, .slice none 0 0, .slice none 0 0, .slice none 0 0, .int .i64 0, .slice none 0 0, .slice none 0 0, .slice none 0 0] 45)).drewN d ∧ Hid (kq + k = 8 + 1 ∧ k ≤ 8))
  case atStart => exact ⟨0, 0, rfl, rfl, ⟨rfl, Nat.zero_le _⟩⟩
  case round =>
    obtain ⟨k, d, rfl, rfl, HI⟩ := hrel
    by_cases hk0 : k < 8
    · have hk : k < s.size := by omega
      have hk8 : k < ({ data := #[108, 111, 109, 98, 97, 114, 100, 49] } : ByteArray).size := hk0
      have hkq : (k : Int) < (s.size : Int) := by omega
      have hkm : (k : Int) < 8 := by omega
      have hk1 : IntKind.i64.wrap ((k : Int) + 1) = (k : Int) + 1 := IntWalk.i64_in _ (by omega)
      have hq := mark_same hk hk8 (HM.out.2 k hk0)
      go_wp2_with (fail)
      go_quiet (fail)
      go_wp2_with (fail)
      go_roundg (8 - k)
      case measure => have := HI.out.1; omega
      case rel => exact ⟨k + 1, _, rfl, rfl, ⟨by have := HI.out.1; omega, hk0⟩⟩
    · have q1 : ((k : Int) < 8) = False := eq_false (by omega)
      rcases Nat.lt_or_ge k s.size with h9 | h9
      · have hkq : (k : Int) < (s.size : Int) := by omega
        clear hk0 h9
        go_wp2_with (first
          | (go_at_call 6; refine (awake_walk _).mono ?_; rintro e w3 ⟨rfl, K3⟩; replace K3 := Lib.hid K3)
          | (go_at_call 10; refine (same0 _).mono ?_; rintro e w2 ⟨rfl, K2⟩; replace K2 := Lib.hid K2))
        go_ret
        have b1 := K1.out.alloc K1.out.size (.cells #[.int .i64 0, .slice none 0 0, .slice none 0 0, .slice none 0 0, .slice none 0 0, .slice none 0 0, .slice none 0 0, .slice none 0 0, .int .i64 0, .slice none 0 0, .slice none 0 0, .slice none 0 0] 45)
        have b2 := fun n => pw_below_drewN b1 n
        have b3 := (b2 _).trans (K2.out.mono (b2 _).size)
        exact ⟨rfl, b3.trans (K3.out.mono b3.size)⟩
      · have hkq : ((k : Int) < (s.size : Int)) = False := eq_false (by omega)
        clear hk0 h9
        go_wp2_with (first
          | (go_at_call 6; refine (awake_walk _).mono ?_; rintro e w3 ⟨rfl, K3⟩; replace K3 := Lib.hid K3)
          | (go_at_call 10; refine (same0 _).mono ?_; rintro e w2 ⟨rfl, K2⟩; replace K2 := Lib.hid K2))
        go_ret
        have b1 := K1.out.alloc K1.out.size (.cells #[.int .i64 0, .slice none 0 0, .slice none 0 0, .slice none 0 0, .slice none 0 0, .slice none 0 0, .slice none 0 0, .slice none 0 0, .int .i64 0, .slice none 0 0, .slice none 0 0, .slice none 0 0] 45)
        have b2 := fun n => pw_below_drewN b1 n
        have b3 := (b2 _).trans (K2.out.mono (b2 _).size)
        exact ⟨rfl, b3.trans (K3.out.mono b3.size)⟩
end Go.Proofs.Ythpgjeiglhdciaa.SN

/- SnapReads, walked: texts that are views. (printed by gen_reads3.py) -/
namespace Go.Proofs.Ythpgjeiglhdciaa.SN
open Go Go.RowKit Go.Proofs Go.Proofs.Ythpgjeiglhdciaa.PL Go.Proofs.YthpgjeiglhdciaaW.PrintWords Go.Proofs.YthpgjeiglhdciaaW.PrintLast Go.Proofs.YthpgjeiglhdciaaW.PrintMore
theorem VL.up {w : World} {V : VW} {A1 A2 A3 A4 A5 A6 A7 A9 A10 A11 : Option Addr} (h : VL w V A1 A2 A3 A4 A5 A6 A7 A9 A10 A11) (o : Obj) (n : Nat) : VL ((w.alloc o).drewN n) V A1 A2 A3 A4 A5 A6 A7 A9 A10 A11 := ⟨Kd.C_drewN (Kd.C_alloc h.members o) n, Kd.C_drewN (Kd.C_alloc h.assets o) n, Kd.C_drewN (Kd.C_alloc h.prices o) n, Kd.C_drewN (Kd.C_alloc h.baskets o) n, Kd.C_drewN (Kd.C_alloc h.balances o) n, Kd.C_drewN (Kd.C_alloc h.quotes o) n, Kd.C_drewN (Kd.C_alloc h.trades o) n, Kd.C_drewN (Kd.C_alloc h.covers o) n, Kd.C_drewN (Kd.C_alloc h.inn o) n, Kd.C_drewN (Kd.C_alloc h.outs o) n⟩
set_option maxRecDepth 100000 in
set_option maxHeartbeats 4000000 in
theorem reads_good (w : World) {s t : ByteArray} {V : VW} {stV stZ : St} (hs : 8 ≤ s.size) (h20 : s.size ≤ 20000) (hm : ∀ j, j < 8 → (lst s)[j]? = mark[j]?) (ht : s.extract 8 s.size = t) (hv : viewR (lst t) ⟨0, 0⟩ = (V, stV)) (hz : endR (lst t) stV = stZ) (hzz : stZ.e = 0) :
    Calls Try.prog 4 #[.string s] w fun o w' => o = .returned (.bool true) ∧ Below w.heap.size w w' := by
  have HM := Lib.hid (And.intro hs hm)
  have HD := Lib.hid (fun w => decode_good (w := w) hs (by omega) hm ht hv hz hzz)
  obtain ⟨hp1, hp2⟩ := reads_plain hs h20 hm ht hv hz hzz
  have HEN := Lib.hid (show ∀ (W : World) {A1 A2 A3 A4 A5 A6 A7 A9 A10 A11 : Option Addr} {c1 c2 c3 c4 c5 c6 c7 c9 c10 c11 : Nat} (h : VL W V A1 A2 A3 A4 A5 A6 A7 A9 A10 A11), Calls Try.prog 8 #[.agg #[.int .i64 V.day, .slice A1 V.members.length c1, .slice A2 V.assets.length c2, .slice A3 V.prices.length c3, .slice A4 V.baskets.length c4, .slice A5 V.balances.length c5, .slice A6 V.quotes.length c6, .slice A7 V.trades.length c7, .int .i64 V.next, .slice A9 V.covers.length c9, .slice A10 V.inn.length c10, .slice A11 V.outs.length c11]] W fun o w' => o = .returned (.tuple #[.string s, .int .i64 0]) ∧ Below W.heap.size W w' from by
    intro W A1 A2 A3 A4 A5 A6 A7 A9 A10 A11 c1 c2 c3 c4 c5 c6 c7 c9 c10 c11 h
    have h1 := encode_any (c1 := c1) (c2 := c2) (c3 := c3) (c4 := c4) (c5 := c5) (c6 := c6) (c7 := c7) (c9 := c9) (c10 := c10) (c11 := c11) h (view_O hv) hp2
    rw [hp1, bst_lst] at h1
    exact h1)
  have b1 : ((s.size : Int) > 20000) = False := eq_false (by omega)
  have b8 : ((s.size : Int) < 8) = False := eq_false (by omega)
  clear hm ht hv hz hzz h20 hp1 hp2
  go_enter Try.func4, Try.ntmps4
  go_wp2_with (go_at_call 9; refine (HD.out _).mono ?_; rintro e w1 ⟨A1, A2, A3, A4, A5, A6, A7, A9, A10, A11, c1, c2, c3, c4, c5, c6, c7, c9, c10, c11, rfl, K1⟩)
  go_loopg [6] (8 + 1) (fun kq v6 w' => ∃ (k d : Nat), v6 = .int .i64 k ∧ w' = (w1.alloc (.cells #[.int .i64 V.day, .slice A1 V.members.length c1, .slice A2 V.assets.length c2, .slice A3 V.prices.length c3, .slice A4 V.baskets.length c4, .slice A5 V.balances.length c5, .slice A6 V.quotes.length c6, .slice A7 V.trades.length c7, .int .i64 V.next, .slice A9 V.covers.length c9, .slice A10 V.inn.length c10, .slice A11 V.outs.length c11] 45)).drewN d ∧ Hid (kq + k = 8 + 1 ∧ k ≤ 8))
  case atStart => exact ⟨0, 0, rfl, rfl, ⟨rfl, Nat.zero_le _⟩⟩
  case round =>
    obtain ⟨k, d, rfl, rfl, HI⟩ := hrel
    by_cases hk0 : k < 8
    · have hk : k < s.size := by omega
      have hk8 : k < ({ data := #[108, 111, 109, 98, 97, 114, 100, 49] } : ByteArray).size := hk0
      have hkq : (k : Int) < (s.size : Int) := by omega
      have hkm : (k : Int) < 8 := by omega
      have hk1 : IntKind.i64.wrap ((k : Int) + 1) = (k : Int) + 1 := IntWalk.i64_in _ (by omega)
      have hq := mark_same hk hk8 (HM.out.2 k hk0)
      go_wp2_with (fail)
      go_quiet (fail)
      go_wp2_with (fail)
      go_roundg (8 - k)
      case measure => have := HI.out.1; omega
      case rel => exact ⟨k + 1, _, rfl, rfl, ⟨by have := HI.out.1; omega, hk0⟩⟩
    · have q1 : ((k : Int) < 8) = False := eq_false (by omega)
      have HV := Lib.hid (VL.up K1.out.1 (.cells #[.int .i64 V.day, .slice A1 V.members.length c1, .slice A2 V.assets.length c2, .slice A3 V.prices.length c3, .slice A4 V.baskets.length c4, .slice A5 V.balances.length c5, .slice A6 V.quotes.length c6, .slice A7 V.trades.length c7, .int .i64 V.next, .slice A9 V.covers.length c9, .slice A10 V.inn.length c10, .slice A11 V.outs.length c11] 45) d)
      have HB2 := Lib.hid (pw_below_drewN (K1.out.2.alloc K1.out.2.size (.cells #[.int .i64 V.day, .slice A1 V.members.length c1, .slice A2 V.assets.length c2, .slice A3 V.prices.length c3, .slice A4 V.baskets.length c4, .slice A5 V.balances.length c5, .slice A6 V.quotes.length c6, .slice A7 V.trades.length c7, .int .i64 V.next, .slice A9 V.covers.length c9, .slice A10 V.inn.length c10, .slice A11 V.outs.length c11] 45)) d)
      rcases Nat.lt_or_ge k s.size with h9 | h9
      · have hkq : (k : Int) < (s.size : Int) := by omega
        clear hk0 h9
        go_wp2_with (first
          | (go_at_call 6; refine (awake_walk _).mono ?_; rintro e w3 ⟨rfl, K3⟩; replace K3 := Lib.hid K3)
          | (go_at_call 8; refine (HEN.out _ HV.out).mono ?_; rintro e w2 ⟨rfl, K2⟩; replace K2 := Lib.hid K2))
        go_ret
        have b3 := HB2.out.trans (K2.out.mono HB2.out.size)
        exact ⟨rfl, b3.trans (K3.out.mono b3.size)⟩
      · have hkq : ((k : Int) < (s.size : Int)) = False := eq_false (by omega)
        clear hk0 h9
        go_wp2_with (first
          | (go_at_call 6; refine (awake_walk _).mono ?_; rintro e w3 ⟨rfl, K3⟩; replace K3 := Lib.hid K3)
          | (go_at_call 8; refine (HEN.out _ HV.out).mono ?_; rintro e w2 ⟨rfl, K2⟩; replace K2 := Lib.hid K2))
        go_ret
        have b3 := HB2.out.trans (K2.out.mono HB2.out.size)
        exact ⟨rfl, b3.trans (K3.out.mono b3.size)⟩
end Go.Proofs.Ythpgjeiglhdciaa.SN

/- SnapReads, walked: every text. -/
namespace Go.Proofs.Ythpgjeiglhdciaa.SN
open Go Go.RowKit Go.Proofs Go.Proofs.Ythpgjeiglhdciaa.PL Go.Proofs.YthpgjeiglhdciaaW.PrintWords Go.Proofs.YthpgjeiglhdciaaW.PrintLast Go.Proofs.YthpgjeiglhdciaaW.PrintMore
theorem first_bad (s : ByteArray) : ∀ n, (∃ i, i < s.size ∧ i < n ∧ (∀ j, j < i → (lst s)[j]? = mark[j]?) ∧ (lst s)[i]? ≠ mark[i]?) ∨ (∀ j, j < n → j < s.size → (lst s)[j]? = mark[j]?)
  | 0 => .inr (fun j hj => absurd hj (Nat.not_lt_zero _))
  | n + 1 => by
    rcases first_bad s n with ⟨i, h1, h2, h3, h4⟩ | h
    · exact .inl ⟨i, h1, by omega, h3, h4⟩
    · by_cases hn : n < s.size
      · by_cases he : (lst s)[n]? = mark[n]?
        · refine .inr (fun j hj hs => ?_)
          by_cases hjn : j = n
          · subst hjn; exact he
          · exact h j (by omega) hs
        · exact .inl ⟨n, hn, Nat.lt_succ_self n, fun j hj => h j hj (by omega), he⟩
      · exact .inr (fun j hj hs => h j (by omega) hs)
theorem reads_all (w : World) (s : ByteArray) : Calls Try.prog 4 #[.string s] w fun o w' => o = .returned (.bool true) ∧ Below w.heap.size w w' := by
  by_cases h20 : 20000 < s.size
  · exact reads_long w s h20
  · have h2 : s.size ≤ 20000 := by omega
    rcases first_bad s 8 with ⟨i, h1, h8, h3, h4⟩ | h
    · exact reads_bad w h2 h1 h8 h3 h4
    · by_cases h8 : s.size < 8
      · exact reads_short w h8 (fun j hj => h j (by omega) hj)
      · have hm : ∀ j, j < 8 → (lst s)[j]? = mark[j]? := fun j hj => h j hj (by omega)
        obtain ⟨t, ht⟩ : ∃ t, s.extract 8 s.size = t := ⟨_, rfl⟩
        obtain ⟨⟨V, stV⟩, hv⟩ : ∃ r, viewR (lst t) ⟨0, 0⟩ = r := ⟨_, rfl⟩
        obtain ⟨stZ, hz⟩ : ∃ r, endR (lst t) stV = r := ⟨_, rfl⟩
        by_cases he : stZ.e = 0
        · exact reads_good w (by omega) h2 hm ht hv hz he
        · exact reads_fail w (by omega) h2 hm ht hv hz he
end Go.Proofs.Ythpgjeiglhdciaa.SN

namespace Go.Proofs.Ythpgjeiglhdciaa.snapReads
open Go Go.RowKit Go.ChangeShapes Go.WideShapes Go.ChangeAt Go.Proofs
open Go.ChangeMaps (open_string shut_string)
set_option linter.unusedVariables false
theorem laidOut : laidOutB Try.prog = true := by kernel_rfl
theorem own : ownKnob Try.prog.godebug = none := by kernel_rfl
set_option maxRecDepth 100000 in
theorem lifted (os : Os) (started : os.Started) (H : Type) (enc : TypeId × Value → H) :
    ReturnsInHanded {} Try.checked os 4 .any (Rows.snapReadsSpec.pre6 enc Try.prog Try.f4 Rows.snapReadsRow.domain false) (Rows.snapReadsSpec.post enc Try.prog Try.f4 false true false false) := by
  refine returnsInHanded_of_change_sized (C := Try.checked) own started (by kernel_rfl) Try.func4
    (ChangeSpec.witness6 (enc := enc) (C := Try.checked) false ⟨#[], #[.string ByteArray.empty], []⟩ 8 (by kernel_rfl) (by kernel_rfl) (by kernel_rfl) (by kernel_rfl)) ?_
  intro W base args ds gs before hval0 hW hcnd hsz0 _
  have hsz : (DataW.weightsEach Try.prog (Try.f4.params.toList ++ Rows.snapReadsSpec.plain.varTypes Try.prog) (ds ++ gs)).all (· ≤ reachBytes) = true := hsz0
  have hval : ∀ (j : Nat) t v, Try.f4.params[j]? = some t → args[j]? = some v → Value.okWide Try.prog W .any base t v := hval0
  have hW' := hW
  obtain ⟨p, q, hA0, hV, rfl, hfz, hnd⟩ := hW
  have hA : DataW.TrodAll enc Try.prog W 0 (fun _ => true) true Try.f4.params.toList args.toList ds p := hA0
  rw [Try.params4] at hA hval hsz
  obtain ⟨v0, vs0, d0, ds0, p0, q0, hargs, rfl, rfl, h0, r0⟩ := trodAll_cons hA
  obtain ⟨rfl, rfl, rfl⟩ := trodAll_nil r0
  obtain rfl : args = #[v0] := by cases args; simp_all
  obtain ⟨rfl, rfl⟩ := trodVars_none hV
  have k0 := h0
  have lt0 : ∀ x ∈ p0, x.block < W.heap.size := by obtain ⟨m, hm⟩ := k0; exact DataW.trod_lt m _ _ _ hm
  obtain ⟨x0, rfl, rfl, rfl, y0⟩ := open_string Try.underlying9 (hval 0 9 v0 rfl rfl) h0
  clear hA0 hval0 hsz0 hsz
  refine (SN.reads_all W x0).mono fun e W' ⟨he, bel⟩ => ?_
  subst he
  exact ⟨_, rfl, _, _, _, [], _, [], hW', trodAll_mk1 (shut_bool Try.underlying4 _), (trodAll_cons_mk (Below.trod laidOut (by kernel_rfl) (of_decide_eq_true (by kernel_rfl)) k0 bel lt0) trodAll_mk0), rfl, bel.frame _, fun h => by cases h⟩
theorem over : Rows.snapReadsRow.holds Try.pinned (OpenSpec.ofChange Rows.snapReadsSpec) :=
  OpenClaim.holds_of_wide 4 Try.f4 rfl rfl rfl rfl rfl rfl rfl ⟨rfl, rfl, rfl, rfl, rfl⟩ rfl rfl rfl rfl rfl (by kernel_rfl) Try.func4 (by kernel_rfl)
    (of_decide_eq_true (by kernel_rfl)) (by unfold Func.isWrapper; first | (rw [if_pos (by decide +kernel)]; kernel_rfl) | (rw [if_neg (by decide +kernel)]; exact ⟨rfl, rfl⟩))
    (fun os started H enc _ => lifted os started H enc)
theorem proved : Rows.SnapReadsSaid := over
end Go.Proofs.Ythpgjeiglhdciaa.snapReads
namespace Go.Proofs.Ythpgjeiglhdciaa
/-- The row, under a short name, for the claim. -/
theorem snapReads_holds : Rows.SnapReadsSaid := snapReads.proved
end Go.Proofs.Ythpgjeiglhdciaa
