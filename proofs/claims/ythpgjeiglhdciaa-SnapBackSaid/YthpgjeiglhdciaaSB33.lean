/- Part 33 of the proof's texts: what the theorem needs of them. -/
import Derived.Test.YthpgjeiglhdciaaSB32
import Derived.Deep.RegionHeld3
import Derived.Laws.Rows

set_option linter.unusedVariables false
set_option linter.unusedSimpArgs false
/- The decoder: an element with a list inside: the state. -/
namespace Go.Proofs.Ythpgjeiglhdciaa.SN
open Go Go.RowKit Go.Proofs Go.Proofs.Ythpgjeiglhdciaa.PL Go.Proofs.YthpgjeiglhdciaaW.PrintWords Go.Proofs.YthpgjeiglhdciaaW.PrintLast Go.Proofs.YthpgjeiglhdciaaW.PrintMore
theorem info117 : (Try.prog.info? 117).map (fun i => (i.zero, i.size, i.bytes)) = some (some (.agg #[(.int .i64 0), (.int .i64 0), (.int .i64 0), (.int .i64 0), (.int .i64 0), (.int .i64 0), (.int .i64 0), (.int .i64 0), (.slice none 0 0), (.int .i64 0), (.bool false)]), 11, 104) := by kernel_rfl
theorem info63 : (Try.prog.info? 63).map (fun i => (i.zero, i.size, i.bytes)) = some (some (.agg #[(.int .i64 0), (.int .i64 0), (.string ⟨#[]⟩), (.int .i64 0), (.int .i64 0), (.int .i64 0), (.slice none 0 0), (.int .i64 0), (.int .i64 0), (.slice none 0 0)]), 10, 120) := by kernel_rfl
theorem info119 : (Try.prog.info? 119).map (fun i => (i.zero, i.size, i.bytes)) = some (some (.agg #[(.string ⟨#[]⟩), (.int .i64 0)]), 2, 24) := by kernel_rfl
theorem info124 : (Try.prog.info? 124).map (fun i => (i.zero, i.size, i.bytes)) = some (some (.agg #[(.int .i64 0), (.int .i64 0), (.int .i64 0)]), 3, 24) := by kernel_rfl
theorem info129 : (Try.prog.info? 129).map (fun i => (i.zero, i.size, i.bytes)) = some (some (.agg #[(.int .i64 0), (.int .i64 0)]), 2, 16) := by kernel_rfl
/-- The element's block, and the list inside so far: its row is another block. -/
structure DN {α : Type} (d : Kd α) (e : Nat) (ws W : World) (q G : Nat) (s : ByteArray) (st : St) (cs : Array Value) (T : Nat) (v : Value) (ys : List α) : Prop where
  ds : DS ws W q G s st cs T
  row : d.R e W ws.heap.size (fun k => k ≠ G) v ys
section
variable {α : Type} {d : Kd α} {e : Nat} {ws W w' w5 : World} {q G g : Nat} {s : ByteArray} {st st' : St} {cs : Array Value} {T : Nat} {v v1 : Value} {ys : List α}
theorem row_step (h : DS ws W q G s st cs T) (hr : d.R e W ws.heap.size (fun k => k ≠ G) v ys) (h2 : W.grownBy w' (some q)) : d.R e w' ws.heap.size (fun k => k ≠ G) v ys :=
  Kd.R_mono (Kd.R_grown (Kd.R_bound hr) h2 (fun k hk e => by injection e with e; have := hk.2.1; have := h.lt; omega)) (fun k hk => hk.1)
theorem DN.step (h : DN d e ws W q G s st cs T v ys) (h1 : RD w' q s st') (h2 : W.grownBy w' (some q)) (h3 : st'.at' ≤ s.size) : DN d e ws w' q G s st' cs T v ys := ⟨h.ds.step h1 h2 h3, row_step h.ds h.row h2⟩
theorem DN.drew (h : DN d e ws W q G s st cs T v ys) : DN d e ws W.drew q G s st cs T v ys := ⟨h.ds.drew, Kd.R_drew h.row⟩
theorem DN.fresh (h : DN d e ws W q G s st cs T v ys) : ∀ k, W.heap.size ≤ k → k ≠ G := fun k hk e => by
  have := (Array.getElem?_eq_some_iff.1 h.ds.lo).1
  omega
theorem DN.le (h : DN d e ws W q G s st cs T v ys) : ws.heap.size ≤ W.heap.size := h.ds.gr.size
theorem DN.int {y : Int} (h : DN d e ws W q G s st cs T v ys) (he : iR (lst s) st = (y, st')) :
    Calls Try.prog 24 #[.pointer (some ⟨q, 0, none⟩)] W fun o w' => o = .returned (.int .i64 y) ∧ Hid (DN d e ws w' q G s st' cs T v ys) := by
  have hl := int_le h.ds.le
  have hc := int_any h.ds.rd h.ds.sz h.ds.le
  rw [he] at hl hc
  refine hc.mono ?_
  rintro o w' ⟨rfl, H⟩
  exact ⟨rfl, h.step H.out.1 H.out.2 hl⟩
theorem DN.text {y : Bs} (h : DN d e ws W q G s st cs T v ys) (he : tR (lst s) 160 st = (y, st')) :
    Calls Try.prog 46 #[.pointer (some ⟨q, 0, none⟩), .int .i64 160] W fun o w' => o = .returned (.string (bst y)) ∧ Hid (DN d e ws w' q G s st' cs T v ys) := by
  have hl := text_le h.ds.le
  have hc := text_any h.ds.rd h.ds.sz h.ds.le
  rw [he] at hl hc
  refine hc.mono ?_
  rintro o w' ⟨rfl, H⟩
  exact ⟨rfl, h.step H.out.1 H.out.2 hl⟩
/-- Behind an append to the list inside: the block's old cells. -/
theorem DN.grown (h : DN d e ws W q G s st cs T v ys) (hg : W.grownBy w5 v.ownBlock) : DS ws w5 q G s st cs T := by
  have hb := Kd.R_base h.row
  have hne : some G ≠ v.ownBlock := Kd.R_away h.row (fun k hk => hk)
  have hlt := h.ds.lt
  have hqn : some q ≠ v.ownBlock := fun e => by have := hb q e.symm; omega
  refine ⟨(hg.block q h.ds.rd.lt hqn).trans h.ds.rd, h.ds.gr.andThen hg (fun j hj => .inl (hb j hj)), h.ds.sz, h.ds.le, (hg.block G (Array.getElem?_eq_some_iff.1 h.ds.lo).1 hne).trans h.ds.lo, h.ds.hi, h.ds.lt⟩
theorem DN.app {cs' : Array Value} {zs : List α} (h : DN d e ws W q G s st cs T v ys) (hg : W.grownBy w5 v.ownBlock) (ho : d.R e w5 ws.heap.size (fun k => k ≠ G) v1 zs) (i : Nat) (hcs : cs.setIfInBounds i v1 = cs') : DN d e ws (w5.setCell ⟨G, i, none⟩ v1) q G s st cs' T v1 zs :=
  ⟨((h.grown hg).set i v1).to hcs, Kd.R_far ho (p := ⟨G, i, none⟩) (fun k hk => hk) v1⟩
theorem DS.cellA (h : DS ws W q G s st cs T) (i : Nat) (o : Obj) : (W.alloc o).cell? ⟨G, i, none⟩ = cs[i]? :=
  cellsAt (((below_alloc (Below.refl W.heap.size W) o).block G (Array.getElem?_eq_some_iff.1 h.lo).1).trans h.lo) i
theorem row_old {b : Nat} {ok : Nat → Prop} (h : d.R e W b ok v ys) : ∀ k, W.heap.size ≤ k → True ∧ some k ≠ v.ownBlock := fun k hk => ⟨trivial, fun he => by
  have := (Kd.R_bound h).1 k he.symm
  omega⟩
theorem row_new {b : Nat} (h : d.R e W ws.heap.size (fun k => k ≠ G) v ys) (hb : b ≤ ws.heap.size) : d.R e W b (fun k => ws.heap.size ≤ k) v ys := Kd.R_lower (Kd.R_mono (Kd.R_bound h) (fun k hk => hk.2.1)) hb
/-- A list that was read behind the block: its row is none of the block's. -/
theorem row_read (h : DS ws W q G s st cs T) (hg : W.grownBy w' (some q)) {u : Value} (hr : d.R e w' W.heap.size (fun _ => True) u ys) : d.R e w' ws.heap.size (fun k => k ≠ G) u ys :=
  Kd.R_lower (Kd.R_mono (Kd.R_bound hr) (fun k hk => by have h1 := hk.2.1; have h2 := (Array.getElem?_eq_some_iff.1 h.lo).1; omega)) h.gr.size
theorem row_set (i : Nat) (u : Value) (hr : d.R e W ws.heap.size (fun k => k ≠ G) v ys) : d.R e (W.setCell ⟨G, i, none⟩ u) ws.heap.size (fun k => k ≠ G) v ys := Kd.R_far hr (p := ⟨G, i, none⟩) (fun k hk => hk) u
end
/-- A lot, read. -/
def lotR (s : Bs) : St → S119 × St := mapR (fun p : Bs × Int => (⟨bst (p.1), p.2⟩ : S119)) (andR (tR s 160) (iR s))
theorem lotR_good (s : Bs) : Good s (lotR s) lotE := (Good.map ((tR_good s 160).and (iR_good s)) _ _ (fun a => by simp only [lotE, lst_bst]))
/-- A reset, read. -/
def resetR (s : Bs) : St → S129 × St := mapR (fun p : Int × Int => (⟨p.1, p.2⟩ : S129)) (andR (iR s) (iR s))
theorem resetR_good (s : Bs) : Good s (resetR s) resetE := (Good.map ((iR_good s).and (iR_good s)) _ _ (fun a => by simp only [resetE, lst_bst]))
/-- A cut, read. -/
def cutR (s : Bs) : St → S124 × St := mapR (fun p : Int × Int × Int => (⟨p.1, p.2.1, p.2.2⟩ : S124)) (andR (iR s) (andR (iR s) (iR s)))
theorem cutR_good (s : Bs) : Good s (cutR s) cutE := (Good.map ((iR_good s).and ((iR_good s).and (iR_good s))) _ _ (fun a => by simp only [cutE, lst_bst]))
end Go.Proofs.Ythpgjeiglhdciaa.SN

/- Decode: words; texts that do not begin with the mark. (printed by gen_decode.py) -/
namespace Go.Proofs.Ythpgjeiglhdciaa.SN
open Go Go.RowKit Go.Proofs Go.Proofs.Ythpgjeiglhdciaa.PL Go.Proofs.YthpgjeiglhdciaaW.PrintWords Go.Proofs.YthpgjeiglhdciaaW.PrintLast Go.Proofs.YthpgjeiglhdciaaW.PrintMore
theorem results_cell3 {P : Program} {fn : Func} {p a b : Tmp} {ty : TypeId} (h : fn.results = #[.cell p ty, .tmp a, .tmp b]) (tmps : Array Value) (w : World) (g : Nat) (t : TypeId) (cs : Array Value) (fr : Nat × Nat) (d : TypeDesc)
    (hp : tmps.getD p undef = .pointer (some ⟨g, 0, none⟩)) (hg : w.heap[g]? = some (.cells cs t fr))
    (hu : P.underlying ty = some d) (hd : (match d with | .struct _ | .array _ _ => true | _ => false) = true) (hi : (P.info? ty).map (·.size) = some cs.size) :
    (results fn tmps).run P w = .ok (.tuple #[.agg cs, tmps.getD a undef, tmps.getD b undef]) w := by
  have hp' : tmps[p]?.getD undef = .pointer (some ⟨g, 0, none⟩) := by simpa using hp
  simp [results, h, hp', asAddr, run_loadVar_row w g t ty cs fr d hg hu hd hi]
theorem fillAll {t : Nat} {C : Nat} : ∀ (vs : List Value) (i : Nat) {W : World} {cs : Array Value}, W.heap[C]? = some (.cells cs t (0, 0)) → (setAll W C vs i).heap[C]? = some (.cells (setArr cs vs i) t (0, 0))
  | [], _, _, _, h => h
  | v :: r, i, _, _, h => fillAll r (i + 1) (set_mod h)
theorem fill_block {W : World} {C t : Nat} {cs : Array Value} (h : W.heap[C]? = some (.cells cs t (0, 0))) (vs : List Value) (hv : vs.length = cs.size) : (setAll W C vs 0).heap[C]? = some (.cells vs.toArray t (0, 0)) := by
  have h1 := fillAll vs 0 h
  have e : setArr cs vs 0 = vs.toArray := by
    apply Array.toList_inj.1
    rw [setArr_list vs 0 cs (by omega)]
    rfl
  rw [e] at h1
  exact h1
theorem fill_below {b C : Nat} {w : World} (hb : b ≤ C) : ∀ (vs : List Value) (i : Nat) {W : World}, Below b w W → Below b w (setAll W C vs i)
  | [], _, _, h => h
  | v :: r, i, _, h => fill_below hb r (i + 1) (h.setCell (p := ⟨C, i, none⟩) hb v)
theorem fill_row {α : Type} {d : Kd α} {e b C : Nat} {ok : Nat → Prop} {v : Value} {xs : List α} (hc : C < b) : ∀ (vs : List Value) (i : Nat) {W : World}, d.R e W b ok v xs → d.R e (setAll W C vs i) b ok v xs
  | [], _, _, h => h
  | u :: r, i, _, h => fill_row hc r (i + 1) (Kd.R_mono (Kd.R_far (Kd.R_bound h) (p := ⟨C, i, none⟩) (fun k hk => by have := hk.2.1; show k ≠ C; omega) u) (fun k hk => hk.1))
theorem frzAt {W : World} {g : Nat} {cs : Array Value} {t : Nat} (h : W.heap[g]? = some (.cells cs t (0, 0))) (i : Nat) : W.frozen? ⟨g, i, none⟩ = false := by simp [World.frozen?, h]
/-- The mark and a text agree at k. -/
theorem mark_same {s : ByteArray} {k : Nat} (hk : k < s.size) (hm : k < ({ data := #[108, 111, 109, 98, 97, 114, 100, 49] } : ByteArray).size) (h : (lst s)[k]? = mark[k]?) : (((s[k].toNat : Nat) : Int) != ((({ data := #[108, 111, 109, 98, 97, 114, 100, 49] } : ByteArray)[k].toNat : Nat) : Int)) = false := by
  have e : s[k] = ({ data := #[108, 111, 109, 98, 97, 114, 100, 49] } : ByteArray)[k] := by
    have h1 : (lst s)[k]? = some s[k] := by unfold lst; simp [ByteArray.getElem_eq_getElem_data, hk]
    have h2 : mark[k]? = some ({ data := #[108, 111, 109, 98, 97, 114, 100, 49] } : ByteArray)[k] := by
      have h3 : k < mark.length := hm
      rw [List.getElem?_eq_getElem h3]
      rfl
    rw [h1, h2] at h
    exact Option.some.inj h
  rw [e]
  simp
theorem mark_other {s : ByteArray} {k : Nat} (hk : k < s.size) (hm : k < ({ data := #[108, 111, 109, 98, 97, 114, 100, 49] } : ByteArray).size) (h : (lst s)[k]? ≠ mark[k]?) : (((s[k].toNat : Nat) : Int) != ((({ data := #[108, 111, 109, 98, 97, 114, 100, 49] } : ByteArray)[k].toNat : Nat) : Int)) = true := by
  have e : s[k] ≠ ({ data := #[108, 111, 109, 98, 97, 114, 100, 49] } : ByteArray)[k] := by
    intro e
    apply h
    have h1 : (lst s)[k]? = some s[k] := by unfold lst; simp [ByteArray.getElem_eq_getElem_data, hk]
    have h2 : mark[k]? = some ({ data := #[108, 111, 109, 98, 97, 114, 100, 49] } : ByteArray)[k] := by
      have h3 : k < mark.length := hm
      rw [List.getElem?_eq_getElem h3]
      rfl
    rw [h1, h2, e]
  have e2 : s[k].toNat ≠ ({ data := #[108, 111, 109, 98, 97, 114, 100, 49] } : ByteArray)[k].toNat := fun q => e (UInt8.toNat_inj.1 q)
  simp only [bne_iff_ne, ne_eq]
  omega
set_option maxRecDepth 100000 in
set_option maxHeartbeats 2000000 in
theorem decode_short {w : World} {s : ByteArray} (hs : s.size < 8) (hm : ∀ j, j < s.size → (lst s)[j]? = mark[j]?) :
    Calls Try.prog 9 #[.string s] w fun o w' => o = .returned (.tuple #[.agg #[.int .i64 0, .slice none 0 0, .slice none 0 0, .slice none 0 0, .slice none 0 0, .slice none 0 0, .slice none 0 0, .slice none 0 0, .int .i64 0, .slice none 0 0, .slice none 0 0, .slice none 0 0], .int .i64 s.size, .int .i64 14]) ∧ Below w.heap.size w w' := by
  have HM := Lib.hid (And.intro hs hm)
  clear hm
  go_enter Try.func9, Try.ntmps9
  go_upto_region 1 with (fail)
  obtain ⟨C, hC⟩ : ∃ C, w.heap.size = C := ⟨_, rfl⟩
  have HB0 := Lib.hid (show Below C w (w.alloc (.cells #[.int .i64 0, .slice none 0 0, .slice none 0 0, .slice none 0 0, .slice none 0 0, .slice none 0 0, .slice none 0 0, .slice none 0 0, .int .i64 0, .slice none 0 0, .slice none 0 0, .slice none 0 0] 45)) from hC ▸ below_alloc (Below.refl _ _) _)
  have HC0 := Lib.hid (show (w.alloc (.cells #[.int .i64 0, .slice none 0 0, .slice none 0 0, .slice none 0 0, .slice none 0 0, .slice none 0 0, .slice none 0 0, .slice none 0 0, .int .i64 0, .slice none 0 0, .slice none 0 0, .slice none 0 0] 45)).heap[C]? = some (.cells #[.int .i64 0, .slice none 0 0, .slice none 0 0, .slice none 0 0, .slice none 0 0, .slice none 0 0, .slice none 0 0, .slice none 0 0, .int .i64 0, .slice none 0 0, .slice none 0 0, .slice none 0 0] 45 (0, 0)) from hC ▸ (Go.MapKept.heap_alloc w _).1)
  have HZ0 := Lib.hid (show (w.alloc (.cells #[.int .i64 0, .slice none 0 0, .slice none 0 0, .slice none 0 0, .slice none 0 0, .slice none 0 0, .slice none 0 0, .slice none 0 0, .int .i64 0, .slice none 0 0, .slice none 0 0, .slice none 0 0] 45)).heap.size = C + 1 from by rw [← hC]; simp)
  rw [hC]
  generalize w.alloc (.cells #[.int .i64 0, .slice none 0 0, .slice none 0 0, .slice none 0 0, .slice none 0 0, .slice none 0 0, .slice none 0 0, .slice none 0 0, .int .i64 0, .slice none 0 0, .slice none 0 0, .slice none 0 0] 45) = W0 at HB0 HC0 HZ0 ⊢
  have HCC := Lib.hid hC
  clear hC
  go_cut [10, 11] (fun v10 v11 wx => ∃ m : Nat, v10 = .int .i64 m ∧ v11 = .int .i64 0 ∧ Hid (wx = W0 ∧ min s.size 8 = m))
  case first =>
    by_cases hs8 : 8 < s.size
    · have hs9 : (8 : Int) < (s.size : Int) := by omega
      go_wp2_with (fail)
      go_meet
      exact ⟨8, rfl, rfl, ⟨rfl, by omega⟩⟩
    · have hs9 : (s.size : Int) ≤ 8 := by omega
      go_wp2_with (fail)
      go_meet
      exact ⟨s.size, rfl, rfl, ⟨rfl, by omega⟩⟩
  case rest =>
    obtain ⟨m, rfl, rfl, HM8⟩ := hcut
    obtain ⟨hw0, hm8⟩ := HM8.out
    subst hw0
    clear HM8
    have HM8 := Lib.hid hm8
    clear hm8
    go_wp2_with (fail)
    go_loopg [11] (m + 1) (fun kq v11 w' => ∃ (k d : Nat), v11 = .int .i64 k ∧ w' = wc.drewN d ∧ Hid (kq + k = m + 1 ∧ k ≤ m))
    case atStart => exact ⟨0, 0, rfl, rfl, ⟨rfl, Nat.zero_le _⟩⟩
    case round =>
      obtain ⟨k, d, rfl, rfl, HI⟩ := hrel
      by_cases hkm0 : k < m
      · have hk : k < s.size := by have := HM8.out; omega
        have hk8 : k < ({ data := #[108, 111, 109, 98, 97, 114, 100, 49] } : ByteArray).size := by have : ({ data := #[108, 111, 109, 98, 97, 114, 100, 49] } : ByteArray).size = 8 := rfl; have := HM8.out; omega
        have hq := mark_same hk hk8 (HM.out.2 k hk)
        have hkq : (k : Int) < (s.size : Int) := by omega
        have hkm : (k : Int) < 8 := by have h : k < 8 := hk8; omega
        have hkx : (k : Int) < (m : Int) := by omega
        go_wp2_with (fail)
        go_quiet (fail)
        go_wp2_with (fail)
        go_roundg (m - k)
        case measure => have := HI.out.1; omega
        case rel => exact ⟨k + 1, _, rfl, rfl, ⟨by have := HI.out.1; omega, hkm0⟩⟩
      · have q1 := idx_out hkm0
        have c0 : wc.cell? ⟨C, 0, none⟩ = some (.int .i64 0) := cellsAt HC0.out 0
        have f0 := frzAt HC0.out 0
        have c1 : wc.cell? ⟨C, 1, none⟩ = some (.slice none 0 0) := cellsAt HC0.out 1
        have f1 := frzAt HC0.out 1
        have c2 : wc.cell? ⟨C, 2, none⟩ = some (.slice none 0 0) := cellsAt HC0.out 2
        have f2 := frzAt HC0.out 2
        have c3 : wc.cell? ⟨C, 3, none⟩ = some (.slice none 0 0) := cellsAt HC0.out 3
        have f3 := frzAt HC0.out 3
        have c4 : wc.cell? ⟨C, 4, none⟩ = some (.slice none 0 0) := cellsAt HC0.out 4
        have f4 := frzAt HC0.out 4
        have c5 : wc.cell? ⟨C, 5, none⟩ = some (.slice none 0 0) := cellsAt HC0.out 5
        have f5 := frzAt HC0.out 5
        have c6 : wc.cell? ⟨C, 6, none⟩ = some (.slice none 0 0) := cellsAt HC0.out 6
        have f6 := frzAt HC0.out 6
        have c7 : wc.cell? ⟨C, 7, none⟩ = some (.slice none 0 0) := cellsAt HC0.out 7
        have f7 := frzAt HC0.out 7
        have c8 : wc.cell? ⟨C, 8, none⟩ = some (.int .i64 0) := cellsAt HC0.out 8
        have f8 := frzAt HC0.out 8
        have c9 : wc.cell? ⟨C, 9, none⟩ = some (.slice none 0 0) := cellsAt HC0.out 9
        have f9 := frzAt HC0.out 9
        have c10 : wc.cell? ⟨C, 10, none⟩ = some (.slice none 0 0) := cellsAt HC0.out 10
        have f10 := frzAt HC0.out 10
        have c11 : wc.cell? ⟨C, 11, none⟩ = some (.slice none 0 0) := cellsAt HC0.out 11
        have f11 := frzAt HC0.out 11
        have hs2 : (s.size : Int) < 8 := by omega
        clear hkm0
        go_wp2_with (fail)
        refine bodyPost_ret (results_cell3 rfl _ _ C 45 #[.int .i64 0, .slice none 0 0, .slice none 0 0, .slice none 0 0, .slice none 0 0, .slice none 0 0, .slice none 0 0, .slice none 0 0, .int .i64 0, .slice none 0 0, .slice none 0 0, .slice none 0 0] (0, 0) _ rfl (by exact fill_block HC0.out [.int .i64 0, .slice none 0 0, .slice none 0 0, .slice none 0 0, .slice none 0 0, .slice none 0 0, .slice none 0 0, .slice none 0 0, .int .i64 0, .slice none 0 0, .slice none 0 0, .slice none 0 0] rfl) Try.underlying45 rfl (by kernel_rfl)) rfl ?_
        refine ⟨rfl, ?_⟩
        rw [HCC.out]
        exact fill_below (Nat.le_refl _) [.int .i64 0, .slice none 0 0, .slice none 0 0, .slice none 0 0, .slice none 0 0, .slice none 0 0, .slice none 0 0, .slice none 0 0, .int .i64 0, .slice none 0 0, .slice none 0 0, .slice none 0 0] 0 (pw_below_drewN HB0.out d)
set_option maxRecDepth 100000 in
set_option maxHeartbeats 2000000 in
theorem decode_bad {w : World} {s : ByteArray} {i : Nat} (hi : i < s.size) (hi8 : i < 8) (hm : ∀ j, j < i → (lst s)[j]? = mark[j]?) (hn : (lst s)[i]? ≠ mark[i]?) :
    Calls Try.prog 9 #[.string s] w fun o w' => o = .returned (.tuple #[.agg #[.int .i64 0, .slice none 0 0, .slice none 0 0, .slice none 0 0, .slice none 0 0, .slice none 0 0, .slice none 0 0, .slice none 0 0, .int .i64 0, .slice none 0 0, .slice none 0 0, .slice none 0 0], .int .i64 i, .int .i64 15]) ∧ Below w.heap.size w w' := by
  have HM := Lib.hid (And.intro hi (And.intro hi8 (And.intro hm hn)))
  clear hm hn hi hi8
  go_enter Try.func9, Try.ntmps9
  go_upto_region 1 with (fail)
  obtain ⟨C, hC⟩ : ∃ C, w.heap.size = C := ⟨_, rfl⟩
  have HB0 := Lib.hid (show Below C w (w.alloc (.cells #[.int .i64 0, .slice none 0 0, .slice none 0 0, .slice none 0 0, .slice none 0 0, .slice none 0 0, .slice none 0 0, .slice none 0 0, .int .i64 0, .slice none 0 0, .slice none 0 0, .slice none 0 0] 45)) from hC ▸ below_alloc (Below.refl _ _) _)
  have HC0 := Lib.hid (show (w.alloc (.cells #[.int .i64 0, .slice none 0 0, .slice none 0 0, .slice none 0 0, .slice none 0 0, .slice none 0 0, .slice none 0 0, .slice none 0 0, .int .i64 0, .slice none 0 0, .slice none 0 0, .slice none 0 0] 45)).heap[C]? = some (.cells #[.int .i64 0, .slice none 0 0, .slice none 0 0, .slice none 0 0, .slice none 0 0, .slice none 0 0, .slice none 0 0, .slice none 0 0, .int .i64 0, .slice none 0 0, .slice none 0 0, .slice none 0 0] 45 (0, 0)) from hC ▸ (Go.MapKept.heap_alloc w _).1)
  have HZ0 := Lib.hid (show (w.alloc (.cells #[.int .i64 0, .slice none 0 0, .slice none 0 0, .slice none 0 0, .slice none 0 0, .slice none 0 0, .slice none 0 0, .slice none 0 0, .int .i64 0, .slice none 0 0, .slice none 0 0, .slice none 0 0] 45)).heap.size = C + 1 from by rw [← hC]; simp)
  rw [hC]
  generalize w.alloc (.cells #[.int .i64 0, .slice none 0 0, .slice none 0 0, .slice none 0 0, .slice none 0 0, .slice none 0 0, .slice none 0 0, .slice none 0 0, .int .i64 0, .slice none 0 0, .slice none 0 0, .slice none 0 0] 45) = W0 at HB0 HC0 HZ0 ⊢
  have HCC := Lib.hid hC
  clear hC
  go_cut [10, 11] (fun v10 v11 wx => ∃ m : Nat, v10 = .int .i64 m ∧ v11 = .int .i64 0 ∧ Hid (wx = W0 ∧ min s.size 8 = m))
  case first =>
    by_cases hs8 : 8 < s.size
    · have hs9 : (8 : Int) < (s.size : Int) := by omega
      go_wp2_with (fail)
      go_meet
      exact ⟨8, rfl, rfl, ⟨rfl, by omega⟩⟩
    · have hs9 : (s.size : Int) ≤ 8 := by omega
      go_wp2_with (fail)
      go_meet
      exact ⟨s.size, rfl, rfl, ⟨rfl, by omega⟩⟩
  case rest =>
    obtain ⟨m, rfl, rfl, HM8⟩ := hcut
    obtain ⟨hw0, hm8⟩ := HM8.out
    subst hw0
    clear HM8
    have HM8 := Lib.hid hm8
    clear hm8
    go_wp2_with (fail)
    go_loopg [11] (i + 1) (fun kq v11 w' => ∃ (k d : Nat), v11 = .int .i64 k ∧ w' = wc.drewN d ∧ Hid (kq + k = i + 1 ∧ k ≤ i))
    case atStart => exact ⟨0, 0, rfl, rfl, ⟨rfl, Nat.zero_le _⟩⟩
    case round =>
      obtain ⟨k, d, rfl, rfl, HI⟩ := hrel
      have hk : k < s.size := Nat.lt_of_le_of_lt HI.out.2 HM.out.1
      have hk8 : k < ({ data := #[108, 111, 109, 98, 97, 114, 100, 49] } : ByteArray).size := Nat.lt_of_le_of_lt HI.out.2 HM.out.2.1
      have hkq : (k : Int) < (s.size : Int) := by omega
      have hkm : (k : Int) < 8 := by have h : k < 8 := hk8; omega
      have hkx : (k : Int) < (m : Int) := by have h : k < 8 := hk8; have := HM8.out; omega
      by_cases he : k = i
      · have hq := mark_other hk hk8 (he ▸ HM.out.2.2.2)
        have HE := Lib.hid he
        clear he
        have c0 : wc.cell? ⟨C, 0, none⟩ = some (.int .i64 0) := cellsAt HC0.out 0
        have f0 := frzAt HC0.out 0
        have c1 : wc.cell? ⟨C, 1, none⟩ = some (.slice none 0 0) := cellsAt HC0.out 1
        have f1 := frzAt HC0.out 1
        have c2 : wc.cell? ⟨C, 2, none⟩ = some (.slice none 0 0) := cellsAt HC0.out 2
        have f2 := frzAt HC0.out 2
        have c3 : wc.cell? ⟨C, 3, none⟩ = some (.slice none 0 0) := cellsAt HC0.out 3
        have f3 := frzAt HC0.out 3
        have c4 : wc.cell? ⟨C, 4, none⟩ = some (.slice none 0 0) := cellsAt HC0.out 4
        have f4 := frzAt HC0.out 4
        have c5 : wc.cell? ⟨C, 5, none⟩ = some (.slice none 0 0) := cellsAt HC0.out 5
        have f5 := frzAt HC0.out 5
        have c6 : wc.cell? ⟨C, 6, none⟩ = some (.slice none 0 0) := cellsAt HC0.out 6
        have f6 := frzAt HC0.out 6
        have c7 : wc.cell? ⟨C, 7, none⟩ = some (.slice none 0 0) := cellsAt HC0.out 7
        have f7 := frzAt HC0.out 7
        have c8 : wc.cell? ⟨C, 8, none⟩ = some (.int .i64 0) := cellsAt HC0.out 8
        have f8 := frzAt HC0.out 8
        have c9 : wc.cell? ⟨C, 9, none⟩ = some (.slice none 0 0) := cellsAt HC0.out 9
        have f9 := frzAt HC0.out 9
        have c10 : wc.cell? ⟨C, 10, none⟩ = some (.slice none 0 0) := cellsAt HC0.out 10
        have f10 := frzAt HC0.out 10
        have c11 : wc.cell? ⟨C, 11, none⟩ = some (.slice none 0 0) := cellsAt HC0.out 11
        have f11 := frzAt HC0.out 11
        go_wp2_with (fail)
        go_quiet (fail)
        go_wp2_with (fail)
        refine bodyPost_ret (results_cell3 rfl _ _ C 45 #[.int .i64 0, .slice none 0 0, .slice none 0 0, .slice none 0 0, .slice none 0 0, .slice none 0 0, .slice none 0 0, .slice none 0 0, .int .i64 0, .slice none 0 0, .slice none 0 0, .slice none 0 0] (0, 0) _ rfl (by exact fill_block HC0.out [.int .i64 0, .slice none 0 0, .slice none 0 0, .slice none 0 0, .slice none 0 0, .slice none 0 0, .slice none 0 0, .slice none 0 0, .int .i64 0, .slice none 0 0, .slice none 0 0, .slice none 0 0] rfl) Try.underlying45 rfl (by kernel_rfl)) rfl ?_
        rw [← HE.out]
        refine ⟨rfl, ?_⟩
        rw [HCC.out]
        exact fill_below (Nat.le_refl _) [.int .i64 0, .slice none 0 0, .slice none 0 0, .slice none 0 0, .slice none 0 0, .slice none 0 0, .slice none 0 0, .slice none 0 0, .int .i64 0, .slice none 0 0, .slice none 0 0, .slice none 0 0] 0 (pw_below_drewN HB0.out _)
      · have hlt : k < i := by have := HI.out.2; omega
        have hq := mark_same hk hk8 (HM.out.2.2.1 k hlt)
        have HE := Lib.hid hlt
        clear he hlt
        go_wp2_with (fail)
        go_quiet (fail)
        go_wp2_with (fail)
        go_roundg (i - k)
        case measure => have := HI.out.1; have := HE.out; omega
        case rel => exact ⟨k + 1, _, rfl, rfl, ⟨by have := HI.out.1; have := HE.out; omega, HE.out⟩⟩
end Go.Proofs.Ythpgjeiglhdciaa.SN

/- The decoder: members, balances. (printed by gen_dec.py) -/
namespace Go.Proofs.Ythpgjeiglhdciaa.SN
open Go Go.RowKit Go.Proofs Go.Proofs.Ythpgjeiglhdciaa.PL Go.Proofs.YthpgjeiglhdciaaW.PrintWords Go.Proofs.YthpgjeiglhdciaaW.PrintLast Go.Proofs.YthpgjeiglhdciaaW.PrintMore
/-- One of the members, read. -/
def membersR (s : Bs) : St → S68 × St := mapR (fun p : Int × Int × Int × Bs × Bool => (⟨p.1, bst (p.2.2.2.1), p.2.1, p.2.2.1, p.2.2.2.2⟩ : S68)) (andR (iR s) (andR (iR s) (andR (iR s) (andR (tR s 160) (bR s)))))
theorem membersR_good (s : Bs) : Good s (membersR s) membersE := (Good.map ((iR_good s).and ((iR_good s).and ((iR_good s).and ((tR_good s 160).and (bR_good s))))) _ _ (fun a => by simp only [membersE, lst_bst]))
set_option maxRecDepth 100000 in
set_option maxHeartbeats 2000000 in
theorem members_any {w : World} {q : Nat} {s : ByteArray} {st : St} (h : RD w q s st) (hs : s.size ≤ 140737488355328) (ha : st.at' ≤ s.size) :
    Calls Try.prog 25 #[.agg #[.pointer (some ⟨q, 0, none⟩)]] w fun o w' => ∃ v, o = .returned v ∧ Hid (k68.R 68 w' w.heap.size (fun _ => True) v (lR (lst s) (membersR (lst s)) st).1 ∧ RD w' q s (lR (lst s) (membersR (lst s)) st).2 ∧ w.grownBy w' (some q)) := by
  have hu := count_box h hs ha
  have hf := ((cR_good (lst s) 4096).fwd st (by rw [lst_len]; exact ha)).2
  rw [lst_len] at hf
  have hle := cR_le (lst s) 4096 st
  obtain ⟨⟨n, st0⟩, hr⟩ : ∃ r, cR (lst s) 4096 st = r := ⟨_, rfl⟩
  have hN : lR (lst s) (membersR (lst s)) st = repR (membersR (lst s)) n st0 := by
    unfold lR
    rw [hr]
  rw [hr] at hu hf hle
  simp only at hu hf hle
  obtain ⟨g, hg⟩ : ∃ g, w.heap.size = g := ⟨_, rfl⟩
  have hq := h.lt
  rw [hg] at hu hq
  have HU := Lib.hid hu
  have HN := Lib.hid hN
  have HF := Lib.hid (And.intro hf (And.intro hle (And.intro hs hq)))
  have HG := Lib.hid hg
  clear h ha hu hr hN hf hle hs hq
  go_enter Try.func25, Try.ntmps25
  rw [hg]
  go_wp2_with (go_at_call 45; refine HU.out.mono ?_; rintro e w1 ⟨rfl, H1⟩)
  try simp only [hg]
  clear hg
  go_loopg [3, 8] (n + 1) (fun kq v3 v7 w' => ∃ k : Nat, v7 = .int .i64 k ∧ Hid (kq + k = n + 1 ∧ k ≤ n ∧ k68.R 68 w' (g + 1) (fun _ => True) v3 (repR (membersR (lst s)) k st0).1 ∧ RD w' q s (repR (membersR (lst s)) k st0).2 ∧ BX w' g q ∧ w.grownBy w' (some q)))
  case atStart =>
    exact ⟨0, rfl, ⟨rfl, Nat.zero_le _, Kd.R_nil _ _ _ _ _, H1.out.2.1, H1.out.1, H1.out.2.2⟩⟩
  case round =>
    obtain ⟨k, rfl, HI⟩ := hrel
    by_cases hk : k < n
    · have q2 : ((k : Int) < (n : Int)) = True := eq_true (by omega)
      have hl64 : wrap64 ((k : Int) + 1) = ((k + 1 : Nat) : Int) := by
        have h3 := HF.out.2.1
        show wrap64 ((k + 1 : Nat) : Int) = _
        exact wrap_nat (by omega)
      have HK := Lib.hid hk
      have Hw := Lib.hid hl64
      have hfw := repR_fwd (membersR_good (lst s)) k st0 (by rw [lst_len]; exact HF.out.1)
      rw [lst_len] at hfw
      have hsn := repR_snoc (membersR (lst s)) k st0
      obtain ⟨⟨xs, st1⟩, hrk⟩ : ∃ r, repR (membersR (lst s)) k st0 = r := ⟨_, rfl⟩
      have hlen := repR_len (membersR (lst s)) k st0
      have HI2 := HI.out
      rw [hrk] at HI2 hfw hsn hlen
      simp only at HI2 hfw hsn hlen
      have l0 := hfw.2
      have hp : membersR (lst s) st1 = (⟨(iR (lst s) st1).1, bst (tR (lst s) 160 (iR (lst s) (iR (lst s) (iR (lst s) st1).2).2).2).1, (iR (lst s) (iR (lst s) st1).2).1, (iR (lst s) (iR (lst s) (iR (lst s) st1).2).2).1, (bR (lst s) (tR (lst s) 160 (iR (lst s) (iR (lst s) (iR (lst s) st1).2).2).2).2).1⟩, (bR (lst s) (tR (lst s) 160 (iR (lst s) (iR (lst s) (iR (lst s) st1).2).2).2).2).2) := rfl
      rw [hp] at hsn
      obtain ⟨⟨y1, st2⟩, hy1⟩ : ∃ r, iR (lst s) st1 = r := ⟨_, rfl⟩
      rw [hy1] at hsn
      simp only at hsn
      have E1 := Lib.hid hy1
      obtain ⟨⟨y2, st3⟩, hy2⟩ : ∃ r, iR (lst s) st2 = r := ⟨_, rfl⟩
      rw [hy2] at hsn
      simp only at hsn
      have E2 := Lib.hid hy2
      obtain ⟨⟨y3, st4⟩, hy3⟩ : ∃ r, iR (lst s) st3 = r := ⟨_, rfl⟩
      rw [hy3] at hsn
      simp only at hsn
      have E3 := Lib.hid hy3
      obtain ⟨⟨y4, st5⟩, hy4⟩ : ∃ r, tR (lst s) 160 st4 = r := ⟨_, rfl⟩
      rw [hy4] at hsn
      simp only at hsn
      have E4 := Lib.hid hy4
      obtain ⟨⟨y5, st6⟩, hy5⟩ : ∃ r, bR (lst s) st5 = r := ⟨_, rfl⟩
      rw [hy5] at hsn
      simp only at hsn
      have E5 := Lib.hid hy5
      have HS := Lib.hid hsn
      have HB := Lib.hid (And.intro HI2.2.2.2.2.1 (And.intro HF.out.2.2.2 (Nat.lt_trans HF.out.2.2.2 HI2.2.2.2.2.1.lt)))
      have PP := Lib.hid (DP.start HI2.2.2.2.1 HF.out.2.2.1 l0)
      have HJ := Lib.hid (And.intro HI2.2.2.1 (And.intro (Nat.succ_le_of_lt HI2.2.2.2.2.1.lt) (show (xs.length + 1) * 48 ≤ 140737488355328 by have := HF.out.2.1; omega)))
      have hSD : wr.drew.cell? ⟨g, 0, none⟩ = some (.pointer (some ⟨q, 0, none⟩)) := HI2.2.2.2.2.1.cell
      have HSA := Lib.hid (show ∀ (w' : World) (o : Obj), w'.cell? ⟨g, 0, none⟩ = some (.pointer (some ⟨q, 0, none⟩)) → (w'.alloc o).cell? ⟨g, 0, none⟩ = some (.pointer (some ⟨q, 0, none⟩)) from fun w' o h0 => ((Below.refl w'.heap.size w').alloc (Nat.le_refl _) o |>.cell (World.block_lt_of_cell? w' _ h0)).trans h0)
      have HSD := Lib.hid (show ∀ o : Obj, (wr.alloc o).drew.cell? ⟨g, 0, none⟩ = some (.pointer (some ⟨q, 0, none⟩)) from fun o => HSA.out wr o HI2.2.2.2.2.1.cell)
      have PD := Lib.hid (fun cs T => ((DP.start0 HI2.2.2.2.1 HF.out.2.2.1 l0).alloc HB.out.2.2 cs T).drew)
      clear hk hl64 hfw hsn hrk hlen HI2 hp l0 hy1 hy2 hy3 hy4 hy5
      go_upto_region 4 with (fail)
      go_cut [4] (fun v4 wx => ∃ G, v4 = .pointer (some ⟨G, 0, none⟩) ∧ Hid (DS wr wx q G s st4 #[.int .i64 y1, .string ⟨#[]⟩, .int .i64 y2, .int .i64 y3, .bool false] 68))
      case first =>
        go_region_held3 (fun w' => w'.cell? ⟨g, 0, none⟩ = some (.pointer (some ⟨q, 0, none⟩)))
          (first | with_reducible assumption | with_reducible exact HSD.out _ | with_reducible exact HSA.out _ _ (by with_reducible assumption) | ((repeat (with_reducible refine cell_off (by with_reducible assumption) ?_)); with_reducible assumption))
          (first
            | (go_at_call 24; refine (DS.int PL.out E3.out).mono ?_; rintro e wv ⟨rfl, PL⟩; have kx := PL.out.bx HB.out.1 HB.out.2.1; have hGg := PL.out.away HB.out.1.lt; have zz0 : (_ : Option Value) = some (.int .i64 0) := PL.out.cell 0; have ff0 := PL.out.frz 0; have zz1 : (_ : Option Value) = some (.string ⟨#[]⟩) := PL.out.cell 1; have ff1 := PL.out.frz 1; have zz2 : (_ : Option Value) = some (.int .i64 0) := PL.out.cell 2; have ff2 := PL.out.frz 2; have zz3 : (_ : Option Value) = some (.int .i64 0) := PL.out.cell 3; have ff3 := PL.out.frz 3; have zz4 : (_ : Option Value) = some (.bool false) := PL.out.cell 4; have ff4 := PL.out.frz 4)
            | (go_at_call 24; refine (DS.int (PP.out.alloc HB.out.2.2 _ _) E3.out).mono ?_; rintro e wv ⟨rfl, PL⟩; have kx := PL.out.bx HB.out.1 HB.out.2.1; have hGg := PL.out.away HB.out.1.lt; have zz0 : (_ : Option Value) = some (.int .i64 0) := PL.out.cell 0; have ff0 := PL.out.frz 0; have zz1 : (_ : Option Value) = some (.string ⟨#[]⟩) := PL.out.cell 1; have ff1 := PL.out.frz 1; have zz2 : (_ : Option Value) = some (.int .i64 0) := PL.out.cell 2; have ff2 := PL.out.frz 2; have zz3 : (_ : Option Value) = some (.int .i64 0) := PL.out.cell 3; have ff3 := PL.out.frz 3; have zz4 : (_ : Option Value) = some (.bool false) := PL.out.cell 4; have ff4 := PL.out.frz 4)
            | (go_at_call 24; refine (DP.int PP.out E3.out).mono ?_; rintro e wv ⟨rfl, PP⟩; have kx := PP.out.bx HB.out.1 HB.out.2.1)
            | (go_at_call 24; refine (DS.int PL.out E2.out).mono ?_; rintro e wv ⟨rfl, PL⟩; have kx := PL.out.bx HB.out.1 HB.out.2.1)
            | (go_at_call 24; refine (DS.int (PP.out.alloc HB.out.2.2 _ _) E2.out).mono ?_; rintro e wv ⟨rfl, PL⟩; have kx := PL.out.bx HB.out.1 HB.out.2.1)
            | (go_at_call 24; refine (DP.int PP.out E2.out).mono ?_; rintro e wv ⟨rfl, PP⟩; have kx := PP.out.bx HB.out.1 HB.out.2.1)
            | (go_at_call 24; refine (DS.int PL.out E1.out).mono ?_; rintro e wv ⟨rfl, PL⟩; have kx := PL.out.bx HB.out.1 HB.out.2.1)
            | (go_at_call 24; refine (DS.int (PD.out _ _) E1.out).mono ?_; rintro e wv ⟨rfl, PL⟩; have kx := PL.out.bx HB.out.1 HB.out.2.1)
            | (go_at_call 24; refine (DS.int (PP.out.alloc HB.out.2.2 _ _) E1.out).mono ?_; rintro e wv ⟨rfl, PL⟩; have kx := PL.out.bx HB.out.1 HB.out.2.1)
            | (go_at_call 24; refine (DP.int PP.out E1.out).mono ?_; rintro e wv ⟨rfl, PP⟩; have kx := PP.out.bx HB.out.1 HB.out.2.1))
        all_goals (go_wp2_with (fail); go_meet; first | exact ⟨_, rfl, PL.out.fill [.int .i64 y1, .string ⟨#[]⟩, .int .i64 y2, .int .i64 y3, .bool false] rfl⟩ | exact ⟨_, rfl, PP.out.alloc HB.out.2.2 _ _⟩)
      case rest =>
        obtain ⟨G, rfl, HD⟩ := hcut
        have kx := HD.out.bx HB.out.1 HB.out.2.1
        go_upto_region 7 with (first
          | (go_at_call 47; refine (DS.bool (H4.out.set 1 _) E5.out).mono ?_; rintro e v5 ⟨rfl, H5⟩; have kx5 := H5.out.bx HB.out.1 HB.out.2.1; have z5_0 : v5.cell? ⟨G, 0, none⟩ = some (.int .i64 y1) := H5.out.cell 0; have z5_1 : v5.cell? ⟨G, 1, none⟩ = some (.string (bst y4)) := H5.out.cell 1; have z5_2 : v5.cell? ⟨G, 2, none⟩ = some (.int .i64 y2) := H5.out.cell 2; have z5_3 : v5.cell? ⟨G, 3, none⟩ = some (.int .i64 y3) := H5.out.cell 3; have z5_4 : v5.cell? ⟨G, 4, none⟩ = some (.bool false) := H5.out.cell 4; have f5_4 := H5.out.frz 4)
          | (go_at_call 46; refine (DS.text HD.out E4.out).mono ?_; rintro e v4 ⟨rfl, H4⟩; have kx4 := H4.out.bx HB.out.1 HB.out.2.1; have z4_1 : v4.cell? ⟨G, 1, none⟩ = some (.string ⟨#[]⟩) := H4.out.cell 1; have f4_1 := H4.out.frz 1))
        obtain ⟨W, hW⟩ : ∃ W, v5.setCell ⟨G, 4, none⟩ (.bool y5) = W := ⟨_, rfl⟩
        rw [hW]
        have HZ := Lib.hid (show DS wr W q G s st6 #[.int .i64 y1, .string (bst y4), .int .i64 y2, .int .i64 y3, .bool y5] 68 from hW ▸ (H5.out.set 4 _).to rfl)
        have e0 : W.cell? ⟨G, 0, none⟩ = some (.int .i64 y1) := HZ.out.cell 0
        have e1 : W.cell? ⟨G, 1, none⟩ = some (.string (bst y4)) := HZ.out.cell 1
        have e2 : W.cell? ⟨G, 2, none⟩ = some (.int .i64 y2) := HZ.out.cell 2
        have e3 : W.cell? ⟨G, 3, none⟩ = some (.int .i64 y3) := HZ.out.cell 3
        have e4 : W.cell? ⟨G, 4, none⟩ = some (.bool y5) := HZ.out.cell 4
        have HQ := Lib.hid (And.intro (row_keep HJ.out.1 HZ.out.gr (Nat.lt_succ_of_lt HB.out.2.1)) (And.intro (Nat.le_trans HJ.out.2.1 HZ.out.gr.size) (HB.out.1.grown HZ.out.gr HB.out.2.1)))
        clear hW
        go_wp2_with (at_builtin; refine Kd.R_append k68 (w0 := W) (W := W) (g + 1) (by rfl) (.tmp 28) (.tmp 30) 38 68 (.agg #[(.int .i64 0), (.string ⟨#[]⟩), (.int .i64 0), (.int .i64 0), (.bool false)]) 48 rfl Try.underlying38 info68 rfl (by decide) (by decide) u3 xs ⟨y1, bst y4, y2, y3, y5⟩ [.int .i64 y1, .string (bst y4), .int .i64 y2, .int .i64 y3, .bool y5] (fun _ => True) (fun _ => False) rfl rfl (k68_mkM _ _ _ _) (fun _ h => h.elim) (fun _ _ => trivial) HQ.out.1 (Below.refl _ _) HQ.out.2.1 HJ.out.2.2 ?_; intro v1 wz ho hb hg5 hat; have H5 := Lib.hid (And.intro ho hg5); clear ho hb hg5 hat)
        go_roundg (n - k)
        case measure => have := HI.out.1; have := HK.out; omega
        case rel =>
          have hb := Kd.R_base HQ.out.1
          refine ⟨k + 1, by rw [Hw.out], ⟨by have := HI.out.1; have := HK.out; omega, HK.out, ?_, ?_, ?_, ?_⟩⟩
          · rw [HS.out]; exact H5.out.1
          · rw [HS.out]; exact HZ.out.rd.row H5.out.2 (Nat.lt_succ_of_lt HB.out.2.1) hb
          · exact HQ.out.2.2.row H5.out.2 (Nat.lt_succ_self g) hb
          · exact grown_row (grown_then HI.out.2.2.2.2.2 HZ.out.gr) H5.out.2 (fun k hk => by have := hb k hk; have := HG.out; omega)
    · have q2 : ((k : Int) < (n : Int)) = False := eq_false (by omega)
      obtain rfl : k = n := by have := HI.out.2.1; omega
      clear hk
      go_wp2_with (fail)
      go_ret
      rw [HN.out]
      exact ⟨_, rfl, ⟨Kd.R_lower HI.out.2.2.1 (by have := HG.out; omega), HI.out.2.2.2.1, HI.out.2.2.2.2.2⟩⟩
/-- One of the balances, read. -/
def balancesR (s : Bs) : St → S73 × St := mapR (fun p : Int × Int × Bs × Int => (⟨⟨p.1, p.2.1, bst (p.2.2.1)⟩, p.2.2.2⟩ : S73)) (andR (iR s) (andR (iR s) (andR (tR s 160) (iR s))))
theorem balancesR_good (s : Bs) : Good s (balancesR s) balancesE := (Good.map ((iR_good s).and ((iR_good s).and ((tR_good s 160).and (iR_good s)))) _ _ (fun a => by simp only [balancesE, lst_bst]))
set_option maxRecDepth 100000 in
set_option maxHeartbeats 2000000 in
theorem balances_any {w : World} {q : Nat} {s : ByteArray} {st : St} (h : RD w q s st) (hs : s.size ≤ 140737488355328) (ha : st.at' ≤ s.size) :
    Calls Try.prog 29 #[.agg #[.pointer (some ⟨q, 0, none⟩)]] w fun o w' => ∃ v, o = .returned v ∧ Hid (k73.R 73 w' w.heap.size (fun _ => True) v (lR (lst s) (balancesR (lst s)) st).1 ∧ RD w' q s (lR (lst s) (balancesR (lst s)) st).2 ∧ w.grownBy w' (some q)) := by
  have hu := count_box h hs ha
  have hf := ((cR_good (lst s) 4096).fwd st (by rw [lst_len]; exact ha)).2
  rw [lst_len] at hf
  have hle := cR_le (lst s) 4096 st
  obtain ⟨⟨n, st0⟩, hr⟩ : ∃ r, cR (lst s) 4096 st = r := ⟨_, rfl⟩
  have hN : lR (lst s) (balancesR (lst s)) st = repR (balancesR (lst s)) n st0 := by
    unfold lR
    rw [hr]
  rw [hr] at hu hf hle
  simp only at hu hf hle
  obtain ⟨g, hg⟩ : ∃ g, w.heap.size = g := ⟨_, rfl⟩
  have hq := h.lt
  rw [hg] at hu hq
  have HU := Lib.hid hu
  have HN := Lib.hid hN
  have HF := Lib.hid (And.intro hf (And.intro hle (And.intro hs hq)))
  have HG := Lib.hid hg
  clear h ha hu hr hN hf hle hs hq
  go_enter Try.func29, Try.ntmps29
  rw [hg]
  go_wp2_with (go_at_call 45; refine HU.out.mono ?_; rintro e w1 ⟨rfl, H1⟩)
  try simp only [hg]
  clear hg
  go_loopg [3, 8] (n + 1) (fun kq v3 v7 w' => ∃ k : Nat, v7 = .int .i64 k ∧ Hid (kq + k = n + 1 ∧ k ≤ n ∧ k73.R 73 w' (g + 1) (fun _ => True) v3 (repR (balancesR (lst s)) k st0).1 ∧ RD w' q s (repR (balancesR (lst s)) k st0).2 ∧ BX w' g q ∧ w.grownBy w' (some q)))
  case atStart =>
    exact ⟨0, rfl, ⟨rfl, Nat.zero_le _, Kd.R_nil _ _ _ _ _, H1.out.2.1, H1.out.1, H1.out.2.2⟩⟩
  case round =>
    obtain ⟨k, rfl, HI⟩ := hrel
    by_cases hk : k < n
    · have q2 : ((k : Int) < (n : Int)) = True := eq_true (by omega)
      have hl64 : wrap64 ((k : Int) + 1) = ((k + 1 : Nat) : Int) := by
        have h3 := HF.out.2.1
        show wrap64 ((k + 1 : Nat) : Int) = _
        exact wrap_nat (by omega)
      have HK := Lib.hid hk
      have Hw := Lib.hid hl64
      have hfw := repR_fwd (balancesR_good (lst s)) k st0 (by rw [lst_len]; exact HF.out.1)
      rw [lst_len] at hfw
      have hsn := repR_snoc (balancesR (lst s)) k st0
      obtain ⟨⟨xs, st1⟩, hrk⟩ : ∃ r, repR (balancesR (lst s)) k st0 = r := ⟨_, rfl⟩
      have hlen := repR_len (balancesR (lst s)) k st0
      have HI2 := HI.out
      rw [hrk] at HI2 hfw hsn hlen
      simp only at HI2 hfw hsn hlen
      have l0 := hfw.2
      have hp : balancesR (lst s) st1 = (⟨⟨(iR (lst s) st1).1, (iR (lst s) (iR (lst s) st1).2).1, bst (tR (lst s) 160 (iR (lst s) (iR (lst s) st1).2).2).1⟩, (iR (lst s) (tR (lst s) 160 (iR (lst s) (iR (lst s) st1).2).2).2).1⟩, (iR (lst s) (tR (lst s) 160 (iR (lst s) (iR (lst s) st1).2).2).2).2) := rfl
      rw [hp] at hsn
      obtain ⟨⟨y1, st2⟩, hy1⟩ : ∃ r, iR (lst s) st1 = r := ⟨_, rfl⟩
      rw [hy1] at hsn
      simp only at hsn
      have E1 := Lib.hid hy1
      obtain ⟨⟨y2, st3⟩, hy2⟩ : ∃ r, iR (lst s) st2 = r := ⟨_, rfl⟩
      rw [hy2] at hsn
      simp only at hsn
      have E2 := Lib.hid hy2
      obtain ⟨⟨y3, st4⟩, hy3⟩ : ∃ r, tR (lst s) 160 st3 = r := ⟨_, rfl⟩
      rw [hy3] at hsn
      simp only at hsn
      have E3 := Lib.hid hy3
      obtain ⟨⟨y4, st5⟩, hy4⟩ : ∃ r, iR (lst s) st4 = r := ⟨_, rfl⟩
      rw [hy4] at hsn
      simp only at hsn
      have E4 := Lib.hid hy4
      have HS := Lib.hid hsn
      have HB := Lib.hid (And.intro HI2.2.2.2.2.1 (And.intro HF.out.2.2.2 (Nat.lt_trans HF.out.2.2.2 HI2.2.2.2.2.1.lt)))
      have PP := Lib.hid (DP.start HI2.2.2.2.1 HF.out.2.2.1 l0)
      have HJ := Lib.hid (And.intro HI2.2.2.1 (And.intro (Nat.succ_le_of_lt HI2.2.2.2.2.1.lt) (show (xs.length + 1) * 40 ≤ 140737488355328 by have := HF.out.2.1; omega)))
      have hSD : wr.drew.cell? ⟨g, 0, none⟩ = some (.pointer (some ⟨q, 0, none⟩)) := HI2.2.2.2.2.1.cell
      have HSA := Lib.hid (show ∀ (w' : World) (o : Obj), w'.cell? ⟨g, 0, none⟩ = some (.pointer (some ⟨q, 0, none⟩)) → (w'.alloc o).cell? ⟨g, 0, none⟩ = some (.pointer (some ⟨q, 0, none⟩)) from fun w' o h0 => ((Below.refl w'.heap.size w').alloc (Nat.le_refl _) o |>.cell (World.block_lt_of_cell? w' _ h0)).trans h0)
      have HSD := Lib.hid (show ∀ o : Obj, (wr.alloc o).drew.cell? ⟨g, 0, none⟩ = some (.pointer (some ⟨q, 0, none⟩)) from fun o => HSA.out wr o HI2.2.2.2.2.1.cell)
      have PD := Lib.hid (fun cs T => ((DP.start0 HI2.2.2.2.1 HF.out.2.2.1 l0).alloc HB.out.2.2 cs T).drew)
      clear hk hl64 hfw hsn hrk hlen HI2 hp l0 hy1 hy2 hy3 hy4
      go_upto_region 4 with (fail)
      go_cut [4] (fun v4 wx => ∃ G, v4 = .pointer (some ⟨G, 0, none⟩) ∧ Hid (DS wr wx q G s st4 #[.int .i64 y1, .int .i64 y2, .string (bst y3), .int .i64 0] 73))
      case first =>
        go_region_held3 (fun w' => w'.cell? ⟨g, 0, none⟩ = some (.pointer (some ⟨q, 0, none⟩)))
          (first | with_reducible assumption | with_reducible exact HSD.out _ | with_reducible exact HSA.out _ _ (by with_reducible assumption) | ((repeat (with_reducible refine cell_off (by with_reducible assumption) ?_)); with_reducible assumption))
          (first
            | (go_at_call 46; refine (DS.text PL.out E3.out).mono ?_; rintro e wv ⟨rfl, PL⟩; have kx := PL.out.bx HB.out.1 HB.out.2.1; have hGg := PL.out.away HB.out.1.lt; have zz0 : (_ : Option Value) = some (.int .i64 0) := PL.out.cell 0; have ff0 := PL.out.frz 0; have zz1 : (_ : Option Value) = some (.int .i64 0) := PL.out.cell 1; have ff1 := PL.out.frz 1; have zz2 : (_ : Option Value) = some (.string ⟨#[]⟩) := PL.out.cell 2; have ff2 := PL.out.frz 2; have zz3 : (_ : Option Value) = some (.int .i64 0) := PL.out.cell 3; have ff3 := PL.out.frz 3)
            | (go_at_call 46; refine (DS.text (PP.out.alloc HB.out.2.2 _ _) E3.out).mono ?_; rintro e wv ⟨rfl, PL⟩; have kx := PL.out.bx HB.out.1 HB.out.2.1; have hGg := PL.out.away HB.out.1.lt; have zz0 : (_ : Option Value) = some (.int .i64 0) := PL.out.cell 0; have ff0 := PL.out.frz 0; have zz1 : (_ : Option Value) = some (.int .i64 0) := PL.out.cell 1; have ff1 := PL.out.frz 1; have zz2 : (_ : Option Value) = some (.string ⟨#[]⟩) := PL.out.cell 2; have ff2 := PL.out.frz 2; have zz3 : (_ : Option Value) = some (.int .i64 0) := PL.out.cell 3; have ff3 := PL.out.frz 3)
            | (go_at_call 46; refine (DP.text PP.out E3.out).mono ?_; rintro e wv ⟨rfl, PP⟩; have kx := PP.out.bx HB.out.1 HB.out.2.1)
            | (go_at_call 24; refine (DS.int PL.out E2.out).mono ?_; rintro e wv ⟨rfl, PL⟩; have kx := PL.out.bx HB.out.1 HB.out.2.1)
            | (go_at_call 24; refine (DS.int (PP.out.alloc HB.out.2.2 _ _) E2.out).mono ?_; rintro e wv ⟨rfl, PL⟩; have kx := PL.out.bx HB.out.1 HB.out.2.1)
            | (go_at_call 24; refine (DP.int PP.out E2.out).mono ?_; rintro e wv ⟨rfl, PP⟩; have kx := PP.out.bx HB.out.1 HB.out.2.1)
            | (go_at_call 24; refine (DS.int PL.out E1.out).mono ?_; rintro e wv ⟨rfl, PL⟩; have kx := PL.out.bx HB.out.1 HB.out.2.1)
            | (go_at_call 24; refine (DS.int (PD.out _ _) E1.out).mono ?_; rintro e wv ⟨rfl, PL⟩; have kx := PL.out.bx HB.out.1 HB.out.2.1)
            | (go_at_call 24; refine (DS.int (PP.out.alloc HB.out.2.2 _ _) E1.out).mono ?_; rintro e wv ⟨rfl, PL⟩; have kx := PL.out.bx HB.out.1 HB.out.2.1)
            | (go_at_call 24; refine (DP.int PP.out E1.out).mono ?_; rintro e wv ⟨rfl, PP⟩; have kx := PP.out.bx HB.out.1 HB.out.2.1))
        all_goals (go_wp2_with (fail); go_meet; first | exact ⟨_, rfl, PL.out.fill [.int .i64 y1, .int .i64 y2, .string (bst y3), .int .i64 0] rfl⟩ | exact ⟨_, rfl, PP.out.alloc HB.out.2.2 _ _⟩)
      case rest =>
        obtain ⟨G, rfl, HD⟩ := hcut
        have kx := HD.out.bx HB.out.1 HB.out.2.1
        go_upto_region 6 with (first
          | (go_at_call 24; refine (DS.int HD.out E4.out).mono ?_; rintro e v4 ⟨rfl, H4⟩; have kx4 := H4.out.bx HB.out.1 HB.out.2.1; have z4_0 : v4.cell? ⟨G, 0, none⟩ = some (.int .i64 y1) := H4.out.cell 0; have z4_1 : v4.cell? ⟨G, 1, none⟩ = some (.int .i64 y2) := H4.out.cell 1; have z4_2 : v4.cell? ⟨G, 2, none⟩ = some (.string (bst y3)) := H4.out.cell 2; have z4_3 : v4.cell? ⟨G, 3, none⟩ = some (.int .i64 0) := H4.out.cell 3; have f4_3 := H4.out.frz 3))
        obtain ⟨W, hW⟩ : ∃ W, v4.setCell ⟨G, 3, none⟩ (.int .i64 y4) = W := ⟨_, rfl⟩
        rw [hW]
        have HZ := Lib.hid (show DS wr W q G s st5 #[.int .i64 y1, .int .i64 y2, .string (bst y3), .int .i64 y4] 73 from hW ▸ (H4.out.set 3 _).to rfl)
        have e0 : W.cell? ⟨G, 0, none⟩ = some (.int .i64 y1) := HZ.out.cell 0
        have e1 : W.cell? ⟨G, 1, none⟩ = some (.int .i64 y2) := HZ.out.cell 1
        have e2 : W.cell? ⟨G, 2, none⟩ = some (.string (bst y3)) := HZ.out.cell 2
        have e3 : W.cell? ⟨G, 3, none⟩ = some (.int .i64 y4) := HZ.out.cell 3
        have HQ := Lib.hid (And.intro (row_keep HJ.out.1 HZ.out.gr (Nat.lt_succ_of_lt HB.out.2.1)) (And.intro (Nat.le_trans HJ.out.2.1 HZ.out.gr.size) (HB.out.1.grown HZ.out.gr HB.out.2.1)))
        clear hW
        go_wp2_with (at_builtin; refine Kd.R_append k73 (w0 := W) (W := W) (g + 1) (by rfl) (.tmp 25) (.tmp 27) 41 73 (.agg #[(.int .i64 0), (.int .i64 0), (.string ⟨#[]⟩), (.int .i64 0)]) 40 rfl Try.underlying41 info73 rfl (by decide) (by decide) u3 xs ⟨⟨y1, y2, bst y3⟩, y4⟩ [.int .i64 y1, .int .i64 y2, .string (bst y3), .int .i64 y4] (fun _ => True) (fun _ => False) rfl rfl (k73_mkM _ _ _ _) (fun _ h => h.elim) (fun _ _ => trivial) HQ.out.1 (Below.refl _ _) HQ.out.2.1 HJ.out.2.2 ?_; intro v1 wz ho hb hg5 hat; have H5 := Lib.hid (And.intro ho hg5); clear ho hb hg5 hat)
        go_roundg (n - k)
        case measure => have := HI.out.1; have := HK.out; omega
        case rel =>
          have hb := Kd.R_base HQ.out.1
          refine ⟨k + 1, by rw [Hw.out], ⟨by have := HI.out.1; have := HK.out; omega, HK.out, ?_, ?_, ?_, ?_⟩⟩
          · rw [HS.out]; exact H5.out.1
          · rw [HS.out]; exact HZ.out.rd.row H5.out.2 (Nat.lt_succ_of_lt HB.out.2.1) hb
          · exact HQ.out.2.2.row H5.out.2 (Nat.lt_succ_self g) hb
          · exact grown_row (grown_then HI.out.2.2.2.2.2 HZ.out.gr) H5.out.2 (fun k hk => by have := hb k hk; have := HG.out; omega)
    · have q2 : ((k : Int) < (n : Int)) = False := eq_false (by omega)
      obtain rfl : k = n := by have := HI.out.2.1; omega
      clear hk
      go_wp2_with (fail)
      go_ret
      rw [HN.out]
      exact ⟨_, rfl, ⟨Kd.R_lower HI.out.2.2.1 (by have := HG.out; omega), HI.out.2.2.2.1, HI.out.2.2.2.2.2⟩⟩
end Go.Proofs.Ythpgjeiglhdciaa.SN
