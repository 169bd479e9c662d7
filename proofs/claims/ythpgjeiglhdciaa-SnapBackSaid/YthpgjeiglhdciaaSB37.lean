/- Part 37 of the proof's texts: what the theorem needs of them. -/
import Derived.Test.YthpgjeiglhdciaaSB35
import Derived.Test.YthpgjeiglhdciaaSB36

set_option linter.unusedVariables false
set_option linter.unusedSimpArgs false
/- The round trip, plain: what is written is read as it was. -/
namespace Go.Proofs.Ythpgjeiglhdciaa.SN
open Go Go.RowKit Go.Proofs Go.Proofs.Ythpgjeiglhdciaa.PL Go.Proofs.YthpgjeiglhdciaaW.PrintWords Go.Proofs.YthpgjeiglhdciaaW.PrintLast Go.Proofs.YthpgjeiglhdciaaW.PrintMore
theorem u8_nat {n : Nat} (h : n < 256) : (UInt8.ofNat n).toNat = n := by
  rw [UInt8.toNat_ofNat']
  omega
theorem rdU_H (m : Nat) : 1 ≤ m → m / 128 < 144115188075855872 → ∀ r : Bs, rdU (encH m ++ r) true 0 0 = rdU r false m (encH m).length := by
  induction m using Nat.strongRecOn with
  | ind m ih =>
    intro h1 h2 r
    by_cases hm : m < 128
    · rw [encH_small hm]
      show rdU (UInt8.ofNat (m + 128) :: r) true 0 0 = _
      rw [rdU, u8_nat (by omega), if_neg (by omega), if_neg (by omega)]
      have e1 : 0 * 128 + (m + 128 - 128) = m := by omega
      rw [e1]
      rfl
    · have e := encH_step (n := m / 128) (c := m % 128) (by omega) (Nat.mod_lt _ (by omega))
      have e2 : m / 128 * 128 + m % 128 = m := by omega
      rw [e2] at e
      rw [e, List.append_assoc, ih (m / 128) (by omega) (by omega) (by omega)]
      show rdU (UInt8.ofNat (m % 128 + 128) :: r) false (m / 128) _ = _
      rw [rdU, u8_nat (by omega), if_neg (by simp; omega), if_neg (by omega)]
      have e3 : m / 128 * 128 + (m % 128 + 128 - 128) = m := by omega
      rw [e3, List.length_append]
      rfl
theorem rdU_enc (n : Nat) (h : n < 18446744073709551616) (r : Bs) : rdU (encU n ++ r) true 0 0 = .inl (n, (encU n).length) := by
  unfold encU
  by_cases hn : n < 128
  · rw [if_pos hn]
    show rdU (UInt8.ofNat n :: r) true 0 0 = _
    rw [rdU, u8_nat (by omega), if_neg (by omega), if_pos (by omega)]
    have e1 : 0 * 128 + n = n := by omega
    rw [e1]
    rfl
  · rw [if_neg hn, List.append_assoc, rdU_H (n / 128) (by omega) (by omega)]
    show rdU (UInt8.ofNat (n % 128) :: r) false (n / 128) _ = _
    rw [rdU, u8_nat (by omega), if_neg (by simp; omega), if_pos (by omega)]
    have e3 : n / 128 * 128 + n % 128 = n := by omega
    rw [e3, List.length_append]
    rfl
/-- Where this is written, a reader reads it, and stands behind it. -/
def Back {α : Type} (s : Bs) (f : St → α × St) (e : α → Bs) (a : α) : Prop := ∀ (p : Nat) (post : Bs), s.drop p = e a ++ post → f ⟨p, 0⟩ = (a, ⟨p + (e a).length, 0⟩)
theorem Back.next {α : Type} {s : Bs} {e : α → Bs} {a : α} {p : Nat} {post : Bs} (h : s.drop p = e a ++ post) : s.drop (p + (e a).length) = post := by
  rw [← List.drop_drop, h, List.drop_left]
theorem Back.and {α β : Type} {s : Bs} {f : St → α × St} {g : St → β × St} {ea : α → Bs} {eb : β → Bs} {a : α} {b : β} (hf : Back s f ea a) (hg : Back s g eb b) : Back s (andR f g) (fun q => ea q.1 ++ eb q.2) (a, b) := by
  intro p post h
  have h1 : s.drop p = ea a ++ (eb b ++ post) := by rw [h, List.append_assoc]
  have h2 := hg _ post (Back.next h1)
  rw [andR_eq (hf p _ h1) h2, List.length_append, Nat.add_assoc]
theorem Back.map {α β : Type} {s : Bs} {f : St → α × St} {ea : α → Bs} {a : α} (k : α → β) {eb : β → Bs} {b : β} (hf : Back s f ea a) (hk : k a = b) (he : eb b = ea a) : Back s (mapR k f) eb b := by
  intro p post h
  rw [he] at h ⊢
  rw [mapR_eq k (hf p post h), hk]
theorem Back.rep {α : Type} {s : Bs} {f : St → α × St} {ea : α → Bs} : ∀ (l : List α), (∀ x ∈ l, Back s f ea x) → ∀ (p : Nat) (post : Bs), s.drop p = (l.map ea).flatten ++ post → repR f l.length ⟨p, 0⟩ = (l, ⟨p + ((l.map ea).flatten).length, 0⟩)
  | [], _, p, post, _ => rfl
  | x :: r, hl, p, post, h => by
    have h1 : s.drop p = ea x ++ ((r.map ea).flatten ++ post) := by rw [h, List.map_cons, List.flatten_cons, List.append_assoc]
    have h2 := hl x (List.mem_cons_self) p _ h1
    have h3 := Back.rep r (fun y hy => hl y (List.mem_cons_of_mem _ hy)) _ post (Back.next h1)
    show ((f ⟨p, 0⟩).1 :: (repR f r.length (f ⟨p, 0⟩).2).1, (repR f r.length (f ⟨p, 0⟩).2).2) = _
    rw [h2]
    show (x :: (repR f r.length ⟨p + (ea x).length, 0⟩).1, (repR f r.length ⟨p + (ea x).length, 0⟩).2) = _
    rw [h3, List.map_cons, List.flatten_cons, List.length_append, Nat.add_assoc]
theorem back_u (s : Bs) {n : Nat} (h : n < 18446744073709551616) : Back s (uR s) encU n := by
  intro p post hd
  unfold uR
  rw [if_neg (by show ¬ ((0 : Int) ≠ 0); decide), hd, rdU_enc n h post]
theorem back_i (s : Bs) {n : Int} (h : I64 n) : Back s (iR s) encI n := by
  have h1 : zag (zig n) = n := by
    unfold zig zag
    split <;> split <;> omega
  have h2 : zig n < 18446744073709551616 := by
    unfold zig
    unfold I64 at h
    split <;> omega
  exact (back_u s h2).map zag h1 rfl
theorem back_c (s : Bs) {n : Nat} (h : n ≤ 4096) : Back s (cR s 4096) encU n := by
  intro p post hd
  have h1 := back_u s (n := n) (by omega) p post hd
  unfold cR
  rw [h1, if_neg (by show ¬ ((0 : Int) ≠ 0); decide), if_neg (by omega)]
theorem back_t (s : Bs) {t : Bs} (h : t.length ≤ 160) : Back s (tR s 160) encT t := by
  intro p post hd
  have hd1 : s.drop p = encU t.length ++ (t ++ post) := by rw [hd]; unfold encT; rw [List.append_assoc]
  have h1 := back_u s (n := t.length) (by omega) p _ hd1
  have h2 := Back.next (e := encU) (a := t.length) hd1
  have hl := congrArg List.length h2
  rw [List.length_drop, List.length_append] at hl
  unfold tR
  rw [h1, if_neg (by show ¬ ((0 : Int) ≠ 0); decide), if_neg (by show ¬ 160 < t.length; omega), if_neg (by show ¬ s.length - (p + (encU t.length).length) < t.length; omega)]
  show ((s.drop (p + (encU t.length).length)).take t.length, (⟨p + (encU t.length).length + t.length, 0⟩ : St)) = _
  rw [h2, List.take_left]
  unfold encT
  rw [List.length_append, Nat.add_assoc]
theorem back_b (s : Bs) (b : Bool) : Back s (bR s) encB b := by
  intro p post hd
  unfold bR
  rw [if_neg (by show ¬ ((0 : Int) ≠ 0); decide), hd]
  cases b <;> rfl
theorem back_l {α : Type} {s : Bs} {f : St → α × St} {ea : α → Bs} {l : List α} (hn : l.length ≤ 4096) (hl : ∀ x ∈ l, Back s f ea x) : Back s (lR s f) (encL ea) l := by
  intro p post hd
  have hd1 : s.drop p = encU l.length ++ ((l.map ea).flatten ++ post) := by rw [hd]; unfold encL; rw [List.append_assoc]
  have h1 := back_c s hn p _ hd1
  have h2 := Back.rep l hl _ post (Back.next (e := encU) (a := l.length) hd1)
  unfold lR
  rw [h1]
  show repR f l.length ⟨p + (encU l.length).length, 0⟩ = _
  rw [h2]
  unfold encL
  rw [List.length_append, Nat.add_assoc]
theorem back_ns {s : Bs} {l : List Int} (hn : l.length ≤ 4096) (hl : ∀ x ∈ l, I64 x) : Back s (nsR s) (encL encI) l := by
  intro p post hd
  have h1 := back_l hn (fun x hx => back_i s (hl x hx)) p post hd
  unfold nsR
  rw [h1, if_neg (by show ¬ ((0 : Int) ≠ 0); decide)]
/-! The elements. -/
def tx (t : ByteArray) : Prop := (lst t).length ≤ 160
theorem back_members (s : Bs) {x : S68} (h : membersO x) (ht : tx x.f1) : Back s (membersR s) membersE x :=
  ((back_i s h.1).and ((back_i s h.2.1).and ((back_i s h.2.2).and ((back_t s ht).and (back_b s x.f4))))).map _ (by simp only [bst_lst]) rfl
theorem back_assets (s : Bs) {x : S57} (h : assetsO x) (ht : tx x.f0) (hu : tx x.f4) : Back s (assetsR s) assetsE x :=
  ((back_t s ht).and ((back_i s h.1).and ((back_i s h.2.1).and ((back_i s h.2.2).and (back_t s hu))))).map _ (by simp only [bst_lst]) rfl
theorem back_prices (s : Bs) {x : S70} (h : pricesO x) (ht : tx x.f0) : Back s (pricesR s) pricesE x :=
  ((back_t s ht).and (back_i s h)).map _ (by simp only [bst_lst]) rfl
theorem back_balances (s : Bs) {x : S73} (h : balancesO x) (ht : tx x.f0.f2) : Back s (balancesR s) balancesE x :=
  ((back_i s h.1).and ((back_i s h.2.1).and ((back_t s ht).and (back_i s h.2.2)))).map _ (by simp only [bst_lst]) rfl
theorem back_links (s : Bs) {x : S80} (h : linksO x) (ht : tx x.f2) : Back s (linksR s) linksE x :=
  ((back_i s h.1).and ((back_i s h.2.1).and ((back_t s ht).and (back_i s h.2.2)))).map _ (by simp only [bst_lst]) rfl
theorem back_quotes (s : Bs) {x : S127} (h : quotesO x) : Back s (quotesR s) quotesE x :=
  ((back_i s h.1).and ((back_i s h.2.1).and ((back_i s h.2.2.1).and ((back_i s h.2.2.2.1).and ((back_i s h.2.2.2.2.1).and ((back_i s h.2.2.2.2.2.1).and ((back_i s h.2.2.2.2.2.2.1).and (back_i s h.2.2.2.2.2.2.2)))))))).map _ rfl rfl
theorem back_lot (s : Bs) {x : S119} (h : lotO x) (ht : tx x.f0) : Back s (lotR s) lotE x :=
  ((back_t s ht).and (back_i s h)).map _ (by simp only [bst_lst]) rfl
theorem back_reset (s : Bs) {x : S129} (h : resetO x) : Back s (resetR s) resetE x := ((back_i s h.1).and (back_i s h.2)).map _ rfl rfl
theorem back_cut (s : Bs) {x : S124} (h : cutO x) : Back s (cutR s) cutE x := ((back_i s h.1).and ((back_i s h.2.1).and (back_i s h.2.2))).map _ rfl rfl
theorem back_covers (s : Bs) {x : S77} (h : coversO x) (hn : x.f1.length ≤ 4096) (ht : ∀ y ∈ x.f1, tx y.f0) : Back s (coversR s) coversE x :=
  ((back_i s h.1).and (back_l hn (fun y hy => back_lot s (h.2 y hy) (ht y hy)))).map _ rfl rfl
theorem back_trades (s : Bs) {x : S117} (h : tradesO x) (hn : x.f8.length ≤ 4096) : Back s (tradesR s) tradesE x :=
  ((back_i s h.1.1).and ((back_i s h.1.2.1).and ((back_i s h.1.2.2.1).and ((back_i s h.1.2.2.2.1).and ((back_i s h.1.2.2.2.2.1).and ((back_i s h.1.2.2.2.2.2.1).and ((back_i s h.1.2.2.2.2.2.2.1).and ((back_i s h.1.2.2.2.2.2.2.2.1).and ((back_i s h.1.2.2.2.2.2.2.2.2).and ((back_b s x.f10).and (back_l hn (fun y hy => back_reset s (h.2 y hy))))))))))))).map _ rfl rfl
theorem back_baskets (s : Bs) {x : S63} (h : basketsO x) (ht : tx x.f2) (hn : x.f6.length ≤ 4096) (hm : x.f9.length ≤ 4096) : Back s (basketsR s) basketsE x :=
  ((back_i s h.1.1).and ((back_i s h.1.2.1).and ((back_i s h.1.2.2.1).and ((back_i s h.1.2.2.2.1).and ((back_i s h.1.2.2.2.2.1).and ((back_i s h.1.2.2.2.2.2.1).and ((back_i s h.1.2.2.2.2.2.2).and ((back_t s ht).and ((back_l hn (fun y hy => back_cut s (h.2.1 y hy))).and (back_ns hm h.2.2)))))))))).map _ (by simp only [bst_lst]) rfl
/-- A view whose lists and texts are short. -/
structure VS (V : VW) : Prop where
  members : V.members.length ≤ 4096 ∧ ∀ x ∈ V.members, tx x.f1
  assets : V.assets.length ≤ 4096 ∧ ∀ x ∈ V.assets, tx x.f0 ∧ tx x.f4
  prices : V.prices.length ≤ 4096 ∧ ∀ x ∈ V.prices, tx x.f0
  baskets : V.baskets.length ≤ 4096 ∧ ∀ x ∈ V.baskets, tx x.f2 ∧ x.f6.length ≤ 4096 ∧ x.f9.length ≤ 4096
  balances : V.balances.length ≤ 4096 ∧ ∀ x ∈ V.balances, tx x.f0.f2
  quotes : V.quotes.length ≤ 4096
  trades : V.trades.length ≤ 4096 ∧ ∀ x ∈ V.trades, x.f8.length ≤ 4096
  covers : V.covers.length ≤ 4096 ∧ ∀ x ∈ V.covers, x.f1.length ≤ 4096 ∧ ∀ y ∈ x.f1, tx y.f0
  inn : V.inn.length ≤ 4096 ∧ ∀ x ∈ V.inn, tx x.f2
  outs : V.outs.length ≤ 4096 ∧ ∀ x ∈ V.outs, tx x.f2
theorem back_view (s : Bs) {V : VW} (h : VO V) (hs : VS V) : Back s (viewR s) encV V :=
  ((back_i s h.day).and ((back_i s h.next).and ((back_l hs.members.1 (fun x hx => back_members s (h.members x hx) (hs.members.2 x hx))).and ((back_l hs.assets.1 (fun x hx => back_assets s (h.assets x hx) (hs.assets.2 x hx).1 (hs.assets.2 x hx).2)).and ((back_l hs.prices.1 (fun x hx => back_prices s (h.prices x hx) (hs.prices.2 x hx))).and ((back_l hs.baskets.1 (fun x hx => back_baskets s (h.baskets x hx) (hs.baskets.2 x hx).1 (hs.baskets.2 x hx).2.1 (hs.baskets.2 x hx).2.2)).and ((back_l hs.balances.1 (fun x hx => back_balances s (h.balances x hx) (hs.balances.2 x hx))).and ((back_l hs.quotes (fun x hx => back_quotes s (h.quotes x hx))).and ((back_l hs.trades.1 (fun x hx => back_trades s (h.trades x hx) (hs.trades.2 x hx))).and ((back_l hs.covers.1 (fun x hx => back_covers s (h.covers x hx) (hs.covers.2 x hx).1 (hs.covers.2 x hx).2)).and ((back_l hs.inn.1 (fun x hx => back_links s (h.inn x hx) (hs.inn.2 x hx))).and (back_l hs.outs.1 (fun x hx => back_links s (h.outs x hx) (hs.outs.2 x hx)))))))))))))).map _ rfl (by simp only [encV, enL, List.map_cons, List.map_nil, List.flatten_cons, List.flatten_nil, List.append_assoc, List.append_nil])
/-- What is written is read as it was, to its end. -/
theorem view_back {V : VW} (h : VO V) (hs : VS V) : viewR (encV V) ⟨0, 0⟩ = (V, ⟨(encV V).length, 0⟩) ∧ endR (encV V) ⟨(encV V).length, 0⟩ = ⟨(encV V).length, 0⟩ := by
  constructor
  · have h1 := back_view (encV V) h hs 0 [] (by simp)
    rw [Nat.zero_add] at h1
    exact h1
  · unfold endR
    rw [if_neg (by show ¬ ((0 : Int) ≠ 0); decide), if_neg (by show ¬ (encV V).length < (encV V).length; omega)]
end Go.Proofs.Ythpgjeiglhdciaa.SN

/- A function that makes a view out of a view: its three blocks, and the list that it makes. -/
namespace Go.Proofs.Ythpgjeiglhdciaa.SN
open Go Go.RowKit Go.Proofs Go.Proofs.Ythpgjeiglhdciaa.PL Go.Proofs.YthpgjeiglhdciaaW.PrintWords Go.Proofs.YthpgjeiglhdciaaW.PrintLast Go.Proofs.YthpgjeiglhdciaaW.PrintMore
/-- The argument's block P, the result's C, the new view's G. -/
structure TV (w W : World) (P C G tp tc : Nat) (ps zs gs : Array Value) : Prop where
  p : W.heap[P]? = some (.cells ps tp (0, 0))
  c : W.heap[C]? = some (.cells zs tc (0, 0))
  g : W.heap[G]? = some (.cells gs tc (0, 0))
  b : Below P w W
  sz : w.heap.size = P
  pc : P < C
  cg : C < G
section
variable {w W W' : World} {P C G tp tc : Nat} {ps zs gs gs' : Array Value}
theorem TV.lt (h : TV w W P C G tp tc ps zs gs) : G < W.heap.size := (Array.getElem?_eq_some_iff.1 h.g).1
theorem TV.row (h : TV w W P C G tp tc ps zs gs) {row : Option Nat} (hg : W.grownBy W' row) (hr : ∀ k, row = some k → G < k) : TV w W' P C G tp tc ps zs gs := by
  have h1 := h.lt
  have h2 := h.pc
  have h3 := h.cg
  have n1 : some P ≠ row := fun e => by have := hr P e.symm; omega
  have n2 : some C ≠ row := fun e => by have := hr C e.symm; omega
  have n3 : some G ≠ row := fun e => by have := hr G e.symm; omega
  exact ⟨(hg.block P (by omega) n1).trans h.p, (hg.block C (by omega) n2).trans h.c, (hg.block G h1 n3).trans h.g, h.b.grown hg (by omega) (fun k hk => by have := hr k hk; omega), h.sz, h2, h3⟩
theorem TV.below (h : TV w W P C G tp tc ps zs gs) (hb : Below W.heap.size W W') : TV w W' P C G tp tc ps zs gs := by
  have h1 := h.lt
  have h2 := h.pc
  have h3 := h.cg
  exact ⟨(hb.block P (by omega)).trans h.p, (hb.block C (by omega)).trans h.c, (hb.block G h1).trans h.g, h.b.trans (hb.mono (by omega)), h.sz, h2, h3⟩
theorem TV.set (h : TV w W P C G tp tc ps zs gs) (j : Nat) (v : Value) : TV w (W.setCell ⟨G, j, none⟩ v) P C G tp tc ps zs (gs.setIfInBounds j v) := by
  have h2 := h.pc
  have h3 := h.cg
  exact ⟨(Below.heap_setCell _ _ _ _ (by show P ≠ G; omega)).trans h.p, (Below.heap_setCell _ _ _ _ (by show C ≠ G; omega)).trans h.c, set_mod h.g, h.b.setCell (p := ⟨G, j, none⟩) (by show P ≤ G; omega) v, h.sz, h2, h3⟩
theorem TV.to (h : TV w W P C G tp tc ps zs gs) (e : gs = gs') : TV w W P C G tp tc ps zs gs' := e ▸ h
theorem TV.cellP (h : TV w W P C G tp tc ps zs gs) (i : Nat) : W.cell? ⟨P, i, none⟩ = ps[i]? := cellsAt h.p i
theorem TV.cellG (h : TV w W P C G tp tc ps zs gs) (i : Nat) : W.cell? ⟨G, i, none⟩ = gs[i]? := cellsAt h.g i
theorem TV.frz (h : TV w W P C G tp tc ps zs gs) (i : Nat) : W.frozen? ⟨G, i, none⟩ = false := frzAt h.g i
theorem TV.frzC (h : TV w W P C G tp tc ps zs gs) (i : Nat) : W.frozen? ⟨C, i, none⟩ = false := frzAt h.c i
theorem TV.bw (h : TV w W P C G tp tc ps zs gs) : Below w.heap.size w W := by rw [h.sz]; exact h.b
end
/-- What holds of the lists made so far holds on, whatever becomes of block G and of what is new. -/
def FS (G : Nat) (Q : World → Prop) : Prop := ∀ W W' : World, W.grownBy W' (some G) → Q W → Q W'
theorem FS.nil (G : Nat) : FS G (fun _ => True) := fun _ _ _ _ => trivial
theorem FS.snoc {α : Type} {d : Kd α} {e G b : Nat} {Q : World → Prop} {v : Value} {xs : List α} (h : FS G Q) : FS G (fun W => Q W ∧ d.R e W b (fun k => k ≠ G) v xs) :=
  fun W W' hg hp => ⟨h W W' hg hp.1, Kd.R_grown hp.2 hg (fun k hk e => by injection e with e; exact hk e)⟩
/-- One list in the making: ws: the world where its loop began; u: the list so far. -/
structure LS {α : Type} (d : Kd α) (e : Nat) (w ws W : World) (P C G tp tc : Nat) (ps zs gs : Array Value) (u : Value) (xs : List α) : Prop where
  t : TV w W P C G tp tc ps zs gs
  gr : ws.grownBy W (some G)
  r : d.R e W ws.heap.size (fun k => k ≠ G) u xs
  lt : G < ws.heap.size
section
variable {α : Type} {d : Kd α} {e : Nat} {w ws W W' : World} {P C G tp tc : Nat} {ps zs gs gs' : Array Value} {u v1 : Value} {xs : List α}
theorem LS.start (h : TV w W P C G tp tc ps zs gs) : LS d e w W W P C G tp tc ps zs gs (.slice none 0 0) [] :=
  ⟨h, World.grownBy.refl _ _, Kd.R_nil _ _ _ _ _, h.lt⟩
theorem LS.below (h : LS d e w ws W P C G tp tc ps zs gs u xs) (hb : Below W.heap.size W W') : LS d e w ws W' P C G tp tc ps zs gs u xs :=
  ⟨h.t.below hb, h.gr.andThen (⟨hb.os, hb.tape, hb.output, hb.size, fun j hj _ => hb.block j hj⟩ : W.grownBy W' none) (fun j hj => by cases hj), Kd.R_below h.r hb, h.lt⟩
theorem LS.app {x : α} (h : LS d e w ws W P C G tp tc ps zs gs u xs) (hr : d.R e W' ws.heap.size (fun k => k ≠ G) v1 (xs ++ [x])) (hg : W.grownBy W' u.ownBlock) : LS d e w ws W' P C G tp tc ps zs gs v1 (xs ++ [x]) := by
  have hb := Kd.R_base h.r
  have hl := h.lt
  exact ⟨h.t.row hg (fun k hk => by have := hb k hk; omega), h.gr.andThen hg (fun j hj => .inl (hb j hj)), hr, hl⟩
theorem LS.set (h : LS d e w ws W P C G tp tc ps zs gs u xs) (j : Nat) (v : Value) : LS d e w ws (W.setCell ⟨G, j, none⟩ v) P C G tp tc ps zs (gs.setIfInBounds j v) u xs :=
  ⟨h.t.set j v, grown_then h.gr (grown_set W G j v), Kd.R_far h.r (p := ⟨G, j, none⟩) (fun k hk => hk) v, h.lt⟩
theorem LS.to (h : LS d e w ws W P C G tp tc ps zs gs u xs) (e0 : gs = gs') : LS d e w ws W P C G tp tc ps zs gs' u xs := e0 ▸ h
theorem LS.le (h : LS d e w ws W P C G tp tc ps zs gs u xs) : ws.heap.size ≤ W.heap.size := h.gr.size
theorem LS.fresh (h : LS d e w ws W P C G tp tc ps zs gs u xs) : ∀ k, W.heap.size ≤ k → k ≠ G := fun k hk e => by have := h.t.lt; omega
end
/-- Two lists whose elements are of different types, made side by side. -/
theorem other_app {α β : Type} {d : Kd α} {d2 : Kd β} {e e2 b : Nat} {G : Nat} {W W' : World} {u u2 : Value} {xs : List α} {ys : List β} (h2 : d2.R e2 W b (fun k => k ≠ G) u2 ys) (h : d.R e W b (fun k => k ≠ G) u xs) (hg : W.grownBy W' u.ownBlock) (hne : ∀ q, q ∈ e2 :: d2.E → q ≠ e) : d2.R e2 W' b (fun k => k ≠ G) u2 ys := by
  obtain ⟨inner, hown⟩ := Kd.R_own h
  cases hu : u.ownBlock with
  | none =>
    rw [hu] at hg
    exact Kd.R_grown h2 hg (fun k _ e => by cases e)
  | some k =>
    obtain ⟨cells, hc⟩ := own_typed hown k hu
    rw [hu] at hg
    exact Kd.R_mono (Kd.R_grown (Kd.R_types h2 hc hne) hg (fun j hj e => by injection e with e; exact hj.2 e)) (fun j hj => hj.1)
theorem below_R {β : Type} {d2 : Kd β} {e2 b : Nat} {G : Nat} {W W' : World} {u2 : Value} {ys : List β} (h2 : d2.R e2 W b (fun k => k ≠ G) u2 ys) (hb : Below W.heap.size W W') : d2.R e2 W' b (fun k => k ≠ G) u2 ys := Kd.R_below h2 hb
/-- A list whose elements have a slice of another list in them: as it lies in memory. -/
def kF : Kd (Int × Option Addr × Nat × Nat) := Kd.pair (Kd.int .i64) (Kd.scalar (fun p : Option Addr × Nat × Nat => Value.slice p.1 p.2.1 p.2.2) (fun _ => rfl))
theorem kF_mkM (w : World) (base : Nat) (ok : Nat → Prop) (n : Int) (A : Option Addr) (m c : Nat) : kF.M w base ok (n, A, m, c) [.int .i64 n, .slice A m c] := ⟨[.int .i64 n], [.slice A m c], rfl, rfl, rfl⟩
def Fl (w : World) (xs : List (Int × List S119)) (ys : List (Int × Option Addr × Nat × Nat)) : Prop := xs.length = ys.length ∧ ∀ (j : Nat) (x : Int × List S119), xs[j]? = some x → ∃ A c, ys[j]? = some (x.1, A, x.2.length, c) ∧ x.2.length ≤ c ∧ k119.C w A x.2.length x.2
theorem Fl.nil (w : World) : Fl w [] [] := ⟨rfl, fun j x h => by simp at h⟩
theorem Fl.snoc {w : World} {xs : List (Int × List S119)} {ys : List (Int × Option Addr × Nat × Nat)} (h : Fl w xs ys) (n : Int) (l : List S119) {A : Option Addr} {c : Nat} (hc : l.length ≤ c) (hC : k119.C w A l.length l) : Fl w (xs ++ [(n, l)]) (ys ++ [(n, A, l.length, c)]) := by
  have hl := h.1
  refine ⟨by simp [hl], fun j x hx => ?_⟩
  by_cases hj : j < xs.length
  · rw [List.getElem?_append_left hj] at hx
    obtain ⟨A1, c1, e1, e2, e3⟩ := h.2 j x hx
    exact ⟨A1, c1, by rw [List.getElem?_append_left (by omega)]; exact e1, e2, e3⟩
  · rw [List.getElem?_append_right (by omega)] at hx
    have hj2 : j = xs.length := by
      by_cases hk : j - xs.length < 1
      · omega
      · rw [List.getElem?_eq_none (by simp; omega)] at hx
        cases hx
    subst hj2
    rw [Nat.sub_self] at hx
    obtain rfl : (n, l) = x := by simpa using hx
    exact ⟨A, c, by rw [List.getElem?_append_right (by omega), hl, Nat.sub_self]; rfl, hc, hC⟩
theorem Fl.c77 {w W : World} {A : Option Addr} {zs : List S77} {ys : List (Int × Option Addr × Nat × Nat)} (h : Fl w (zs.map (fun z => (z.f0, z.f1))) ys) (hb : Below w.heap.size w W) (hC : kF.C W A ys.length ys) : k77.C W A zs.length zs := by
  have hl : zs.length = ys.length := by rw [← h.1, List.length_map]
  refine ⟨rfl, by rw [hl]; exact hC.2.1, fun h0 => ?_⟩
  obtain ⟨ad, rfl, hc⟩ := hC.2.2 (by omega)
  refine ⟨ad, rfl, fun j p hj => ?_⟩
  obtain ⟨A1, c1, e1, e2, e3⟩ := h.2 j (p.f0, p.f1) (by rw [List.getElem?_map, hj]; rfl)
  obtain ⟨cs, s1, s2, s3⟩ := hc j _ e1
  obtain ⟨_, _, rfl, rfl, rfl⟩ := s2
  exact ⟨_, s1, k77_mk W p e2 (Kd.C_below e3 hb), s3⟩
theorem Fl.c76 {w W : World} {A : Option Addr} {zs : List S76} {ys : List (Int × Option Addr × Nat × Nat)} (h : Fl w (zs.map (fun z => (z.f0, z.f1))) ys) (hb : Below w.heap.size w W) (hC : kF.C W A ys.length ys) : k76.C W A zs.length zs := by
  have hl : zs.length = ys.length := by rw [← h.1, List.length_map]
  refine ⟨rfl, by rw [hl]; exact hC.2.1, fun h0 => ?_⟩
  obtain ⟨ad, rfl, hc⟩ := hC.2.2 (by omega)
  refine ⟨ad, rfl, fun j p hj => ?_⟩
  obtain ⟨A1, c1, e1, e2, e3⟩ := h.2 j (p.f0, p.f1) (by rw [List.getElem?_map, hj]; rfl)
  obtain ⟨cs, s1, s2, s3⟩ := hc j _ e1
  obtain ⟨_, _, rfl, rfl, rfl⟩ := s2
  exact ⟨_, s1, k76_mk W p e2 (Kd.C_below e3 hb), s3⟩
/-- The elements so far, one more. -/
theorem map_next {α β : Type} (f : α → β) {xs : List α} {k : Nat} {x : α} (hx : xs[k]? = some x) : (xs.take (k + 1)).map f = (xs.take k).map f ++ [f x] := by
  rw [List.take_add_one, hx]
  simp
theorem map_len {α β : Type} (f : α → β) {xs : List α} {k : Nat} (h : k ≤ xs.length) : ((xs.take k).map f).length = k := by
  rw [List.length_map, List.length_take, Nat.min_eq_left h]
end Go.Proofs.Ythpgjeiglhdciaa.SN

/- The document's view in memory, and the view that is made of it. -/
namespace Go.Proofs.Ythpgjeiglhdciaa.SN
open Go Go.RowKit Go.Proofs Go.Proofs.Ythpgjeiglhdciaa.PL Go.Proofs.YthpgjeiglhdciaaW.PrintWords Go.Proofs.YthpgjeiglhdciaaW.PrintLast Go.Proofs.YthpgjeiglhdciaaW.PrintMore
/-- The document's view. -/
structure VR where
  day : Int
  members : List S55
  known : List S59
  baskets : List S63
  balances : List S67
  quotes : List S127
  trades : List S117
  next : Int
  covers : List S76
  inn : List S79
  outs : List S79
/-- It lies in memory. -/
structure RL (w : World) (V : VR) (A1 A2 A3 A4 A5 A6 A8 A9 A10 : Option Addr) : Prop where
  members : k55.C w A1 V.members.length V.members
  known : k59.C w A2 V.known.length V.known
  baskets : k63.C w A3 V.baskets.length V.baskets
  balances : k67.C w A4 V.balances.length V.balances
  quotes : k127.C w A5 V.quotes.length V.quotes
  trades : k117.C w A6 V.trades.length V.trades
  covers : k76.C w A8 V.covers.length V.covers
  inn : k79.C w A9 V.inn.length V.inn
  outs : k79.C w A10 V.outs.length V.outs
/-- Its slices' capacities. -/
structure RC (V : VR) (c1 c2 c3 c4 c5 c6 c8 c9 c10 : Nat) : Prop where
  members : V.members.length ≤ c1
  known : V.known.length ≤ c2
  baskets : V.baskets.length ≤ c3
  balances : V.balances.length ≤ c4
  quotes : V.quotes.length ≤ c5
  trades : V.trades.length ≤ c6
  covers : V.covers.length ≤ c8
  inn : V.inn.length ≤ c9
  outs : V.outs.length ≤ c10
structure VC (V : VW) (c1 c2 c3 c4 c5 c6 c7 c9 c10 c11 : Nat) : Prop where
  members : V.members.length ≤ c1
  assets : V.assets.length ≤ c2
  prices : V.prices.length ≤ c3
  baskets : V.baskets.length ≤ c4
  balances : V.balances.length ≤ c5
  quotes : V.quotes.length ≤ c6
  trades : V.trades.length ≤ c7
  covers : V.covers.length ≤ c9
  inn : V.inn.length ≤ c10
  outs : V.outs.length ≤ c11
/-- Its lists are short. -/
structure VB (V : VR) : Prop where
  members : V.members.length ≤ 4096
  known : V.known.length ≤ 4096
  baskets : V.baskets.length ≤ 4096
  balances : V.balances.length ≤ 4096
  quotes : V.quotes.length ≤ 4096
  trades : V.trades.length ≤ 4096
  covers : V.covers.length ≤ 4096
  inn : V.inn.length ≤ 4096
  outs : V.outs.length ≤ 4096
abbrev m68 (x : S55) : S68 := ⟨x.f0, x.f1, x.f2, x.f3, x.f4⟩
abbrev a57 (x : S59) : S57 := ⟨x.f0.f0, x.f0.f1, x.f0.f2, x.f0.f3, x.f0.f4⟩
abbrev p70 (x : S59) : S70 := ⟨x.f0.f0, x.f1⟩
abbrev b73 (x : S67) : S73 := ⟨⟨x.f0.f0, x.f0.f1, x.f0.f2⟩, x.f1⟩
abbrev c77 (x : S76) : S77 := ⟨x.f0, x.f1⟩
abbrev l80 (x : S79) : S80 := ⟨x.f0, x.f1, x.f2, x.f3⟩
/-- The program's view of the document's. -/
def ofV (V : VR) : VW := ⟨V.day, V.next, V.members.map m68, V.known.map a57, V.known.map p70, V.baskets, V.balances.map b73, V.quotes, V.trades, V.covers.map c77, V.inn.map l80, V.outs.map l80⟩
/-- Three blocks, one behind the other. -/
theorem TV.start (w : World) (ps zs gs : Array Value) (tp tc : Nat) : TV w (((w.alloc (.cells ps tp)).alloc (.cells zs tc)).alloc (.cells gs tc)) w.heap.size (w.heap.size + 1) (w.heap.size + 2) tp tc ps zs gs := by
  have h1 := (Go.MapKept.heap_alloc w (.cells ps tp)).1
  have h2 := (Go.MapKept.heap_alloc (w.alloc (.cells ps tp)) (.cells zs tc)).1
  have h3 := (Go.MapKept.heap_alloc ((w.alloc (.cells ps tp)).alloc (.cells zs tc)) (.cells gs tc)).1
  have s1 : (w.alloc (.cells ps tp)).heap.size = w.heap.size + 1 := by simp
  have s2 : ((w.alloc (.cells ps tp)).alloc (.cells zs tc)).heap.size = w.heap.size + 2 := by simp
  rw [s1] at h2
  rw [s2] at h3
  have b1 := below_alloc (Below.refl (w.alloc (.cells ps tp)).heap.size (w.alloc (.cells ps tp))) (.cells zs tc)
  have b2 := below_alloc (Below.refl ((w.alloc (.cells ps tp)).alloc (.cells zs tc)).heap.size ((w.alloc (.cells ps tp)).alloc (.cells zs tc))) (.cells gs tc)
  refine ⟨((b2.block w.heap.size (by rw [s2]; omega)).trans (b1.block w.heap.size (by rw [s1]; omega))).trans h1, (b2.block (w.heap.size + 1) (by rw [s2]; omega)).trans h2, h3, ?_, rfl, by omega, by omega⟩
  exact (((Below.refl w.heap.size w).alloc (Nat.le_refl _) _).alloc (by rw [s1]; omega) _).alloc (by rw [s2]; omega) _
theorem LS.app_ {α : Type} {d : Kd α} {e : Nat} {w ws W W' : World} {P C G tp tc k c : Nat} {A : Option Addr} {ps zs gs : Array Value} {v1 : Value} {xs : List α} {x : α} (h : LS d e w ws W P C G tp tc ps zs gs (.slice A k c) xs) (hk : xs.length = k) (hr : d.R e W' ws.heap.size (fun k => k ≠ G) v1 (xs ++ [x])) (hg : W.grownBy W' (Value.slice A k c).ownBlock) : ∃ A' c', v1 = .slice A' (k + 1) c' ∧ LS d e w ws W' P C G tp tc ps zs gs (.slice A' (k + 1) c') (xs ++ [x]) := by
  obtain ⟨A', c', e0⟩ := Kd.R_slice hr
  rw [List.length_append, hk] at e0
  have e1 : v1 = .slice A' (k + 1) c' := e0
  subst e1
  exact ⟨A', c', rfl, h.app hr hg⟩
theorem al_cell {W : World} {a : Addr} {v : Value} (h : W.cell? a = some v) (o : Obj) : (W.alloc o).cell? a = some v := ((Below.refl W.heap.size W).alloc (Nat.le_refl _) o |>.cell (World.block_lt_of_cell? W _ h)).trans h
theorem bel_cell {w W : World} {a : Addr} {v : Value} (hb : Below w.heap.size w W) (h : w.cell? a = some v) : W.cell? a = some v := (hb.cell (World.block_lt_of_cell? w _ h)).trans h
end Go.Proofs.Ythpgjeiglhdciaa.SN

/- The document's view of the program's: plain. -/
namespace Go.Proofs.Ythpgjeiglhdciaa.SN
open Go Go.RowKit Go.Proofs Go.Proofs.Ythpgjeiglhdciaa.PL Go.Proofs.YthpgjeiglhdciaaW.PrintWords Go.Proofs.YthpgjeiglhdciaaW.PrintLast Go.Proofs.YthpgjeiglhdciaaW.PrintMore
/-- Its lists are short. -/
structure WL4 (V : VW) : Prop where
  members : V.members.length ≤ 4096
  assets : V.assets.length ≤ 4096
  prices : V.prices.length ≤ 4096
  baskets : V.baskets.length ≤ 4096
  balances : V.balances.length ≤ 4096
  quotes : V.quotes.length ≤ 4096
  trades : V.trades.length ≤ 4096
  covers : V.covers.length ≤ 4096
  inn : V.inn.length ≤ 4096
  outs : V.outs.length ≤ 4096
/-- The last price of a security among so many. -/
def prc (l : List S70) (s : ByteArray) : Int := l.foldl (fun p z => if z.f0 = s then z.f1 else p) 0
theorem prc_next {l : List S70} {s : ByteArray} {j : Nat} {z : S70} (h : l[j]? = some z) : prc (l.take (j + 1)) s = if z.f0 = s then z.f1 else prc (l.take j) s := by
  unfold prc
  rw [List.take_add_one, h]
  simp only [Option.toList_some, List.foldl_append, List.foldl_cons, List.foldl_nil]
abbrev m55 (x : S68) : S55 := ⟨x.f0, x.f1, x.f2, x.f3, x.f4⟩
abbrev k59f (l : List S70) (x : S57) : S59 := ⟨⟨x.f0, x.f1, x.f2, x.f3, x.f4⟩, prc l x.f0⟩
abbrev b67 (x : S73) : S67 := ⟨⟨x.f0.f0, x.f0.f1, x.f0.f2⟩, x.f1⟩
abbrev c76 (x : S77) : S76 := ⟨x.f0, x.f1⟩
abbrev l79 (x : S80) : S79 := ⟨x.f0, x.f1, x.f2, x.f3⟩
def toldV (V : VW) : VR := ⟨V.day, V.members.map m55, V.assets.map (fun a => k59f V.prices a), V.baskets, V.balances.map b67, V.quotes, V.trades, V.next, V.covers.map c76, V.inn.map l79, V.outs.map l79⟩
/-- Ahead of the new view: the argument's block and the result's. -/
structure TP (w W : World) (P C tp tc : Nat) (ps zs : Array Value) : Prop where
  p : W.heap[P]? = some (.cells ps tp (0, 0))
  c : W.heap[C]? = some (.cells zs tc (0, 0))
  b : Below P w W
  sz : w.heap.size = P
  pc : P < C
  lt : C < W.heap.size
theorem TP.up {w W W' : World} {P C tp tc : Nat} {ps zs : Array Value} (h : TP w W P C tp tc ps zs) (hb : Below W.heap.size W W') : TP w W' P C tp tc ps zs :=
  ⟨(hb.block P (Nat.lt_trans h.pc h.lt)).trans h.p, (hb.block C h.lt).trans h.c, h.b.trans (hb.mono (Nat.le_of_lt (Nat.lt_trans h.pc h.lt))), h.sz, h.pc, Nat.lt_of_lt_of_le h.lt hb.size⟩
theorem TP.bw {w W : World} {P C tp tc : Nat} {ps zs : Array Value} (h : TP w W P C tp tc ps zs) : Below w.heap.size w W := by rw [h.sz]; exact h.b
theorem TP.start (w : World) (ps zs : Array Value) (tp tc : Nat) : TP w ((w.alloc (.cells ps tp)).alloc (.cells zs tc)) w.heap.size (w.heap.size + 1) tp tc ps zs := by
  have h1 := (Go.MapKept.heap_alloc w (.cells ps tp)).1
  have h2 := (Go.MapKept.heap_alloc (w.alloc (.cells ps tp)) (.cells zs tc)).1
  have s1 : (w.alloc (.cells ps tp)).heap.size = w.heap.size + 1 := by simp
  rw [s1] at h2
  have b1 := below_alloc (Below.refl (w.alloc (.cells ps tp)).heap.size (w.alloc (.cells ps tp))) (.cells zs tc)
  exact ⟨(b1.block w.heap.size (by rw [s1]; omega)).trans h1, h2, ((Below.refl w.heap.size w).alloc (Nat.le_refl _) _).alloc (by rw [s1]; omega) _, rfl, by omega, by simp⟩
theorem TP.new {w W : World} {P C tp tc : Nat} {ps zs : Array Value} (h : TP w W P C tp tc ps zs) (gs : Array Value) : TV w (W.alloc (.cells gs tc)) P C W.heap.size tp tc ps zs gs := by
  have h1 := h.up (below_alloc (Below.refl _ _) (.cells gs tc))
  exact ⟨h1.p, h1.c, (Go.MapKept.heap_alloc W _).1, h1.b, h.sz, h.pc, h.lt⟩
theorem TP.fill {w W : World} {P C G tp tc : Nat} {ps zs : Array Value} (h : TP w W P C tp tc ps zs) (hg : W.heap[G]? = some (.cells zs tc (0, 0))) (hG : C < G) (vs : List Value) (hv : vs.length = zs.size) : TV w (setAll W G vs 0) P C G tp tc ps zs vs.toArray := by
  have h2 := h.pc
  exact ⟨(set_heap (by omega) vs 0).trans h.p, (set_heap (by omega) vs 0).trans h.c, fill_block hg vs hv, fill_below (by omega) vs 0 h.b, h.sz, h2, hG⟩
theorem six_set' {W : World} {P G : Nat} {v0 v1 v2 v3 v4 v5 : Value} (hne : P ≠ G) (vs : List Value) (h : W.cell? ⟨P, 0, none⟩ = some v0 ∧ W.cell? ⟨P, 1, none⟩ = some v1 ∧ W.cell? ⟨P, 4, none⟩ = some v2 ∧ W.cell? ⟨P, 6, none⟩ = some v3 ∧ W.cell? ⟨P, 7, none⟩ = some v4 ∧ W.cell? ⟨P, 8, none⟩ = some v5) : (setAll W G vs 0).cell? ⟨P, 0, none⟩ = some v0 ∧ (setAll W G vs 0).cell? ⟨P, 1, none⟩ = some v1 ∧ (setAll W G vs 0).cell? ⟨P, 4, none⟩ = some v2 ∧ (setAll W G vs 0).cell? ⟨P, 6, none⟩ = some v3 ∧ (setAll W G vs 0).cell? ⟨P, 7, none⟩ = some v4 ∧ (setAll W G vs 0).cell? ⟨P, 8, none⟩ = some v5 :=
  ⟨(cell_all hne vs 0).trans h.1, (cell_all hne vs 0).trans h.2.1, (cell_all hne vs 0).trans h.2.2.1, (cell_all hne vs 0).trans h.2.2.2.1, (cell_all hne vs 0).trans h.2.2.2.2.1, (cell_all hne vs 0).trans h.2.2.2.2.2⟩
theorem kept_alloc {W w5 : World} {o : Obj} (hb : Below (W.alloc o).drew.heap.size (W.alloc o).drew w5) : w5.heap[W.heap.size]? = some o :=
  (hb.block W.heap.size (by show W.heap.size < (W.alloc o).heap.size; simp)).trans (Go.MapKept.heap_alloc W _).1
/-- The members' list, where the new view's block was there first; and where it came behind. -/
theorem row_first {α : Type} {d : Kd α} {e : Nat} {W w5 : World} {o : Obj} {v : Value} {xs : List α} (h : d.R e w5 (W.alloc o).drew.heap.size (fun _ => True) v xs) (vs : List Value) : d.R e (setAll w5 W.heap.size vs 0) W.heap.size (fun k => k ≠ W.heap.size) v xs := by
  have hs : (W.alloc o).drew.heap.size = W.heap.size + 1 := by show (W.alloc o).heap.size = _; simp
  rw [hs] at h
  exact Kd.R_lower (fill_row (Nat.lt_succ_self _) vs 0 (Kd.R_mono (Kd.R_bound h) (fun k hk => by have := hk.2.1; omega))) (Nat.le_succ _)
theorem row_behind {α : Type} {d : Kd α} {e : Nat} {W w5 : World} {v : Value} {xs : List α} (h : d.R e w5 W.drew.heap.size (fun _ => True) v xs) (o : Obj) : d.R e (w5.alloc o) W.heap.size (fun k => k ≠ w5.heap.size) v xs :=
  Kd.R_below (Kd.R_mono (Kd.R_bound h) (fun k hk => by have := hk.2.2.1; omega)) (below_alloc (Below.refl _ _) _)
theorem told57_l (l : List S68) (hl : l.length ≤ 4096) : ∀ (j i : Nat), i + j = l.length → lombardlaw30_Told.l0 (j + 1) l ((l.take i).map m55) (i : Int) = some (l.map m55)
  | 0, i, h => by
    unfold lombardlaw30_Told.l0
    rw [if_neg (by omega), List.take_of_length_le (by omega)]
  | j + 1, i, h => by
    unfold lombardlaw30_Told.l0
    rw [if_pos (by omega), if_pos (by omega), if_pos (by rw [List.length_map, List.length_take]; omega)]
    have hi : i < l.length := by omega
    have e1 : wrap64 ((i : Int) + 1) = ((i + 1 : Nat) : Int) := idx_next hi (by omega)
    have e2 : rd_T68 l (i : Int) = l[i] := by
      unfold rd_T68
      rw [Int.toNat_natCast, List.getD_eq_getElem?_getD, List.getElem?_eq_getElem hi]
      rfl
    rw [e1, e2, ← map_next m55 (List.getElem?_eq_getElem hi)]
    exact told57_l l hl j (i + 1) (by omega)
theorem told57 (l : List S68) (hl : l.length ≤ 4096) : lombardlaw30_Told.f (l.length + 1) l = some (l.map m55) := told57_l l hl l.length 0 (by omega)
end Go.Proofs.Ythpgjeiglhdciaa.SN

/- What is the same as itself: plain, for each of the lists. -/
namespace Go.Proofs.Ythpgjeiglhdciaa.SN
open Go Go.RowKit Go.Proofs Go.Proofs.Ythpgjeiglhdciaa.PL Go.Proofs.YthpgjeiglhdciaaW.PrintWords Go.Proofs.YthpgjeiglhdciaaW.PrintLast Go.Proofs.YthpgjeiglhdciaaW.PrintMore
theorem rref30_Same_l (l : List S55) (hl : l.length ≤ 9223372036854775806) : ∀ (k i : Nat), i ≤ l.length → l.length < i + k → lombardref30_Same.l0 k l l (i : Int) = some true
  | 0, i, h1, h2 => absurd h2 (by omega)
  | k + 1, i, h1, h2 => by
    unfold lombardref30_Same.l0
    by_cases hi : i < l.length
    · rw [if_pos (by omega), if_pos (by omega), if_pos (by omega), if_neg (by simp), idx_next hi (by omega)]
      exact rref30_Same_l l hl k (i + 1) (by omega) (by omega)
    · rw [if_neg (by omega)]
theorem rref30_Same (l : List S55) (hl : l.length ≤ 9223372036854775806) (k : Nat) (hk : l.length < k) : lombardref30_Same.f k l l = some true := by
  unfold lombardref30_Same.f
  rw [if_pos rfl]
  exact rref30_Same_l l hl k 0 (by omega) (by omega)
theorem rref10_Lots_l (l : List S119) (hl : l.length ≤ 9223372036854775806) : ∀ (k i : Nat), i ≤ l.length → l.length < i + k → lombardref10_Lots.l0 k l l (i : Int) = some true
  | 0, i, h1, h2 => absurd h2 (by omega)
  | k + 1, i, h1, h2 => by
    unfold lombardref10_Lots.l0
    by_cases hi : i < l.length
    · rw [if_pos (by omega), if_pos (by omega), if_pos (by omega), if_neg (by simp), idx_next hi (by omega)]
      exact rref10_Lots_l l hl k (i + 1) (by omega) (by omega)
    · rw [if_neg (by omega)]
theorem rref10_Lots (l : List S119) (hl : l.length ≤ 9223372036854775806) (k : Nat) (hk : l.length < k) : lombardref10_Lots.f k l l = some true := by
  unfold lombardref10_Lots.f
  rw [if_pos rfl]
  exact rref10_Lots_l l hl k 0 (by omega) (by omega)
theorem rref11_Same_l (l : List S67) (hl : l.length ≤ 9223372036854775806) : ∀ (k i : Nat), i ≤ l.length → l.length < i + k → lombardref11_Same.l0 k l l (i : Int) = some true
  | 0, i, h1, h2 => absurd h2 (by omega)
  | k + 1, i, h1, h2 => by
    unfold lombardref11_Same.l0
    by_cases hi : i < l.length
    · rw [if_pos (by omega), if_pos (by omega), if_pos (by omega), if_neg (by simp), idx_next hi (by omega)]
      exact rref11_Same_l l hl k (i + 1) (by omega) (by omega)
    · rw [if_neg (by omega)]
theorem rref11_Same (l : List S67) (hl : l.length ≤ 9223372036854775806) (k : Nat) (hk : l.length < k) : lombardref11_Same.f k l l = some true := by
  unfold lombardref11_Same.f
  rw [if_pos rfl]
  exact rref11_Same_l l hl k 0 (by omega) (by omega)
theorem rref21_Same_l (l : List S127) (hl : l.length ≤ 9223372036854775806) : ∀ (k i : Nat), i ≤ l.length → l.length < i + k → lombardref21_Same.l0 k l l (i : Int) = some true
  | 0, i, h1, h2 => absurd h2 (by omega)
  | k + 1, i, h1, h2 => by
    unfold lombardref21_Same.l0
    by_cases hi : i < l.length
    · rw [if_pos (by omega), if_pos (by omega), if_pos (by omega), if_neg (by simp), idx_next hi (by omega)]
      exact rref21_Same_l l hl k (i + 1) (by omega) (by omega)
    · rw [if_neg (by omega)]
theorem rref21_Same (l : List S127) (hl : l.length ≤ 9223372036854775806) (k : Nat) (hk : l.length < k) : lombardref21_Same.f k l l = some true := by
  unfold lombardref21_Same.f
  rw [if_pos rfl]
  exact rref21_Same_l l hl k 0 (by omega) (by omega)
theorem rref23_Resets_l (l : List S129) (hl : l.length ≤ 9223372036854775806) : ∀ (k i : Nat), i ≤ l.length → l.length < i + k → lombardref23_Resets.l0 k l l (i : Int) = some true
  | 0, i, h1, h2 => absurd h2 (by omega)
  | k + 1, i, h1, h2 => by
    unfold lombardref23_Resets.l0
    by_cases hi : i < l.length
    · rw [if_pos (by omega), if_pos (by omega), if_pos (by omega), if_neg (by simp), idx_next hi (by omega)]
      exact rref23_Resets_l l hl k (i + 1) (by omega) (by omega)
    · rw [if_neg (by omega)]
theorem rref23_Resets (l : List S129) (hl : l.length ≤ 9223372036854775806) (k : Nat) (hk : l.length < k) : lombardref23_Resets.f k l l = some true := by
  unfold lombardref23_Resets.f
  rw [if_pos rfl]
  exact rref23_Resets_l l hl k 0 (by omega) (by omega)
theorem rref20_Same_l (l : List S79) (hl : l.length ≤ 9223372036854775806) : ∀ (k i : Nat), i ≤ l.length → l.length < i + k → lombardref20_Same.l0 k l l (i : Int) = some true
  | 0, i, h1, h2 => absurd h2 (by omega)
  | k + 1, i, h1, h2 => by
    unfold lombardref20_Same.l0
    by_cases hi : i < l.length
    · rw [if_pos (by omega), if_pos (by omega), if_pos (by omega), if_neg (by simp), idx_next hi (by omega)]
      exact rref20_Same_l l hl k (i + 1) (by omega) (by omega)
    · rw [if_neg (by omega)]
theorem rref20_Same (l : List S79) (hl : l.length ≤ 9223372036854775806) (k : Nat) (hk : l.length < k) : lombardref20_Same.f k l l = some true := by
  unfold lombardref20_Same.f
  rw [if_pos rfl]
  exact rref20_Same_l l hl k 0 (by omega) (by omega)
theorem rref09_Same_l (l : List Int) (hl : l.length ≤ 9223372036854775806) : ∀ (k i : Nat), i ≤ l.length → l.length < i + k → lombardref09_Same.l0 k l l (i : Int) = some true
  | 0, i, h1, h2 => absurd h2 (by omega)
  | k + 1, i, h1, h2 => by
    unfold lombardref09_Same.l0
    by_cases hi : i < l.length
    · rw [if_pos (by omega), if_pos (by omega), if_pos (by omega), if_pos rfl, idx_next hi (by omega)]
      exact rref09_Same_l l hl k (i + 1) (by omega) (by omega)
    · rw [if_neg (by omega)]
theorem rref09_Same (l : List Int) (hl : l.length ≤ 9223372036854775806) (k : Nat) (hk : l.length < k) : lombardref09_Same.f k l l = some true := by
  unfold lombardref09_Same.f
  rw [if_pos rfl]
  exact rref09_Same_l l hl k 0 (by omega) (by omega)
theorem ref23_one (x : S117) (hl : x.f8.length ≤ 9223372036854775806) (k : Nat) (hk : x.f8.length < k) : lombardref23_Same.f k x.f0 x.f1 x.f2 x.f3 x.f4 x.f5 x.f6 x.f7 x.f8 x.f9 x.f10 x.f0 x.f1 x.f2 x.f3 x.f4 x.f5 x.f6 x.f7 x.f8 x.f9 x.f10 = some true := by
  unfold lombardref23_Same.f
  rw [if_pos rfl, if_pos rfl, if_pos rfl, if_pos rfl, if_pos rfl, if_pos rfl, if_pos rfl, if_pos rfl, if_pos rfl, if_pos (by simp), rref23_Resets x.f8 hl k hk]
  rfl
theorem rref23_All_l (l : List S117) (hl : l.length ≤ 9223372036854775806) (m : Nat) (hm : ∀ x ∈ l, x.f8.length ≤ m) (hm2 : m ≤ 9223372036854775806) : ∀ (k i : Nat), i ≤ l.length → l.length + m < i + k → lombardref23_All.l0 k l l (i : Int) = some true
  | 0, i, h1, h2 => absurd h2 (by omega)
  | k + 1, i, h1, h2 => by
    unfold lombardref23_All.l0
    by_cases hi : i < l.length
    · have hx : rd_T117 l (i : Int) ∈ l := by
        unfold rd_T117
        rw [Int.toNat_natCast, List.getD_eq_getElem?_getD, List.getElem?_eq_getElem hi]
        exact List.getElem_mem hi
      have h3 := hm _ hx
      rw [if_pos (by omega), if_pos (by omega), if_pos (by omega), ref23_one (rd_T117 l (i : Int)) (by omega) k (by omega), Option.bind_some, if_pos rfl, idx_next hi (by omega)]
      exact rref23_All_l l hl m hm hm2 k (i + 1) (by omega) (by omega)
    · rw [if_neg (by omega)]
theorem rref23_All (l : List S117) (hl : l.length ≤ 9223372036854775806) (m : Nat) (hm : ∀ x ∈ l, x.f8.length ≤ m) (hm2 : m ≤ 9223372036854775806) (k : Nat) (hk : l.length + m < k) : lombardref23_All.f k l l = some true := by
  unfold lombardref23_All.f
  rw [if_pos rfl]
  exact rref23_All_l l hl m hm hm2 k 0 (by omega) (by omega)
theorem rref10_Baskets_l (x : S63) (hl : x.f6.length ≤ 9223372036854775806) : ∀ (k i : Nat), i ≤ x.f6.length → x.f6.length < i + k → lombardref10_Baskets.l0 k (i : Int) x.f0 x.f1 x.f2 x.f3 x.f4 x.f5 x.f6 x.f7 x.f8 x.f9 x.f0 x.f1 x.f2 x.f3 x.f4 x.f5 x.f6 x.f7 x.f8 x.f9 = some true
  | 0, i, h1, h2 => absurd h2 (by omega)
  | k + 1, i, h1, h2 => by
    unfold lombardref10_Baskets.l0
    by_cases hi : i < x.f6.length
    · rw [if_pos (by omega), if_pos (by omega), if_pos (by omega), if_neg (by simp), idx_next hi (by omega)]
      exact rref10_Baskets_l x hl k (i + 1) (by omega) (by omega)
    · rw [if_neg (by omega)]
theorem rref10_Baskets (x : S63) (hl : x.f6.length ≤ 9223372036854775806) (hl9 : x.f9.length ≤ 9223372036854775806) (k : Nat) (hk : x.f6.length < k) (hk9 : x.f9.length < k) : lombardref10_Baskets.f (k + 2) x.f0 x.f1 x.f2 x.f3 x.f4 x.f5 x.f6 x.f7 x.f8 x.f9 x.f0 x.f1 x.f2 x.f3 x.f4 x.f5 x.f6 x.f7 x.f8 x.f9 = some true := by
  unfold lombardref10_Baskets.f
  rw [if_pos rfl, if_pos rfl, if_pos rfl, if_pos rfl, if_pos rfl, if_pos rfl, if_pos rfl]
  rw [lombardref10_Baskets.j0, if_neg (by simp), if_pos rfl, rref09_Same x.f9 hl9 (k + 1) (by omega), Option.bind_some]
  rw [lombardref10_Baskets.j1, if_neg (by decide)]
  exact rref10_Baskets_l x hl k 0 (by omega) (by omega)
end Go.Proofs.Ythpgjeiglhdciaa.SN

/- Same, and same, at empty views. (printed by gen_same37.py) -/
namespace Go.Proofs.Ythpgjeiglhdciaa.SN
open Go Go.RowKit Go.Proofs Go.Proofs.Ythpgjeiglhdciaa.PL Go.Proofs.YthpgjeiglhdciaaW.PrintWords Go.Proofs.YthpgjeiglhdciaaW.PrintLast Go.Proofs.YthpgjeiglhdciaaW.PrintMore
theorem drawn_below {w w' : World} (h : Drawn0 w w') : Below w.heap.size w w' := by
  obtain ⟨n, rfl⟩ := h
  exact pw_below_drewN (Below.refl _ _) _
/-- Both views' blocks stand. -/
structure TS (w W : World) (P Q : Nat) (A B : Option Addr) (c d : Nat) : Prop where
  p : W.heap[P]? = some (.cells #[.int .i64 0, .slice A 0 c, .slice none 0 0, .slice none 0 0, .slice none 0 0, .slice none 0 0, .slice none 0 0, .int .i64 0, .slice none 0 0, .slice none 0 0, .slice none 0 0] 35 (0, 0))
  q : W.heap[Q]? = some (.cells #[.int .i64 0, .slice B 0 d, .slice none 0 0, .slice none 0 0, .slice none 0 0, .slice none 0 0, .slice none 0 0, .int .i64 0, .slice none 0 0, .slice none 0 0, .slice none 0 0] 35 (0, 0))
  b : Below P w W
  pq : P < Q
  lt : Q < W.heap.size
theorem TS.up {w W W' : World} {P Q : Nat} {A B : Option Addr} {c d : Nat} (h : TS w W P Q A B c d) (hb : Below W.heap.size W W') : TS w W' P Q A B c d :=
  ⟨(hb.block P (Nat.lt_trans h.pq h.lt)).trans h.p, (hb.block Q h.lt).trans h.q, h.b.trans (hb.mono (Nat.le_of_lt (Nat.lt_trans h.pq h.lt))), h.pq, Nat.lt_of_lt_of_le h.lt hb.size⟩
theorem TS.start (w : World) (A B : Option Addr) (c d : Nat) : TS w ((w.alloc (.cells #[.int .i64 0, .slice A 0 c, .slice none 0 0, .slice none 0 0, .slice none 0 0, .slice none 0 0, .slice none 0 0, .int .i64 0, .slice none 0 0, .slice none 0 0, .slice none 0 0] 35)).alloc (.cells #[.int .i64 0, .slice B 0 d, .slice none 0 0, .slice none 0 0, .slice none 0 0, .slice none 0 0, .slice none 0 0, .int .i64 0, .slice none 0 0, .slice none 0 0, .slice none 0 0] 35)) w.heap.size (w.heap.size + 1) A B c d := by
  have h1 := (Go.MapKept.heap_alloc w (.cells #[.int .i64 0, .slice A 0 c, .slice none 0 0, .slice none 0 0, .slice none 0 0, .slice none 0 0, .slice none 0 0, .int .i64 0, .slice none 0 0, .slice none 0 0, .slice none 0 0] 35)).1
  have h2 := (Go.MapKept.heap_alloc (w.alloc (.cells #[.int .i64 0, .slice A 0 c, .slice none 0 0, .slice none 0 0, .slice none 0 0, .slice none 0 0, .slice none 0 0, .int .i64 0, .slice none 0 0, .slice none 0 0, .slice none 0 0] 35)) (.cells #[.int .i64 0, .slice B 0 d, .slice none 0 0, .slice none 0 0, .slice none 0 0, .slice none 0 0, .slice none 0 0, .int .i64 0, .slice none 0 0, .slice none 0 0, .slice none 0 0] 35)).1
  have hs : (w.alloc (.cells #[.int .i64 0, .slice A 0 c, .slice none 0 0, .slice none 0 0, .slice none 0 0, .slice none 0 0, .slice none 0 0, .int .i64 0, .slice none 0 0, .slice none 0 0, .slice none 0 0] 35)).heap.size = w.heap.size + 1 := by simp
  rw [hs] at h2
  exact ⟨((below_alloc (Below.refl (w.alloc (.cells #[.int .i64 0, .slice A 0 c, .slice none 0 0, .slice none 0 0, .slice none 0 0, .slice none 0 0, .slice none 0 0, .int .i64 0, .slice none 0 0, .slice none 0 0, .slice none 0 0] 35)).heap.size (w.alloc (.cells #[.int .i64 0, .slice A 0 c, .slice none 0 0, .slice none 0 0, .slice none 0 0, .slice none 0 0, .slice none 0 0, .int .i64 0, .slice none 0 0, .slice none 0 0, .slice none 0 0] 35))) _).block w.heap.size (by rw [hs]; exact Nat.lt_succ_self _)).trans h1, h2, ((Below.refl w.heap.size w).alloc (Nat.le_refl _) _).alloc (by rw [hs]; exact Nat.le_succ _) _, Nat.lt_succ_self _, by simp⟩
end Go.Proofs.Ythpgjeiglhdciaa.SN
