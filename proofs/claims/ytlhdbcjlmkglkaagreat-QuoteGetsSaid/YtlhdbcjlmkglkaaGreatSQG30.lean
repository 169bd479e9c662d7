/- Part 30 of the proof's texts: what the theorem needs of them. -/
import Derived.Test.YtlhdbcjlmkglkaaGreatSQG29

set_option linter.unusedVariables false
set_option linter.unusedSimpArgs false
/- slices.symMergeCmpFunc at quotes, whole; what it does, plain. -/
set_option linter.unusedSimpArgs false
set_option linter.unusedVariables false
namespace Go.Proofs.YtlhdbcjlmkglkaaGreat.Q
open Go Go.RowKit Go.Proofs Go.Proofs.YtlhdbcjlmkglkaaGreat.PL Go.Proofs.YtlhdbcjlmkglkaaGreat.StN Go.Proofs.YtlhdbcjlmkglkaaGreatW.PrintWords
def symL (cm : S24 → S24 → Int) : Nat → Nat → Nat → Nat → List S24 → List S24
  | 0, _, _, _, zs => zs
  | f + 1, a, m, b, zs =>
    if m = a + 1 then mvR (srch (pOne cm zs a) (b - m + 1) m b - 1 - a) a zs
    else if b = m + 1 then mvL (m - srch (pTwo cm zs m) (m - a + 1) a m) m zs
    else if (a + b) / 2 < m then
      midL (symL cm f) a m b ((a + b) / 2) (srch (pMid cm zs ((a + b) / 2 + m - 1)) ((a + b) / 2 - ((a + b) / 2 + m - b) + 1) ((a + b) / 2 + m - b) ((a + b) / 2)) ((a + b) / 2 + m - srch (pMid cm zs ((a + b) / 2 + m - 1)) ((a + b) / 2 - ((a + b) / 2 + m - b) + 1) ((a + b) / 2 + m - b) ((a + b) / 2)) zs
    else
      midL (symL cm f) a m b ((a + b) / 2) (srch (pMid cm zs ((a + b) / 2 + m - 1)) (m - a + 1) a m) ((a + b) / 2 + m - srch (pMid cm zs ((a + b) / 2 + m - 1)) (m - a + 1) a m) zs
theorem midL_len (T : Nat → Nat → Nat → List S24 → List S24) (hT : ∀ a m b zs, (T a m b zs).length = zs.length) (a m b mid st en : Nat) (zs : List S24) : (midL T a m b mid st en zs).length = zs.length := by
  unfold midL
  simp only
  split <;> split <;> split <;> simp only [hT, rotL_len]
theorem symL_len (cm : S24 → S24 → Int) : ∀ (f a m b : Nat) (zs : List S24), (symL cm f a m b zs).length = zs.length
  | 0, _, _, _, _ => rfl
  | f + 1, a, m, b, zs => by
    rw [symL]
    split
    · rw [mvR_len]
    · split
      · rw [mvL_len]
      · split
        · rw [midL_len _ (symL_len cm f)]
        · rw [midL_len _ (symL_len cm f)]
theorem sym_any (G k : Nat) (cv : Value) (cm : S24 → S24 → Int) (hp : CmpK G k cv cm) (eg : ∀ args w, (callFunc G args).run Tryz.prog w = .ok (.enter G args) w) (B : Nat) (ok : Nat → Prop) (g c L : Nat) (hkg : k ≠ g) (hlen : L ≤ 1000000) :
    ∀ (f a m b : Nat) (zs : List S24) (W : World), b - a ≤ f → a < m → m < b → b ≤ L → zs.length = L → Kd.R k24 24 W B ok (.slice (some ⟨g, 0, none⟩) L c) zs → W.cell? ⟨k, 0, none⟩ = some cv →
    Calls Tryz.prog 106 #[.slice (some ⟨g, 0, none⟩) L c, .int .i64 (a : Int), .int .i64 (m : Int), .int .i64 (b : Int), .func (.func G) #[] #[.pointer (some ⟨k, 0, none⟩)]] W fun e w' =>
      e = .returned (.tuple #[]) ∧ Kd.R k24 24 w' B ok (.slice (some ⟨g, 0, none⟩) L c) (symL cm f a m b zs) ∧ W.grownBy w' (some g)
  | 0, a, m, b, zs, W, h0, h1, h2, h3, h4, hR, hc => by omega
  | f + 1, a, m, b, zs, W, h0, h1, h2, h3, h4, hR, hc => by
    subst h4
    rw [symL]
    by_cases c1 : m = a + 1
    · rw [if_pos c1]
      exact sym_one G k cv cm hp eg B ok g c a m b zs W hR hc hkg hlen c1 h2 h3
    rw [if_neg c1]
    by_cases c2 : b = m + 1
    · rw [if_pos c2]
      exact sym_two G k cv cm hp eg B ok g c a m b zs W hR hc hkg hlen (by omega) c2 h3
    rw [if_neg c2]
    have H := fun (a' m' b' : Nat) (ys : List S24) (W' : World) (i1 : a' < m') (i2 : m' < b') (i3 : b' ≤ zs.length) (i4 : b' - a' < b - a) (i5 : ys.length = zs.length) (i6 : Kd.R k24 24 W' B ok (.slice (some ⟨g, 0, none⟩) zs.length c) ys) (i7 : W'.cell? ⟨k, 0, none⟩ = some cv) =>
      sym_any G k cv cm hp eg B ok g c zs.length hkg hlen f a' m' b' ys W' (by omega) i1 i2 i3 i5 i6 i7
    by_cases c3 : (a + b) / 2 < m
    · rw [if_pos c3]
      exact sym_midG G k cv cm hp eg B ok g c a m b _ _ _ zs W (symL cm f) (symL_len cm f) H hR hc hkg hlen (by omega) (by omega) h3 rfl c3 rfl rfl
    · rw [if_neg c3]
      exact sym_midL G k cv cm hp eg B ok g c a m b _ _ _ zs W (symL cm f) (symL_len cm f) H hR hc hkg hlen (by omega) (by omega) h3 rfl (by omega) rfl rfl
/- what it does -/
theorem srch_spec (p : Nat → Bool) : ∀ (f i j : Nat), i ≤ j → j - i < f → (srch p f i j = i ∨ p (srch p f i j - 1) = true) ∧ (srch p f i j = j ∨ p (srch p f i j) = false)
  | 0, i, j, h, hf => by omega
  | f + 1, i, j, h, hf => by
    rw [srch]
    split
    · next hij =>
      split
      · next hp =>
        obtain ⟨h1, h2⟩ := srch_spec p f ((i + j) / 2 + 1) j (by omega) (by omega)
        refine ⟨.inr ?_, h2⟩
        rcases h1 with h1 | h1
        · rw [h1]; exact hp
        · exact h1
      · next hp =>
        obtain ⟨h1, h2⟩ := srch_spec p f i ((i + j) / 2) (by omega) (by omega)
        refine ⟨h1, .inr ?_⟩
        rcases h2 with h2 | h2
        · rw [h2]; exact Bool.eq_false_iff.2 hp
        · exact h2
    · next hij => exact ⟨.inl rfl, .inl (by omega)⟩
theorem swrL_parts : ∀ (P X M Y S D E : List S24), X.length = Y.length → D.length = E.length →
    swrL P.length (P.length + (D.length + (X.length + M.length))) X.length D.length (P ++ (D ++ (X ++ (M ++ (E ++ (Y ++ S)))))) = P ++ (D ++ (Y ++ (M ++ (E ++ (X ++ S)))))
  | P, [], M, [], S, D, E, _, _ => rfl
  | P, [], M, y :: Y, S, D, E, h, _ => by simp at h
  | P, x :: X, M, [], S, D, E, h, _ => by simp at h
  | P, x :: X, M, y :: Y, S, D, E, h, hde => by
    rw [List.length_cons, swrL]
    have e1 : swpG z24 (P.length + D.length) (P.length + (D.length + (X.length + 1 + M.length)) + D.length) (P ++ (D ++ (x :: X ++ (M ++ (E ++ (y :: Y ++ S)))))) = P ++ (D ++ (y :: X ++ (M ++ (E ++ (x :: Y ++ S))))) := by
      have := swpG_parts z24 (P ++ D) (X ++ (M ++ E)) (Y ++ S) x y
      rw [List.length_append, List.length_append, List.length_append] at this
      rw [show P.length + (D.length + (X.length + 1 + M.length)) + D.length = P.length + D.length + (1 + (X.length + (M.length + E.length))) by omega]
      simp only [List.append_assoc, List.cons_append] at this ⊢
      exact this
    rw [e1]
    have := swrL_parts P X M Y S (D ++ [y]) (E ++ [x]) (by simpa using h) (by simp [hde])
    simp only [List.length_append, List.length_singleton, List.append_assoc, List.cons_append, List.nil_append] at this ⊢
    rw [show P.length + (D.length + (X.length + 1 + M.length)) = P.length + (D.length + 1 + (X.length + M.length)) by omega]
    exact this
theorem swrL_blocks (P X M Y S : List S24) (h : X.length = Y.length) (a b n : Nat) (ha : a = P.length) (hb : b = P.length + (X.length + M.length)) (hn : n = X.length) : swrL a b n 0 (P ++ (X ++ (M ++ (Y ++ S)))) = P ++ (Y ++ (M ++ (X ++ S))) := by
  subst ha hb hn
  have := swrL_parts P X M Y S [] [] h rfl
  simp only [List.length_nil, Nat.zero_add, List.nil_append] at this
  exact this
theorem rotL_parts (m : Nat) : ∀ (f : Nat) (P U V S : List S24), 0 < U.length → 0 < V.length → U.length + V.length ≤ f → P.length + U.length = m → rotL m f U.length V.length (P ++ (U ++ (V ++ S))) = P ++ (V ++ (U ++ S))
  | 0, P, U, V, S, h1, h2, h3, h4 => by omega
  | f + 1, P, U, V, S, h1, h2, h3, h4 => by
    rw [rotL]
    split
    · next he =>
      have := swrL_blocks P U [] V S he (m - U.length) m U.length (by omega) (by simp; omega) rfl
      simpa using this
    · next he =>
      split
      · next hl =>
        obtain ⟨U1, U2, rfl, e1⟩ : ∃ U1 U2, U = U1 ++ U2 ∧ U1.length = V.length := ⟨U.take V.length, U.drop V.length, (List.take_append_drop ..).symm, by rw [List.length_take]; omega⟩
        rw [List.length_append] at h1 h3 h4 hl he ⊢
        have e2 := swrL_blocks P U1 U2 V S e1 (m - (U1.length + U2.length)) m V.length (by omega) (by omega) e1.symm
        rw [List.append_assoc U1 U2, e2, show U1.length + U2.length - V.length = U2.length by omega]
        have := rotL_parts m f (P ++ V) U2 U1 S (by omega) (by omega) (by omega) (by rw [List.length_append]; omega)
        rw [e1] at this
        simp only [List.append_assoc] at this ⊢
        exact this
      · next hl =>
        obtain ⟨V1, V2, rfl, e1⟩ : ∃ V1 V2, V = V1 ++ V2 ∧ V2.length = U.length := ⟨V.take (V.length - U.length), V.drop (V.length - U.length), (List.take_append_drop ..).symm, by rw [List.length_drop]; omega⟩
        rw [List.length_append] at h2 h3 hl he ⊢
        have e2 := swrL_blocks P U V1 V2 S e1.symm (m - U.length) (m + (V1.length + V2.length) - U.length) U.length (by omega) (by omega) rfl
        rw [List.append_assoc V1 V2, e2, show V1.length + V2.length - U.length = V1.length by omega]
        have := rotL_parts m f P V2 V1 (U ++ S) (by omega) (by omega) (by omega) (by omega)
        rw [e1] at this
        simp only [List.append_assoc] at this ⊢
        exact this
theorem mvR_parts : ∀ (C : List S24) (P S : List S24) (x : S24), mvR C.length P.length (P ++ x :: (C ++ S)) = P ++ (C ++ x :: S)
  | [], P, S, x => rfl
  | y :: C, P, S, x => by
    rw [List.length_cons, mvR]
    have e : swpG z24 P.length (P.length + 1) (P ++ x :: (y :: C ++ S)) = P ++ y :: x :: (C ++ S) := swpG_near z24 P (C ++ S) x y
    rw [e]
    have := mvR_parts C (P ++ [y]) S x
    rw [List.length_append, List.length_singleton, List.append_assoc] at this
    simp only [List.append_assoc, List.cons_append, List.nil_append] at this ⊢
    exact this
theorem mvL_parts : ∀ (n : Nat) (C : List S24) (P S : List S24) (x : S24), C.length = n → mvL n (P.length + n) (P ++ (C ++ x :: S)) = P ++ x :: (C ++ S)
  | 0, C, P, S, x, h => by
    obtain rfl := List.length_eq_zero_iff.1 h
    rfl
  | n + 1, C, P, S, x, h => by
    obtain ⟨D, y, rfl⟩ : ∃ D y, C = D ++ [y] := ⟨C.dropLast, C.getLast (by intro e; rw [e] at h; cases h), (List.dropLast_concat_getLast _).symm⟩
    have hd : D.length = n := by simpa using h
    rw [mvL]
    have e := swpG_near' z24 (P ++ D) S y x
    rw [List.length_append, hd] at e
    rw [show P.length + (n + 1) - 1 = P.length + n by omega]
    simp only [List.append_assoc, List.cons_append, List.nil_append] at e ⊢
    rw [show P.length + (n + 1) = P.length + n + 1 by omega, e]
    exact mvL_parts n D P (y :: S) x hd
end Go.Proofs.YtlhdbcjlmkglkaaGreat.Q

/- What the merging and the insertion come to, plain. -/
set_option linter.unusedSimpArgs false
set_option linter.unusedVariables false
namespace Go.Proofs.YtlhdbcjlmkglkaaGreat.Q
open Go Go.RowKit Go.Proofs Go.Proofs.YtlhdbcjlmkglkaaGreat.PL Go.Proofs.YtlhdbcjlmkglkaaGreat.StN Go.Proofs.YtlhdbcjlmkglkaaGreatW.PrintWords
theorem rdN (zs : List S24) (h : Nat) : rd_T24 zs (h : Int) = zs.getD h z24 := rfl
theorem gdA (P A R : List S24) (u : Nat) (h : u < A.length) : (P ++ (A ++ R)).getD (P.length + u) z24 = A.getD u z24 := by rw [gd_app_r, gd_app_l _ _ _ _ h]
theorem gdB (P A B R : List S24) (u : Nat) (h : u < B.length) : (P ++ (A ++ (B ++ R))).getD (P.length + (A.length + u)) z24 = B.getD u z24 := by rw [gd_app_r, gd_app_r, gd_app_l _ _ _ _ h]
theorem stb_one {key : S24 → Int} {A V : List S24} (hA : Srt key A) (hV : Srt key V) (h : A.length = 0 ∨ V.length = 0) : Stb key (A ++ V) (A ++ V) := by
  rcases h with h | h
  · obtain rfl := List.length_eq_zero_iff.1 h; exact Stb.of_srt hV
  · obtain rfl := List.length_eq_zero_iff.1 h; rw [List.append_nil]; exact Stb.of_srt hA
theorem midL_stb (key : S24 → Int) (T : Nat → Nat → Nat → List S24 → List S24) (P A1 U V B2 S : List S24)
    (hT : ∀ (P A B S : List S24), 0 < A.length → 0 < B.length → A.length + B.length < A1.length + U.length + V.length + B2.length → Srt key A → Srt key B → ∃ M, Stb key (A ++ B) M ∧ T P.length (P.length + A.length) (P.length + (A.length + B.length)) (P ++ (A ++ (B ++ S))) = P ++ (M ++ S))
    (hA : Srt key (A1 ++ U)) (hB : Srt key (V ++ B2)) (h1 : ∀ x ∈ A1, ∀ y ∈ B2, key x ≤ key y) (h2 : ∀ u ∈ U, ∀ v ∈ V, key v < key u)
    (a m b mid st en : Nat) (ea : a = P.length) (em : m = P.length + (A1.length + U.length)) (eb : b = P.length + (A1.length + U.length + (V.length + B2.length))) (es : st = P.length + A1.length) (ee : en = m + V.length) (ei : mid = st + V.length) (hab : 0 < A1.length + U.length ∧ 0 < V.length + B2.length) (hmb : a < mid ∧ mid < b) :
    ∃ M, Stb key ((A1 ++ U) ++ (V ++ B2)) M ∧ midL T a m b mid st en (P ++ ((A1 ++ U) ++ ((V ++ B2) ++ S))) = P ++ (M ++ S) := by
  obtain ⟨a1, a2, a3⟩ := Srt.app.1 hA
  obtain ⟨b1, b2, b3⟩ := Srt.app.1 hB
  have z1 : (if st < m ∧ m < en then rotL m (m - st + (en - m)) (m - st) (en - m) (P ++ ((A1 ++ U) ++ ((V ++ B2) ++ S))) else (P ++ ((A1 ++ U) ++ ((V ++ B2) ++ S)))) = P ++ (A1 ++ (V ++ (U ++ (B2 ++ S)))) := by
    split
    · next h =>
      have := rotL_parts m (m - st + (en - m)) (P ++ A1) U V (B2 ++ S) (by omega) (by omega) (by omega) (by rw [List.length_append]; omega)
      rw [show m - st = U.length by omega, show en - m = V.length by omega] at this ⊢
      simp only [List.append_assoc] at this ⊢
      exact this
    · next h =>
      rcases Nat.eq_zero_or_pos U.length with h0 | h0
      · obtain rfl := List.length_eq_zero_iff.1 h0
        simp only [List.append_assoc, List.append_nil, List.nil_append]
      · have h3 : V.length = 0 := by omega
        obtain rfl := List.length_eq_zero_iff.1 h3
        simp only [List.append_assoc, List.append_nil, List.nil_append]
  obtain ⟨M1, s1, e1⟩ : ∃ M1, Stb key (A1 ++ V) M1 ∧ (if a < st ∧ st < mid then T a st mid (P ++ (A1 ++ (V ++ (U ++ (B2 ++ S))))) else (P ++ (A1 ++ (V ++ (U ++ (B2 ++ S)))))) = P ++ (M1 ++ (U ++ (B2 ++ S))) := by
    by_cases h : a < st ∧ st < mid
    · rw [if_pos h]
      obtain ⟨M, hM, e⟩ := hT P A1 V (U ++ (B2 ++ S)) (by omega) (by omega) (by omega) a1 b1
      refine ⟨M, hM, ?_⟩
      rw [ea, es, show mid = P.length + (A1.length + V.length) by omega]
      exact e
    · rw [if_neg h]
      exact ⟨A1 ++ V, stb_one a1 b1 (by omega), by simp only [List.append_assoc]⟩
  obtain ⟨M2, s2, e2⟩ : ∃ M2, Stb key (U ++ B2) M2 ∧ (if mid < en ∧ en < b then T mid en b (P ++ (M1 ++ (U ++ (B2 ++ S)))) else (P ++ (M1 ++ (U ++ (B2 ++ S))))) = P ++ (M1 ++ (M2 ++ S)) := by
    have hl := s1.len
    rw [List.length_append] at hl
    by_cases h : mid < en ∧ en < b
    · rw [if_pos h]
      obtain ⟨M, hM, e⟩ := hT (P ++ M1) U B2 S (by omega) (by omega) (by omega) a2 b2
      refine ⟨M, hM, ?_⟩
      rw [List.length_append] at e
      rw [show mid = P.length + M1.length by omega, show en = P.length + M1.length + U.length by omega, show b = P.length + M1.length + (U.length + B2.length) by omega]
      simp only [List.append_assoc] at e ⊢
      exact e
    · rw [if_neg h]
      exact ⟨U ++ B2, stb_one a2 b2 (by omega), by simp only [List.append_assoc]⟩
  refine ⟨M1 ++ M2, Stb.sym hA hB h1 h2 s1 s2, ?_⟩
  unfold midL
  simp only
  rw [z1, e1, e2]
  simp only [List.append_assoc]
theorem symL_stb (key : S24 → Int) (cm : S24 → S24 → Int) (hk : ∀ x y, cm x y < 0 ↔ key x < key y) : ∀ (f : Nat) (P A B S : List S24), 0 < A.length → 0 < B.length → A.length + B.length ≤ f → Srt key A → Srt key B →
    ∃ M, Stb key (A ++ B) M ∧ symL cm f P.length (P.length + A.length) (P.length + (A.length + B.length)) (P ++ (A ++ (B ++ S))) = P ++ (M ++ S)
  | 0, P, A, B, S, h1, h2, h3, hA, hB => by omega
  | f + 1, P, A, B, S, h1, h2, h3, hA, hB => by
    rw [symL]
    by_cases c1 : P.length + A.length = P.length + 1
    · rw [if_pos c1]
      obtain ⟨x, rfl⟩ : ∃ x, A = [x] := List.length_eq_one_iff.1 (by omega)
      rw [List.length_singleton]
      obtain ⟨hl1, hl2⟩ := srch_le (pOne cm (P ++ ([x] ++ (B ++ S))) P.length) (P.length + (1 + B.length) - (P.length + 1) + 1) (P.length + 1) (P.length + (1 + B.length)) (by omega)
      obtain ⟨hs1, hs2⟩ := srch_spec (pOne cm (P ++ ([x] ++ (B ++ S))) P.length) (P.length + (1 + B.length) - (P.length + 1) + 1) (P.length + 1) (P.length + (1 + B.length)) (by omega) (by omega)
      generalize srch (pOne cm (P ++ ([x] ++ (B ++ S))) P.length) (P.length + (1 + B.length) - (P.length + 1) + 1) (P.length + 1) (P.length + (1 + B.length)) = I at *
      obtain ⟨t, rfl⟩ : ∃ t, I = P.length + (1 + t) := ⟨I - P.length - 1, by omega⟩
      have hx : (P ++ ([x] ++ (B ++ S))).getD P.length z24 = x := gd_mid z24 P (B ++ S) x
      have hy : ∀ u, u < B.length → (P ++ ([x] ++ (B ++ S))).getD (P.length + (1 + u)) z24 = B.getD u z24 := fun u hu => gdB P [x] B S u hu
      have hsp := split_lt z24 hB t (by omega) (key x) (by
        rcases hs1 with hs1 | hs1
        · exact .inl (by omega)
        · rcases Nat.eq_zero_or_pos t with h0 | h0
          · exact .inl h0
          · refine .inr ?_
            unfold pOne at hs1
            rw [rdN, rdN, hx, show P.length + (1 + t) - 1 = P.length + (1 + (t - 1)) by omega, hy _ (by omega)] at hs1
            exact (hk _ _).1 (of_decide_eq_true hs1)) (by
        rcases hs2 with hs2 | hs2
        · exact .inl (by omega)
        · by_cases ht : t = B.length
          · exact .inl ht
          · refine .inr ?_
            unfold pOne at hs2
            rw [rdN, rdN, hx, hy _ (by omega)] at hs2
            have := of_decide_eq_false hs2
            rw [hk] at this
            omega)
      refine ⟨B.take t ++ [x] ++ B.drop t, ?_, ?_⟩
      · have := Stb.one_l x (B1 := B.take t) (B2 := B.drop t) (by rw [List.take_append_drop]; exact hB) hsp.1 hsp.2
        rw [List.take_append_drop] at this
        exact this
      · have e := mvR_parts (B.take t) P (B.drop t ++ S) x
        rw [List.length_take, Nat.min_eq_left (by omega), ← List.append_assoc (List.take t B), List.take_append_drop] at e
        rw [show P.length + (1 + t) - 1 - P.length = t by omega]
        simp only [List.append_assoc, List.cons_append, List.nil_append] at e ⊢
        exact e
    rw [if_neg c1]
    by_cases c2 : P.length + (A.length + B.length) = P.length + A.length + 1
    · rw [if_pos c2]
      obtain ⟨y, rfl⟩ : ∃ y, B = [y] := List.length_eq_one_iff.1 (by omega)
      have hsl := srch_le (pTwo cm (P ++ (A ++ ([y] ++ S))) (P.length + A.length)) (P.length + A.length - P.length + 1) P.length (P.length + A.length) (by omega)
      have hsp := srch_spec (pTwo cm (P ++ (A ++ ([y] ++ S))) (P.length + A.length)) (P.length + A.length - P.length + 1) P.length (P.length + A.length) (by omega) (by omega)
      generalize srch (pTwo cm (P ++ (A ++ ([y] ++ S))) (P.length + A.length)) (P.length + A.length - P.length + 1) P.length (P.length + A.length) = I at *
      obtain ⟨hl1, hl2⟩ := hsl
      obtain ⟨hs1, hs2⟩ := hsp
      obtain ⟨t, rfl⟩ : ∃ t, I = P.length + t := ⟨I - P.length, by omega⟩
      have hx : (P ++ (A ++ ([y] ++ S))).getD (P.length + A.length) z24 = y := gdB P A [y] S 0 (by simp)
      have hy : ∀ u, u < A.length → (P ++ (A ++ ([y] ++ S))).getD (P.length + u) z24 = A.getD u z24 := fun u hu => gdA P A _ u hu
      have hsp := split_le z24 hA t (by omega) (key y) (by
        rcases hs1 with hs1 | hs1
        · exact .inl (by omega)
        · rcases Nat.eq_zero_or_pos t with h0 | h0
          · exact .inl h0
          · refine .inr ?_
            unfold pTwo at hs1
            rw [rdN, rdN, hx, show P.length + t - 1 = P.length + (t - 1) by omega, hy _ (by omega), Bool.not_eq_true'] at hs1
            have := of_decide_eq_false hs1
            rw [hk] at this
            omega) (by
        rcases hs2 with hs2 | hs2
        · exact .inl (by omega)
        · by_cases ht : t = A.length
          · exact .inl ht
          · refine .inr ?_
            unfold pTwo at hs2
            rw [rdN, rdN, hx, hy _ (by omega), Bool.not_eq_false'] at hs2
            exact (hk _ _).1 (of_decide_eq_true hs2))
      refine ⟨A.take t ++ [y] ++ A.drop t, ?_, ?_⟩
      · have := Stb.one_r y (A1 := A.take t) (A2 := A.drop t) (by rw [List.take_append_drop]; exact hA) hsp.1 hsp.2
        rw [List.take_append_drop] at this
        exact this
      · have e := mvL_parts (A.length - t) (A.drop t) (P ++ A.take t) S y (by rw [List.length_drop])
        rw [List.length_append, List.length_take, Nat.min_eq_left (by omega), List.append_assoc P, ← List.append_assoc (List.take t A), List.take_append_drop] at e
        rw [show P.length + A.length - (P.length + t) = A.length - t by omega]
        rw [show P.length + t + (A.length - t) = P.length + A.length by omega] at e
        simp only [List.append_assoc, List.cons_append, List.nil_append] at e ⊢
        exact e
    rw [if_neg c2]
    have hT := fun (n : Nat) (hn : n ≤ f + 1) (P A B S : List S24) (i1 : 0 < A.length) (i2 : 0 < B.length) (i3 : A.length + B.length < n) (i4 : Srt key A) (i5 : Srt key B) => symL_stb key cm hk f P A B S i1 i2 (by omega) i4 i5
    have hgA : ∀ u, u < A.length → (P ++ (A ++ (B ++ S))).getD (P.length + u) z24 = A.getD u z24 := fun u hu => gdA P A _ u hu
    have hgB : ∀ u, u < B.length → (P ++ (A ++ (B ++ S))).getD (P.length + (A.length + u)) z24 = B.getD u z24 := fun u hu => gdB P A B S u hu
    have main : ∀ (mid lo hi : Nat), (P.length + (P.length + (A.length + B.length))) / 2 = mid → (mid < P.length + A.length ∧ lo = mid + (P.length + A.length) - (P.length + (A.length + B.length)) ∧ hi = mid ∨ P.length + A.length ≤ mid ∧ lo = P.length ∧ hi = P.length + A.length) →
        ∃ M, Stb key (A ++ B) M ∧ midL (symL cm f) P.length (P.length + A.length) (P.length + (A.length + B.length)) mid (srch (pMid cm (P ++ (A ++ (B ++ S))) (mid + (P.length + A.length) - 1)) (hi - lo + 1) lo hi) (mid + (P.length + A.length) - srch (pMid cm (P ++ (A ++ (B ++ S))) (mid + (P.length + A.length) - 1)) (hi - lo + 1) lo hi) (P ++ (A ++ (B ++ S))) = P ++ (M ++ S) := by
      intro mid lo hi hmid hlh
      have hlo : P.length ≤ lo ∧ lo ≤ hi ∧ hi ≤ P.length + A.length ∧ hi ≤ mid := by omega
      have hsl := srch_le (pMid cm (P ++ (A ++ (B ++ S))) (mid + (P.length + A.length) - 1)) (hi - lo + 1) lo hi hlo.2.1
      have hsp := srch_spec (pMid cm (P ++ (A ++ (B ++ S))) (mid + (P.length + A.length) - 1)) (hi - lo + 1) lo hi hlo.2.1 (by omega)
      generalize srch (pMid cm (P ++ (A ++ (B ++ S))) (mid + (P.length + A.length) - 1)) (hi - lo + 1) lo hi = I at *
      obtain ⟨hl1, hl2⟩ := hsl
      obtain ⟨hs1, hs2⟩ := hsp
      obtain ⟨s, rfl⟩ : ∃ s, I = P.length + s := ⟨I - P.length, by omega⟩
      obtain ⟨e, he⟩ : ∃ e, mid = P.length + s + e := ⟨mid - (P.length + s), by omega⟩
      have hsA : s ≤ A.length := by omega
      have heB : e ≤ B.length := by omega
      have k1 : s = 0 ∨ e = B.length ∨ key (A.getD (s - 1) z24) ≤ key (B.getD e z24) := by
        by_cases hs0 : s = 0
        · exact .inl hs0
        by_cases he0 : e = B.length
        · exact .inr (.inl he0)
        rcases hs1 with hs1 | hs1
        · omega
        · refine .inr (.inr ?_)
          unfold pMid at hs1
          rw [rdN, rdN, show mid + (P.length + A.length) - 1 - (P.length + s - 1) = P.length + (A.length + e) by omega, show P.length + s - 1 = P.length + (s - 1) by omega, hgA (s - 1) (by omega), hgB e (by omega), Bool.not_eq_true'] at hs1
          have := of_decide_eq_false hs1
          rw [hk] at this
          omega
      have k2 : s = A.length ∨ e = 0 ∨ key (B.getD (e - 1) z24) < key (A.getD s z24) := by
        by_cases hs0 : s = A.length
        · exact .inl hs0
        by_cases he0 : e = 0
        · exact .inr (.inl he0)
        rcases hs2 with hs2 | hs2
        · omega
        · refine .inr (.inr ?_)
          unfold pMid at hs2
          rw [rdN, rdN, show mid + (P.length + A.length) - 1 - (P.length + s) = P.length + (A.length + (e - 1)) by omega, hgA s (by omega), hgB (e - 1) (by omega), Bool.not_eq_false'] at hs2
          exact (hk _ _).1 (of_decide_eq_true hs2)
      obtain ⟨m1, m2⟩ := sym_split z24 hA hB s e hsA heB k1 k2
      have lA : (A.take s).length = s := by rw [List.length_take]; omega
      have lU : (A.drop s).length = A.length - s := List.length_drop
      have lV : (B.take e).length = e := by rw [List.length_take]; omega
      have lB : (B.drop e).length = B.length - e := List.length_drop
      have := midL_stb key (symL cm f) P (A.take s) (A.drop s) (B.take e) (B.drop e) S (hT _ (by omega)) (by rw [List.take_append_drop]; exact hA) (by rw [List.take_append_drop]; exact hB) m1 m2
        P.length (P.length + A.length) (P.length + (A.length + B.length)) mid (P.length + s) (mid + (P.length + A.length) - (P.length + s)) rfl (by omega) (by omega) (by omega) (by omega) (by omega) (by omega) (by omega)
      rw [List.take_append_drop, List.take_append_drop] at this
      exact this
    split
    · next c3 => exact main _ _ _ rfl (.inl ⟨c3, rfl, rfl⟩)
    · next c3 => exact main _ P.length (P.length + A.length) rfl (.inr ⟨by omega, rfl, rfl⟩)
/- the insertion -/
theorem swp_eq (j : Nat) (xs : List S24) : swp j xs = swpG z24 (j + 1) j xs := rfl
theorem insJ_stb (key : S24 → Int) (cm : S24 → S24 → Int) (hk : ∀ x y, cm x y < 0 ↔ key x < key y) : ∀ (n : Nat) (P C D : List S24) (x : S24), C.length = n → Srt key C →
    ∃ o, Stb key (C ++ [x]) o ∧ insJ cm P.length (P.length + n) (P ++ (C ++ x :: D)) = P ++ (o ++ D)
  | 0, P, C, D, x, h, hC => by
    obtain rfl := List.length_eq_zero_iff.1 h
    refine ⟨[x], Stb.of_srt (Srt.one x), ?_⟩
    rw [Nat.add_zero]
    cases hp : P.length with
    | zero => rfl
    | succ q => rw [insJ, if_neg (fun h => by omega)]; rfl
  | n + 1, P, C, D, x, h, hC => by
    obtain ⟨E, y, rfl⟩ : ∃ D y, C = D ++ [y] := ⟨C.dropLast, C.getLast (by intro e; rw [e] at h; cases h), (List.dropLast_concat_getLast _).symm⟩
    have hd : E.length = n := by simpa using h
    obtain ⟨c1, _, c3⟩ := Srt.app.1 hC
    have ex : (P ++ (E ++ [y] ++ x :: D)).getD (P.length + n + 1) z24 = x := by
      have := gd_mid z24 (P ++ (E ++ [y])) D x
      rw [List.length_append, List.length_append, List.length_singleton, hd, List.append_assoc] at this
      rw [Nat.add_assoc]
      exact this
    have ey : (P ++ (E ++ [y] ++ x :: D)).getD (P.length + n) z24 = y := by
      have := gd_mid z24 (P ++ E) (x :: D) y
      rw [List.length_append, hd] at this
      simp only [List.append_assoc, List.cons_append, List.nil_append] at this ⊢
      exact this
    rw [show P.length + (n + 1) = P.length + n + 1 by omega, insJ, rdN, rdN, ex, ey]
    split
    · next hc =>
      have hxy : key x < key y := (hk _ _).1 hc.2
      obtain ⟨o, ho, e⟩ := insJ_stb key cm hk n P E (y :: D) x hd c1
      refine ⟨o ++ [y], ?_, ?_⟩
      · have := Stb.sym (key := key) (A1 := E) (U := [y]) (V := [x]) (B2 := []) (M1 := o) (M2 := [y]) hC (by rw [List.append_nil]; exact Srt.one x) (fun _ _ _ h => absurd h (by simp))
          (fun u hu v hv => by obtain rfl := List.mem_singleton.1 hu; obtain rfl := List.mem_singleton.1 hv; exact hxy) ho (by rw [List.append_nil]; exact Stb.of_srt (Srt.one y))
        rw [List.append_nil] at this
        exact this
      · have e2 : swp (P.length + n) (P ++ (E ++ [y] ++ x :: D)) = P ++ (E ++ x :: y :: D) := by
          have := swpG_near' z24 (P ++ E) D y x
          rw [List.length_append, hd] at this
          rw [swp_eq]
          simp only [List.append_assoc, List.cons_append, List.nil_append] at this ⊢
          exact this
        rw [e2, e]
        simp only [List.append_assoc, List.cons_append, List.nil_append]
    · next hc =>
      have hxy : ¬ key x < key y := fun h => hc ⟨by omega, (hk _ _).2 h⟩
      refine ⟨E ++ [y] ++ [x], Stb.of_srt (Srt.app.2 ⟨hC, Srt.one x, fun u hu v hv => ?_⟩), ?_⟩
      · obtain rfl := List.mem_singleton.1 hv
        rcases List.mem_append.1 hu with hu | hu
        · have := c3 u hu y (List.mem_singleton.2 rfl); omega
        · obtain rfl := List.mem_singleton.1 hu; omega
      · simp only [List.append_assoc, List.cons_append, List.nil_append]
theorem insR_stb (key : S24 → Int) (cm : S24 → S24 → Int) (hk : ∀ x y, cm x y < 0 ↔ key x < key y) : ∀ (R P C S L : List S24), Stb key L C →
    ∃ o, Stb key (L ++ R) o ∧ insR cm P.length R.length (P.length + C.length) (P ++ (C ++ (R ++ S))) = P ++ (o ++ S)
  | [], P, C, S, L, h => ⟨C, by rw [List.append_nil]; exact h, rfl⟩
  | x :: R, P, C, S, L, h => by
    obtain ⟨o, ho, e⟩ := insJ_stb key cm hk C.length P C (R ++ S) x rfl h.srt
    have ho2 : Stb key (L ++ [x]) o := ho.cong (fun r => by rw [Flt_append, Flt_append, h.flt])
    obtain ⟨o2, h2, e2⟩ := insR_stb key cm hk R P o S (L ++ [x]) ho2
    refine ⟨o2, by rw [List.append_assoc] at h2; exact h2, ?_⟩
    have hl := ho.len
    rw [List.length_append, List.length_singleton] at hl
    rw [List.length_cons, insR]
    show insR cm P.length R.length (P.length + C.length + 1) (insJ cm P.length (P.length + C.length) (P ++ (C ++ x :: (R ++ S)))) = _
    rw [e, Nat.add_assoc, ← hl]
    exact e2
/-- The insertion of a piece. -/
theorem insL_stb (key : S24 → Int) (cm : S24 → S24 → Int) (hk : ∀ x y, cm x y < 0 ↔ key x < key y) (P A S : List S24) : ∃ o, Stb key A o ∧ insL cm P.length (P.length + A.length) (P ++ (A ++ S)) = P ++ (o ++ S) := by
  unfold insL
  cases A with
  | nil => exact ⟨[], Stb.of_srt Srt.nil, by rw [show P.length + ([] : List S24).length - (P.length + 1) = 0 by simp]; rfl⟩
  | cons x A =>
    obtain ⟨o, ho, e⟩ := insR_stb key cm hk A P [x] S [x] (Stb.of_srt (Srt.one x))
    refine ⟨o, ho, ?_⟩
    rw [List.length_cons, show P.length + (A.length + 1) - (P.length + 1) = A.length by omega]
    exact e
end Go.Proofs.YtlhdbcjlmkglkaaGreat.Q

/- slices.stableCmpFunc at quotes. -/
set_option linter.unusedSimpArgs false
set_option linter.unusedVariables false
namespace Go.Proofs.YtlhdbcjlmkglkaaGreat.Q
open Go Go.RowKit Go.Proofs Go.Proofs.YtlhdbcjlmkglkaaGreat.PL Go.Proofs.YtlhdbcjlmkglkaaGreat.StN Go.Proofs.YtlhdbcjlmkglkaaGreatW.PrintWords
def insB (cm : S24 → S24 → Int) (n : Nat) : Nat → Nat → List S24 → List S24
  | 0, _, zs => zs
  | f + 1, a, zs => if a + 20 ≤ n then insB cm n f (a + 20) (insL cm a (a + 20) zs) else insL cm a n zs
def mrg (cm : S24 → S24 → Int) (s n : Nat) : Nat → Nat → List S24 → List S24
  | 0, _, zs => zs
  | f + 1, a, zs => if a + 2 * s ≤ n then mrg cm s n f (a + 2 * s) (symL cm (2 * s) a (a + s) (a + 2 * s) zs) else if a + s < n then symL cm (n - a) a (a + s) n zs else zs
def mrgs (cm : S24 → S24 → Int) (n : Nat) : Nat → Nat → List S24 → List S24
  | 0, _, zs => zs
  | f + 1, s, zs => if s < n then mrgs cm n f (2 * s) (mrg cm s n (n + 1) 0 zs) else zs
theorem mrg_len (cm : S24 → S24 → Int) (s n : Nat) : ∀ (f a : Nat) (zs : List S24), (mrg cm s n f a zs).length = zs.length
  | 0, _, _ => rfl
  | f + 1, a, zs => by
    rw [mrg]
    split
    · rw [mrg_len cm s n f, symL_len]
    · split
      · rw [symL_len]
      · rfl
theorem insB_len (cm : S24 → S24 → Int) (n : Nat) : ∀ (f a : Nat) (zs : List S24), (insB cm n f a zs).length = zs.length
  | 0, _, _ => rfl
  | f + 1, a, zs => by
    rw [insB]
    split
    · rw [insB_len cm n f, insL_len]
    · rw [insL_len]
theorem wm2 (s : Nat) (h : s ≤ 4000000) : wrap64 (2 * (s : Int)) = ((2 * s : Nat) : Int) := by rw [w64 _ (by omega)]; omega
theorem wm2k (s : Nat) (h : s ≤ 4000000) : IntKind.i64.wrap (2 * (s : Int)) = ((2 * s : Nat) : Int) := (IntWalk.i64_in _ (by omega)).trans (by omega)
theorem wm3 (s : Nat) (h : s ≤ 4000000) : wrap64 ((s : Int) * 2) = ((2 * s : Nat) : Int) := by rw [w64 _ (by omega)]; omega
theorem wm3k (s : Nat) (h : s ≤ 4000000) : IntKind.i64.wrap ((s : Int) * 2) = ((2 * s : Nat) : Int) := (IntWalk.i64_in _ (by omega)).trans (by omega)
set_option maxHeartbeats 400000 in
set_option maxRecDepth 1000000 in
theorem stable_any (G k : Nat) (cv : Value) (cm : S24 → S24 → Int) (hp : CmpK G k cv cm) (eg : ∀ args w, (callFunc G args).run Tryz.prog w = .ok (.enter G args) w) (B : Nat) (ok : Nat → Prop) (g c : Nat) (xs : List S24) (w : World)
    (hR : Kd.R k24 24 w B ok (.slice (some ⟨g, 0, none⟩) xs.length c) xs) (hc : w.cell? ⟨k, 0, none⟩ = some cv) (hkg : k ≠ g) (hlen : xs.length ≤ 1000000) :
    Calls Tryz.prog 74 #[.slice (some ⟨g, 0, none⟩) xs.length c, .int .i64 (xs.length : Int), .func (.func G) #[] #[.pointer (some ⟨k, 0, none⟩)]] w fun e w' =>
      e = .returned (.tuple #[]) ∧ Kd.R k24 24 w' B ok (.slice (some ⟨g, 0, none⟩) xs.length c) (mrgs cm xs.length (xs.length + 1) 20 (insB cm xs.length (xs.length + 1) 0 xs)) ∧ w.grownBy w' (some g) := by
  have hu24 := Tryz.underlying24
  have HR := Lib.hid hR
  have HC := Lib.hid hc
  have HL := Lib.hid hlen
  have HIN := Lib.hid (fun (a b : Nat) (zs : List S24) (W : World) (hz : zs.length = xs.length) (hr : Kd.R k24 24 W B ok (.slice (some ⟨g, 0, none⟩) xs.length c) zs) (h : W.cell? ⟨k, 0, none⟩ = some cv) (hb : b ≤ xs.length) (hab : a ≤ b) => (by
    have := ins_any G k cv cm hp eg B ok g c a b zs W (by rw [hz]; exact hr) h hkg (by rw [hz]; exact hlen) (by rw [hz]; exact hb) hab
    rw [hz] at this
    exact this : Calls Tryz.prog 105 #[.slice (some ⟨g, 0, none⟩) xs.length c, .int .i64 (a : Int), .int .i64 (b : Int), .func (.func G) #[] #[.pointer (some ⟨k, 0, none⟩)]] W fun e w' => e = .returned (.tuple #[]) ∧ Kd.R k24 24 w' B ok (.slice (some ⟨g, 0, none⟩) xs.length c) (insL cm a b zs) ∧ W.grownBy w' (some g)))
  have HSY := Lib.hid (sym_any G k cv cm hp eg B ok g c xs.length hkg hlen)
  obtain ⟨n, hn⟩ : ∃ n, xs.length = n := ⟨_, rfl⟩
  rw [hn] at HR HL HIN HSY ⊢
  have HX := Lib.hid hn
  obtain ⟨E, hE⟩ : ∃ E, insB cm n (n + 1) 0 xs = E := ⟨_, rfl⟩
  have HEL := Lib.hid (show E.length = n by rw [← hE, insB_len, hn])
  obtain ⟨F, hF⟩ : ∃ F, mrgs cm n (n + 1) 20 E = F := ⟨_, rfl⟩
  rw [hE, hF]
  have HE := Lib.hid hE
  have HF := Lib.hid hF
  clear hR hlen hp eg hn hc hE hF
  go_enter Tryz.func74, Tryz.ntmps74
  go_wp2_with (fail)
  go_loopg [7, 8] (n + 1) (fun kq v7 v8 w' => ∃ (a b : Nat) (zs : List S24), v7 = .int .i64 (a : Int) ∧ v8 = .int .i64 (b : Int) ∧ Aside0 (a ≤ n ∧ b = a + 20 ∧ n - a < kq) ∧ Aside0 (zs.length = n ∧ insB cm n kq a zs = E) ∧ Aside0 (Kd.R k24 24 w' B ok (.slice (some ⟨g, 0, none⟩) n c) zs) ∧ Aside0 (w.grownBy w' (some g)) ∧ Aside0 (w'.cell? ⟨k, 0, none⟩ = some cv))
  case atStart => exact ⟨0, 20, xs, rfl, rfl, ⟨by omega⟩, ⟨HX.out, HE.out⟩, ⟨HR.out⟩, ⟨grown_below (Below.refl _ _) _⟩, ⟨HC.out⟩⟩
  case round =>
    obtain ⟨a, b, zs, rfl, rfl, HI, HZ, HRZ, HGZ, HCZ⟩ := hrel
    obtain ⟨k0, rfl⟩ : ∃ k0, gk = k0 + 1 := ⟨gk - 1, by have := HI.out; omega⟩
    obtain ⟨hi1, hi2, hi3⟩ := HI.out
    have hz := HZ.out.2
    rw [insB, ← hi2] at hz
    by_cases c1 : b ≤ n
    · have c1a : decide ((b : Int) ≤ (n : Int)) = true := decide_eq_true (by omega)
      have c1b : decide (b ≤ n) = true := decide_eq_true c1
      rw [if_pos c1] at hz
      have HZ2 := Lib.hid hz
      have HC1 := Lib.hid (HIN.out a b zs wr HZ.out.1 HRZ.out HCZ.out c1 (by omega))
      have hl := HL.out
      have KI : b ≤ n ∧ n - b < k0 := by omega
      have g2 : b + 20 ≤ 8000000 := by omega
      have hw := w2n b 20 g2
      have hwk := w2k b 20 g2
      obtain ⟨b', hb'⟩ : ∃ b', b + 20 = b' := ⟨_, rfl⟩
      rw [hb'] at hw hwk
      have hw' : wrap64 ((b : Int) + 20) = (b' : Int) := hw
      have hwk' : IntKind.i64.wrap ((b : Int) + 20) = (b' : Int) := hwk
      have HB' := Lib.hid hb'
      clear hi1 hi2 hi3 hz c1 g2 hb' hl hw hwk
      go_wp2_with (first | (go_at_call 105; refine HC1.out.mono ?_; rintro e W1 ⟨rfl, hR1, hG1⟩; have HR1 := Lib.hid hR1; have HG1 := Lib.hid hG1; have HCW1 := Lib.hid (keep_cell hG1 HCZ.out (fun e => hkg (Option.some.inj e))); clear hR1 hG1))
      go_roundg k0
      case measure => omega
      case rel => exact ⟨b, b', _, rfl, rfl, ⟨KI.1, HB'.out.symm, KI.2⟩, ⟨by rw [insL_len]; exact HZ.out.1, HZ2.out⟩, ⟨HR1.out⟩, ⟨grown_trans HGZ.out HG1.out⟩, ⟨HCW1.out⟩⟩
    · have c1a : decide ((b : Int) ≤ (n : Int)) = false := decide_eq_false (by omega)
      have c1b : decide (b ≤ n) = false := decide_eq_false c1
      rw [if_neg c1] at hz
      have HZ2 := Lib.hid hz
      have HC1 := Lib.hid (HIN.out a n zs wr HZ.out.1 HRZ.out HCZ.out (Nat.le_refl _) hi1)
      clear hi1 hi2 hi3 hz c1
      rename World => ws
      go_wp2_with (first | (go_at_call 105; refine HC1.out.mono ?_; rintro e W1 ⟨rfl, hR1, hG1⟩; have HR1 := Lib.hid hR1; have HG1 := Lib.hid hG1; have HCW1 := Lib.hid (keep_cell hG1 HCZ.out (fun e => hkg (Option.some.inj e))); clear hR1 hG1))
      have HG1S := Lib.hid (grown_trans HGZ.out HG1.out)
      go_loopg [6] (n + 1) (fun kq v6 w' => ∃ (s : Nat) (zs : List S24), v6 = .int .i64 (s : Int) ∧ Aside0 (20 ≤ s ∧ s ≤ 2000000 ∧ n - s < kq) ∧ Aside0 (zs.length = n ∧ mrgs cm n kq s zs = F) ∧ Aside0 (Kd.R k24 24 w' B ok (.slice (some ⟨g, 0, none⟩) n c) zs) ∧ Aside0 (w.grownBy w' (some g)) ∧ Aside0 (w'.cell? ⟨k, 0, none⟩ = some cv))
      case atStart => exact ⟨20, E, rfl, ⟨by have := HL.out; omega⟩, ⟨HEL.out, HF.out⟩, ⟨HZ2.out ▸ HR1.out⟩, ⟨HG1S.out⟩, ⟨HCW1.out⟩⟩
      case round =>
        obtain ⟨s, ys, rfl, HS, HY, HRY, HGY, HCY⟩ := hrel
        obtain ⟨k1, rfl⟩ : ∃ k1, gk = k1 + 1 := ⟨gk - 1, by have := HS.out; omega⟩
        have hy := HY.out.2
        rw [mrgs] at hy
        by_cases c2 : s < n
        · have c2a : decide ((s : Int) < (n : Int)) = true := decide_eq_true (by omega)
          have c2b : decide (s < n) = true := decide_eq_true c2
          rw [if_pos c2] at hy
          obtain ⟨hs1, hs2, hs3⟩ := HS.out
          have hl := HL.out
          have g1 : s ≤ 4000000 := by omega
          obtain ⟨t, ht⟩ : ∃ t, 2 * s = t := ⟨_, rfl⟩
          have KS : 20 ≤ t ∧ t ≤ 2000000 ∧ n - t < k1 := by omega
          have KT : s < t ∧ t ≤ 2000000 ∧ 0 < s ∧ s < n := by omega
          rw [ht] at hy
          obtain ⟨M, hM⟩ : ∃ M, mrg cm s n (n + 1) 0 ys = M := ⟨_, rfl⟩
          rw [hM] at hy
          have HML := Lib.hid (show M.length = n by rw [← hM, mrg_len]; exact HY.out.1)
          have HM := Lib.hid hM
          have HY2 := Lib.hid hy
          have HT := Lib.hid (And.intro ht KT)
          have HKS := Lib.hid KS
          have hw2 := wm2 s g1
          have hw2k := wm2k s g1
          have hw3 := wm3 s g1
          have hw3k := wm3k s g1
          rw [ht] at hw2 hw2k hw3 hw3k
          clear hs1 hs2 hs3 hl g1 ht KS KT hM hy c2
          rename World => ws2
          have HW := Lib.hid (And.intro hw2 (And.intro hw2k (And.intro hw3 hw3k)))
          go_wp2_with (fail)
          go_loopg [7, 8] (n + 1) (fun kq v7 v8 w' => ∃ (a b : Nat) (zs : List S24), v7 = .int .i64 (a : Int) ∧ v8 = .int .i64 (b : Int) ∧ Aside0 (a ≤ n ∧ b = a + t ∧ n - a < kq) ∧ Aside0 (zs.length = n ∧ mrg cm s n kq a zs = M) ∧ Aside0 (Kd.R k24 24 w' B ok (.slice (some ⟨g, 0, none⟩) n c) zs) ∧ Aside0 (w.grownBy w' (some g)) ∧ Aside0 (w'.cell? ⟨k, 0, none⟩ = some cv))
          case atStart => exact ⟨0, t, ys, rfl, rfl, ⟨by omega⟩, ⟨HY.out.1, HM.out⟩, ⟨HRY.out⟩, ⟨HGY.out⟩, ⟨HCY.out⟩⟩
          case round =>
            obtain ⟨a, b, zs, rfl, rfl, HI, HZ, HRZ, HGZ, HCZ⟩ := hrel
            clear hw2 hw2k hw3 hw3k
            obtain ⟨k0, rfl⟩ : ∃ k0, gk = k0 + 1 := ⟨gk - 1, by have := HI.out; omega⟩
            obtain ⟨hi1, hi2, hi3⟩ := HI.out
            obtain ⟨ht, hk1, hk2, hk3, hk4⟩ := HT.out
            have hl := HL.out
            have hz := HZ.out.2
            rw [mrg, ht, ← hi2] at hz
            obtain ⟨m, hm⟩ : ∃ m, a + s = m := ⟨_, rfl⟩
            rw [hm] at hz
            have g1 : a + s ≤ 8000000 := by omega
            have g2 : b + t ≤ 8000000 := by omega
            by_cases c1 : b ≤ n
            · have c1a : decide ((b : Int) ≤ (n : Int)) = true := decide_eq_true (by omega)
              have c1b : decide (b ≤ n) = true := decide_eq_true c1
              rw [if_pos c1] at hz
              have HZ2 := Lib.hid hz
              have HC1 := Lib.hid (HSY.out t a m b zs wr (by omega) (by omega) (by omega) c1 HZ.out.1 HRZ.out HCZ.out)
              have KI : b ≤ n ∧ n - b < k0 := by omega
              obtain ⟨b', hb'⟩ : ∃ b', b + t = b' := ⟨_, rfl⟩
              have HB' := Lib.hid hb'
              have hw := w2n b t g2
              have hwk := w2k b t g2
              rw [hb'] at hw hwk
              have hwm := w2n a s g1
              have hwmk := w2k a s g1
              rw [hm] at hwm hwmk
              obtain ⟨hw2, hw2k, hw3, hw3k⟩ := HW.out
              clear hi1 hi2 hi3 ht hk1 hk2 hk3 hk4 hz c1 g1 g2 hb' hl hm
              go_wp2_with (first | (go_at_call 106; refine HC1.out.mono ?_; rintro e W5 ⟨rfl, hR5, hG5⟩; have HR5 := Lib.hid hR5; have HG5 := Lib.hid hG5; have HCW5 := Lib.hid (keep_cell hG5 HCZ.out (fun e => hkg (Option.some.inj e))); clear hR5 hG5))
              go_roundg k0
              case measure => omega
              case rel => exact ⟨b, b', _, rfl, (by first | rfl | exact congrArg (Value.int .i64) hw), ⟨KI.1, HB'.out.symm, KI.2⟩, ⟨by rw [symL_len]; exact HZ.out.1, HZ2.out⟩, ⟨HR5.out⟩, ⟨grown_trans HGZ.out HG5.out⟩, ⟨HCW5.out⟩⟩
            · have c1a : decide ((b : Int) ≤ (n : Int)) = false := decide_eq_false (by omega)
              have c1b : decide (b ≤ n) = false := decide_eq_false c1
              rw [if_neg c1] at hz
              by_cases c3 : m < n
              · have c3a : decide ((m : Int) < (n : Int)) = true := decide_eq_true (by omega)
                have c3b : decide (m < n) = true := decide_eq_true c3
                rw [if_pos c3] at hz
                have HZ2 := Lib.hid hz
                have HC1 := Lib.hid (HSY.out (n - a) a m n zs wr (Nat.le_refl _) (by omega) c3 (Nat.le_refl _) HZ.out.1 HRZ.out HCZ.out)
                have hwm := w2n a s g1
                have hwmk := w2k a s g1
                rw [hm] at hwm hwmk
                obtain ⟨hw2, hw2k, hw3, hw3k⟩ := HW.out
                clear hi1 hi2 hi3 ht hk1 hk2 hk3 hk4 hz c1 c3 g1 g2 hl hm
                go_wp2_with (first | (go_at_call 106; refine HC1.out.mono ?_; rintro e W5 ⟨rfl, hR5, hG5⟩; have HR5 := Lib.hid hR5; have HG5 := Lib.hid hG5; have HCW5 := Lib.hid (keep_cell hG5 HCZ.out (fun e => hkg (Option.some.inj e))); clear hR5 hG5))
                go_roundg k1
                case measure => omega
                case rel => exact ⟨t, M, (by first | rfl | exact congrArg (Value.int .i64) hw3), ⟨HKS.out⟩, ⟨HML.out, HY2.out⟩, ⟨HZ2.out ▸ HR5.out⟩, ⟨grown_trans HGZ.out HG5.out⟩, ⟨HCW5.out⟩⟩
              · have c3a : decide ((m : Int) < (n : Int)) = false := decide_eq_false (by omega)
                have c3b : decide (m < n) = false := decide_eq_false c3
                rw [if_neg c3] at hz
                have HZ2 := Lib.hid hz
                have hwm := w2n a s g1
                have hwmk := w2k a s g1
                rw [hm] at hwm hwmk
                obtain ⟨hw2, hw2k, hw3, hw3k⟩ := HW.out
                clear hi1 hi2 hi3 ht hk1 hk2 hk3 hk4 hz c1 c3 g1 g2 hl hm
                go_wp2_with (fail)
                go_roundg k1
                case measure => omega
                case rel => exact ⟨t, M, (by first | rfl | exact congrArg (Value.int .i64) hw3), ⟨HKS.out⟩, ⟨HML.out, HY2.out⟩, ⟨HZ2.out ▸ HRZ.out⟩, ⟨HGZ.out⟩, ⟨HCZ.out⟩⟩
        · have c2a : decide ((s : Int) < (n : Int)) = false := decide_eq_false (by omega)
          have c2b : decide (s < n) = false := decide_eq_false c2
          rw [if_neg c2] at hy
          have HY2 := Lib.hid hy
          clear c2 hy
          go_wp2_with (fail)
          go_end0
          exact ⟨rfl, HY2.out ▸ HRY.out, HGY.out⟩
end Go.Proofs.YtlhdbcjlmkglkaaGreat.Q
