/-
  Plain lemmas on these functions. No conditions but those that each states.
-/
import Derived.Test.YtimcachjcocjmaaFnBestStopsP5
namespace Go.Proofs.Ytimcachjcocjmaa
set_option linter.unusedVariables false
set_option linter.unusedSimpArgs false
/-! Drawn rows; the moves of a page. -/
theorem rowsCode_ok (N : Nat) (a b : Str) (ha : Row a) (hb : Row b) (hN : 200 ≤ N) : i_rowsCode N [a, b] = some 0 := by
  obtain ⟨N, rfl⟩ : ∃ M, N = M + 1 + 1 + 1 := ⟨N - 3, by omega⟩
  have e1 := isRow_ok (N + 1 + 1) a ha (by omega)
  have e2 := isRow_ok (N + 1) b hb (by omega)
  have i0 : idx [a, b] 0 = some a := rfl
  have i1 : idx [a, b] 1 = some b := rfl
  have w1 : w64 (0 + 1) = 1 := rfl
  have w2 : w64 (1 + 1) = 2 := rfl
  have d0 : decide ((0 : Int) < (([a, b] : List Str).length : Int)) = true := rfl
  have d1 : decide ((1 : Int) < (([a, b] : List Str).length : Int)) = true := rfl
  have d2 : decide ((2 : Int) < (([a, b] : List Str).length : Int)) = false := rfl
  have d3 : decide ((([a, b] : List Str).length : Int) > 12) = false := rfl
  unfold i_rowsCode
  simp only [d3, cond_false, withK_eq, i_rowsCode_l1, d0, cond_true, i0, Option.bind_some, e1, Bool.not_true, w1, d1, i1, e2, w2, d2]
/-- a row with so many letters -/
def RowD (row : Str) (k : Nat) : Prop := row.length ≤ 7 * k ∧ Row row ∧ more_ row 0 ≤ k
theorem blanks_l2 (kj : Int → Int → Str → Option Str) (r : Int × L00Src) : ∀ (n N : Nat) (l : Str), n < N → l.length + n ≤ 1000 → s_A2Row_l2 kj r N l (n : Int) = kj r.2.at_ r.2.seed (l ++ List.replicate n 32) := by
  intro n
  induction n with
  | zero =>
    intro N l hN _
    obtain ⟨N, rfl⟩ := pos_fuel hN
    simp [s_A2Row_l2]
  | succ n ih =>
    intro N l hN hl
    obtain ⟨N, rfl⟩ := pos_fuel hN
    have hi : ((n + 1 : Nat) : Int) > 0 := by omega
    have e2 : w64 (((n + 1 : Nat) : Int) - 1) = (n : Int) := by rw [w64_id (by omega) (by omega)]; omega
    simp only [s_A2Row_l2, hi, decide_true, cond_true, e2]
    rw [app_some _ _ (by unfold LIM; simp; omega), Option.bind_some, ih N _ (by omega) (by simp; omega), List.append_assoc]
    rfl
theorem rowD_more (l : Str) (k q : Nat) (c : UInt8) (h : RowD l k) (hk : k < 3) (hq : q ≤ 6) (hc : 33 ≤ c ∧ c ≤ 126) : RowD (l ++ List.replicate q 32 ++ [c]) (k + 1) := by
  obtain ⟨h1, ⟨h2, h3, h4⟩, h5⟩ := h
  have hc32 : c ≠ 32 := by rintro rfl; exact absurd hc.1 (by decide)
  refine ⟨by simp; omega, ⟨by simp; omega, fun x hx => ?_, fun hp => ?_⟩, ?_⟩
  · simp only [List.mem_append, List.mem_replicate, List.mem_singleton] at hx
    rcases hx with (hx | ⟨_, rfl⟩) | rfl
    · exact h3 x hx
    · exact .inl rfl
    · exact .inr hc
  · rw [List.getElem_append_right (by simp)]
    simp [hc32]
  · unfold more_ at h5 ⊢
    have hb : (c != 32) = true := by simpa using hc32
    have hz : (List.replicate q (32 : UInt8)).filter (fun c => c != 32) = [] := by simp
    rw [List.drop_zero] at h5 ⊢
    rw [List.filter_append, List.filter_append, hz, List.append_nil, List.length_append]
    simp [hb]
    exact h5
theorem row_l1 (code : List UInt8) (kj : Str → Option Str) : ∀ (n k N : Nat) (a sd : Int) (l : Str), n + 20 < N → 0 ≤ a → a + 10 * n ≤ 10000 → k + n ≤ 3 → RowD l k →
    ∃ l', s_A2Row_l1 kj code N a sd l (n : Int) = kj l' ∧ RowD l' 3 := by
  have hb : BIG = 1152921504606846976 := rfl
  intro n
  induction n with
  | zero =>
    intro k N a sd l hN h0 h1 h2 h3
    obtain ⟨N, rfl⟩ := pos_fuel (show 0 < N by omega)
    exact ⟨l, by simp [s_A2Row_l1], by have := h3.1; omega, h3.2.1, by have := h3.2.2; omega⟩
  | succ n ih =>
    intro k N a sd l hN h0 h1 h2 h3
    obtain ⟨N, rfl⟩ := pos_fuel (show 0 < N by omega)
    have hi : ((n + 1 : Nat) : Int) > 0 := by omega
    obtain ⟨v, a1, s1, e1, b1, c1, d1, d2⟩ := pick_ok code a sd 7 h0 (by omega)
    have d2 := d2 (by omega)
    obtain ⟨u, a2, s2, e2, b2, c2, f1, f2⟩ := pick_ok code a1 s1 6 (by omega) (by omega)
    have f2 := f2 (by omega)
    have e3 : w64 (((n + 1 : Nat) : Int) - 1) = (n : Int) := by rw [w64_id (by omega) (by omega)]; omega
    have hl7 := h3.1
    obtain ⟨c, hc1, hc2⟩ : ∃ c, idx ([97, 98, 99, 39, 35, 62] : Str) u = some c ∧ 33 ≤ c ∧ c ≤ 126 := by
      refine ⟨_, idx_int _ u f1 (by simpa using f2), ?_⟩
      have : ∀ c ∈ ([97, 98, 99, 39, 35, 62] : Str), 33 ≤ c ∧ c ≤ 126 := by decide
      exact this _ (List.getElem_mem _)
    obtain ⟨l', g1, g2⟩ := ih (k + 1) N a2 s2 (l ++ List.replicate v.toNat 32 ++ [c]) (by omega) (by omega) (by omega) (by omega) (rowD_more l k v.toNat c h3 (by omega) (by omega) hc2)
    refine ⟨l', ?_, g2⟩
    have hbl := fun kj => blanks_l2 kj (v, ⟨code, a1, s1⟩) v.toNat N l (by omega) (by omega)
    rw [show ((v.toNat : Nat) : Int) = v by omega] at hbl
    simp only [s_A2Row_l1, hi, decide_true, cond_true, withK_eq, e1, Option.bind_some, hbl, e2, hc1, e3]
    rw [app_some _ _ (by unfold LIM; simp; omega), Option.bind_some, g1]
theorem A2Row_ok (N : Nat) (code : List UInt8) (hN : 30 ≤ N) : ∃ l, s_A2Row N code = some l ∧ RowD l 3 := by
  have hb : BIG = 1152921504606846976 := rfl
  have e0 : s_l00From code = some ⟨code, 0, 0⟩ := rfl
  obtain ⟨v, a1, s1, e1, b1, c1, d1, d2⟩ := pick_ok code 0 0 4 (by omega) (by omega)
  have d2 := d2 (by omega)
  obtain ⟨l, g1, g2⟩ := row_l1 code some v.toNat 0 N a1 s1 [] (by omega) (by omega) (by omega) (by omega) ⟨by simp, ⟨by simp, by simp, fun h => by simp at h⟩, by simp [more_]⟩
  rw [show ((v.toNat : Nat) : Int) = v by omega] at g1
  refine ⟨l, ?_, g2⟩
  simp only [s_A2Row, e0, Option.bind_some, withK_eq, e1, g1]

/-- the moves of two rows -/
def Mv (a b : Str) (stops : List Int) (v : Nat) : Prop := (∃ la lb, Segs stops a 0 0 la ∧ Segs stops b 0 0 lb ∧ v = total la + total lb) ∧ v ≤ 1000 ∧ ∀ N : Nat, 700 ≤ N → i_pageMoves N stops [a, b] = some (v : Int)
theorem Mv.uniq {a b : Str} {stops : List Int} {v w : Nat} (h1 : Mv a b stops v) (h2 : Mv a b stops w) : v = w := by
  have e1 := h1.2.2 700 (Nat.le_refl _)
  have e2 := h2.2.2 700 (Nat.le_refl _)
  rw [e1] at e2
  have := Option.some.inj e2
  omega
theorem mv_ex (stops : List Int) (hs : VS stops) (a b : Str) (ha : RowD a 3) (hb : RowD b 3) : ∃ v, Mv a b stops v := by
  obtain ⟨la, ea, sa, na, ta⟩ := rowPlan_ok stops hs a ha.2.1
  obtain ⟨lb, eb, sb, nb, tb⟩ := rowPlan_ok stops hs b hb.2.1
  have h3 := ha.2.2
  have h4 := hb.2.2
  have h5 : total la + total lb ≤ 1000 := by omega
  refine ⟨total la + total lb, ⟨la, lb, sa, sb, rfl⟩, h5, fun N hN => ?_⟩
  obtain ⟨M, rfl⟩ : ∃ M, N = M + 1 + 1 + 1 := ⟨N - 3, by omega⟩
  have i0 : idx [a, b] 0 = some a := rfl
  have i1 : idx [a, b] 1 = some b := rfl
  have w1 : w64 (0 + 1) = 1 := rfl
  have w2 : w64 (1 + 1) = 2 := rfl
  have d0 : decide ((0 : Int) < (([a, b] : List Str).length : Int)) = true := rfl
  have d1 : decide ((1 : Int) < (([a, b] : List Str).length : Int)) = true := rfl
  have d2 : decide ((2 : Int) < (([a, b] : List Str).length : Int)) = false := rfl
  have s1 : w64 (0 + (total la : Int)) = (total la : Int) := by rw [w64_id (by omega) (by omega)]; omega
  have s2 : w64 ((total la : Int) + (total lb : Int)) = ((total la + total lb : Nat) : Int) := by rw [w64_id (by omega) (by omega)]; omega
  unfold i_pageMoves
  simp only [withK_eq, i_pageMoves_l1, d0, cond_true, i0, ea (M + 1 + 1) (by omega), Option.bind_some, s1, w1, d1, i1, eb (M + 1) (by omega), s2, w2, d2, cond_false]
/-- what can be reached as shortly -/
def Better (S S' : List Int) : Prop := ∀ (p : Str) (c t : Nat), c ≤ 29 → t ≤ 29 → (∀ m ∈ p, m ∈ three) → go S c p = some t → ∃ p' : Str, (∀ m ∈ p', m ∈ three) ∧ go S' c p' = some t ∧ p'.length ≤ p.length
theorem segs_cmp {S S' : List Int} (hB : Better S S') {row : Str} (hr : row.length ≤ 28) {x at_ : Nat} {l : List (Str × UInt8)} (h : Segs S row x at_ l) : ∀ l', at_ ≤ 29 → Segs S' row x at_ l' → total l' ≤ total l := by
  induction h with
  | done =>
    intro l' _ h'
    generalize hx : row.length = x at h'
    cases h' with
    | done => exact Nat.le_refl _
    | blank h1 _ _ => omega
    | letter h1 _ _ _ _ _ _ => omega
  | blank hx hc _ ih =>
    intro l' ha h'
    cases h' with
    | done => omega
    | blank _ _ h2 => exact ih _ ha h2
    | letter _ h1 _ _ _ _ _ => exact absurd hc h1
  | letter hx hc _ h3 hg _ _ ih =>
    intro l' ha h'
    cases h' with
    | done => omega
    | blank _ h1 _ => exact absurd h1 hc
    | letter _ _ _ _ _ hmin h2 =>
      obtain ⟨p', q1, q2, q3⟩ := hB _ _ _ ha (by omega) h3 hg
      have h4 := hmin p' q1 q2
      have h5 := ih _ (by omega) h2
      simp only [total]
      omega
theorem mv_cmp {S S' : List Int} (hB : Better S S') {a b : Str} (ha : RowD a 3) (hb : RowD b 3) {v w : Nat} (h1 : Mv a b S v) (h2 : Mv a b S' w) : w ≤ v := by
  obtain ⟨⟨la, lb, sa, sb, e⟩, _⟩ := h1
  obtain ⟨⟨la', lb', sa', sb', e'⟩, _⟩ := h2
  have g1 := segs_cmp hB (by have := ha.1; omega) sa la' (by omega) sa'
  have g2 := segs_cmp hB (by have := hb.1; omega) sb lb' (by omega) sb'
  omega
/-! a stop more -/
theorem nxt_nil (c : Nat) : nxt [] c = none := rfl
theorem mv_split (S : List Int) (c : Nat) (m : UInt8) (h : m ∈ three) : (m = 35 ∧ mvP S c m = nxt S c) ∨ (m ≠ 35 ∧ ∀ S', mvP S' c m = mvP S c m) := by
  simp only [three, List.mem_cons, List.not_mem_nil, or_false] at h
  rcases h with rfl | rfl | rfl
  · exact .inl ⟨rfl, by simp [mvP]⟩
  · exact .inr ⟨by decide, fun S' => by simp [mvP]⟩
  · exact .inr ⟨by decide, fun S' => by simp [mvP]⟩
/-- all jumps stay -/
theorem better_of (S S' : List Int) (h : ∀ (c q : Nat), nxt S c = some q → nxt S' c = some q) : Better S S' := by
  have key : ∀ (p : Str) (c t : Nat), (∀ m ∈ p, m ∈ three) → go S c p = some t → go S' c p = some t := by
    intro p
    induction p with
    | nil => intro c t _ hg; exact hg
    | cons m r ih =>
      intro c t hm hg
      simp only [go] at hg ⊢
      cases hq : mvP S c m with
      | none => rw [hq] at hg; cases hg
      | some q =>
        rw [hq] at hg
        have : mvP S' c m = some q := by
          rcases mv_split S c m (hm m List.mem_cons_self) with ⟨e1, e2⟩ | ⟨_, e2⟩
          · rw [e2] at hq
            have h3 := h c q hq
            rcases mv_split S' c m (hm m List.mem_cons_self) with ⟨_, e4⟩ | ⟨e4, _⟩
            · rw [e4]; exact h3
            · exact absurd e1 e4
          · rw [e2 S']; exact hq
        rw [this]
        exact ih q t (fun x hx => hm x (List.mem_cons_of_mem _ hx)) hg
  exact fun p c t _ _ hm hg => ⟨p, hm, key p c t hm hg, Nat.le_refl _⟩
theorem better_one (s : Int) : Better [] [s] := better_of _ _ fun c q h => by rw [nxt_nil] at h; cases h
theorem better_two (s : Int) : Better [s] [s, 30] := better_of _ _ fun c q h => by
  unfold nxt at h ⊢
  simp only [List.find?_cons] at h ⊢
  cases hd : decide (s > (c : Int))
  · rw [hd] at h; simp at h
  · rw [hd] at h; exact h
theorem go30 (m : UInt8) (r : Str) (hm : m ∈ three) (t : Nat) (hg : go [30] 30 (m :: r) = some t) : m = 60 ∧ go [30] 29 r = some t := by
  simp only [three, List.mem_cons, List.not_mem_nil, or_false] at hm
  rcases hm with rfl | rfl | rfl
  · simp [go, mvP, nxt] at hg
  · exact ⟨rfl, by simpa [go, mvP] using hg⟩
  · simp [go, mvP] at hg
theorem better_last : Better [30] [29, 30] := by
  have key : ∀ (n : Nat) (p : Str) (c t : Nat), p.length ≤ n → t ≤ 29 → (∀ m ∈ p, m ∈ three) → go [30] c p = some t →
      (c ≤ 29 → ∃ p' : Str, (∀ m ∈ p', m ∈ three) ∧ go [29, 30] c p' = some t ∧ p'.length ≤ p.length) ∧ (c = 30 → ∃ p' : Str, (∀ m ∈ p', m ∈ three) ∧ go [29, 30] 29 p' = some t ∧ p'.length + 1 ≤ p.length) := by
    intro n
    induction n with
    | zero =>
      intro p c t hp ht hm hg
      obtain rfl : p = [] := List.eq_nil_of_length_eq_zero (by omega)
      obtain rfl : c = t := Option.some.inj hg
      exact ⟨fun _ => ⟨[], by simp, rfl, Nat.le_refl _⟩, fun e => by omega⟩
    | succ n ih =>
      intro p c t hp ht hm hg
      match p, hp, hm, hg with
      | [], _, _, hg =>
        obtain rfl : c = t := Option.some.inj hg
        exact ⟨fun _ => ⟨[], by simp, rfl, Nat.le_refl _⟩, fun e => by omega⟩
      | m :: r, hp, hm, hg =>
        have hmr : ∀ x ∈ r, x ∈ three := fun x hx => hm x (List.mem_cons_of_mem _ hx)
        have hm0 := hm m List.mem_cons_self
        have hlr : r.length ≤ n := by simp at hp; omega
        refine ⟨fun hc => ?_, fun hc => ?_⟩
        · have hg0 := hg
          simp only [go] at hg
          cases hq : mvP [30] c m with
          | none => rw [hq] at hg; cases hg
          | some q =>
            rw [hq] at hg
            have hg : go [30] q r = some t := hg
            by_cases h35 : m = 35
            · subst h35
              have hq30 : q = 30 := by
                have : mvP [30] c 35 = some 30 := by
                  have : decide ((30 : Int) > (c : Int)) = true := decide_eq_true (by omega)
                  simp [mvP, nxt, List.find?_cons, this]
                rw [this] at hq; exact (Option.some.inj hq).symm
              subst hq30
              obtain ⟨p', e1, e2, e3⟩ := (ih r 30 t hlr ht hmr hg).2 rfl
              by_cases hc29 : c = 29
              · subst hc29
                exact ⟨p', e1, e2, by simp; omega⟩
              · refine ⟨35 :: p', fun x hx => (List.mem_cons.1 hx).elim (fun e => e ▸ hm0) (e1 x), ?_, by simp; omega⟩
                have : mvP [29, 30] c 35 = some 29 := by
                  have : decide ((29 : Int) > (c : Int)) = true := decide_eq_true (by omega)
                  simp [mvP, nxt, List.find?_cons, this]
                simp only [go, this]
                exact e2
            · have hsame : mvP [29, 30] c m = some q := by
                rcases mv_split [30] c m hm0 with ⟨e, _⟩ | ⟨_, e⟩
                · exact absurd e h35
                · rw [e]; exact hq
              by_cases hq30 : q = 30
              · subst hq30
                obtain ⟨p', e1, e2, e3⟩ := (ih r 30 t hlr ht hmr hg).2 rfl
                have hc29 : c = 29 := by
                  simp only [three, List.mem_cons, List.not_mem_nil, or_false] at hm0
                  rcases hm0 with rfl | rfl | rfl
                  · exact absurd rfl h35
                  · simp [mvP] at hq; omega
                  · simp [mvP] at hq; omega
                subst hc29
                exact ⟨p', e1, e2, by simp; omega⟩
              · have hq29 : q ≤ 29 := by
                  simp only [three, List.mem_cons, List.not_mem_nil, or_false] at hm0
                  rcases hm0 with rfl | rfl | rfl
                  · exact absurd rfl h35
                  · simp [mvP] at hq; omega
                  · simp [mvP] at hq; omega
                obtain ⟨p', e1, e2, e3⟩ := (ih r q t hlr ht hmr hg).1 hq29
                refine ⟨m :: p', fun x hx => (List.mem_cons.1 hx).elim (fun e => e ▸ hm0) (e1 x), ?_, by simp; omega⟩
                simp only [go, hsame]
                exact e2
        · subst hc
          obtain ⟨rfl, hg2⟩ := go30 m r hm0 t hg
          obtain ⟨p', e1, e2, e3⟩ := (ih r 29 t hlr ht hmr hg2).1 (by omega)
          exact ⟨p', e1, e2, by simp; omega⟩
  exact fun p c t hc ht hm hg => (key p.length p c t (Nat.le_refl _) ht hm hg).1 hc
end Go.Proofs.Ytimcachjcocjmaa
