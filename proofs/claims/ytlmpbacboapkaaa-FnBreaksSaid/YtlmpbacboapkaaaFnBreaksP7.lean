/-
  Plain lemmas on these functions. No conditions but those that each states.
-/
import Derived.Test.YtlmpbacboapkaaaFnBreaksP6
namespace Go.Proofs.Ytlmpbacboapkaaa
set_option linter.unusedVariables false
set_option linter.unusedSimpArgs false
/-! Drawn words and breaks. -/
def WC (x : Str) : Prop := ∀ c ∈ x, 33 ≤ c.toNat ∧ c.toNat ≤ 126
theorem idx_mem {α : Type} {l : List α} {i : Int} (h0 : 0 ≤ i) (h1 : i < l.length) : ∃ c, idx l i = some c ∧ c ∈ l := ⟨_, idx_int l i h0 h1, List.getElem_mem _⟩
theorem wd_l2 {code : List UInt8} (s : L00Src) (hs : s.code = code) (kj : Int → Int → List UInt8 → Option (List Str × Int × L00Src)) (Q : List Str × Int × L00Src → Prop) : ∀ (n N : Nat) (a sd hi : Int) (l : Str), n < N → 0 ≤ a → a ≤ hi → hi + 2 * n ≤ 1000000 → l.length + n ≤ 100 → WC l →
    (∀ a' sd' l', 0 ≤ a' → a' ≤ hi + 2 * n → l'.length = l.length + n → WC l' → ∃ r, kj a' sd' l' = some r ∧ Q r) → ∃ r, s_l09Draw_l2 kj s N a sd l (n : Int) = some r ∧ Q r := by
  intro n
  induction n with
  | zero =>
    intro N a sd hi l hN h0 h1 h2 h3 h4 k
    obtain ⟨N, rfl⟩ := pos_fuel hN
    have hz : ¬ ((0 : Nat) : Int) > 0 := by omega
    simp only [s_l09Draw_l2, hz, decide_false, cond_false]
    exact k a sd l h0 (by omega) (by omega) h4
  | succ n ih =>
    intro N a sd hi l hN h0 h1 h2 h3 h4 k
    obtain ⟨N, rfl⟩ := pos_fuel hN
    have hz : ((n + 1 : Nat) : Int) > 0 := by omega
    have e2 : w64 (((n + 1 : Nat) : Int) - 1) = (n : Int) := by rw [w64_id (by omega) (by omega)]; omega
    simp only [s_l09Draw_l2, hz, decide_true, cond_true, e2]
    refine bindE (pickA (code := code) (hi := hi) 7 ⟨hs, h0, h1⟩ (by omega)) fun v g => ?_
    obtain ⟨c, q1, q2⟩ := idx_mem (l := ([97, 98, 99, 100, 101, 33, 126] : Str)) g.2.1 (by have := g.2.2 (by omega); show v.1 < 7; omega)
    rw [q1, Option.bind_some]
    have hc : ∀ x ∈ ([97, 98, 99, 100, 101, 33, 126] : Str), 33 ≤ x.toNat ∧ x.toNat ≤ 126 := by decide
    refine appE (by unfold LIM; simp; omega) ?_
    exact ih N _ _ (hi + 2) _ (by omega) g.1.2.1 g.1.2.2 (by omega) (by simp; omega) (fun x hx => by
      rcases List.mem_append.1 hx with hx | hx
      · exact h4 x hx
      · rw [List.mem_singleton.1 hx]; exact hc c q2) (fun a' sd' l' w1 w2 w3 w4 => k a' sd' l' w1 (by omega) (by rw [w3]; simp; omega) w4)
def WS (W : Int) (ws : List Str) : Prop := ∀ x ∈ ws, 1 ≤ x.length ∧ (x.length : Int) ≤ W ∧ WC x
theorem min_ok (a b : Int) : s_l00Min a b = some (if a < b then a else b) := by
  unfold s_l00Min
  by_cases h : a < b
  · rw [decide_eq_true h, if_pos h]; rfl
  · rw [decide_eq_false h, if_neg h]; rfl
theorem wd_l1 {code : List UInt8} (s : L00Src) (hs : s.code = code) (r5 : Int × L00Src) (h5 : 0 ≤ r5.1 ∧ r5.1 < 20) (kj : Int → Int → List Str → Option (List Str × Int × L00Src)) (Q : List Str × Int × L00Src → Prop) : ∀ (k N : Nat) (a sd hi : Int) (l : List Str), k + 50 < N → 0 ≤ a → a ≤ hi → hi + 40 * k ≤ 1000000 → l.length + k ≤ 13 → WS (5 + r5.1) l →
    (∀ a' sd' l', l'.length ≤ 13 → WS (5 + r5.1) l' → ∃ r, kj a' sd' l' = some r ∧ Q r) → ∃ r, s_l09Draw_l1 kj s r5 N a sd l (k : Int) = some r ∧ Q r := by
  intro k
  induction k with
  | zero =>
    intro N a sd hi l hN h0 h1 h2 h3 h4 kk
    obtain ⟨N, rfl⟩ := pos_fuel (show 0 < N by omega)
    have hz : ¬ ((0 : Nat) : Int) > 0 := by omega
    simp only [s_l09Draw_l1, hz, decide_false, cond_false]
    exact kk a sd l (by omega) h4
  | succ k ih =>
    intro N a sd hi l hN h0 h1 h2 h3 h4 kk
    obtain ⟨N, rfl⟩ := pos_fuel (show 0 < N by omega)
    have hz : ((k + 1 : Nat) : Int) > 0 := by omega
    have e2 : w64 (((k + 1 : Nat) : Int) - 1) = (k : Int) := by rw [w64_id (by omega) (by omega)]; omega
    simp only [s_l09Draw_l1, hz, decide_true, cond_true, e2, withK_eq]
    rw [w64_id (x := 5 + r5.1) (by omega) (by omega), min_ok, Option.bind_some]
    have hm : 5 ≤ (if 5 + r5.1 < 7 then 5 + r5.1 else 7) ∧ (if 5 + r5.1 < 7 then 5 + r5.1 else 7) ≤ 7 ∧ (if 5 + r5.1 < 7 then 5 + r5.1 else 7) ≤ 5 + r5.1 := by
      split <;> omega
    generalize (if 5 + r5.1 < 7 then 5 + r5.1 else 7) = mm at hm
    refine bindE (pickA (code := code) (hi := hi) mm ⟨hs, h0, h1⟩ (by omega)) fun v g => ?_
    have gc := g.2.2 (by omega)
    obtain ⟨p, hp⟩ := Int.eq_ofNat_of_zero_le g.2.1
    rw [hp, show (1 : Int) + (p : Int) = ((p + 1 : Nat) : Int) by omega, w64_id (x := ((p + 1 : Nat) : Int)) (by omega) (by omega)]
    refine wd_l2 (code := code) s hs _ Q (p + 1) N _ _ (hi + 2) [] (by omega) g.1.2.1 g.1.2.2 (by omega) (by simp; omega) (fun c hc => by cases hc) fun a' sd' l' w1 w2 w3 w4 => ?_
    refine appE (by unfold LIM; simp; omega) ?_
    refine ih N a' sd' (hi + 2 + 2 * (p + 1 : Nat)) _ (by omega) w1 (by omega) (by omega) (by simp; omega) (fun x hx => ?_) kk
    rcases List.mem_append.1 hx with hx | hx
    · exact h4 x hx
    · rw [List.mem_singleton.1 hx]
      simp at w3
      exact ⟨by omega, by omega, w4⟩
theorem words_ok (code : List UInt8) (N : Nat) (hN : 100 < N) : ∃ ws W, s_A2Words N code = some (ws, W) ∧ TW ws ∧ 5 ≤ W ∧ W ≤ 24 ∧ ∀ x ∈ ws, (x.length : Int) ≤ W := by
  unfold s_A2Words s_l09Draw
  rw [fromA]
  simp only [Option.bind_some, withK_eq]
  have key : ∃ r, ((s_l00Src_pick (L00Src.mk code 0 0) 20).bind fun r5 => (s_l00Src_pick (L00Src.mk code r5.2.at_ r5.2.seed) 14).bind fun r14 => s_l09Draw_l1 (fun (x8 : Int) (x9 : Int) (l10 : List Str) => some (l10, w64 (5 + r5.1), (L00Src.mk code x8 x9))) (L00Src.mk code 0 0) r5 N r14.2.at_ r14.2.seed [] r14.1) = some r ∧ (TW r.1 ∧ 5 ≤ r.2.1 ∧ r.2.1 ≤ 24 ∧ ∀ x ∈ r.1, (x.length : Int) ≤ r.2.1) := by
    refine bindE (pickA (code := code) (hi := 0) 20 ⟨rfl, Int.le_refl _, Int.le_refl _⟩ (by omega)) fun v5 g5 => ?_
    have c5 := g5.2.2 (by omega)
    refine bindE (pickA (code := code) (hi := 2) 14 ⟨rfl, g5.1.2⟩ (by omega)) fun v g => ?_
    have c := g.2.2 (by omega)
    obtain ⟨k, hk⟩ := Int.eq_ofNat_of_zero_le g.2.1
    rw [hk]
    refine wd_l1 (code := code) (L00Src.mk code 0 0) rfl v5 ⟨g5.2.1, c5⟩ _ _ k N _ _ 4 [] (by omega) g.1.2.1 (by have := g.1.2.2; omega) (by omega) (by simp; omega) (fun x hx => by cases hx) fun a' sd' l' w1 w2 => ⟨_, rfl, ?_, ?_, ?_, ?_⟩
    · exact ⟨by show l'.length ≤ 40; omega, fun x hx => by
        have := w2 x hx
        have g50 := g5.2.1
        exact ⟨this.1, by omega, this.2.2⟩⟩
    · show 5 ≤ w64 (5 + v5.1)
      have g50 := g5.2.1
      rw [w64_id (by omega) (by omega)]; omega
    · show w64 (5 + v5.1) ≤ 24
      have g50 := g5.2.1
      rw [w64_id (by omega) (by omega)]; omega
    · intro x hx
      show (x.length : Int) ≤ w64 (5 + v5.1)
      have g50 := g5.2.1
      rw [w64_id (by omega) (by omega)]
      exact (w2 x hx).2.1
  obtain ⟨r, e, h1, h2, h3, h4⟩ := key
  rw [e, Option.bind_some]
  exact ⟨_, _, rfl, h1, h2, h3, h4⟩
theorem put_l1 (bs : List Nat) (hb : bs.length ≤ 60) (m : Nat) (kj : List Int → Bool → Option (List Int)) : ∀ (q x N : Nat) (acc : List Int), x + q = bs.length → q < N → acc.length + 2 * q ≤ 150 →
    s_l00Put_l1 kj (toI bs) (m : Int) N acc true (x : Int) = kj (acc ++ toI (bs.drop x)) true ∧
    ((s_l00Put_l1 kj (toI bs) (m : Int) N acc false (x : Int) = kj (acc ++ toI (ins m (bs.drop x))) true) ∨ (s_l00Put_l1 kj (toI bs) (m : Int) N acc false (x : Int) = kj (acc ++ toI (bs.drop x)) false ∧ ins m (bs.drop x) = bs.drop x ++ [m])) := by
  have htl : (toI bs).length = bs.length := by simp [toI]
  intro q
  induction q with
  | zero =>
    intro x N acc hx hN ha
    obtain ⟨N, rfl⟩ := pos_fuel hN
    rw [List.drop_eq_nil_of_le (by omega)]
    refine ⟨?_, .inr ⟨?_, rfl⟩⟩
    · rw [s_l00Put_l1, decide_eq_false (by omega : ¬ (x : Int) < ((toI bs).length : Int)), cond_false]; simp [toI]
    · rw [s_l00Put_l1, decide_eq_false (by omega : ¬ (x : Int) < ((toI bs).length : Int)), cond_false]; simp [toI]
  | succ q ih =>
    intro x N acc hx hN ha
    obtain ⟨N, rfl⟩ := pos_fuel hN
    have hlt : x < bs.length := by omega
    have hi : idx (toI bs) (x : Int) = some (bs[x] : Int) := by
      rw [idx_lt _ x (by omega)]; simp [toI]
    obtain ⟨t1, _⟩ := ih (x + 1) N (acc ++ [(bs[x] : Int)]) (by omega) (by omega) (by simp; omega)
    have ap : ∀ a : List Int, a.length ≤ 200 → app a [(bs[x] : Int)] = some (a ++ [(bs[x] : Int)]) := fun a h => app_some _ _ (by unfold LIM; simp; omega)
    rw [List.drop_eq_getElem_cons hlt]
    have hto : ∀ r : List Nat, acc ++ [(bs[x] : Int)] ++ toI r = acc ++ toI (bs[x] :: r) := fun r => by simp [toI]
    have hto2 : ∀ r : List Nat, acc ++ [(m : Int)] ++ [(bs[x] : Int)] ++ toI r = acc ++ toI (m :: bs[x] :: r) := fun r => by simp [toI]
    constructor
    · rw [s_l00Put_l1, decide_eq_true (by omega : (x : Int) < ((toI bs).length : Int)), cond_true]
      simp only [withK_n]
      rw [Bool.not_true, andO_false, Option.bind_some, cond_false, hi, Option.bind_some, ap _ (by omega), Option.bind_some, w64_nat x (by omega), t1, hto]
    · rw [s_l00Put_l1, decide_eq_true (by omega : (x : Int) < ((toI bs).length : Int)), cond_true]
      simp only [withK_n]
      rw [Bool.not_false, andO_true, hi]
      simp only [Option.bind_some]
      rw [w64_nat x (by omega)]
      by_cases hge : m ≤ bs[x]
      · left
        rw [decide_eq_true (by omega : (bs[x] : Int) ≥ (m : Int)), cond_true, ins, if_pos hge]
        by_cases hgt : m < bs[x]
        · obtain ⟨t2, _⟩ := ih (x + 1) N (acc ++ [(m : Int)] ++ [(bs[x] : Int)]) (by omega) (by omega)
            (by simp; omega)
          rw [decide_eq_true (by omega : (bs[x] : Int) > (m : Int)), cond_true, app_some _ _ (by unfold LIM; simp; omega), Option.bind_some, ap _ (by simp; omega), Option.bind_some, t2, if_pos hgt, hto2]
        · rw [decide_eq_false (by omega), cond_false, ap _ (by omega), Option.bind_some, t1, if_neg hgt, hto]
      · obtain ⟨_, t3⟩ := ih (x + 1) N (acc ++ [(bs[x] : Int)]) (by omega) (by omega) (by simp; omega)
        rw [decide_eq_false (by omega), cond_false, ap _ (by omega), Option.bind_some, ins, if_neg hge]
        rcases t3 with t3 | ⟨t3, t4⟩
        · exact .inl (by rw [t3, hto])
        · exact .inr ⟨by rw [t3, hto], by rw [t4]; rfl⟩
theorem ins_len (m : Nat) : ∀ bs : List Nat, (ins m bs).length ≤ bs.length + 1
  | [] => Nat.le_refl _
  | b :: r => by
    have := ins_len m r
    rw [ins]
    split
    · split <;> simp
    · simp only [List.length_cons]; omega
theorem put_ok (bs : List Nat) (hb : bs.length ≤ 50) (m : Nat) (N : Nat) (hN : 100 < N) : s_l00Put N (toI bs) (m : Int) = some (toI (ins m bs)) := by
  unfold s_l00Put
  simp only [withK_n]
  have htl : (toI bs).length = bs.length := by simp [toI]
  obtain ⟨_, h⟩ := put_l1 bs (by omega) m (fun (l6 : List Int) (done8 : Bool) => bif !done8 then (app l6 [(m : Int)]).bind fun l55 => some l55 else some l6) bs.length 0 N [] (by omega) (by omega) (by simp; omega)
  rw [show ((0 : Nat) : Int) = 0 from rfl, List.drop_zero, List.nil_append] at h
  rcases h with h | ⟨h, h2⟩
  · rw [h]; rfl
  · rw [h, h2, Bool.not_false, cond_true, List.nil_append, app_some _ _ (by unfold LIM; simp; omega), Option.bind_some]
    simp [toI]
theorem br_l1 {ws : List Str} (h : TW ws) (W : Int) (code : List UInt8) (kj : List Int → Option (List Int)) (Q : List Int → Prop) (k0 : ∀ bs, Pth (PW ws) W ws.length 0 bs → ∃ r, kj (toI bs) = some r ∧ Q r) : ∀ (q i N : Nat) (bs : List Nat) (a sd hi : Int), i + q = ws.length → q + 150 < N → 0 < i → 0 ≤ a → a ≤ hi → hi + 10 * q ≤ 1000000 → Pth (PW ws) W ws.length 0 bs → ∃ r, s_A2Breaks_l1 kj code ws N (toI bs) a sd (i : Int) = some r ∧ Q r := by
  have hl := h.1
  intro q
  induction q with
  | zero =>
    intro i N bs a sd hi hi' hN h0 h1 h2 h3 hp
    obtain ⟨N, rfl⟩ := pos_fuel (show 0 < N by omega)
    rw [s_A2Breaks_l1, decide_eq_false (by omega : ¬ (i : Int) < (ws.length : Int)), cond_false]
    exact k0 bs hp
  | succ q ih =>
    intro i N bs a sd hi hi' hN h0 h1 h2 h3 hp
    obtain ⟨N, rfl⟩ := pos_fuel (show 0 < N by omega)
    have hlen := hp.len
    rw [s_A2Breaks_l1, decide_eq_true (by omega : (i : Int) < (ws.length : Int)), cond_true]
    simp only [withK_n]
    rw [w64_nat i (by omega)]
    refine bindE (oneA (code := code) (hi := hi) 6 ⟨rfl, h1, h2⟩ (by omega)) fun v g => ?_
    refine condE (fun _ => ?_) fun _ => ?_
    · rw [put_ok bs (by omega) i N (by omega), Option.bind_some]
      exact ih (i + 1) N (ins i bs) _ _ (hi + 2) (by omega) (by omega) (by omega) g.2.1 g.2.2 (by omega) (ins_pth (PW ws) W ws.length (fun a b hab _ => PW_mono ws hab) i (by omega) bs 0 h0 hp)
    · exact ih (i + 1) N bs _ _ (hi + 2) (by omega) (by omega) (by omega) g.2.1 g.2.2 (by omega) hp
theorem breaks_ok {ws : List Str} (h : TW ws) (W : Int) (hne : 0 < ws.length) (hf : ∀ x ∈ ws, (x.length : Int) ≤ W) (code : List UInt8) (N : Nat) (hN : 600 < N) : ∃ bs, s_A2Breaks N code ws W = some (toI bs) ∧ Pth (PW ws) W ws.length 0 bs := by
  have hl := h.1
  unfold s_A2Breaks
  rw [fromA, Option.bind_some, sfirst_ok h W N (by omega), Option.bind_some, withK_n]
  obtain ⟨r, e, bs, e2, hb⟩ := br_l1 h W code (fun l14 => some l14) (fun r => ∃ bs, r = toI bs ∧ Pth (PW ws) W ws.length 0 bs) (fun bs hb => ⟨_, rfl, bs, rfl, hb⟩) (ws.length - 1) 1 N (FB ws W) 0 0 0 (by omega) (by omega) (by omega) (Int.le_refl _) (Int.le_refl _) (by omega) (FB_pth W hne hf)
  subst e2
  exact ⟨bs, e, hb⟩
end Go.Proofs.Ytlmpbacboapkaaa
