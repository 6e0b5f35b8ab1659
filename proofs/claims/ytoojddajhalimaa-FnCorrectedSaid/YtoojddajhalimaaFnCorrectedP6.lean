/-
  Plain lemmas on these functions. No conditions but those that each states.
-/
import Derived.Test.YtoojddajhalimaaFnCorrectedP5
namespace Go.Proofs.Ytoojddajhalimaa
set_option linter.unusedVariables false
set_option linter.unusedSimpArgs false
theorem Plan_eq (N : Nat) (l : List Over) (a b : Str) (hl : l.length ≤ 1000) (ha : a.length ≤ 1000) (hb : b.length ≤ 1000) (hN : 2 * l.length + 4000 < N) :
    ∃ r : Int, (r = 0 → (l.length ≤ 20 ∧ okF l 0) ∧ okT 60 a = true ∧ okT 60 b = true ∧ a.length = b.length) ∧
      i_CorrectionPlan N l a b = some (if r = 0 then (plP l a b, plT l a b, 0) else ([], [], r)) ∧ s_CorrectionPlan N l a b = some (if r = 0 then (plP l a b, plT l a b, 0) else ([], [], r)) ∧
      i_FewestErased N l a b = some (if r = 0 then (er (plP l a b), 0) else (0, r)) ∧ s_FewestErased N l a b = some (if r = 0 then (er (plP l a b), 0) else (0, r)) := by
  obtain ⟨r, h1, _, h3⟩ := Code_eq l a b hl ha hb
  obtain ⟨h4, h5⟩ := h3 N (by omega)
  refine ⟨r, h1, ?_⟩
  by_cases hr : r = 0
  · obtain ⟨g1, g2, g3, g4⟩ := h1 hr
    have hR := Ru.of g1
    have hp := (okT_iff.1 g3).2
    obtain ⟨p1, p2⟩ := Plan_l1 l hR a b g4 ha hp a.length 0 N [] [] (by omega) (by omega) rfl rfl
    rw [show ((0 : Nat) : Int) = 0 from rfl] at p1 p2
    simp only [List.drop_zero, List.nil_append] at p1 p2
    obtain ⟨l1, l2⟩ := plP_len l a b g4
    obtain ⟨e1, e2⟩ := erased_eq N (plP l a b) (by omega) (by omega)
    have hc : i_CorrectionPlan N l a b = some (plP l a b, plT l a b, 0) := by
      simp only [i_CorrectionPlan, h5, hr, Option.bind_some, bne_self_eq_false, cond_false, withK_eq, p1]
    have hs : s_l12Plan N l a b = some (plP l a b, plT l a b) := by
      simp only [s_l12Plan, withK_eq, p2]
    simp only [hr, if_true]
    refine ⟨hc, ?_, ?_, ?_⟩
    · simp only [s_CorrectionPlan, h4, hr, Option.bind_some, bne_self_eq_false, cond_false, hs]
    · simp only [i_FewestErased, hc, Option.bind_some, bne_self_eq_false, cond_false, e1]
    · simp only [s_FewestErased, h4, hr, Option.bind_some, bne_self_eq_false, cond_false, hs, e2]
  · have hne : (r != 0) = true := by simpa using hr
    simp only [hr, if_false]
    have hc : i_CorrectionPlan N l a b = some ([], [], r) := by simp only [i_CorrectionPlan, h5, Option.bind_some, hne, cond_true]
    refine ⟨hc, ?_, ?_, ?_⟩
    · simp only [s_CorrectionPlan, h4, Option.bind_some, hne, cond_true]
    · simp only [i_FewestErased, hc, Option.bind_some, hne, cond_true]
    · simp only [s_FewestErased, h4, Option.bind_some, hne, cond_true]
theorem Apply_eq (N : Nat) (l : List Over) (a p c : Str) (hl : l.length ≤ 1000) (ha : a.length ≤ 1000) (hp : p.length ≤ 1000) (hc : c.length ≤ 1000) (hN : 2 * l.length + 4000 < N) :
    ∃ q : Str × Int, i_ApplyPlan N l a p c = some q ∧ s_ApplyPlan N l a p c = some q ∧ ((l.length ≤ 20 ∧ okF l 0) → okT 60 a = true → okT 60 c = true → a.length = c.length → isP p = true → p.length = a.length → (apL l a p c).all (· != 0) = true → q = (apL l a p c, 0)) := by
  obtain ⟨r, h1, h2, h3⟩ := Code_eq l a c hl ha hc
  obtain ⟨h4, h5⟩ := h3 N (by omega)
  obtain ⟨i1, i2⟩ := isPlan_eq N p hp (by omega)
  by_cases hr : r = 0
  · obtain ⟨g1, g2, g3, g4⟩ := h1 hr
    have hR := Ru.of g1
    cases hP : isP p
    · refine ⟨([], 7), ?_, ?_, fun _ _ _ _ h => by cases h⟩
      · simp only [i_ApplyPlan, h5, hr, Option.bind_some, bne_self_eq_false, cond_false, i1, hP, Bool.not_false, cond_true]
      · simp only [s_ApplyPlan, h4, hr, Option.bind_some, beq_self_eq_true, andO_true, withK_eq, i2, hP, Bool.not_false, cond_true]
        rfl
    · by_cases hlen : p.length = a.length
      · have e0 : ((p.length : Int) != (a.length : Int)) = false := by simp [hlen]
        obtain ⟨k1, k2⟩ := Apply_l1 l hR a p c hlen.symm g4 ha (okT_iff.1 g2).2 (okT_iff.1 g3).2 a.length 0 N [] (by omega) (by omega) rfl
        rw [show ((0 : Nat) : Int) = 0 from rfl] at k1 k2
        simp only [List.drop_zero, List.nil_append] at k1 k2
        have ea : app ([] : Str) a = some a := by rw [app_some _ _ (by simp; unfold LIM; omega)]; rfl
        have f1 : i_ApplyPlan N l a p c = bif (apL l a p c).all (· != 0) then some (apL l a p c, 0) else some ([], 3) := by
          simp only [i_ApplyPlan, h5, hr, Option.bind_some, bne_self_eq_false, cond_false, i1, hP, Bool.not_true, e0, ea, withK_eq, k1]
        have f2 : s_ApplyPlan N l a p c = bif (apL l a p c).all (· != 0) then some (apL l a p c, 0) else some ([], 3) := by
          simp only [s_ApplyPlan, h4, hr, Option.bind_some, beq_self_eq_true, andO_true, withK_eq, i2, hP, Bool.not_true, cond_false, e0, bne_self_eq_false, k2]
        rw [f1, f2]
        cases hA : (apL l a p c).all (· != 0)
        · exact ⟨([], 3), rfl, rfl, fun _ _ _ _ _ _ h => by cases h⟩
        · exact ⟨(apL l a p c, 0), rfl, rfl, fun _ _ _ _ _ _ _ => rfl⟩
      · have e0 : ((p.length : Int) != (a.length : Int)) = true := by simp; omega
        refine ⟨([], 6), ?_, ?_, fun _ _ _ _ _ h => absurd h hlen⟩
        · simp only [i_ApplyPlan, h5, hr, Option.bind_some, bne_self_eq_false, cond_false, i1, hP, Bool.not_true, e0, cond_true]
        · simp only [s_ApplyPlan, h4, hr, Option.bind_some, beq_self_eq_true, andO_true, withK_eq, i2, hP, Bool.not_true, cond_false, e0, cond_true]
          rfl
  · have hne : (r != 0) = true := by simpa using hr
    have hne' : (r == 0) = false := by simpa using hr
    refine ⟨([], r), ?_, ?_, fun g1 g2 g3 g4 => absurd (h2 g1 g2 g3 g4) hr⟩
    · simp only [i_ApplyPlan, h5, Option.bind_some, hne, cond_true]
    · simp only [s_ApplyPlan, h4, Option.bind_some, hne', andO_false, withK_eq, cond_false, hne, cond_true]
theorem Erased_eq (N : Nat) (p : Str) (hp : p.length ≤ 1000) (hN : p.length < N) : ∃ q : Int × Int, i_ErasedIn N p = some q ∧ s_ErasedIn N p = some q ∧ (isP p = true → q = (er p, 0)) := by
  obtain ⟨i1, i2⟩ := isPlan_eq N p hp (by omega)
  obtain ⟨e1, e2⟩ := erased_eq N p hp hN
  unfold i_ErasedIn s_ErasedIn
  simp only [i1, i2, e1, e2, Option.bind_some]
  cases isP p
  · exact ⟨(0, 7), rfl, rfl, fun h => by cases h⟩
  · exact ⟨(er p, 0), rfl, rfl, fun _ => rfl⟩
-- a plan makes the wanted line
theorem best_fold (u w : UInt8) : ∀ (l : List Over) (b : UInt8), (l.foldl (bs u w) b = b ∨ ∃ x ∈ l, hd x.under = u ∧ hd x.seen = w ∧ l.foldl (bs u w) b = hd x.top) ∧ (l.foldl (bs u w) b = 0 → (∀ x ∈ l, hd x.top ≠ 0) → b = 0 ∧ ∀ x ∈ l, ¬ (hd x.under = u ∧ hd x.seen = w))
  | [], b => ⟨.inl rfl, fun h _ => ⟨h, fun x hx => by simp at hx⟩⟩
  | x :: l, b => by
    obtain ⟨h1, h2⟩ := best_fold u w l (bs u w b x)
    have e : (x :: l).foldl (bs u w) b = l.foldl (bs u w) (bs u w b x) := rfl
    rw [e]
    constructor
    · rcases h1 with h1 | ⟨y, hy, g1, g2, g3⟩
      · rw [h1]
        unfold bs
        cases hc : (hd x.under == u && hd x.seen == w && (b == 0 || decide (hd x.top < b)))
        · exact .inl rfl
        · simp only [Bool.and_eq_true, beq_iff_eq] at hc
          exact .inr ⟨x, by simp, hc.1.1, hc.1.2, rfl⟩
      · exact .inr ⟨y, by simp [hy], g1, g2, g3⟩
    · intro h0 hne
      obtain ⟨g1, g2⟩ := h2 h0 (fun y hy => hne y (by simp [hy]))
      have hx := hne x (by simp)
      unfold bs at g1
      cases hc : (hd x.under == u && hd x.seen == w && (b == 0 || decide (hd x.top < b)))
      · rw [hc] at g1
        simp only [cond_false] at g1
        subst g1
        refine ⟨rfl, fun y hy => ?_⟩
        rcases List.mem_cons.1 hy with rfl | hy
        · rintro ⟨f1, f2⟩
          rw [f1, f2] at hc; simp at hc
        · exact g2 y hy
      · rw [hc] at g1; simp only [cond_true] at g1; exact absurd g1 hx
theorem Ru.top_nz {l : List Over} (hr : Ru l) : ∀ x ∈ l, hd x.top ≠ 0 := fun x hx => by
  obtain ⟨u, t, s, rfl, h⟩ := hr.one x hx
  exact nz (show 0 < t.toNat by omega)
theorem pl_ok {l : List Over} (hr : Ru l) (u w : UInt8) (hu : pr u = true) (hw : pr w = true) :
    okp (pl l u w).1 = true ∧ pr (pl l u w).2 = true ∧ ap l u (pl l u w).1 (pl l u w).2 = w ∧ ((pl l u w).1 = 35 → u ≠ 32 ∧ u ≠ w ∧ ∀ x ∈ l, ¬ (hd x.under = u ∧ hd x.seen = w)) := by
  have hw0 := pr_nz hw
  by_cases e : u = w
  · subst e
    have : (u == u) = true := by simp
    simp only [pl, this, cond_true]
    exact ⟨by decide, by decide, by simp [ap], fun h => absurd h (by decide)⟩
  · have e' : (u == w) = false := by simpa using e
    by_cases t0 : tp l u w = 0
    · have t0' : (tp l u w != 0) = false := by simp [t0]
      simp only [pl, e', t0', cond_false]
      have u32 : u ≠ 32 := fun h => by subst h; unfold tp at t0; simp at t0; exact hw0 t0
      have u32' : (u == 32) = false := by simpa using u32
      unfold tp best at t0
      rw [u32', cond_false] at t0
      exact ⟨by decide, hw, by simp [ap], fun _ => ⟨u32, e, ((best_fold u w l 0).2 t0 hr.top_nz).2⟩⟩
    · have t0' : (tp l u w != 0) = true := by simpa using t0
      simp only [pl, e', t0', cond_false, cond_true]
      refine ⟨by decide, ?_, ?_, fun h => absurd h (by decide)⟩
      · unfold tp at t0 ⊢
        cases h32 : (u == 32)
        · rw [h32] at t0
          simp only [cond_false] at t0 ⊢
          rcases (best_fold u w l 0).1 with h | ⟨x, hx, g1, g2, g3⟩
          · exact absurd h t0
          · obtain ⟨a, b, c, rfl, _, _, b1, b2, _⟩ := hr.one x hx
            unfold best; rw [g3]
            show pr b = true
            unfold pr
            simp only [Bool.not_eq_true', Bool.or_eq_false_iff, decide_eq_false_iff_not, gt_iff_lt, UInt8.lt_iff_toNat_lt]
            have q1 : (32 : UInt8).toNat = 32 := rfl
            have q2 : (126 : UInt8).toNat = 126 := rfl
            omega
        · exact hw
      · have a1 : ap l u 43 (tp l u w) = sn l u (tp l u w) := by simp [ap]
        rw [a1]
        cases h32 : (u == 32)
        · have ht : tp l u w = best l u w := by unfold tp; rw [h32]; rfl
          rw [ht] at t0 ⊢
          rcases (best_fold u w l 0).1 with h | ⟨x, hx, g1, g2, g3⟩
          · exact absurd h t0
          · obtain ⟨a, b, c, rfl, a1, a2, b1, b2, c1, c2, hab⟩ := hr.one x hx
            have g1 : a = u := g1
            have g2 : c = w := g2
            have g3 : best l u w = b := g3
            subst g1 g2
            rw [g3]
            have n1 : (a == b) = false := by simpa using hab
            have n2 : (b == 32) = false := by
              have : b ≠ 32 := fun h => by subst h; revert b1; decide
              simpa using this
            unfold sn
            rw [n1, n2, h32]
            simp only [Bool.or_false, cond_false]
            unfold fnd
            cases hf : l.find? (fun x => hd x.under == a && hd x.top == b) with
            | none =>
              have := (List.find?_eq_none.1 hf) _ hx
              simp [hd] at this
            | some y =>
              have hy := List.mem_of_find?_eq_some hf
              have hy2 := List.find?_some hf
              simp only [Bool.and_eq_true, beq_iff_eq] at hy2
              obtain ⟨a', b', c', rfl, _⟩ := hr.one y hy
              have q1 : a' = a := hy2.1
              have q2 : b' = b := hy2.2
              subst q1 q2
              have := hr.dst _ hx _ hy rfl rfl
              simp only [Over.mk.injEq] at this
              have : [c] = [c'] := this.2.2
              simp at this
              show c' = c
              exact this.symm
        · have hu32 : u = 32 := eq_of_beq h32
          subst hu32
          have ht : tp l 32 w = w := by unfold tp; rfl
          rw [ht]
          have n2 : (w == 32) = false := by
            have : w ≠ 32 := fun h => e h.symm
            simpa using this
          unfold sn
          rw [e', n2]; rfl
theorem plan_makes {l : List Over} (hr : Ru l) : ∀ (a b : Str), a.length = b.length → (∀ c ∈ a, pr c = true) → (∀ c ∈ b, pr c = true) → apL l a (plP l a b) (plT l a b) = b ∧ (plP l a b).all okp = true ∧ (plT l a b).all pr = true
  | [], [], _, _, _ => ⟨rfl, rfl, rfl⟩
  | u :: a, w :: b, h, ha, hb => by
    obtain ⟨h1, h2, h3⟩ := plan_makes hr a b (by simpa using h) (fun c hc => ha c (by simp [hc])) (fun c hc => hb c (by simp [hc]))
    obtain ⟨g1, g2, g3, _⟩ := pl_ok hr u w (ha u (by simp)) (hb w (by simp))
    simp only [apL, plP, plT, h1, List.all_cons, h2, h3, g1, g2, g3, Bool.and_self, and_self]
theorem plP_get (l : List Over) : ∀ (a b : Str) (i : Nat) (h1 : i < a.length) (h2 : i < b.length) (h3 : i < (plP l a b).length), (plP l a b)[i] = (pl l a[i] b[i]).1
  | u :: a, w :: b, 0, _, _, _ => rfl
  | u :: a, w :: b, i + 1, h1, h2, h3 => plP_get l a b i (by simpa using h1) (by simpa using h2) (by simpa [plP] using h3)
end Go.Proofs.Ytoojddajhalimaa
