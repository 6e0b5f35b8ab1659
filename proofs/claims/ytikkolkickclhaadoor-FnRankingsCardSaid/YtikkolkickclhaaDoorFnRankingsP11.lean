/-
  Plain lemmas on these functions. No conditions but those that each states.
-/
import Derived.Test.YtikkolkickclhaaDoorFnRankingsP10
namespace Go.Proofs.YtikkolkickclhaaDoor
set_option linter.unusedVariables false
set_option linter.unusedSimpArgs false
/-! The best of rounds. -/
def lp (s : Str) : List Result → Nat → Option Nat → Option Nat
  | [], _, a => a
  | y :: r, j, a => lp s r (j + 1) (if y.name == s then some j else a)
theorem lp_snoc (s : Str) (x : Result) : ∀ (l : List Result) (j : Nat) (a : Option Nat), lp s (l ++ [x]) j a = if x.name == s then some (j + l.length) else lp s l j a
  | [], j, a => by simp [lp]
  | y :: r, j, a => by
    simp only [List.cons_append, lp, List.length_cons]
    rw [lp_snoc s x r (j + 1) _, show j + 1 + r.length = j + (r.length + 1) by omega]
theorem lp_set (s : Str) (x : Result) : ∀ (l : List Result) (i : Nat) (y : Result) (j : Nat) (a : Option Nat), l[i]? = some y → y.name = x.name → lp s (l.set i x) j a = lp s l j a
  | z :: r, 0, y, j, a, h, e => by
    simp only [List.getElem?_cons_zero, Option.some.injEq] at h
    subst h
    simp only [List.set_cons_zero, lp, e]
  | z :: r, i + 1, y, j, a, h, e => by
    simp only [List.getElem?_cons_succ] at h
    simp only [List.set_cons_succ, lp]
    exact lp_set s x r i y _ _ h e
theorem lp_get (s : Str) : ∀ (l : List Result) (j : Nat) (a : Option Nat) (k : Nat), lp s l j a = some k → a = some k ∨ ∃ y, j ≤ k ∧ l[k - j]? = some y ∧ y.name = s
  | [], j, a, k, h => .inl h
  | z :: r, j, a, k, h => by
    simp only [lp] at h
    rcases lp_get s r (j + 1) _ k h with h1 | ⟨y, h1, h2, h3⟩
    · by_cases e : z.name == s
      · rw [if_pos e] at h1
        obtain rfl := Option.some.inj h1
        exact .inr ⟨z, Nat.le_refl _, by rw [Nat.sub_self]; rfl, by simpa using e⟩
      · rw [if_neg e] at h1
        exact .inl h1
    · exact .inr ⟨y, by omega, by rw [show k - j = (k - (j + 1)) + 1 by omega, List.getElem?_cons_succ]; exact h2, h3⟩
theorem mgetO_msetV (l : List (Str × Int)) (k s : Str) (v : Int) : mgetO (msetV l k v) s = if k == s then some v else mgetO l s := by
  induction l with
  | nil =>
    simp only [msetV, mgetO]
    by_cases e : k = s
    · subst e; simp
    · have e2 : (s == k) = false := by simpa using fun h : s = k => e h.symm
      have e3 : (k == s) = false := by simpa using e
      rw [e2, e3]; rfl
  | cons p r ih =>
    obtain ⟨a, b⟩ := p
    simp only [msetV]
    by_cases h : k = a
    · subst h
      simp only [beq_self_eq_true, cond_true, mgetO]
      by_cases e : k = s
      · subst e; simp
      · have e2 : (s == k) = false := by simpa using fun h : s = k => e h.symm
        have e3 : (k == s) = false := by simpa using e
        rw [e2, e3]; rfl
    · have h2 : (k == a) = false := by simpa using h
      simp only [h2, cond_false, mgetO]
      by_cases e : s = a
      · subst e
        have e3 : (k == s) = false := by simpa using h
        rw [beq_self_eq_true, e3]; rfl
      · have e2 : (s == a) = false := by simpa using e
        rw [e2, cond_false, cond_false, ih]
def bstep (out : List Result) (x : Result) : List Result := match lp x.name out 0 none with
  | none => out ++ [x]
  | some i => match out[i]? with
    | none => out
    | some y => if btr x y then out.set i x else out
def bAll (out : List Result) (l : List Result) : List Result := l.foldl bstep out
theorem bstep_len (out : List Result) (x : Result) : (bstep out x).length ≤ out.length + 1 := by
  unfold bstep
  split
  · simp
  · split
    · omega
    · split
      · rw [List.length_set]; omega
      · omega
theorem s_b4 (kj : Int → Option (List Result × Int)) (out : List Result) (ho : out.length ≤ 2000) (e : Result) : ∀ (q j N : Nat) (a : Option Nat), j + q = out.length → q < N → s_BestOfRounds_l4 kj out e N (match a with | none => -1 | some k => (k : Int)) (j : Int) = kj (match lp e.name (out.drop j) j a with | none => -1 | some k => (k : Int)) := by
  intro q
  induction q with
  | zero =>
    intro j N a h1 h2
    obtain ⟨N, rfl⟩ := pos_fuel h2
    have hz : ¬ (j : Int) < (out.length : Int) := by omega
    rw [List.drop_eq_nil_of_le (by omega)]
    simp only [s_BestOfRounds_l4, hz, decide_false, cond_false, lp]
  | succ q ih =>
    intro j N a h1 h2
    obtain ⟨N, rfl⟩ := pos_fuel h2
    have hj : j < out.length := by omega
    have hz : (j : Int) < (out.length : Int) := by omega
    have ih := fun a => ih (j + 1) N a (by omega) (by omega)
    rw [drop_cons _ j hj]
    simp only [s_BestOfRounds_l4, hz, decide_true, cond_true, withK_n, idx_lt _ j hj, Option.bind_some, w64_nat j (by omega), lp]
    cases hc : out[j].name == e.name with
    | true => rw [cond_true, if_pos rfl]; exact ih (some j)
    | false => rw [cond_false, if_neg (by decide)]; exact ih a
theorem b_l3 (kI : List Result → List (Str × Int) → Option (List Result × Int)) (kS : List Result → Option (List Result × Int)) (R : List (List Result)) (j : Nat) (l : List Result) (hj : idx R (j : Int) = some l) (hl : l.length ≤ 100) (B : Nat) (hB : B ≤ 1500) : ∀ (q x N : Nat) (out : List Result) (mp : List (Str × Int)), x + q = l.length → q + 2100 < N → out.length + q ≤ B → (∀ s, mgetO mp s = (lp s out 0 none).map (fun k : Nat => (k : Int))) →
    ∃ mp' : List (Str × Int), i_BestOfRounds_l3 kI l N out mp (x : Int) = kI (bAll out (l.drop x)) mp' ∧ s_BestOfRounds_l3 kS R (j : Int) N out (x : Int) = kS (bAll out (l.drop x)) ∧ (∀ s, mgetO mp' s = (lp s (bAll out (l.drop x)) 0 none).map (fun k : Nat => (k : Int))) ∧ (bAll out (l.drop x)).length ≤ out.length + q := by
  intro q
  induction q with
  | zero =>
    intro x N out mp h1 h2 h3 h4
    obtain ⟨N, rfl⟩ := pos_fuel h2
    have hz : ¬ (x : Int) < (l.length : Int) := by omega
    rw [List.drop_eq_nil_of_le (by omega)]
    exact ⟨mp, by simp only [i_BestOfRounds_l3, hz, decide_false, cond_false, bAll, List.foldl_nil], by simp only [s_BestOfRounds_l3, hj, Option.bind_some, hz, decide_false, cond_false, bAll, List.foldl_nil], h4, by simp [bAll]⟩
  | succ q ih =>
    intro x N out mp h1 h2 h3 h4
    obtain ⟨N, rfl⟩ := pos_fuel h2
    have hx : x < l.length := by omega
    have hz : (x : Int) < (l.length : Int) := by omega
    have h4x := h4 (l[x]).name
    have hs4 := fun kj => s_b4 kj out (by omega) l[x] out.length 0 N none (by omega) (by omega)
    rw [List.drop_zero, show ((0 : Nat) : Int) = 0 from rfl] at hs4
    simp only at hs4
    have hbl := bstep_len out l[x]
    rw [drop_cons _ x hx]
    show ∃ mp', _ = kI (bAll (bstep out l[x]) (l.drop (x + 1))) mp' ∧ _ = kS (bAll (bstep out l[x]) (l.drop (x + 1))) ∧ (∀ s, _ = (lp s (bAll (bstep out l[x]) (l.drop (x + 1))) 0 none).map _) ∧ (bAll (bstep out l[x]) (l.drop (x + 1))).length ≤ _
    have fin : ∀ mp', (∀ s, mgetO mp' s = (lp s (bstep out l[x]) 0 none).map (fun k : Nat => (k : Int))) → ∃ mp'' : List (Str × Int), i_BestOfRounds_l3 kI l N (bstep out l[x]) mp' ((x + 1 : Nat) : Int) = kI (bAll (bstep out l[x]) (l.drop (x + 1))) mp'' ∧ s_BestOfRounds_l3 kS R (j : Int) N (bstep out l[x]) ((x + 1 : Nat) : Int) = kS (bAll (bstep out l[x]) (l.drop (x + 1))) ∧ (∀ s, mgetO mp'' s = (lp s (bAll (bstep out l[x]) (l.drop (x + 1))) 0 none).map (fun k : Nat => (k : Int))) ∧ (bAll (bstep out l[x]) (l.drop (x + 1))).length ≤ out.length + (q + 1) := fun mp' hm => by
      obtain ⟨mp'', i1, i2, i3, i4⟩ := ih (x + 1) N (bstep out l[x]) mp' (by omega) (by omega) (by omega) hm
      exact ⟨mp'', i1, i2, i3, by omega⟩
    simp only [i_BestOfRounds_l3, s_BestOfRounds_l3, hj, hz, decide_true, cond_true, withK_n, idx_lt _ x hx, Option.bind_some, hs4, w64_nat x (by omega)]
    cases hl2 : lp (l[x]).name out 0 none with
    | none =>
      rw [hl2] at h4x
      have eb : bstep out l[x] = out ++ [l[x]] := by unfold bstep; rw [hl2]
      rw [eb] at fin
      have hd : decide ((-1 : Int) < 0) = true := by decide
      rw [h4x]
      simp only [Option.map_none, Option.isSome_none, Bool.not_false, cond_true, hd]
      rw [app_some _ _ (by simp; unfold LIM; omega)]
      simp only [Option.bind_some]
      rw [eb]
      refine fin _ fun s => ?_
      rw [mgetO_msetV, lp_snoc, h4 s, Nat.zero_add]
      cases hc : (l[x]).name == s <;> simp
    | some k =>
      rw [hl2] at h4x
      rcases lp_get _ _ _ _ _ hl2 with h | ⟨y, _, hy, hyn⟩
      · cases h
      · rw [Nat.sub_zero] at hy
        have hko : k < out.length := lt_of_some hy
        have hyk : out[k] = y := (List.getElem?_eq_some_iff.1 hy).2
        have eb : bstep out l[x] = if btr l[x] y then out.set k l[x] else out := by unfold bstep; rw [hl2]; simp only [hy]
        have hd : decide ((k : Int) < 0) = false := decide_eq_false (by omega)
        have ek : ({ name := (l[x]).name, net := (l[x]).net, errors := (l[x]).errors } : Result) = l[x] := rfl
        rw [h4x]
        simp only [Option.map_some, Option.isSome_some, Bool.not_true, cond_false, hd, Option.getD_some, idx_lt _ k hko, Option.bind_some, hyk, btr_i, btr_s, ek, Int.toNat_natCast]
        rw [eb] at fin
        cases hc : btr l[x] y with
        | true =>
          rw [hc, if_pos rfl] at fin eb
          simp only [cond_true]
          rw [eb]
          refine fin _ fun s => ?_
          rw [lp_set s l[x] out k y 0 none hy (by rw [hyn]), h4 s]
        | false =>
          rw [hc, if_neg (by decide)] at fin eb
          simp only [cond_false]
          rw [eb]
          exact fin _ h4
def bRounds (out : List Result) (R : List (List Result)) : List Result := R.foldl bAll out
theorem b_l2 (kI kS : List Result → Option (List Result × Int)) (R : List (List Result)) (hR : ∀ l ∈ R, l.length ≤ 100) (hRl : R.length ≤ 10) : ∀ (q x N : Nat) (out : List Result) (mp : List (Str × Int)), x + q = R.length → q + 3000 < N → out.length ≤ 100 * x → (∀ s, mgetO mp s = (lp s out 0 none).map (fun k : Nat => (k : Int))) →
    i_BestOfRounds_l2 kI R N out mp (x : Int) = kI (bRounds out (R.drop x)) ∧ s_BestOfRounds_l2 kS R N out (x : Int) = kS (bRounds out (R.drop x)) ∧ (bRounds out (R.drop x)).length ≤ 1000 := by
  intro q
  induction q with
  | zero =>
    intro x N out mp h1 h2 h3 h4
    obtain ⟨N, rfl⟩ := pos_fuel h2
    have hz : ¬ (x : Int) < (R.length : Int) := by omega
    rw [List.drop_eq_nil_of_le (by omega)]
    exact ⟨by simp only [i_BestOfRounds_l2, hz, decide_false, cond_false, bRounds, List.foldl_nil], by simp only [s_BestOfRounds_l2, hz, decide_false, cond_false, bRounds, List.foldl_nil], by simp only [bRounds, List.foldl_nil]; omega⟩
  | succ q ih =>
    intro x N out mp h1 h2 h3 h4
    obtain ⟨N, rfl⟩ := pos_fuel h2
    have hx : x < R.length := by omega
    have hz : (x : Int) < (R.length : Int) := by omega
    have hlx := hR _ (List.getElem_mem hx)
    obtain ⟨mp', b1, b2, b3, b4⟩ := b_l3 (fun l30 mp32 => i_BestOfRounds_l2 kI R N l30 mp32 (w64 ((x : Int) + 1))) (fun l28 => s_BestOfRounds_l2 kS R N l28 (w64 ((x : Int) + 1))) R x R[x] (idx_lt _ x hx) hlx 1200 (by omega) (R[x]).length 0 N out mp (by omega) (by omega) (by omega) h4
    rw [List.drop_zero, show ((0 : Nat) : Int) = 0 from rfl] at b1 b2
    rw [List.drop_zero] at b3 b4
    obtain ⟨i1, i2, i3⟩ := ih (x + 1) N (bAll out R[x]) mp' (by omega) (by omega) (by omega) b3
    rw [drop_cons _ x hx]
    simp only [i_BestOfRounds_l2, s_BestOfRounds_l2, hz, decide_true, cond_true, withK_n, idx_lt _ x hx, Option.bind_some, b1, b2]
    rw [w64_nat x (by omega)]
    exact ⟨i1, i2, i3⟩
theorem b_l1 (R : List (List Result)) (hR : ∀ l ∈ R, l.length ≤ 50) (hl : R.length ≤ 100) (kj : Option (List Result × Int)) : ∀ (q x N : Nat), x + q = R.length → q + 400 < N → i_BestOfRounds_l1 kj R N (x : Int) = (bif (R.drop x).all vR then kj else some ([], 1)) ∧ s_BestOfRounds_l1 kj R N (x : Int) = (bif (R.drop x).all vR then kj else some ([], 1)) := by
  intro q
  induction q with
  | zero =>
    intro x N h1 h2
    obtain ⟨N, rfl⟩ := pos_fuel h2
    have hz : ¬ (x : Int) < (R.length : Int) := by omega
    rw [List.drop_eq_nil_of_le (by omega)]
    simp only [i_BestOfRounds_l1, s_BestOfRounds_l1, hz, decide_false, cond_false, List.all_nil, cond_true, and_self]
  | succ q ih =>
    intro x N h1 h2
    obtain ⟨N, rfl⟩ := pos_fuel h2
    have hx : x < R.length := by omega
    have hz : (x : Int) < (R.length : Int) := by omega
    have hlx := hR _ (List.getElem_mem hx)
    obtain ⟨v1, v2⟩ := valid_ok R[x] (by omega) N (by omega)
    obtain ⟨i1, i2⟩ := ih (x + 1) N (by omega) (by omega)
    rw [drop_cons _ x hx]
    simp only [i_BestOfRounds_l1, s_BestOfRounds_l1, hz, decide_true, cond_true, idx_lt _ x hx, Option.bind_some, v1, v2, w64_nat x (by omega), i1, i2, List.all_cons]
    cases vR R[x]
    · exact ⟨rfl, rfl⟩
    · simp only [Bool.not_true, cond_false, Bool.true_and, and_self]
theorem best_ok (R : List (List Result)) (hR : ∀ l ∈ R, l.length ≤ 50) (hl : R.length ≤ 100) (N : Nat) (hN : 4000 < N) : ∃ (o : List Result) (c : Int), i_BestOfRounds N R = some (o, c) ∧ s_BestOfRounds N R = some (o, c) ∧ o.length ≤ 1000 := by
  unfold i_BestOfRounds s_BestOfRounds
  simp only [withK_n]
  have h1 := fun kj => b_l1 R hR hl kj R.length 0 N (by omega) (by omega)
  rw [show ((0 : Nat) : Int) = 0 from rfl, List.drop_zero] at h1
  rw [(h1 _).1, (h1 _).2]
  cases R.all vR with
  | false => exact ⟨[], 1, rfl, rfl, by simp⟩
  | true =>
    rw [cond_true, cond_true]
    by_cases hc : R.length ≤ 10
    · have hd : decide ((R.length : Int) > 10) = false := decide_eq_false (by omega)
      rw [hd, cond_false, cond_false]
      obtain ⟨i1, i2, i3⟩ := b_l2 (fun l => some (l, 0)) (fun l => some (l, 0)) R (fun l hl => by have := hR l hl; omega) hc R.length 0 N [] [] (by omega) (by omega) (by simp) (fun s => rfl)
      rw [show ((0 : Nat) : Int) = 0 from rfl] at i1 i2
      exact ⟨_, 0, i1, i2, i3⟩
    · have hd : decide ((R.length : Int) > 10) = true := decide_eq_true (by omega)
      rw [hd]
      exact ⟨[], 2, rfl, rfl, by simp⟩
end Go.Proofs.YtikkolkickclhaaDoor
