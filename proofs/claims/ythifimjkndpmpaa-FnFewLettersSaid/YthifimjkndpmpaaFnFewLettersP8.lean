/-
  Plain lemmas on these functions. No conditions but those that each states.
-/
import Derived.Test.YthifimjkndpmpaaFnFewLettersP7
namespace Go.Proofs.Ythifimjkndpmpaa
set_option linter.unusedVariables false
set_option linter.unusedSimpArgs false
theorem hast_l1 (X : List Str) (s : Str) (hl : X.length ≤ 1000) : ∀ (n i N : Nat), i + n = X.length → n < N → w_a2HasText_l1 (some false) X s N (i : Int) = some ((X.drop i).any (· == s)) := by
  intro n
  induction n with
  | zero =>
    intro i N h1 h3
    obtain ⟨N, rfl⟩ := pos_fuel h3
    have hi : ¬ ((i : Int) < (X.length : Int)) := by omega
    have e2 : X.drop i = [] := List.drop_of_length_le (by omega)
    simp [w_a2HasText_l1, hi, e2]
  | succ n ih =>
    intro i N h1 h3
    obtain ⟨N, rfl⟩ := pos_fuel h3
    have hi : (i : Int) < (X.length : Int) := by omega
    have hn : i < X.length := by omega
    rw [drop_cons X i hn]
    cases hc : (X[i] == s)
    · simp only [w_a2HasText_l1, hi, decide_true, cond_true, cond_false, idx_lt X i hn, Option.bind_some, hc, List.any_cons, Bool.false_or, w64_nat i (by omega)]
      exact ih (i + 1) N (by omega) (by omega)
    · simp only [w_a2HasText_l1, hi, decide_true, cond_true, idx_lt X i hn, Option.bind_some, hc, List.any_cons, Bool.true_or]
theorem hast_ok (N : Nat) (X : List Str) (s : Str) (hl : X.length ≤ 1000) (hN : 1000 < N) : w_a2HasText N X s = some (X.any (· == s)) := by
  have := hast_l1 X s hl X.length 0 N (by omega) (by omega)
  rw [show ((0 : Nat) : Int) = 0 from rfl, List.drop_zero] at this
  unfold w_a2HasText
  rw [withK_eq, this]
theorem fl_l3 (r14 : List Str × Int) (hr : r14.1.length ≤ 1000) (A : List Str) (hA : A.length ≤ 300) (c d : Int) (kj : Bool → Option Bool) : ∀ (n x N : Nat) (t : Bool), x + n = A.length → n + 1100 < N → w_FnFewLetters_l3 kj r14 (A, c) (A, d) N t (x : Int) = kj (t || (A.drop x).any fun a => r14.1.any (· == a)) := by
  intro n
  induction n with
  | zero =>
    intro x N t h1 h2
    obtain ⟨N, rfl⟩ := pos_fuel (by omega : 0 < N)
    have hi : ¬ ((x : Int) < (A.length : Int)) := by omega
    rw [List.drop_eq_nil_of_le (by omega)]
    simp [w_FnFewLetters_l3, hi]
  | succ n ih =>
    intro x N t h1 h2
    obtain ⟨N, rfl⟩ := pos_fuel (by omega : 0 < N)
    have hi : (x : Int) < (A.length : Int) := by omega
    have hx : x < A.length := by omega
    have hh := hast_ok N r14.1 A[x] hr (by omega)
    rw [drop_cons A x hx]
    simp only [w_FnFewLetters_l3, hi, decide_true, cond_true, idx_lt A x hx, Option.bind_some, bne_self_eq_false, cond_false, hh, orO_some, w64_nat x (by omega), List.any_cons]
    rw [ih (x + 1) N _ (by omega) (by omega), Bool.or_assoc]
theorem ones_any (s : Str) (out : List Str) : (ones s).any (fun a => out.any (· == a)) = true ↔ ∃ c ∈ s, [c] ∈ out := by
  rw [List.any_eq_true]
  constructor
  · rintro ⟨a, ha, h⟩
    obtain ⟨c, hc, rfl⟩ := List.mem_map.1 ha
    rw [List.any_eq_true] at h
    obtain ⟨b, hb, e⟩ := h
    exact ⟨c, hc, (eq_of_beq e) ▸ hb⟩
  · rintro ⟨c, hc, h⟩
    refine ⟨[c], List.mem_map.2 ⟨c, hc, rfl⟩, ?_⟩
    rw [List.any_eq_true]
    exact ⟨[c], h, by simp⟩
theorem fl_l2 (L : List Writer) (hW : WOK L) (r14 : List Str × Int) (hr : r14.1.length ≤ 1000) (hT : r14.2 = 0 → ∀ i k, i < L.length → k < i → ∃ c ∈ asc (pr L i k) 0, [c] ∈ r14.1) (i : Nat) (hi : i < L.length) (kj : Bool → Option Bool) : ∀ (n k N : Nat) (t : Bool), k + n = i → n + 2000 < N →
    ∃ c' : Bool, (c' = true ↔ t = true ∨ ∃ q, k ≤ q ∧ q < i ∧ asc (pr L i q) 0 = []) ∧ w_FnFewLetters_l2 kj L r14 (i : Int) N t (k : Int) = kj c' := by
  have hl5 := hW.1
  intro n
  induction n with
  | zero =>
    intro k N t h1 h2
    obtain ⟨N, rfl⟩ := pos_fuel (by omega : 0 < N)
    have hk : ¬ ((k : Int) < (i : Int)) := by omega
    refine ⟨t, ⟨.inl, fun h => ?_⟩, by simp only [w_FnFewLetters_l2, hk, decide_false, cond_false]⟩
    rcases h with h | ⟨q, a, b, _⟩
    · exact h
    · omega
  | succ n ih =>
    intro k N t h1 h2
    obtain ⟨N, rfl⟩ := pos_fuel (by omega : 0 < N)
    have hk : (k : Int) < (i : Int) := by omega
    have hkl : k < L.length := by omega
    obtain ⟨ni, fi⟩ := hW.2 i hi
    obtain ⟨nk, fk⟩ := hW.2 k hkl
    have hpr : DF L[i].faults L[k].faults = pr L i k := by unfold pr; rw [fa_eq hi, fa_eq hkl]
    have hpr2 : DF L[k].faults L[i].faults = pr L i k := by rw [DF_symm, hpr]
    have e1 := lapart_ok ⟨L[i].name, L[i].faults⟩ ⟨L[k].name, L[k].faults⟩ fi fk i k ni nk N (by omega)
    have e2 := lapart_ok ⟨L[k].name, L[k].faults⟩ ⟨L[i].name, L[i].faults⟩ fk fi k i nk ni N (by omega)
    rw [hpr] at e1
    rw [hpr2] at e2
    have hal := asc_len (pr L i k) 0
    have hpl : (pr L i k).length = 256 := DF_len _ _
    obtain ⟨A, hA⟩ : ∃ A, A = ones (asc (pr L i k) 0) := ⟨_, rfl⟩
    have hAl : A.length = (asc (pr L i k) 0).length := by rw [hA]; simp [ones]
    rw [← hA] at e1 e2
    have h3 := fun K => fl_l3 r14 hr A (by omega) 0 0 K A.length 0 N false (by omega) (by omega)
    rw [show ((0 : Nat) : Int) = 0 from rfl] at h3
    simp only [List.drop_zero, Bool.false_or] at h3
    have hb : ((r14.2 == 0) && !(A.any fun a => r14.1.any (· == a))) = false := by
      cases h0 : (r14.2 == 0)
      · rfl
      · have := (ones_any (asc (pr L i k) 0) r14.1).2 (hT (eq_of_beq h0) i k hi (by omega))
        rw [← hA] at this
        rw [this]; rfl
    obtain ⟨c', c1, c2⟩ := ih (k + 1) N (t || ((A.length : Int) == 0)) (by omega) (by omega)
    refine ⟨c', ?_, ?_⟩
    · rw [c1, Bool.or_eq_true, beq_iff_eq]
      have he : ((A.length : Int) = 0) ↔ asc (pr L i k) 0 = [] := by
        rw [← List.length_eq_zero_iff, ← hAl]; omega
      rw [he]
      constructor
      · rintro ((h | h) | ⟨q, a, b, c⟩)
        · exact .inl h
        · exact .inr ⟨k, by omega, by omega, h⟩
        · exact .inr ⟨q, by omega, b, c⟩
      · rintro (h | ⟨q, a, b, c⟩)
        · exact .inl (.inl h)
        · by_cases g : q = k
          · subst g; exact .inl (.inr c)
          · exact .inr ⟨q, by omega, b, c⟩
    · simp only [w_FnFewLetters_l2, hk, decide_true, cond_true, withK_eq, idx_lt L i hi, idx_lt L k hkl, Option.bind_some, e1, e2, bne_self_eq_false, orO_some, Bool.or_self, cond_false]
      rw [h3]
      simp only [andO_some, Option.bind_some, hb, cond_false, w64_nat k (by omega)]
      exact c2
theorem fl_l1 (L : List Writer) (hW : WOK L) (r14 : List Str × Int) (hr : r14.1.length ≤ 1000) (hT : r14.2 = 0 → ∀ i k, i < L.length → k < i → ∃ c ∈ asc (pr L i k) 0, [c] ∈ r14.1) (kj : Bool → Option Bool) : ∀ (n x N : Nat) (t : Bool), x + n = L.length → n + 2100 < N →
    ∃ c' : Bool, (c' = true ↔ t = true ∨ ∃ i q, x ≤ i ∧ i < L.length ∧ q < i ∧ asc (pr L i q) 0 = []) ∧ w_FnFewLetters_l1 kj L r14 N t (x : Int) = kj c' := by
  have hl5 := hW.1
  intro n
  induction n with
  | zero =>
    intro x N t h1 h2
    obtain ⟨N, rfl⟩ := pos_fuel (by omega : 0 < N)
    have hk : ¬ ((x : Int) < (L.length : Int)) := by omega
    refine ⟨t, ⟨.inl, fun h => ?_⟩, by simp only [w_FnFewLetters_l1, hk, decide_false, cond_false]⟩
    rcases h with h | ⟨i, q, a, b, _⟩
    · exact h
    · omega
  | succ n ih =>
    intro x N t h1 h2
    obtain ⟨N, rfl⟩ := pos_fuel (by omega : 0 < N)
    have hi : (x : Int) < (L.length : Int) := by omega
    have hx : x < L.length := by omega
    obtain ⟨c1, d1, d2⟩ := fl_l2 L hW r14 hr hT x hx (fun (clash33 : Bool) => w_FnFewLetters_l1 kj L r14 N clash33 (w64 ((x : Int) + 1))) x 0 N t (by omega) (by omega)
    rw [show ((0 : Nat) : Int) = 0 from rfl] at d2
    obtain ⟨c', g1, g2⟩ := ih (x + 1) N c1 (by omega) (by omega)
    refine ⟨c', ?_, ?_⟩
    · rw [g1, d1]
      constructor
      · rintro ((h | ⟨q, a, b, c⟩) | ⟨i, q, a, b⟩)
        · exact .inl h
        · exact .inr ⟨x, q, by omega, hx, b, c⟩
        · exact .inr ⟨i, q, by omega, b⟩
      · rintro (h | ⟨i, q, a, b, c, d⟩)
        · exact .inl (.inl h)
        · by_cases g : i = x
          · subst g; exact .inl (.inr ⟨q, by omega, c, d⟩)
          · exact .inr ⟨i, q, by omega, b, c, d⟩
    · simp only [w_FnFewLetters_l1, hi, decide_true, cond_true, withK_eq]
      rw [d2, w64_nat x (by omega)]
      exact g2
def mny (f : TypeFault) (L : List Writer) : Nat := (L.map fun w => w.faults.count f).sum
theorem fl_l5 (L : List Writer) (hW : WOK L) (zs : List TypeFault) (c : Int) (j : Nat) (hj : j < zs.length) (hk1 : 1 ≤ (zs[j]).kind) (hL : isL (zs[j]).letter = true) (kj : Int → Option Bool) : ∀ (n x N : Nat) (m : Nat), x + n = L.length → n + 2000 < N → m + n ≤ 1000 →
    w_FnFewLetters_l5 kj L (zs, c) (j : Int) N (m : Int) (x : Int) = kj ((m + mny zs[j] (L.drop x) : Nat) : Int) := by
  have hl5 := hW.1
  intro n
  induction n with
  | zero =>
    intro x N m h1 h2 h3
    obtain ⟨N, rfl⟩ := pos_fuel (by omega : 0 < N)
    have hi : ¬ ((x : Int) < (L.length : Int)) := by omega
    rw [List.drop_eq_nil_of_le (by omega)]
    simp [w_FnFewLetters_l5, hi, mny]
  | succ n ih =>
    intro x N m h1 h2 h3
    obtain ⟨N, rfl⟩ := pos_fuel (by omega : 0 < N)
    have hi : (x : Int) < (L.length : Int) := by omega
    have hx : x < L.length := by omega
    obtain ⟨nx, fx⟩ := hW.2 x hx
    have v1 := valid_ok ⟨L[x].name, L[x].faults⟩ fx x nx N (by omega)
    have v2 := i_letter (zs[j]).letter N (by omega)
    have v3 := kind_ok ⟨L[x].name, L[x].faults⟩ (zs[j]).letter (by have := fx.1; show L[x].faults.length ≤ 100; omega) N (by omega)
    have hko : i_KindOf N ⟨L[x].name, L[x].faults⟩ (zs[j]).letter = some (kOf L[x].faults (zs[j]).letter, 0) := by
      unfold i_KindOf
      simp only [v1, Option.bind_some, Bool.not_true, cond_false, v2, hL, v3]
    have hiff := kOf_iff zs[j] hk1 L[x].faults (let_nd fx)
    have hcnt : L[x].faults.count zs[j] = if kOf L[x].faults (zs[j]).letter = (zs[j]).kind then 1 else 0 := by
      rw [fx.nd.count]
      by_cases hm : zs[j] ∈ L[x].faults
      · rw [if_pos hm, if_pos (hiff.2 hm)]
      · rw [if_neg hm, if_neg (fun h => hm (hiff.1 h))]
    have hmn : mny zs[j] (L.drop x) = L[x].faults.count zs[j] + mny zs[j] (L.drop (x + 1)) := by
      rw [drop_cons L x hx]; rfl
    rw [hmn, hcnt]
    simp only [w_FnFewLetters_l5, hi, decide_true, cond_true, withK_eq, idx_lt L x hx, idx_lt zs j hj, Option.bind_some, hko, bne_self_eq_false, cond_false, w64_nat x (by omega), w64_nat m (by omega)]
    by_cases hb : kOf L[x].faults (zs[j]).letter = (zs[j]).kind
    · have hb' : (kOf L[x].faults (zs[j]).letter == (zs[j]).kind) = true := by simpa using hb
      rw [hb', cond_true, if_pos hb, ih (x + 1) N (m + 1) (by omega) (by omega) (by omega)]
      congr 2
      omega
    · have hb' : (kOf L[x].faults (zs[j]).letter == (zs[j]).kind) = false := by simpa using hb
      rw [hb', cond_false, if_neg hb, ih (x + 1) N m (by omega) (by omega) (by omega)]
      congr 2
      omega
theorem fl_l4 (L : List Writer) (hW : WOK L) (zs : List TypeFault) (c : Int) (hz : ∀ f ∈ zs, (flt L).count f = 1 ∧ 1 ≤ f.kind ∧ isL f.letter = true) (hl : zs.length ≤ 1000) (kj : Option Bool) : ∀ (n x N : Nat), x + n = zs.length → n + 2200 < N → w_FnFewLetters_l4 kj L (zs, c) N (x : Int) = kj := by
  have hl5 := hW.1
  intro n
  induction n with
  | zero =>
    intro x N h1 h2
    obtain ⟨N, rfl⟩ := pos_fuel (by omega : 0 < N)
    have hi : ¬ ((x : Int) < (zs.length : Int)) := by omega
    simp only [w_FnFewLetters_l4, hi, decide_false, cond_false]
  | succ n ih =>
    intro x N h1 h2
    obtain ⟨N, rfl⟩ := pos_fuel (by omega : 0 < N)
    have hi : (x : Int) < (zs.length : Int) := by omega
    have hx : x < zs.length := by omega
    obtain ⟨a1, a2, a3⟩ := hz _ (List.getElem_mem hx)
    have h5 := fun K => fl_l5 L hW zs c x hx a2 a3 K L.length 0 N 0 (by omega) (by omega) (by omega)
    have hm : mny zs[x] L = 1 := by
      rw [← a1]
      unfold flt mny
      rw [List.count_flatMap]
      rfl
    rw [show ((0 : Nat) : Int) = 0 from rfl] at h5
    simp only [List.drop_zero, Nat.zero_add, hm] at h5
    have hk : ¬ ((zs[x]).kind < 1) := by omega
    simp only [w_FnFewLetters_l4, hi, decide_true, cond_true, withK_eq]
    rw [h5]
    simp only [idx_lt zs x hx, Option.bind_some, orO_some, hk, decide_false, Bool.or_false]
    rw [show (((1 : Nat) : Int) != 1) = false from rfl]
    simp only [cond_false, w64_nat x (by omega)]
    exact ih (x + 1) N (by omega) (by omega)
theorem law_FnFewLetters (code more : List UInt8) (_ : wfL wfByte code) (_ : wfL wfByte more) : ∃ N, w_FnFewLetters N code more = some true := by
  obtain ⟨N, hN⟩ : ∃ N, N = 400000 := ⟨_, rfl⟩
  refine ⟨N, ?_⟩
  unfold w_FnFewLetters
  simp only [w_a2Long, orO_some, Option.bind_some]
  cases hbig : (decide ((code.length : Int) > 3000) || decide ((more.length : Int) > 3000))
  · obtain ⟨L, e1, hW⟩ := drawA code N (by omega)
    have hl5 := hW.1
    obtain ⟨zs, e2, z18, hz⟩ := rare_ok L hW N (by omega)
    have h4 := fl_l4 L hW zs 0 hz (by omega) (some true) zs.length 0 N (by omega) (by omega)
    rw [show ((0 : Nat) : Int) = 0 from rfl] at h4
    simp only [cond_false, e1, Option.bind_some]
    rcases fewest_ok L hW N (by omega) with ⟨f1, i, k, i1, i2, i3⟩ | ⟨out, f1, f0, f2⟩
    · obtain ⟨c', c1, c2⟩ := fl_l1 L hW ([], 9) (by simp) (fun h => by cases h) (fun (clash27 : Bool) => bif (clash27 != (((([], 9) : List Str × Int)).2 == 9)) then some false else w_FnFewLetters_l4 (some true) L (zs, 0) N 0) L.length 0 N false (by omega) (by omega)
      have hc : c' = true := c1.2 (.inr ⟨i, k, by omega, i1, i2, i3⟩)
      subst hc
      rw [show ((0 : Nat) : Int) = 0 from rfl] at c2
      simp only [f1, Option.bind_some, e2, withK_eq]
      rw [show ((0 : Int) != 0) = false from rfl, show ((9 : Int) != 0) = true from rfl, show ((9 : Int) != 9) = false from rfl]
      simp only [andO_some, Option.bind_some, orO_some, Bool.and_false, Bool.or_self, cond_false]
      rw [c2, h4]
      rfl
    · have hol : out.length ≤ 1000 := by omega
      obtain ⟨c', c1, c2⟩ := fl_l1 L hW (out, 0) hol (fun _ => f2) (fun (clash27 : Bool) => bif (clash27 != ((((out, 0) : List Str × Int)).2 == 9)) then some false else w_FnFewLetters_l4 (some true) L (zs, 0) N 0) L.length 0 N false (by omega) (by omega)
      have hc : c' = false := by
        cases c' with
        | false => rfl
        | true =>
          rcases c1.1 rfl with h | ⟨i, q, _, a, b, d⟩
          · cases h
          · obtain ⟨c, hc, _⟩ := f2 i q a b
            rw [d] at hc; cases hc
      subst hc
      rw [show ((0 : Nat) : Int) = 0 from rfl] at c2
      simp only [f1, Option.bind_some, e2, withK_eq]
      rw [show ((0 : Int) != 0) = false from rfl]
      simp only [andO_some, Option.bind_some, orO_some, Bool.false_and, Bool.or_self, cond_false]
      rw [c2, h4]
      rfl
  · rfl
end Go.Proofs.Ythifimjkndpmpaa
