/-
  Plain lemmas on these functions. No conditions but those that each states.
-/
import Derived.Test.YtoojddajhalimaaFnReadingsP3
namespace Go.Proofs.Ytoojddajhalimaa
set_option linter.unusedVariables false
set_option linter.unusedSimpArgs false
theorem least_of {P : Nat → Prop} : ∀ (n : Nat), P n → ∃ k, k ≤ n ∧ P k ∧ ∀ j, j < k → ¬ P j := by
  intro n
  induction n using Nat.strongRecOn with
  | _ n ih =>
    intro hn
    by_cases h : ∃ j, j < n ∧ P j
    · obtain ⟨j, hj, hp⟩ := h
      obtain ⟨k, h1, h2, h3⟩ := ih j hj hp
      exact ⟨k, by omega, h2, h3⟩
    · exact ⟨n, Nat.le_refl _, hn, fun j hj hp => h ⟨j, hj, hp⟩⟩
/-- a word that may come next -/
def nx (W : List Str) (t : Str) (r : List Int) (few : Bool) (i k : Nat) : Prop := ∃ h : k < W.length, pre W[k] (t.drop i) = true ∧ ∃ h2 : i + (W[k]).length < r.length, 0 ≤ r[i + (W[k]).length] ∧ (few = true → ∃ h3 : i < r.length, r[i + (W[k]).length] = r[i] - 1)
theorem read_l2 (W : List Str) (hW : Cw W) (t : Str) (ht : t.length ≤ 1000) (r : List Int) (hr : Tb W t r 0) (few : Bool) (i : Nat) (hi : i < t.length) (o : List Int) (ho : o.length ≤ 1000) (k0 : Nat) (hk0 : nx W t r few i k0) (hmin : ∀ j, j < k0 → ¬ nx W t r few i j) :
    ∀ (n k N : Nat), k + n = k0 → n < N → ∀ K, i_reading_l2 K W t few r N o (i : Int) (k : Int) = K (o ++ [(k0 : Int)]) ((i + (W[k0]'hk0.1).length : Nat) : Int) := by
  have hwl := hW.len
  have hrl := hr.1
  have step : ∀ (k N : Nat) (hk : k < W.length) K, (nx W t r few i k → i_reading_l2 K W t few r (N + 1) o (i : Int) (k : Int) = K (o ++ [(k : Int)]) ((i + (W[k]).length : Nat) : Int)) ∧ (¬ nx W t r few i k → i_reading_l2 K W t few r (N + 1) o (i : Int) (k : Int) = i_reading_l2 K W t few r N o (i : Int) ((k + 1 : Nat) : Int)) := by
    intro k N hk K
    have hn : (k : Int) < (W.length : Int) := by omega
    obtain ⟨w1, w2, _⟩ := hW.word _ (List.getElem_mem hk)
    have hs := sub_drop t i (by omega)
    cases hp : pre W[k] (t.drop i)
    · refine ⟨fun ⟨_, h, _⟩ => (by rw [hp] at h; cases h), fun _ => ?_⟩
      simp only [i_reading_l2, hn, decide_true, cond_true, withK_eq, idx_lt W k hk, Option.bind_some, hs, starts_eq, hp, Bool.not_false, w64_nat k (by omega)]
    · have hle := pre_le hp
      simp only [List.length_drop] at hle
      have ew : w64 ((i : Int) + ((W[k]).length : Int)) = ((i + (W[k]).length : Nat) : Int) := by rw [w64_id (by omega) (by omega)]; omega
      have hjl : i + (W[k]).length < r.length := by omega
      have hil : i < r.length := by omega
      have hb := Isf_bound hW (hr.2 i (by omega) hil)
      simp only [List.length_drop] at hb
      have ew2 : w64 (r[i] - 1) = r[i] - 1 := w64_id (by omega) (by omega)
      have ea : app o [(k : Int)] = some (o ++ [(k : Int)]) := app_some _ _ (by simp; unfold LIM; omega)
      refine ⟨fun hc => ?_, fun hc => ?_⟩
      · simp only [i_reading_l2, hn, decide_true, cond_true, withK_eq, idx_lt W k hk, Option.bind_some, hs, starts_eq, hp, Bool.not_true, cond_false, ew, idx_lt r _ hjl, idx_lt r i hil, ew2, orO_some, andO_some, ea, w64_nat k (by omega)]
        obtain ⟨_, _, _, c1, c2⟩ := hc
        have : (decide (r[i + (W[k]).length] ≥ 0) && (!few || r[i + (W[k]).length] == r[i] - 1)) = true := by
          rw [Bool.and_eq_true, decide_eq_true_eq]
          refine ⟨c1, ?_⟩
          cases few
          · rfl
          · obtain ⟨_, c3⟩ := c2 rfl
            simp [c3]
        rw [this]; rfl
      · simp only [i_reading_l2, hn, decide_true, cond_true, withK_eq, idx_lt W k hk, Option.bind_some, hs, starts_eq, hp, Bool.not_true, cond_false, ew, idx_lt r _ hjl, idx_lt r i hil, ew2, orO_some, andO_some, ea, w64_nat k (by omega)]
        have : (decide (r[i + (W[k]).length] ≥ 0) && (!few || r[i + (W[k]).length] == r[i] - 1)) = false := by
          rw [← Bool.not_eq_true, Bool.and_eq_true, decide_eq_true_eq]
          rintro ⟨c1, c2⟩
          refine hc ⟨hk, hp, hjl, c1, fun hf => ⟨hil, ?_⟩⟩
          rw [hf] at c2
          simpa using c2
        rw [this]; rfl
  intro n
  induction n with
  | zero =>
    intro k N h1 h3 K
    obtain ⟨N, rfl⟩ := pos_fuel h3
    have e : k = k0 := by omega
    subst e
    exact (step k N hk0.1 K).1 hk0
  | succ n ih =>
    intro k N h1 h3 K
    obtain ⟨N, rfl⟩ := pos_fuel h3
    have hk : k < W.length := by have := hk0.1; omega
    rw [(step k N hk K).2 (hmin k (by omega))]
    exact ih (k + 1) N (by omega) (by omega) K
theorem nx_ex {W : List Str} (hW : Cw W) {t : Str} {r : List Int} (hr : Tb W t r 0) (few : Bool) {i : Nat} (hi : i < t.length) (hv : ∀ h : i < r.length, 0 ≤ r[i]) : ∃ k, nx W t r few i k := by
  have hrl := hr.1
  have hil : i < r.length := by omega
  rcases hr.2 i (by omega) hil with ⟨h1, _⟩ | ⟨h1, ⟨L, h2, h3⟩, h4⟩
  · have := hv hil; omega
  · cases L with
    | nil =>
      have : t.drop i = [] := h2
      have := congrArg List.length this
      simp at this; omega
    | cons k L =>
      obtain ⟨hk, hp, hrd⟩ := h2
      have hle := pre_le hp
      simp only [List.length_drop] at hle
      have hjl : i + (W[k]).length < r.length := by omega
      have hrd' : Rd W L (t.drop (i + (W[k]).length)) := by rw [← List.drop_drop]; exact hrd
      rcases hr.2 _ (by omega) hjl with ⟨_, g2⟩ | ⟨g1, ⟨L', g2, g3⟩, g4⟩
      · exact absurd hrd' (g2 L)
      · refine ⟨k, hk, hp, hjl, g1, fun _ => ⟨hil, ?_⟩⟩
        have a1 := g4 L hrd'
        have a2 := h4 (k :: L') ⟨hk, hp, by rw [List.drop_drop]; exact g2⟩
        simp only [List.length_cons] at h3 a2
        omega
theorem read_l1 (W : List Str) (hW : Cw W) (t : Str) (ht : t.length ≤ 500) (r : List Int) (hr : Tb W t r 0) (few : Bool) : ∀ (m i : Nat), t.length - i ≤ m → i ≤ t.length → (∀ h : i < r.length, 0 ≤ r[i]) →
    ∃ M : List Nat, Rd W M (t.drop i) ∧ (few = true → ∀ h : i < r.length, (M.length : Int) = r[i]) ∧ (few = false → Fst W M (t.drop i)) ∧ ∀ (N : Nat) (o : List Int), m + 20 < N → o.length + m ≤ 1000 → ∀ K, i_reading_l1 K W t few r N o (i : Int) = K (o ++ cast M) := by
  have hrl := hr.1
  have hwl := hW.len
  have fin : ∀ i, i = t.length → (∀ h : i < r.length, 0 ≤ r[i]) → ∃ M : List Nat, Rd W M (t.drop i) ∧ (few = true → ∀ h : i < r.length, (M.length : Int) = r[i]) ∧ (few = false → Fst W M (t.drop i)) ∧ ∀ (N : Nat) (o : List Int), 0 < N → ∀ K, i_reading_l1 K W t few r N o (i : Int) = K (o ++ cast M) := by
    intro i hi hv
    subst hi
    have e : t.drop t.length = [] := List.drop_of_length_le (Nat.le_refl _)
    refine ⟨[], by rw [e]; rfl, fun _ h => ?_, fun _ => by rw [e]; rfl, fun N o hN K => ?_⟩
    · rcases hr.2 t.length (by omega) h with ⟨h1, _⟩ | ⟨h1, ⟨L, h2, h3⟩, h4⟩
      · have := hv h; omega
      · have := h4 [] (by rw [e]; rfl)
        simp at this
        have h0 : (([] : List Nat).length : Int) = 0 := rfl
        omega
    · obtain ⟨N, rfl⟩ := pos_fuel hN
      have hn : ¬ ((t.length : Int) < (t.length : Int)) := by omega
      simp [i_reading_l1, cast]
  intro m
  induction m with
  | zero =>
    intro i h1 h2 hv
    obtain ⟨M, m1, m2, m3, m4⟩ := fin i (by omega) hv
    exact ⟨M, m1, m2, m3, fun N o hN _ K => m4 N o (by omega) K⟩
  | succ m ih =>
    intro i h1 h2 hv
    by_cases hi : i = t.length
    · obtain ⟨M, m1, m2, m3, m4⟩ := fin i hi hv
      exact ⟨M, m1, m2, m3, fun N o hN _ K => m4 N o (by omega) K⟩
    · have hi : i < t.length := by omega
      obtain ⟨k1, hk1⟩ := nx_ex hW hr few hi hv
      obtain ⟨k0, _, hk0, hmin⟩ := least_of k1 hk1
      obtain ⟨c1, c2, c3, c4, c5⟩ := id hk0
      obtain ⟨w1, w2, _⟩ := hW.word _ (List.getElem_mem c1)
      have hle := pre_le c2
      simp only [List.length_drop] at hle
      obtain ⟨M, m1, m2, m3, m4⟩ := ih (i + (W[k0]).length) (by omega) (by omega) (fun _ => c4)
      have hdd : (t.drop i).drop (W[k0]).length = t.drop (i + (W[k0]).length) := List.drop_drop
      refine ⟨k0 :: M, ⟨c1, c2, by rw [hdd]; exact m1⟩, fun hf h => ?_, fun hf => ⟨c1, c2, fun j hj L' hrd => ?_, by rw [hdd]; exact m3 hf⟩, fun N o hN ho K => ?_⟩
      · have := m2 hf c3
        obtain ⟨_, c6⟩ := c5 hf
        simp only [List.length_cons]
        omega
      · obtain ⟨hj1, hp, hrd⟩ := hrd
        have hle := pre_le hp
        simp only [List.length_drop] at hle
        have hjl : i + (W[j]).length < r.length := by omega
        have hrd' : Rd W L' (t.drop (i + (W[j]).length)) := by rw [← List.drop_drop]; exact hrd
        rcases hr.2 _ (by omega) hjl with ⟨_, g2⟩ | ⟨g1, _⟩
        · exact g2 L' hrd'
        · exact hmin j hj ⟨hj1, hp, hjl, g1, fun h => by rw [hf] at h; cases h⟩
      · obtain ⟨N, rfl⟩ := pos_fuel (by omega : 0 < N)
        have hn : (i : Int) < (t.length : Int) := by omega
        have h2 := read_l2 W hW t (by omega) r hr few i hi o (by omega) k0 hk0 hmin k0 0 N (by omega) (by omega)
        rw [show ((0 : Nat) : Int) = 0 from rfl] at h2
        simp only [i_reading_l1, withK_eq, hn, decide_true, cond_true]
        rw [h2, m4 N (o ++ [(k0 : Int)]) (by omega) (by simp; omega) K]
        simp [cast]
theorem reading_eq (N : Nat) (W : List Str) (hW : Cw W) (t : Str) (ht : t.length ≤ 60) (hc : ∀ c ∈ t, c = 97 ∨ c = 98) (L : List Nat) (hL : Rd W L t) (hN : 5000 < N) :
    ∃ A B : List Nat, i_FirstReading N W t = some (cast A, 0) ∧ i_FewestWords N W t = some (cast B, 0) ∧ Fst W A t ∧ Rd W B t ∧ ∀ L, Rd W L t → B.length ≤ L.length := by
  obtain ⟨r, hr, e1⟩ := few_eq N W hW t (by omega) (by omega)
  have hrl := hr.1
  have h0 : 0 < r.length := by omega
  have hI := hr.2 0 (Nat.le_refl _) h0
  rw [List.drop_zero] at hI
  have hv : 0 ≤ r[0] ∧ ∀ L, Rd W L t → r[0] ≤ (L.length : Int) := by
    rcases hI with ⟨_, h⟩ | ⟨h1, _, h2⟩
    · exact absurd hL (h L)
    · exact ⟨h1, h2⟩
  have hx := idx_lt r 0 h0
  rw [show ((0 : Nat) : Int) = 0 from rfl] at hx
  have n0 : ¬ r[0] < 0 := by omega
  have hcode : i_codeCode N W t = some 0 := by
    simp only [i_codeCode, valid_eq N W hW (by omega), text33_eq N t 60 (by omega) (by omega) hc (by omega), Option.bind_some, Bool.not_true, cond_false]
  obtain ⟨A, a1, _, a3, a4⟩ := read_l1 W hW t (by omega) r hr false t.length 0 (by omega) (by omega) (fun _ => hv.1)
  obtain ⟨B, b1, b2, _, b4⟩ := read_l1 W hW t (by omega) r hr true t.length 0 (by omega) (by omega) (fun _ => hv.1)
  have a4 := a4 N [] (by omega) (by simp; omega)
  have b4 := b4 N [] (by omega) (by simp; omega)
  rw [show ((0 : Nat) : Int) = 0 from rfl] at a4 b4
  simp only [List.nil_append, List.drop_zero] at a1 a3 a4 b1 b4
  refine ⟨A, B, ?_, ?_, by simpa using a3, b1, fun L hL => ?_⟩
  · simp only [i_FirstReading, hcode, Option.bind_some, bne_self_eq_false, cond_false, i_reading, e1, hx, n0, decide_false, withK_eq, a4, Bool.not_true]
  · simp only [i_FewestWords, hcode, Option.bind_some, bne_self_eq_false, cond_false, i_reading, e1, hx, n0, decide_false, withK_eq, b4, Bool.not_true]
  · have := b2 rfl h0
    have := hv.2 L hL
    omega
end Go.Proofs.Ytoojddajhalimaa
