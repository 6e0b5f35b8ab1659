/-
  Plain lemmas on these functions. No conditions but those that each states.
-/
import Derived.Test.YtdnnnakjhehfkaaDoorFnReplacementsP4
namespace Go.Proofs.YtdnnnakjhehfkaaDoor
set_option linter.unusedVariables false
set_option linter.unusedSimpArgs false
def gdI (l : List SparePart) (i : Nat) (h : i < l.length) : Prop := fok l.length l[i] = true ∧ dst l i l[i].name = true
theorem any_take_succ (l : List SparePart) (i : Nat) (hi : i < l.length) (s : Str) : (l.take (i + 1)).any (fun y => y.name == s) = (s == l[i].name || (l.take i).any fun y => y.name == s) := by
  rw [List.take_succ_eq_append_getElem hi, List.any_append, Bool.or_comm]
  congr 1
  simp only [List.any_cons, List.any_nil, Bool.or_false]
  by_cases h : l[i].name = s
  · rw [h]
  · have h2 : ¬ s = l[i].name := fun e => h e.symm
    rw [beq_eq_false_iff_ne.2 h, beq_eq_false_iff_ne.2 h2]
theorem dst_not (l : List SparePart) (i : Nat) (s : Str) : dst l i s = !((l.take i).any fun y => y.name == s) := by
  unfold dst; rw [List.not_any_eq_all_not]; rfl
theorem i_VP_step (k : Option Bool) (l : List SparePart) (ha : l.length ≤ LIM) (i N : Nat) (m : List (Str × Bool)) (hm : ∀ s, mget m s = (l.take i).any fun y => y.name == s) (hi : i < l.length) (hN : 30 < N) :
    i_ValidParts_l1 k l (N + 1) m (i : Int) = bif (fok l.length l[i] && dst l i l[i].name) then i_ValidParts_l1 k l N (mset m l[i].name true) ((i + 1 : Nat) : Int) else some false := by
  have hi' : (i : Int) < (l.length : Int) := by omega
  unfold LIM at ha
  have e2 : w64 ((l.length : Int) - 1) = (l.length : Int) - 1 := w64_id (by omega) (by omega)
  simp only [i_ValidParts_l1, hi', decide_true, cond_true, idx_lt l i hi, Option.bind_some, i_IsName_eq N (by omega), i_between_eq, orO_some, e2, w64_nat i (by omega), hm, fok, dst_not]
  cases nm l[i].name <;> cases inr l[i].stock 0 100000 <;> cases inr l[i].target 0 100000 <;> cases inr l[i].days 0 365 <;> cases inr l[i].instead (-1) (↑l.length - 1) <;> cases ((l.take i).any fun y => y.name == l[i].name) <;> rfl
theorem i_VP_bad (k : Option Bool) (l : List SparePart) (ha : l.length ≤ LIM) : ∀ (n i N : Nat) (m : List (Str × Bool)), i + n = l.length → n + 40 < N → (∀ s, mget m s = (l.take i).any fun y => y.name == s) → (∃ j, i ≤ j ∧ ∃ h : j < l.length, ¬ gdI l j h) → i_ValidParts_l1 k l N m (i : Int) = some false := by
  intro n
  induction n with
  | zero => intro i N m h1 h3 hm ⟨j, h4, h5, _⟩; omega
  | succ n ih =>
    intro i N m h1 h3 hm ⟨j, h4, h5, h6⟩
    obtain ⟨N, rfl⟩ := pos_fuel (by omega : 0 < N)
    have hi : i < l.length := by omega
    rw [i_VP_step k l ha i N m hm hi (by omega)]
    by_cases hj : i = j
    · subst hj
      unfold gdI at h6
      cases h7 : fok l.length l[i]
      · rfl
      · cases h8 : dst l i l[i].name
        · rfl
        · exact absurd ⟨h7, h8⟩ h6
    · rw [ih (i + 1) N _ (by omega) (by omega) (fun s => by rw [mget_mset, hm, any_take_succ l i hi]) ⟨j, by omega, h5, h6⟩]
      cases (fok l.length l[i] && dst l i l[i].name) <;> rfl
theorem i_VP_good (k : Option Bool) (l : List SparePart) (ha : l.length ≤ LIM) : ∀ (n i N : Nat) (m : List (Str × Bool)), i + n = l.length → n + 40 < N → (∀ s, mget m s = (l.take i).any fun y => y.name == s) → (∀ j, i ≤ j → ∀ h : j < l.length, gdI l j h) → i_ValidParts_l1 k l N m (i : Int) = k := by
  intro n
  induction n with
  | zero =>
    intro i N m h1 h3 hm h4
    obtain ⟨N, rfl⟩ := pos_fuel (by omega : 0 < N)
    have hi : ¬ ((i : Int) < (l.length : Int)) := by omega
    simp only [i_ValidParts_l1, hi, decide_false, cond_false]
  | succ n ih =>
    intro i N m h1 h3 hm h4
    obtain ⟨N, rfl⟩ := pos_fuel (by omega : 0 < N)
    have hi : i < l.length := by omega
    obtain ⟨h5, h6⟩ := h4 i (by omega) hi
    rw [i_VP_step k l ha i N m hm hi (by omega), h5, h6]
    exact ih (i + 1) N _ (by omega) (by omega) (fun s => by rw [mget_mset, hm, any_take_succ l i hi]) (fun j hj => h4 j (by omega))
theorem i_VP2_bad (k : Option Bool) (l : List SparePart) (ha : l.length ≤ LIM) (hl : ∀ e ∈ l, e.instead < l.length) : ∀ (n i N : Nat), i + n = l.length → n + l.length + 40 < N → (∃ j : Nat, i ≤ j ∧ j < l.length ∧ alv l l.length (j : Int) = true) → i_ValidParts_l2 k l N (i : Int) = some false := by
  intro n
  induction n with
  | zero => intro i N h1 h3 ⟨j, h4, h5, _⟩; omega
  | succ n ih =>
    intro i N h1 h3 ⟨j, h4, h5, h6⟩
    obtain ⟨N, rfl⟩ := pos_fuel (by omega : 0 < N)
    have hi : (i : Int) < (l.length : Int) := by omega
    have hl2 := ha
    unfold LIM at hl2
    simp only [i_ValidParts_l2, hi, decide_true, cond_true, withK_eq, w64_nat i (by omega)]
    rw [i_ValidParts_l3_eq _ l ha hl l.length N i 0 (by omega) (by omega) (by omega) (by omega)]
    by_cases hj : i = j
    · subst hj; rw [h6]; rfl
    · rw [ih (i + 1) N (by omega) (by omega) ⟨j, by omega, h5, h6⟩]
      cases alv l l.length (i : Int) <;> rfl
theorem i_VP2_good (k : Option Bool) (l : List SparePart) (ha : l.length ≤ LIM) (hl : ∀ e ∈ l, e.instead < l.length) : ∀ (n i N : Nat), i + n = l.length → n + l.length + 40 < N → (∀ j : Nat, i ≤ j → j < l.length → alv l l.length (j : Int) = false) → i_ValidParts_l2 k l N (i : Int) = k := by
  intro n
  induction n with
  | zero =>
    intro i N h1 h3 h4
    obtain ⟨N, rfl⟩ := pos_fuel (by omega : 0 < N)
    have hi : ¬ ((i : Int) < (l.length : Int)) := by omega
    simp only [i_ValidParts_l2, hi, decide_false, cond_false]
  | succ n ih =>
    intro i N h1 h3 h4
    obtain ⟨N, rfl⟩ := pos_fuel (by omega : 0 < N)
    have hi : (i : Int) < (l.length : Int) := by omega
    have hl2 := ha
    unfold LIM at hl2
    simp only [i_ValidParts_l2, hi, decide_true, cond_true, withK_eq, w64_nat i (by omega)]
    rw [i_ValidParts_l3_eq _ l ha hl l.length N i 0 (by omega) (by omega) (by omega) (by omega), h4 i (by omega) (by omega)]
    exact ih (i + 1) N (by omega) (by omega) (fun j hj => h4 j (by omega))
/-- what is known of a valid list -/
def VP (l : List SparePart) : Prop := l.length ≤ 40 ∧ (∀ e ∈ l, fok l.length e = true) ∧ ∀ j : Nat, j < l.length → alv l l.length (j : Int) = false
theorem VP.instead {l : List SparePart} (h : VP l) : ∀ e ∈ l, e.instead < l.length := by
  intro e he
  have := h.2.1 e he
  simp only [fok, Bool.and_eq_true, inr_iff] at this
  omega
theorem ValidParts_eq (l : List SparePart) (ha : l.length ≤ LIM) : ∃ t : Bool, (t = true → VP l) ∧ ∀ N, 2 * l.length + 100 < N → s_l24Ok N l = some t ∧ i_ValidParts N l = some t := by
  by_cases h0 : ∃ j, ∃ h : j < l.length, fok l.length l[j] = false
  · obtain ⟨j, h1, h2⟩ := h0
    refine ⟨false, fun h => by simp at h, fun N hN => ⟨?_, ?_⟩⟩
    · have := s_l24Ok_bad0 (some (decide ((l.length : Int) ≤ 40))) l ha l.length 0 N (by omega) (by omega) ⟨j, by omega, h1, h2⟩
      simpa [s_l24Ok] using this
    · have := i_VP_bad (i_ValidParts_l2 (some true) l N 0) l ha l.length 0 N [] (by omega) (by omega) (fun s => rfl) ⟨j, by omega, h1, fun h => by have := h.1; rw [h2] at this; simp at this⟩
      simp only [i_ValidParts, withK_eq]
      rw [show ((0 : Nat) : Int) = 0 from rfl] at this
      rw [this]
      cases decide ((l.length : Int) > 40) <;> rfl
  · have hf : ∀ j, ∀ h : j < l.length, fok l.length l[j] = true := fun j h => by
      cases e : fok l.length l[j]
      · exact absurd ⟨j, h, e⟩ h0
      · rfl
    have hfe : ∀ e ∈ l, fok l.length e = true := fun e he => by
      obtain ⟨i, h1, rfl⟩ := List.getElem_of_mem he
      exact hf i h1
    have hl : ∀ e ∈ l, e.instead < l.length := fun e he => by
      have := hfe e he
      simp only [fok, Bool.and_eq_true, inr_iff] at this
      omega
    have key : ∀ j : Nat, ∀ h : j < l.length, alv l l.length (j : Int) = alv l (l.length + 1) l[j].instead := by
      intro j h
      rw [Bool.eq_iff_iff]
      constructor
      · intro h1
        have := alv_more l hl (j : Int) (by omega) h1 (l.length + 2)
        rw [alv, Bool.and_eq_true, nx_lt l j h] at this
        exact this.2
      · intro h1
        have h2 := alv_mono l _ _ (alv_mono l _ _ (show alv l (l.length + 2) (j : Int) = true by
          rw [alv, Bool.and_eq_true, nx_lt l j h]; exact ⟨by simp, h1⟩))
        exact h2
    by_cases h1 : ∃ j, ∃ h : j < l.length, ¬ gdP l j h
    · refine ⟨false, fun h => by simp at h, fun N hN => ⟨?_, ?_⟩⟩
      · obtain ⟨j, h2, h3⟩ := h1
        have := s_l24Ok_bad (some (decide ((l.length : Int) ≤ 40))) l ha hl l.length 0 N (by omega) (by omega) ⟨j, by omega, h2, h3⟩
        simpa [s_l24Ok] using this
      · simp only [i_ValidParts, withK_eq]
        by_cases h4 : ∃ j, ∃ h : j < l.length, ¬ gdI l j h
        · obtain ⟨j, h2, h3⟩ := h4
          have := i_VP_bad (i_ValidParts_l2 (some true) l N 0) l ha l.length 0 N [] (by omega) (by omega) (fun s => rfl) ⟨j, by omega, h2, h3⟩
          rw [show ((0 : Nat) : Int) = 0 from rfl] at this
          rw [this]
          cases decide ((l.length : Int) > 40) <;> rfl
        · have h5 : ∀ j, ∀ h : j < l.length, gdI l j h := fun j h => Classical.byContradiction fun hc => h4 ⟨j, h, hc⟩
          have := i_VP_good (i_ValidParts_l2 (some true) l N 0) l ha l.length 0 N [] (by omega) (by omega) (fun s => rfl) (fun j _ h => h5 j h)
          rw [show ((0 : Nat) : Int) = 0 from rfl] at this
          rw [this]
          obtain ⟨j, h2, h3⟩ := h1
          have := i_VP2_bad (some true) l ha hl l.length 0 N (by omega) (by omega) ⟨j, by omega, h2, by
            rw [key j h2]
            cases e : alv l (l.length + 1) l[j].instead
            · exact absurd ⟨(h5 j h2).1, (h5 j h2).2, e⟩ h3
            · rfl⟩
          rw [show ((0 : Nat) : Int) = 0 from rfl] at this
          rw [this]
          cases decide ((l.length : Int) > 40) <;> rfl
    · have h5 : ∀ j, ∀ h : j < l.length, gdP l j h := fun j h => Classical.byContradiction fun hc => h1 ⟨j, h, hc⟩
      have h6 : ∀ j : Nat, j < l.length → alv l l.length (j : Int) = false := fun j h => by rw [key j h]; exact (h5 j h).2.2
      refine ⟨decide ((l.length : Int) ≤ 40), fun h => ⟨by simp at h; omega, hfe, h6⟩, fun N hN => ⟨?_, ?_⟩⟩
      · have := s_l24Ok_good (some (decide ((l.length : Int) ≤ 40))) l ha hl l.length 0 N (by omega) (by omega) (fun j _ h => h5 j h)
        simpa [s_l24Ok] using this
      · simp only [i_ValidParts, withK_eq]
        have := i_VP_good (i_ValidParts_l2 (some true) l N 0) l ha l.length 0 N [] (by omega) (by omega) (fun s => rfl) (fun j _ h => ⟨(h5 j h).1, (h5 j h).2.1⟩)
        rw [show ((0 : Nat) : Int) = 0 from rfl] at this
        rw [this]
        have := i_VP2_good (some true) l ha hl l.length 0 N (by omega) (by omega) (fun j _ h => h6 j h)
        rw [show ((0 : Nat) : Int) = 0 from rfl] at this
        rw [this]
        by_cases h40 : (l.length : Int) ≤ 40
        · have : ¬ (l.length : Int) > 40 := by omega
          simp only [h40, this, decide_true, decide_false, cond_false]
        · have : (l.length : Int) > 40 := by omega
          simp only [h40, this, decide_true, decide_false, cond_true]
end Go.Proofs.YtdnnnakjhehfkaaDoor
