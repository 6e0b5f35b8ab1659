/-
  Plain lemmas on these functions. No conditions but those that each states.
-/
import Derived.Test.YtpdcifgphocllaaFnAbbreviationsP4
namespace Go.Proofs.Ytpdcifgphocllaa
set_option linter.unusedVariables false
set_option linter.unusedSimpArgs false
/-! Small words, abbreviations, and when they are valid. -/
theorem ltL_irr : ∀ a : Str, ltL a a = false
  | [] => rfl
  | x :: a => by
    simp only [ltL, ltL_irr a, Bool.and_false, Bool.or_false, decide_eq_false_iff_not]
    show ¬ (x.toNat < x.toNat); omega
theorem ltL_trans : ∀ a b c : Str, ltL a b = true → ltL b c = true → ltL a c = true
  | _, _, [], _, h => by simp [ltL] at h
  | _, [], _ :: _, h, _ => by simp [ltL] at h
  | [], _ :: _, _ :: _, _, _ => rfl
  | x :: a, y :: b, z :: c, h1, h2 => by
    simp only [ltL, Bool.or_eq_true, Bool.and_eq_true, decide_eq_true_eq, beq_iff_eq] at h1 h2 ⊢
    rcases h1 with h1 | ⟨rfl, h1⟩
    · have h1 : x.toNat < y.toNat := h1
      rcases h2 with h2 | ⟨rfl, h2⟩
      · have h2 : y.toNat < z.toNat := h2
        exact .inl (show x.toNat < z.toNat by omega)
      · exact .inl h1
    · rcases h2 with h2 | ⟨rfl, h2⟩
      · exact .inl h2
      · exact .inr ⟨rfl, ltL_trans a b c h1 h2⟩
theorem ltL_not : ∀ a b : Str, (!ltL a b) = (ltL b a || b == a)
  | [], [] => rfl
  | [], y :: b => by simp [ltL]
  | x :: a, [] => by simp [ltL]
  | x :: a, y :: b => by
    have ih := ltL_not a b
    simp only [ltL, List.cons_beq_cons]
    by_cases e : x = y
    · subst e
      have h0 : decide (x < x) = false := by rw [decide_eq_false_iff_not]; show ¬ (x.toNat < x.toNat); omega
      rw [h0, beq_self_eq_true, Bool.false_or, Bool.false_or, Bool.true_and, Bool.true_and, Bool.true_and, ih]
    · have hb : (x == y) = false := by simpa using e
      have hb2 : (y == x) = false := by simpa using fun h : y = x => e h.symm
      rw [hb, hb2]
      simp only [Bool.false_and, Bool.or_false]
      have hne : x.toNat ≠ y.toNat := fun h => e (UInt8.toNat_inj.1 h)
      by_cases h : x.toNat < y.toNat
      · have h1 : decide (x < y) = true := decide_eq_true h
        have h2 : decide (y < x) = false := decide_eq_false (show ¬ (y.toNat < x.toNat) by omega)
        rw [h1, h2]; rfl
      · have h1 : decide (x < y) = false := decide_eq_false h
        have h2 : decide (y < x) = true := decide_eq_true (show y.toNat < x.toNat by omega)
        rw [h1, h2]; rfl
theorem ltL_total {a b : Str} (h : ltL a b = false) (hne : a ≠ b) : ltL b a = true := by
  have := ltL_not a b
  rw [h] at this
  have hb : (b == a) = false := by simpa using fun e : b = a => hne e.symm
  rw [hb, Bool.or_false] at this
  exact this.symm
/-- small letters -/
def smc (c : UInt8) : Bool := decide (c ≥ 97) && decide (c ≤ 122)
def swB (m : Nat) (s : Str) : Bool := s.all smc && (decide (1 ≤ s.length) && decide (s.length ≤ m))
theorem swB_iff {m : Nat} {s : Str} : swB m s = true ↔ (∀ c ∈ s, smc c = true) ∧ 1 ≤ s.length ∧ s.length ≤ m := by
  unfold swB
  simp only [Bool.and_eq_true, List.all_eq_true, decide_eq_true_eq]
theorem smc_ne {c : UInt8} (h : smc c = true) : c ≠ 32 ∧ c ≠ 61 := by
  unfold smc at h
  simp only [Bool.and_eq_true, decide_eq_true_eq] at h
  have h1 : (97 : UInt8).toNat ≤ c.toNat := h.1
  have e : (97 : UInt8).toNat = 97 := rfl
  refine ⟨fun e2 => ?_, fun e2 => ?_⟩
  · rw [e2] at h1; have : (32 : UInt8).toNat = 32 := rfl; omega
  · rw [e2] at h1; have : (61 : UInt8).toNat = 61 := rfl; omega
theorem sm_l1 (s : Str) (hs : s.length ≤ 2000) (kj : Option Bool) : ∀ (q x N : Nat), x + q = s.length → q < N → i_isSmallWord_l1 kj s N (x : Int) = (bif (s.drop x).all smc then kj else some false) ∧ s_l16Word_l1 kj s N (x : Int) = (bif (s.drop x).all smc then kj else some false) := by
  intro q
  induction q with
  | zero =>
    intro x N h1 h2
    obtain ⟨N, rfl⟩ := pos_fuel h2
    have hz : ¬ (x : Int) < (s.length : Int) := by omega
    rw [List.drop_eq_nil_of_le (by omega)]
    simp only [i_isSmallWord_l1, s_l16Word_l1, hz, decide_false, cond_false, List.all_nil, cond_true, and_self]
  | succ q ih =>
    intro x N h1 h2
    obtain ⟨N, rfl⟩ := pos_fuel h2
    have hx : x < s.length := by omega
    have hz : (x : Int) < (s.length : Int) := by omega
    obtain ⟨i1, i2⟩ := ih (x + 1) N (by omega) (by omega)
    have e : (decide (s[x] < 97) || decide (s[x] > 122)) = !(smc s[x]) := by
      unfold smc
      rw [Bool.not_and, ← decide_not, ← decide_not]
      congr 1
      · exact decide_eq_decide.2 (by show (s[x]).toNat < (97 : UInt8).toNat ↔ ¬ ((97 : UInt8).toNat ≤ (s[x]).toNat); omega)
      · exact decide_eq_decide.2 (by show (122 : UInt8).toNat < (s[x]).toNat ↔ ¬ ((s[x]).toNat ≤ (122 : UInt8).toNat); omega)
    have e2 : s_l01Small s[x] = some (smc s[x]) := by unfold s_l01Small smc; simp only [andO_some, Option.bind_some]
    rw [drop_cons _ x hx, List.all_cons]
    simp only [i_isSmallWord_l1, s_l16Word_l1, hz, decide_true, cond_true, idx_lt s x hx, Option.bind_some, orO_some, e, e2, w64_nat x (by omega), i1, i2]
    cases smc s[x]
    · exact ⟨rfl, rfl⟩
    · simp only [Bool.not_true, cond_false, Bool.true_and, and_self]
theorem sm_i (s : Str) (hs : s.length ≤ 2000) (N : Nat) (hN : s.length < N) : i_isSmallWord N s = some (swB 30 s) := by
  unfold i_isSmallWord
  rw [withK_n]
  have := (sm_l1 s hs ((andO (decide ((s.length : Int) ≥ 1)) (some (decide ((s.length : Int) ≤ 30)))).bind fun t14 => some t14) s.length 0 N (by omega) hN).1
  rw [show ((0 : Nat) : Int) = 0 from rfl, List.drop_zero] at this
  rw [this, andO_some, Option.bind_some]
  unfold swB
  have e1 : decide ((s.length : Int) ≥ 1) = decide (1 ≤ s.length) := decide_eq_decide.2 (by omega)
  have e2 : decide ((s.length : Int) ≤ 30) = decide (s.length ≤ 30) := decide_eq_decide.2 (by omega)
  rw [e1, e2]
  cases s.all smc <;> rfl
theorem sm_s (m : Nat) (s : Str) (hs : s.length ≤ 2000) (N : Nat) (hN : s.length < N) : s_l16Word N s (m : Int) = some (swB m s) := by
  unfold s_l16Word
  rw [withK_n]
  have hi : s_l00In (s.length : Int) 1 (m : Int) = some (decide (1 ≤ s.length) && decide (s.length ≤ m)) := by
    unfold s_l00In
    have e1 : decide ((s.length : Int) ≥ 1) = decide (1 ≤ s.length) := decide_eq_decide.2 (by omega)
    have e2 : decide ((s.length : Int) ≤ (m : Int)) = decide (s.length ≤ m) := decide_eq_decide.2 (by omega)
    rw [e1, e2, andO_some]; rfl
  have := (sm_l1 s hs ((s_l00In (s.length : Int) 1 (m : Int)).bind fun r12 => some r12) s.length 0 N (by omega) hN).2
  rw [show ((0 : Nat) : Int) = 0 from rfl, List.drop_zero] at this
  rw [this, hi, Option.bind_some]
  unfold swB
  cases s.all smc <;> rfl
def vA (x : Abbr) : Bool := swB 8 x.short && (swB 30 x.long && decide (x.short.length < x.long.length))
/-- short enough to be worked on -/
def SzA (x : Abbr) : Prop := x.short.length ≤ 1000 ∧ x.long.length ≤ 1000
theorem va_s (x : Abbr) (h : SzA x) (N : Nat) (hN : 1001 < N) : s_l16One N x = some (vA x) := by
  unfold s_l16One vA
  have e : decide ((x.short.length : Int) < (x.long.length : Int)) = decide (x.short.length < x.long.length) := decide_eq_decide.2 (by omega)
  rw [show (8 : Int) = ((8 : Nat) : Int) from rfl, show (30 : Int) = ((30 : Nat) : Int) from rfl, sm_s 8 _ (by have := h.1; omega) N (by have := h.1; omega), sm_s 30 _ (by have := h.2; omega) N (by have := h.2; omega)]
  simp only [Option.bind_some, andO_some, e, Bool.and_assoc]
theorem va_i (x : Abbr) (h : SzA x) (N : Nat) (hN : 1001 < N) : i_validAbbr N x = some (vA x) := by
  unfold i_validAbbr vA
  have e : decide ((x.long.length : Int) > (x.short.length : Int)) = decide (x.short.length < x.long.length) := decide_eq_decide.2 (by omega)
  have e2 : decide ((x.short.length : Int) ≤ 8) = decide (x.short.length ≤ 8) := decide_eq_decide.2 (by omega)
  have e3 : (swB 30 x.short && decide (x.short.length ≤ 8)) = swB 8 x.short := by
    rw [Bool.eq_iff_iff, Bool.and_eq_true, swB_iff, swB_iff, decide_eq_true_eq]
    constructor
    · rintro ⟨⟨a, b, _⟩, c⟩; exact ⟨a, b, c⟩
    · rintro ⟨a, b, c⟩; exact ⟨⟨a, b, by omega⟩, c⟩
  rw [← e3, sm_i _ (by have := h.1; omega) N (by have := h.1; omega), sm_i _ (by have := h.2; omega) N (by have := h.2; omega)]
  simp only [Option.bind_some, andO_some, e, e2, Bool.and_assoc]
/-- valid, and behind the one before -/
def okA (l : List Abbr) : Nat → Nat → Bool
  | 0, _ => true
  | q + 1, i => (match l[i]? with
    | none => true
    | some x => vA x && (match i with
      | 0 => true
      | j + 1 => (match l[j]? with
        | none => true
        | some y => ltL y.short x.short))) && okA l q (i + 1)
theorem ok_l1 (l : List Abbr) (hl : l.length ≤ 1000) (hz : ∀ x ∈ l, SzA x) (kj : Option Bool) : ∀ (q i N : Nat), i + q = l.length → q + 1100 < N → i_ValidAbbrs_l1 kj l N (i : Int) = (bif okA l q i then kj else some false) ∧ s_l16Ok_l1 kj l N (i : Int) = (bif okA l q i then kj else some false) := by
  intro q
  induction q with
  | zero =>
    intro i N h1 h2
    obtain ⟨N, rfl⟩ := pos_fuel h2
    have hz : ¬ (i : Int) < (l.length : Int) := by omega
    simp only [i_ValidAbbrs_l1, s_l16Ok_l1, hz, decide_false, cond_false, okA, cond_true, and_self]
  | succ q ih =>
    intro i N h1 h2
    obtain ⟨N, rfl⟩ := pos_fuel h2
    have hi : i < l.length := by omega
    have hlt : (i : Int) < (l.length : Int) := by omega
    obtain ⟨i1, i2⟩ := ih (i + 1) N (by omega) (by omega)
    have hsz := hz _ (List.getElem_mem hi)
    have v1 := va_i _ hsz N (by omega)
    have v2 := va_s _ hsz N (by omega)
    simp only [i_ValidAbbrs_l1, s_l16Ok_l1, hlt, decide_true, cond_true, idx_lt l i hi, Option.bind_some, v1, v2, w64_nat i (by omega), i1, i2, okA, List.getElem?_eq_getElem hi]
    cases i with
    | zero =>
      have z0 : decide (((0 : Nat) : Int) > 0) = false := by decide
      simp only [z0, andO_false, Option.bind_some, orO_some, Bool.or_false, Bool.and_true]
      cases vA l[0] <;> exact ⟨rfl, rfl⟩
    | succ j =>
      have z0 : decide (((j + 1 : Nat) : Int) > 0) = true := decide_eq_true (by omega)
      have e1 : w64 (((j + 1 : Nat) : Int) - 1) = (j : Int) := by rw [w64_id (by omega) (by omega)]; omega
      have hj : j < l.length := by omega
      have hnot := ltL_not (l[j]).short (l[j + 1]).short
      simp only [z0, andO_true, e1, idx_lt l j hj, Option.bind_some, orO_some, List.getElem?_eq_getElem hj, ← hnot]
      cases vA l[j + 1] <;> cases ltL (l[j]).short (l[j + 1]).short <;> exact ⟨rfl, rfl⟩
def vL (l : List Abbr) : Bool := okA l l.length 0 && decide (l.length ≤ 30)
theorem vl_ok (l : List Abbr) (hl : l.length ≤ 1000) (hz : ∀ x ∈ l, SzA x) (N : Nat) (hN : 2200 < N) : i_ValidAbbrs N l = some (vL l) ∧ s_l16Ok N l = some (vL l) := by
  have e : decide ((l.length : Int) ≤ 30) = decide (l.length ≤ 30) := decide_eq_decide.2 (by omega)
  have h := ok_l1 l hl hz (some (decide ((l.length : Int) ≤ 30))) l.length 0 N (by omega) (by omega)
  rw [show ((0 : Nat) : Int) = 0 from rfl, e] at h
  unfold i_ValidAbbrs s_l16Ok vL
  rw [withK_n, withK_n, e, h.1, h.2]
  cases okA l l.length 0 <;> exact ⟨rfl, rfl⟩
/-- what valid lists are -/
structure VL (l : List Abbr) : Prop where
  n : l.length ≤ 30
  v : ∀ x ∈ l, vA x = true
  s : l.Pairwise fun x y => ltL x.short y.short = true
theorem okA_all (l : List Abbr) : ∀ (q i : Nat), i + q = l.length → okA l q i = true → (∀ (j : Nat) (h : j < l.length), i ≤ j → vA l[j] = true) ∧ ∀ (j : Nat) (h : j + 1 < l.length), i ≤ j + 1 → ltL (l[j]).short (l[j + 1]).short = true
  | 0, i, h, _ => ⟨fun j h hj => by omega, fun j h hj => by omega⟩
  | q + 1, i, h, ho => by
    have hi : i < l.length := by omega
    simp only [okA, List.getElem?_eq_getElem hi, Bool.and_eq_true] at ho
    obtain ⟨⟨h1, h2⟩, h3⟩ := ho
    obtain ⟨i1, i2⟩ := okA_all l q (i + 1) (by omega) h3
    refine ⟨fun j hj hij => ?_, fun j hj hij => ?_⟩
    · by_cases e : j = i
      · subst e; exact h1
      · exact i1 j hj (by omega)
    · by_cases e : j + 1 = i
      · subst e
        simp only [List.getElem?_eq_getElem (show j < l.length by omega)] at h2
        exact h2
      · exact i2 j hj (by omega)
theorem okA_of (l : List Abbr) (h1 : ∀ (j : Nat) (h : j < l.length), vA l[j] = true) (h2 : ∀ (j : Nat) (h : j + 1 < l.length), ltL (l[j]).short (l[j + 1]).short = true) : ∀ (q i : Nat), i + q = l.length → okA l q i = true
  | 0, _, _ => rfl
  | q + 1, i, h => by
    have hi : i < l.length := by omega
    simp only [okA, List.getElem?_eq_getElem hi, Bool.and_eq_true]
    refine ⟨⟨h1 i hi, ?_⟩, okA_of l h1 h2 q (i + 1) (by omega)⟩
    cases i with
    | zero => rfl
    | succ j => simp only [List.getElem?_eq_getElem (show j < l.length by omega)]; exact h2 j hi
theorem vL_iff (l : List Abbr) : vL l = true ↔ VL l := by
  unfold vL
  rw [Bool.and_eq_true, decide_eq_true_eq]
  constructor
  · rintro ⟨h1, h2⟩
    obtain ⟨a, b⟩ := okA_all l l.length 0 (by omega) h1
    refine ⟨h2, fun x hx => ?_, ?_⟩
    · obtain ⟨i, hi, rfl⟩ := List.getElem_of_mem hx
      exact a i hi (Nat.zero_le _)
    · rw [List.pairwise_iff_getElem]
      intro i j hi hj hij
      induction j with
      | zero => omega
      | succ j ih =>
        by_cases e : i = j
        · subst e; exact b i hj (Nat.zero_le _)
        · exact ltL_trans _ _ _ (ih (by omega) (by omega)) (b j hj (Nat.zero_le _))
  · rintro ⟨h1, h2, h3⟩
    exact ⟨okA_of l (fun j hj => h2 _ (List.getElem_mem hj)) (fun j hj => (List.pairwise_iff_getElem.1 h3) j (j + 1) (by omega) hj (by omega)) l.length 0 (by omega), h1⟩
theorem vA_facts {x : Abbr} (h : vA x = true) : ((∀ c ∈ x.short, smc c = true) ∧ 1 ≤ x.short.length ∧ x.short.length ≤ 8) ∧ ((∀ c ∈ x.long, smc c = true) ∧ 1 ≤ x.long.length ∧ x.long.length ≤ 30) ∧ x.short.length < x.long.length := by
  unfold vA at h
  rw [Bool.and_eq_true, Bool.and_eq_true, swB_iff, swB_iff, decide_eq_true_eq] at h
  exact h
end Go.Proofs.Ytpdcifgphocllaa
