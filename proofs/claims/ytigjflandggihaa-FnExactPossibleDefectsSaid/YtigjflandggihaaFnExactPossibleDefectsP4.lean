/-
  Plain lemmas on these functions. No conditions but those that each states.
-/
import Derived.Test.YtigjflandggihaaFnExactPossibleDefectsP3
namespace Go.Proofs.Ytigjflandggihaa
set_option linter.unusedVariables false
set_option linter.unusedSimpArgs false
def okd (c : UInt8) : Bool := c == 48 || c == 49
def onb (d : Defect) (t : Int) : Bool := nm d.name && (inr d.weight 1 1000 && ((d.signs.length : Int) == t && d.signs.all okd))
def dstD (l : List Defect) (i : Nat) (n : Str) : Bool := (l.take i).all fun y => y.name != n
theorem s_l23One_l1_eq (K : Option Bool) (d : Defect) (ha : d.signs.length ≤ LIM) : ∀ (n i N : Nat), i + n = d.signs.length → n < N → s_l23One_l1 K d N (i : Int) = bif (d.signs.drop i).all okd then K else some false := by
  intro n
  induction n with
  | zero =>
    intro i N h1 h3
    obtain ⟨N, rfl⟩ := pos_fuel h3
    have hi : ¬ ((i : Int) < (d.signs.length : Int)) := by omega
    have e2 : d.signs.drop i = [] := List.drop_of_length_le (by omega)
    simp only [s_l23One_l1, hi, decide_false, cond_false, e2, List.all_nil, cond_true]
  | succ n ih =>
    intro i N h1 h3
    obtain ⟨N, rfl⟩ := pos_fuel h3
    have hi : (i : Int) < (d.signs.length : Int) := by omega
    have hn : i < d.signs.length := by omega
    unfold LIM at ha
    simp only [s_l23One_l1, hi, decide_true, cond_true, idx_lt d.signs i hn, Option.bind_some, andO_some, w64_nat i (by omega), ih (i + 1) N (by omega) (by omega), drop_cons d.signs i hn, List.all_cons, okd, bne]
    cases (d.signs[i] == 48) <;> cases (d.signs[i] == 49) <;> rfl
theorem i_VD_l3_eq (K : (List (Str × Bool)) → Option Bool) (m : List (Str × Bool)) (d : Defect) (ha : d.signs.length ≤ LIM) : ∀ (n i N : Nat), i + n = d.signs.length → n < N → i_ValidDefects_l3 K m d N (i : Int) = bif (d.signs.drop i).all okd then K (mset m d.name true) else some false := by
  intro n
  induction n with
  | zero =>
    intro i N h1 h3
    obtain ⟨N, rfl⟩ := pos_fuel h3
    have hi : ¬ ((i : Int) < (d.signs.length : Int)) := by omega
    have e2 : d.signs.drop i = [] := List.drop_of_length_le (by omega)
    simp only [i_ValidDefects_l3, hi, decide_false, cond_false, e2, List.all_nil, cond_true]
  | succ n ih =>
    intro i N h1 h3
    obtain ⟨N, rfl⟩ := pos_fuel h3
    have hi : (i : Int) < (d.signs.length : Int) := by omega
    have hn : i < d.signs.length := by omega
    unfold LIM at ha
    simp only [i_ValidDefects_l3, hi, decide_true, cond_true, idx_lt d.signs i hn, Option.bind_some, andO_some, w64_nat i (by omega), ih (i + 1) N (by omega) (by omega), drop_cons d.signs i hn, List.all_cons, okd, bne]
    cases (d.signs[i] == 48) <;> cases (d.signs[i] == 49) <;> rfl
theorem s_l23One_eq (N : Nat) (d : Defect) (t : Int) (ha : d.signs.length ≤ 1048576) (hN : 1048600 < N) : s_l23One N d t = some (onb d t) := by
  unfold s_l23One
  have h : s_l23One_l1 _ d N 0 = _ := s_l23One_l1_eq ((s_IsName N d.name).bind fun r17 =>
    (andO r17 ((s_l00In d.weight 1 1000).bind fun r22 => some r22)).bind fun t19 =>
    (andO t19 (some ((List.length d.signs : Int) == t))).bind fun t24 => some t24) d (by unfold LIM; omega) d.signs.length 0 N (by omega) (by omega)
  rw [withK_eq, h]
  simp only [s_IsName_eq N (by omega), s_l00In_eq, Option.bind_some, andO_some, List.drop_zero, onb]
  cases d.signs.all okd <;> cases nm d.name <;> cases inr d.weight 1 1000 <;> cases ((d.signs.length : Int) == t) <;> rfl
theorem s_l23Ok_l3_eq (K : Option Bool) (l : List Defect) (i : Nat) (hi : i < l.length) (ha : l.length ≤ LIM) : ∀ (n j N : Nat), j + n = i → n < N → s_l23Ok_l3 K l (i : Int) N (j : Int) = bif ((l.take i).drop j).all (fun y => y.name != l[i].name) then K else some false := by
  intro n
  induction n with
  | zero =>
    intro j N h1 h3
    obtain ⟨N, rfl⟩ := pos_fuel h3
    have hj : ¬ ((j : Int) < (i : Int)) := by omega
    have e2 : (l.take i).drop j = [] := List.drop_of_length_le (by simp; omega)
    simp only [s_l23Ok_l3, hj, decide_false, cond_false, e2, List.all_nil, cond_true]
  | succ n ih =>
    intro j N h1 h3
    obtain ⟨N, rfl⟩ := pos_fuel h3
    have hj : (j : Int) < (i : Int) := by omega
    have hn : j < l.length := by omega
    have hn' : j < (l.take i).length := by simp; omega
    unfold LIM at ha
    simp only [s_l23Ok_l3, hj, decide_true, cond_true, idx_lt l j hn, idx_lt l i hi, Option.bind_some, w64_nat j (by omega), ih (j + 1) N (by omega) (by omega), drop_cons _ j hn', List.all_cons, List.getElem_take, bne]
    cases l[j].name == l[i].name <;> rfl
theorem any_take_succD (l : List Defect) (i : Nat) (hi : i < l.length) (s : Str) : (l.take (i + 1)).any (fun y => y.name == s) = (s == l[i].name || (l.take i).any fun y => y.name == s) := by
  rw [List.take_succ_eq_append_getElem hi, List.any_append, Bool.or_comm]
  congr 1
  simp only [List.any_cons, List.any_nil, Bool.or_false]
  by_cases h : l[i].name = s
  · rw [h]
  · have h2 : ¬ s = l[i].name := fun e => h e.symm
    rw [beq_eq_false_iff_ne.2 h, beq_eq_false_iff_ne.2 h2]
theorem dstD_not (l : List Defect) (i : Nat) (s : Str) : dstD l i s = !((l.take i).any fun y => y.name == s) := by
  unfold dstD; rw [List.not_any_eq_all_not]; rfl
theorem VD_l2_eq (l : List Defect) (p : List Int) (ha : l.length ≤ LIM) (hs : ∀ d ∈ l, d.signs.length ≤ 1048576) : ∀ (n i : Nat), i + n = l.length →
    ∃ t : Bool, (t = true → ∀ j, i ≤ j → ∀ h : j < l.length, onb l[j] p.length = true) ∧ ∀ N, l.length + n + 1048700 < N →
      (∀ K, s_l23Ok_l2 K l p N (i : Int) = bif t then K else some false) ∧ ∀ K m, (∀ s, mget m s = (l.take i).any fun y => y.name == s) → i_ValidDefects_l2 K l p N m (i : Int) = bif t then K else some false := by
  intro n
  induction n with
  | zero =>
    intro i h1
    have hi : ¬ ((i : Int) < (l.length : Int)) := by omega
    refine ⟨true, fun _ j h2 h3 => by omega, fun N hN => ?_⟩
    obtain ⟨N, rfl⟩ := pos_fuel (by omega : 0 < N)
    exact ⟨fun K => by simp [s_l23Ok_l2, hi], fun K m hm => by simp [i_ValidDefects_l2, hi]⟩
  | succ n ih =>
    intro i h1
    have hi : (i : Int) < (l.length : Int) := by omega
    have hn : i < l.length := by omega
    obtain ⟨t, h4, h5⟩ := ih (i + 1) (by omega)
    have hsi := hs _ (List.getElem_mem hn)
    have la := ha
    unfold LIM at la
    refine ⟨onb l[i] p.length && (dstD l i l[i].name && t), fun h j hj hj2 => ?_, fun N hN => ?_⟩
    · simp only [Bool.and_eq_true] at h
      by_cases e : j = i
      · subst e; exact h.1
      · exact h4 h.2.2 j (by omega) hj2
    · obtain ⟨N, rfl⟩ := pos_fuel (by omega : 0 < N)
      obtain ⟨h6, h7⟩ := h5 N (by omega)
      constructor
      · intro K
        have h8 := s_l23Ok_l3_eq (s_l23Ok_l2 K l p N ((i + 1 : Nat) : Int)) l i hn ha i 0 N (by omega) (by omega)
        rw [show ((0 : Nat) : Int) = 0 from rfl, List.drop_zero, h6] at h8
        simp only [s_l23Ok_l2, hi, decide_true, cond_true, withK_eq, idx_lt l i hn, Option.bind_some, s_l23One_eq N _ _ hsi (by omega), w64_nat i (by omega), h6, h8, dstD]
        cases onb l[i] p.length <;> cases (List.take i l).all (fun y => y.name != l[i].name) <;> rfl
      · intro K m hm
        have h8 := i_VD_l3_eq (fun mp => i_ValidDefects_l2 K l p N mp ((i + 1 : Nat) : Int)) m l[i] (by unfold LIM; omega) l[i].signs.length 0 N (by omega) (by omega)
        rw [show ((0 : Nat) : Int) = 0 from rfl, List.drop_zero] at h8
        have h9 := h7 K (mset m l[i].name true) (fun s => by rw [mget_mset, hm, any_take_succD l i hn])
        simp only [i_ValidDefects_l2, hi, decide_true, cond_true, withK_eq, idx_lt l i hn, Option.bind_some, i_IsName_eq N (by omega), i_between_eq, orO_some, hm, w64_nat i (by omega), h8, h9, dstD_not, onb, bne]
        cases nm l[i].name <;> cases inr l[i].weight 1 1000 <;> cases ((l[i].signs.length : Int) == (p.length : Int)) <;> cases l[i].signs.all okd <;> cases ((l.take i).any fun y => y.name == l[i].name) <;> rfl
theorem VD_l1_eq (p : List Int) (ha : p.length ≤ LIM) : ∀ (n i : Nat), i + n = p.length →
    ∃ t : Bool, ∀ N, n < N → (∀ K, s_l23Ok_l1 K p N (i : Int) = bif t then K else some false) ∧ ∀ K, i_ValidDefects_l1 K p N (i : Int) = bif t then K else some false := by
  intro n
  induction n with
  | zero =>
    intro i h1
    have hi : ¬ ((i : Int) < (p.length : Int)) := by omega
    refine ⟨true, fun N hN => ?_⟩
    obtain ⟨N, rfl⟩ := pos_fuel hN
    exact ⟨fun K => by simp [s_l23Ok_l1, hi], fun K => by simp [i_ValidDefects_l1, hi]⟩
  | succ n ih =>
    intro i h1
    have hi : (i : Int) < (p.length : Int) := by omega
    have hn : i < p.length := by omega
    obtain ⟨t, h5⟩ := ih (i + 1) (by omega)
    have la := ha
    unfold LIM at la
    refine ⟨inr p[i] 1 100 && t, fun N hN => ?_⟩
    obtain ⟨N, rfl⟩ := pos_fuel (by omega : 0 < N)
    obtain ⟨h6, h7⟩ := h5 N (by omega)
    constructor
    · intro K
      simp only [s_l23Ok_l1, hi, decide_true, cond_true, idx_lt p i hn, Option.bind_some, s_l00In_eq, w64_nat i (by omega), h6]
      cases inr p[i] 1 100 <;> rfl
    · intro K
      simp only [i_ValidDefects_l1, hi, decide_true, cond_true, idx_lt p i hn, Option.bind_some, i_between_eq, w64_nat i (by omega), h7]
      cases inr p[i] 1 100 <;> rfl
def VDf (l : List Defect) (p : List Int) : Prop := l.length ≤ 10 ∧ p.length ≤ 6 ∧ ∀ d ∈ l, d.signs.length = p.length
theorem ValidDefects_eq (l : List Defect) (p : List Int) (ha : l.length ≤ LIM) (hp : p.length ≤ LIM) (hs : ∀ d ∈ l, d.signs.length ≤ 1048576) : ∃ t : Bool, (t = true → VDf l p) ∧ ∀ N, p.length + 2 * l.length + 1048800 < N → s_l23Ok N l p = some t ∧ i_ValidDefects N l p = some t := by
  obtain ⟨t1, h1⟩ := VD_l1_eq p hp p.length 0 (by omega)
  obtain ⟨t2, h2, h3⟩ := VD_l2_eq l p ha hs l.length 0 (by omega)
  refine ⟨t1 && (t2 && (decide ((l.length : Int) ≤ 10) && decide ((p.length : Int) ≤ 6))), fun h => ?_, fun N hN => ?_⟩
  · simp only [Bool.and_eq_true, decide_eq_true_eq] at h
    refine ⟨by omega, by omega, fun d hd => ?_⟩
    obtain ⟨j, h4, rfl⟩ := List.getElem_of_mem hd
    have := h2 h.2.1 j (by omega) h4
    simp only [onb, Bool.and_eq_true, beq_iff_eq] at this
    omega
  · obtain ⟨h4, h5⟩ := h1 N (by omega)
    obtain ⟨h6, h7⟩ := h3 N (by omega)
    have h7 := fun K => h7 K [] (fun s => rfl)
    rw [show ((0 : Nat) : Int) = 0 from rfl] at h4 h5 h6 h7
    simp only [s_l23Ok, i_ValidDefects, withK_eq, h4, h5, h6, h7, andO_some, orO_some, Option.bind_some]
    have e1 : decide ((p.length : Int) > 6) = !(decide ((p.length : Int) ≤ 6)) := by simp [← Int.not_le]
    have e2 : decide ((l.length : Int) > 10) = !(decide ((l.length : Int) ≤ 10)) := by simp [← Int.not_le]
    rw [e1, e2]
    cases t1 <;> cases t2 <;> cases decide ((l.length : Int) ≤ 10) <;> cases decide ((p.length : Int) ≤ 6) <;> exact ⟨rfl, rfl⟩
/-! ## two with the same signs -/
theorem Same_l2_eq (l : List Defect) (i : Nat) (hi : i < l.length) (ha : l.length ≤ LIM) : ∀ (n j : Nat), j + n = i → ∃ o : Option Int, ∀ N, n < N →
    (∀ K, s_l23Same_l2 K l (i : Int) N (j : Int) = match o with | some x => some ((i : Int), x) | none => K) ∧ ∀ K, i_firstAlike_l2 K l (i : Int) N (j : Int) = match o with | some x => some ((i : Int), x, true) | none => K := by
  intro n
  induction n with
  | zero =>
    intro j h1
    have hj : ¬ ((j : Int) < (i : Int)) := by omega
    refine ⟨none, fun N hN => ?_⟩
    obtain ⟨N, rfl⟩ := pos_fuel hN
    exact ⟨fun K => by simp [s_l23Same_l2, hj], fun K => by simp [i_firstAlike_l2, hj]⟩
  | succ n ih =>
    intro j h1
    have hj : (j : Int) < (i : Int) := by omega
    have hn : j < l.length := by omega
    have la := ha
    unfold LIM at la
    obtain ⟨o, h4⟩ := ih (j + 1) (by omega)
    by_cases e : l[j].signs = l[i].signs
    · refine ⟨some (j : Int), fun N hN => ?_⟩
      obtain ⟨N, rfl⟩ := pos_fuel (by omega : 0 < N)
      exact ⟨fun K => by simp [s_l23Same_l2, hj, idx_lt l j hn, idx_lt l i hi, e], fun K => by simp [i_firstAlike_l2, hj, idx_lt l j hn, idx_lt l i hi, e]⟩
    · refine ⟨o, fun N hN => ?_⟩
      obtain ⟨N, rfl⟩ := pos_fuel (by omega : 0 < N)
      obtain ⟨h5, h6⟩ := h4 N (by omega)
      have e1 : (l[j].signs == l[i].signs) = false := beq_eq_false_iff_ne.2 e
      have e2 : (l[i].signs == l[j].signs) = false := beq_eq_false_iff_ne.2 fun h => e h.symm
      constructor
      · intro K
        simp only [s_l23Same_l2, hj, decide_true, cond_true, idx_lt l j hn, idx_lt l i hi, Option.bind_some, e1, cond_false, w64_nat j (by omega)]
        exact h5 K
      · intro K
        simp only [i_firstAlike_l2, hj, decide_true, cond_true, idx_lt l j hn, idx_lt l i hi, Option.bind_some, e2, cond_false, w64_nat j (by omega)]
        exact h6 K
theorem Same_l1_eq (l : List Defect) (ha : l.length ≤ LIM) : ∀ (n i : Nat), i + n = l.length → ∃ o : Option (Int × Int), (∀ x, o = some x → 0 ≤ x.1) ∧ ∀ N, 2 * l.length + n < N →
    (∀ K, s_l23Same_l1 K l N (i : Int) = match o with | some x => some x | none => K) ∧ ∀ K, i_firstAlike_l1 K l N (i : Int) = match o with | some x => some (x.1, x.2, true) | none => K := by
  intro n
  induction n with
  | zero =>
    intro i h1
    have hi : ¬ ((i : Int) < (l.length : Int)) := by omega
    refine ⟨none, fun x h => by simp at h, fun N hN => ?_⟩
    obtain ⟨N, rfl⟩ := pos_fuel (by omega : 0 < N)
    exact ⟨fun K => by simp [s_l23Same_l1, hi], fun K => by simp [i_firstAlike_l1, hi]⟩
  | succ n ih =>
    intro i h1
    have hi : (i : Int) < (l.length : Int) := by omega
    have la := ha
    unfold LIM at la
    obtain ⟨o, h4, h5⟩ := ih (i + 1) (by omega)
    obtain ⟨o2, h6⟩ := Same_l2_eq l i (by omega) ha i 0 (by omega)
    refine ⟨match o2 with | some x => some ((i : Int), x) | none => o, fun x h => ?_, fun N hN => ?_⟩
    · cases o2
      · exact h4 x h
      · simp at h; subst h; simp
    · obtain ⟨N, rfl⟩ := pos_fuel (by omega : 0 < N)
      obtain ⟨h7, h8⟩ := h6 N (by omega)
      obtain ⟨h9, h10⟩ := h5 N (by omega)
      rw [show ((0 : Nat) : Int) = 0 from rfl] at h7 h8
      constructor
      · intro K
        simp only [s_l23Same_l1, hi, decide_true, cond_true, withK_eq, w64_nat i (by omega), h7, h9]
        cases o2 <;> rfl
      · intro K
        simp only [i_firstAlike_l1, hi, decide_true, cond_true, withK_eq, w64_nat i (by omega), h8, h10]
        cases o2 <;> rfl
theorem Same_eq (l : List Defect) (ha : l.length ≤ LIM) : ∃ o : Option (Int × Int), (∀ x, o = some x → 0 ≤ x.1) ∧ ∀ N, 3 * l.length < N →
    (s_l23Same N l = match o with | some x => some x | none => some (-1, -1)) ∧ i_firstAlike N l = match o with | some x => some (x.1, x.2, true) | none => some (0, 0, false) := by
  obtain ⟨o, h1, h2⟩ := Same_l1_eq l ha l.length 0 (by omega)
  exact ⟨o, h1, fun N hN => ⟨(h2 N (by omega)).1 _, (h2 N (by omega)).2 _⟩⟩
end Go.Proofs.Ytigjflandggihaa
