/-
  Plain lemmas on these functions. No conditions but those that each states.
-/
import Derived.Test.YtoojddajhalimaaFnWordStartsP2
namespace Go.Proofs.Ytoojddajhalimaa
set_option linter.unusedVariables false
set_option linter.unusedSimpArgs false
theorem mget_mset (l : List (Str × Bool)) (k s : Str) : mget (mset l k true) s = (s == k || mget l s) := by
  induction l with
  | nil => simp only [mset, mget]; cases s == k <;> rfl
  | cons p r ih =>
    obtain ⟨a, b⟩ := p
    simp only [mset]
    by_cases h : k = a
    · subst h; simp only [beq_self_eq_true, cond_true, mget]; cases s == k <;> rfl
    · have : (k == a) = false := by simpa using h
      simp only [this, cond_false, mget]
      by_cases h2 : s = a
      · subst h2
        have : (s == k) = false := by simp; exact fun e => h e.symm
        simp [this]
      · have : (s == a) = false := by simpa using h2
        simp only [this, cond_false]; exact ih
def inr (x lo hi : Int) : Bool := decide (x ≥ lo) && decide (x ≤ hi)
theorem s_l00In_eq (x lo hi : Int) : s_l00In x lo hi = some (inr x lo hi) := by simp only [s_l00In, andO_some, inr, Option.bind_some]
theorem inr_iff {x lo hi : Int} : inr x lo hi = true ↔ lo ≤ x ∧ x ≤ hi := by simp [inr]
def sml (c : UInt8) : Bool := decide (c ≥ 97) && decide (c ≤ 122)
theorem s_l01Small_eq (c : UInt8) : s_l01Small c = some (sml c) := by simp only [s_l01Small, andO_some, sml, Option.bind_some]
theorem sml_not (c : UInt8) : (decide (c < 97) || decide (c > 122)) = !(sml c) := by
  unfold sml
  rw [Bool.eq_iff_iff]
  simp only [Bool.or_eq_true, decide_eq_true_eq, Bool.not_eq_true', Bool.and_eq_false_iff, decide_eq_false_iff_not, gt_iff_lt, ge_iff_le, UInt8.lt_iff_toNat_lt, UInt8.le_iff_toNat_le]
  omega
theorem word_l1 (s : Str) (ha : s.length ≤ 1000) : ∀ (n i N : Nat), i + n = s.length → n < N → ∀ K, s_l16Word_l1 K s N (i : Int) = (bif (s.drop i).all sml then K else some false) ∧ i_isSmallWord_l1 K s N (i : Int) = (bif (s.drop i).all sml then K else some false) := by
  intro n
  induction n with
  | zero =>
    intro i N h1 h3 K
    obtain ⟨N, rfl⟩ := pos_fuel h3
    have hi : ¬ ((i : Int) < (s.length : Int)) := by omega
    have e2 : s.drop i = [] := List.drop_of_length_le (by omega)
    simp [s_l16Word_l1, i_isSmallWord_l1, hi, e2]
  | succ n ih =>
    intro i N h1 h3 K
    obtain ⟨N, rfl⟩ := pos_fuel h3
    have hi : (i : Int) < (s.length : Int) := by omega
    have hn : i < s.length := by omega
    obtain ⟨h4, h5⟩ := ih (i + 1) N (by omega) (by omega) K
    simp only [s_l16Word_l1, i_isSmallWord_l1, hi, decide_true, cond_true, idx_lt s i hn, Option.bind_some, s_l01Small_eq, orO_some, sml_not, w64_nat i (by omega), h4, h5, drop_cons s i hn, List.all_cons]
    cases sml s[i] <;> exact ⟨rfl, rfl⟩
def smw (s : Str) : Bool := s.all sml && inr s.length 1 30
theorem word_eq (N : Nat) (s : Str) (ha : s.length ≤ 1000) (hN : s.length < N) : s_l16Word N s 30 = some (smw s) ∧ i_isSmallWord N s = some (smw s) := by
  have h := fun K => word_l1 s ha s.length 0 N (by omega) hN K
  rw [show ((0 : Nat) : Int) = 0 from rfl] at h
  simp only [List.drop_zero] at h
  unfold s_l16Word i_isSmallWord smw
  simp only [withK_eq, (h _).1, (h _).2, s_l00In_eq, Option.bind_some, andO_some]
  cases s.all sml <;> exact ⟨rfl, rfl⟩
theorem smw_iff {s : Str} : smw s = true ↔ (∀ c ∈ s, sml c = true) ∧ 1 ≤ s.length ∧ s.length ≤ 30 := by
  unfold smw
  rw [Bool.and_eq_true, List.all_eq_true, inr_iff]
  constructor
  · rintro ⟨a, b, c⟩; exact ⟨a, by omega, by omega⟩
  · rintro ⟨a, b, c⟩; exact ⟨a, by omega, by omega⟩
theorem list_l2 (W : List Str) (i : Nat) (hi : i < W.length) (hl : W.length ≤ 1000) : ∀ (n k N : Nat), k + n = i → n < N → ∀ K, s_l16List_l2 K W (i : Int) N (k : Int) = bif ((W.take i).drop k).any (· == W[i]) then some false else K := by
  intro n
  induction n with
  | zero =>
    intro k N h1 h3 K
    obtain ⟨N, rfl⟩ := pos_fuel h3
    have hk : ¬ ((k : Int) < (i : Int)) := by omega
    have e2 : (W.take i).drop k = [] := List.drop_of_length_le (by simp; omega)
    simp [s_l16List_l2, hk, e2]
  | succ n ih =>
    intro k N h1 h3 K
    obtain ⟨N, rfl⟩ := pos_fuel h3
    have hk : (k : Int) < (i : Int) := by omega
    have hkl : k < (W.take i).length := by simp; omega
    have e1 : (W.take i).drop k = W[k]'(by omega) :: (W.take i).drop (k + 1) := by
      rw [drop_cons _ k hkl, List.getElem_take]
    simp only [s_l16List_l2, hk, decide_true, cond_true, idx_lt W k (by omega), idx_lt W i hi, Option.bind_some, w64_nat k (by omega), ih (k + 1) N (by omega) (by omega) K, e1, List.any_cons]
    cases (W[k]'(by omega) == W[i]) <;> rfl
def okF (W : List Str) (i : Nat) : Prop := ∀ j, i ≤ j → ∀ h : j < W.length, smw W[j] = true ∧ (W.take j).any (· == W[j]) = false
theorem list_l1 (W : List Str) (hl : W.length ≤ 1000) (hw : ∀ w ∈ W, w.length ≤ 1000) : ∀ (n i : Nat) (mp : List (Str × Bool)), i + n = W.length → (∀ s, mget mp s = (W.take i).any (· == s)) → ∃ t : Bool, (t = true ↔ okF W i) ∧ ∀ N, n + W.length + 1010 < N → ∀ K, s_l16List_l1 K W N (i : Int) = (bif t then K else some false) ∧ i_areDifferentWords_l1 K W N mp (i : Int) = (bif t then K else some false) := by
  intro n
  induction n with
  | zero =>
    intro i mp h1 _
    have hi : ¬ ((i : Int) < (W.length : Int)) := by omega
    refine ⟨true, ⟨fun _ j hj h => by omega, fun _ => rfl⟩, fun N hN K => ?_⟩
    obtain ⟨N, rfl⟩ := pos_fuel (by omega : 0 < N)
    simp [s_l16List_l1, i_areDifferentWords_l1, hi]
  | succ n ih =>
    intro i mp h1 hmp
    have hi : (i : Int) < (W.length : Int) := by omega
    have hn : i < W.length := by omega
    have hle := hw _ (List.getElem_mem hn)
    have hmp' : ∀ s, mget (mset mp W[i] true) s = (W.take (i + 1)).any (· == s) := fun s => by
      rw [mget_mset, hmp, List.take_succ_eq_append_getElem hn, List.any_append]
      simp only [List.any_cons, List.any_nil, Bool.or_false]
      rw [Bool.or_comm]
      congr 1
      rw [Bool.eq_iff_iff, beq_iff_eq, beq_iff_eq]; exact eq_comm
    obtain ⟨t, g1, g2⟩ := ih (i + 1) _ (by omega) hmp'
    refine ⟨smw W[i] && (!((W.take i).any (· == W[i])) && t), ?_, fun N hN K => ?_⟩
    · simp only [Bool.and_eq_true, g1, Bool.not_eq_true']
      constructor
      · rintro ⟨a, b, c⟩ j hj hjl
        by_cases e : j = i
        · subst e; exact ⟨a, b⟩
        · exact c j (by omega) hjl
      · intro h
        exact ⟨(h i (by omega) hn).1, (h i (by omega) hn).2, fun j hj hjl => h j (by omega) hjl⟩
    · obtain ⟨N, rfl⟩ := pos_fuel (by omega : 0 < N)
      obtain ⟨g3, g4⟩ := g2 N (by omega) K
      obtain ⟨o1, o2⟩ := word_eq N W[i] hle (by omega)
      have q1 := list_l2 W i hn hl i 0 N (by omega) (by omega) (bif t then K else some false)
      rw [show ((0 : Nat) : Int) = 0 from rfl, List.drop_zero] at q1
      simp only [s_l16List_l1, i_areDifferentWords_l1, hi, decide_true, cond_true, withK_eq, idx_lt W i hn, Option.bind_some, o1, o2, w64_nat i (by omega), g3, g4, q1, orO_some, hmp W[i]]
      cases smw W[i] <;> cases (W.take i).any (· == W[i]) <;> cases t <;> exact ⟨rfl, rfl⟩
structure Wd (W : List Str) : Prop where
  len : W.length ≤ 30
  word : ∀ w ∈ W, smw w = true
  dst : ∀ (i j : Nat) (hi : i < W.length) (hj : j < W.length), W[i] = W[j] → i = j
theorem list_eq (W : List Str) (hl : W.length ≤ 1000) (hw : ∀ w ∈ W, w.length ≤ 1000) : ∃ t : Bool, (t = true → Wd W) ∧ ∀ N, 2 * W.length + 1010 < N → s_l16List N W = some t ∧ i_areDifferentWords N W = some t := by
  obtain ⟨t, g1, g2⟩ := list_l1 W hl hw W.length 0 [] (by omega) (fun s => rfl)
  refine ⟨t && decide ((W.length : Int) ≤ 30), ?_, fun N hN => ?_⟩
  · rw [Bool.and_eq_true, decide_eq_true_eq, g1]
    rintro ⟨a, b⟩
    refine ⟨by omega, fun w hw => ?_, fun i j hi hj e => ?_⟩
    · obtain ⟨j, hj, rfl⟩ := List.getElem_of_mem hw
      exact (a j (by omega) hj).1
    · have no : ∀ x y (hx : x < W.length) (hy : y < W.length), x < y → W[x] = W[y] → False := fun x y hx hy hxy he => by
        have h1 := (a y (by omega) hy).2
        rw [List.any_eq_false] at h1
        have := h1 W[x] (by rw [List.mem_take_iff_getElem]; exact ⟨x, by omega, rfl⟩)
        simp [he] at this
      rcases Nat.lt_trichotomy i j with g | g | g
      · exact absurd (no i j hi hj g e) id
      · exact g
      · exact absurd (no j i hj hi g e.symm) id
  · have h := g2 N (by omega)
    rw [show ((0 : Nat) : Int) = 0 from rfl] at h
    simp only [s_l16List, i_areDifferentWords, withK_eq, (h _).1, (h _).2]
    cases t <;> exact ⟨rfl, rfl⟩
theorem starts_eq (w u : Str) : s_l16Starts w u = some (pre u w) ∧ strings_HasPrefix w u = some (pre u w) := by
  by_cases h : (w.length : Int) ≥ (u.length : Int)
  · have hs : sub w 0 (u.length : Int) = some (w.take u.length) := by rw [sub_some _ _ _ (by omega) (by omega) (by omega)]; simp
    unfold s_l16Starts strings_HasPrefix stringslite_HasPrefix pre
    simp only [h, decide_true, andO_true, hs, Option.bind_some, Bool.true_and, and_self]
  · unfold s_l16Starts strings_HasPrefix stringslite_HasPrefix pre
    simp only [h, decide_false, andO_false, Option.bind_some, Bool.false_and, and_self]
theorem count_l1 (W : List Str) (u : Str) (hl : W.length ≤ 1000) : ∀ (n i N m : Nat), i + n = W.length → n < N → m ≤ i → ∀ K, s_l16Count_l1 K W u N (m : Int) (i : Int) = K ((m + (W.drop i).countP (fun x => pre u x) : Nat) : Int) := by
  intro n
  induction n with
  | zero =>
    intro i N m h1 h3 hm K
    obtain ⟨N, rfl⟩ := pos_fuel h3
    have hi : ¬ ((i : Int) < (W.length : Int)) := by omega
    have e2 : W.drop i = [] := List.drop_of_length_le (by omega)
    simp [s_l16Count_l1, hi, e2]
  | succ n ih =>
    intro i N m h1 h3 hm K
    obtain ⟨N, rfl⟩ := pos_fuel h3
    have hi : (i : Int) < (W.length : Int) := by omega
    have hn : i < W.length := by omega
    simp only [s_l16Count_l1, hi, decide_true, cond_true, withK_eq, idx_lt W i hn, Option.bind_some, (starts_eq W[i] u).1, w64_nat i (by omega), w64_nat m (by omega)]
    rw [ih (i + 1) N (m + 1) (by omega) (by omega) (by omega) K, ih (i + 1) N m (by omega) (by omega) (by omega) K, drop_cons W i hn, List.countP_cons]
    cases (pre u W[i]) with
    | false => simp
    | true => simp; congr 1; omega
theorem count_eq (N : Nat) (W : List Str) (u : Str) (hl : W.length ≤ 1000) (hN : W.length < N) : s_l16Count N W u = some ((cnt W u : Nat) : Int) := by
  have := count_l1 W u hl W.length 0 N 0 (by omega) hN (by omega) (fun n => some n)
  rw [show ((0 : Nat) : Int) = 0 from rfl] at this
  unfold s_l16Count
  simp only [withK_eq]
  rw [this]; simp [cnt]
end Go.Proofs.Ytoojddajhalimaa
