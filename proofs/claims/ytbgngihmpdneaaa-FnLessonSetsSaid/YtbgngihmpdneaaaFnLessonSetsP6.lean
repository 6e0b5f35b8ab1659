/-
  Plain lemmas on these functions. No conditions but those that each states.
-/
import Derived.Test.YtbgngihmpdneaaaFnLessonSetsP5
namespace Go.Proofs.Ytbgngihmpdneaaa
set_option linter.unusedVariables false
set_option linter.unusedSimpArgs false
/-! Valid lessons. -/
def risF (n : Int) : Option Int → List Int → Bool
  | _, [] => true
  | p, x :: r => inr x 0 (n - 1) && ((match p with | none => true | some y => decide (y < x)) && risF n (some x) r)
def prv (l : List Int) (i : Nat) : Option Int := if i = 0 then none else l[i - 1]?
theorem prv_succ (l : List Int) (i : Nat) (h : i < l.length) : prv l (i + 1) = some l[i] := by
  unfold prv; rw [if_neg (by omega), Nat.add_sub_cancel, List.getElem?_eq_getElem h]
theorem ris_l1 (l : List Int) (n : Nat) (hn : n ≤ 1000) (hl : l.length ≤ 1000) (kj : Option Bool) : ∀ (q i N : Nat), i + q = l.length → q < N →
    i_areIndices_l1 kj l (n : Int) N (i : Int) = (bif risF n (prv l i) (l.drop i) then kj else some false) ∧ s_l00Rises_l1 kj l 0 ((n : Int) - 1) N (i : Int) = (bif risF n (prv l i) (l.drop i) then kj else some false) := by
  intro q
  induction q with
  | zero =>
    intro i N h1 h3
    obtain ⟨N, rfl⟩ := pos_fuel h3
    have hi : ¬ ((i : Int) < (l.length : Int)) := by omega
    have e2 : l.drop i = [] := List.drop_of_length_le (by omega)
    simp [i_areIndices_l1, s_l00Rises_l1, hi, e2, risF]
  | succ q ih =>
    intro i N h1 h3
    obtain ⟨N, rfl⟩ := pos_fuel h3
    have hi : (i : Int) < (l.length : Int) := by omega
    have hn2 : i < l.length := by omega
    obtain ⟨g1, g2⟩ := ih (i + 1) N (by omega) (by omega)
    have e0 : w64 ((n : Int) - 1) = (n : Int) - 1 := w64_id (by omega) (by omega)
    rw [drop_cons l i hn2]
    simp only [i_areIndices_l1, s_l00Rises_l1, hi, decide_true, cond_true, idx_lt l i hn2, Option.bind_some, e0, i_between_eq, s_l00In_eq, w64_nat i (by omega), g1, g2, prv_succ l i hn2, risF]
    by_cases h0 : i = 0
    · subst h0
      have e3 : decide (((0 : Nat) : Int) > 0) = false := rfl
      simp only [e3, andO_false, Option.bind_some, orO_some, Bool.or_false, prv, if_true, Bool.true_and]
      cases inr l[0] 0 ((n : Int) - 1) <;> exact ⟨rfl, rfl⟩
    · have e3 : decide ((i : Int) > 0) = true := decide_eq_true (by omega)
      have e4 : w64 ((i : Int) - 1) = ((i - 1 : Nat) : Int) := by rw [w64_id (by omega) (by omega)]; omega
      have e5 : prv l i = some (l[i - 1]'(by omega)) := by unfold prv; rw [if_neg h0, List.getElem?_eq_getElem]
      simp only [e3, e4, e5, andO_true, idx_lt l (i - 1) (by omega), Option.bind_some, orO_some]
      have e6 : decide (l[i] ≤ l[i - 1]'(by omega)) = !(decide (l[i - 1]'(by omega) < l[i])) := by rw [Bool.eq_iff_iff]; simp
      have e7 : decide (l[i - 1]'(by omega) ≥ l[i]) = !(decide (l[i - 1]'(by omega) < l[i])) := by rw [Bool.eq_iff_iff]; simp
      rw [e6]
      cases inr l[i] 0 ((n : Int) - 1) <;> cases decide (l[i - 1]'(by omega) < l[i]) <;> exact ⟨rfl, rfl⟩
def risB (n : Nat) (l : List Int) : Bool := risF n none l
theorem ris_ok (l : List Int) (n : Nat) (hn : n ≤ 1000) (hl : l.length ≤ 1000) (N : Nat) (hN : 1000 < N) : i_areIndices N l (n : Int) = some (risB n l) ∧ s_l00Rises N l 0 (w64 ((n : Int) - 1)) = some (risB n l) := by
  obtain ⟨h1, h2⟩ := ris_l1 l n hn hl (some true) l.length 0 N (by omega) (by omega)
  unfold i_areIndices s_l00Rises
  rw [w64_id (x := (n : Int) - 1) (by omega) (by omega), withK_n, withK_n]
  refine ⟨h1.trans ?_, h2.trans ?_⟩
  all_goals
    show (bif risF n none (l.drop 0) then some true else some false) = some (risF n none l)
    rw [List.drop_zero]
    cases risF n none l <;> rfl
theorem cont_l1 (l : List Int) (c : Int) (ha : l.length ≤ 1000) : ∀ (n i N : Nat), i + n = l.length → n < N → i_contains_l1 (some false) l c N (i : Int) = some ((l.drop i).any (· == c)) := by
  intro n
  induction n with
  | zero =>
    intro i N h1 h3
    obtain ⟨N, rfl⟩ := pos_fuel h3
    have hi : ¬ ((i : Int) < (l.length : Int)) := by omega
    have e2 : l.drop i = [] := List.drop_of_length_le (by omega)
    simp [i_contains_l1, hi, e2]
  | succ n ih =>
    intro i N h1 h3
    obtain ⟨N, rfl⟩ := pos_fuel h3
    have hi : (i : Int) < (l.length : Int) := by omega
    have hn : i < l.length := by omega
    have h4 := ih (i + 1) N (by omega) (by omega)
    simp only [i_contains_l1, hi, decide_true, cond_true, idx_lt l i hn, Option.bind_some, w64_nat i (by omega), h4, drop_cons l i hn, List.any_cons]
    cases (l[i] == c) <;> rfl
theorem cont_ok (l : List Int) (c : Int) (ha : l.length ≤ 1000) (N : Nat) (hN : 1000 < N) : i_contains N l c = some (l.any (· == c)) := by
  have := cont_l1 l c ha l.length 0 N (by omega) (by omega)
  simpa [i_contains] using this
def ascB : Str → Bool
  | a :: b :: r => decide (a < b) && ascB (b :: r)
  | _ => true
theorem ascI_l2 (x : Lesson) (kj : Option Bool) (hl : x.letters.length ≤ 1000) : ∀ (q i N : Nat), i + 1 + q = x.letters.length → q < N → i_ValidLessons_l2 kj x N ((i + 1 : Nat) : Int) = (bif ascB (x.letters.drop i) then kj else some false) ∧ s_l18Ok_l2 kj x N ((i + 1 : Nat) : Int) = (bif ascB (x.letters.drop i) then kj else some false) := by
  intro q
  induction q with
  | zero =>
    intro i N h1 h3
    obtain ⟨N, rfl⟩ := pos_fuel h3
    have hi : ¬ (((i + 1 : Nat) : Int) < (x.letters.length : Int)) := by omega
    have e2 : x.letters.drop i = [x.letters[i]'(by omega)] := by rw [List.drop_eq_getElem_cons (by omega), List.drop_of_length_le (by omega)]
    rw [e2]
    simp only [i_ValidLessons_l2, s_l18Ok_l2, hi, decide_false, cond_false, ascB, cond_true]
    exact ⟨trivial, trivial⟩
  | succ q ih =>
    intro i N h1 h3
    obtain ⟨N, rfl⟩ := pos_fuel h3
    have hi : (((i + 1 : Nat) : Int) < (x.letters.length : Int)) := by omega
    obtain ⟨g1, g2⟩ := ih (i + 1) N (by omega) (by omega)
    have e4 : w64 (((i + 1 : Nat) : Int) - 1) = (i : Int) := by rw [w64_id (by omega) (by omega)]; omega
    have h5 : i < x.letters.length := by omega
    have h6 : i + 1 < x.letters.length := by omega
    have e2 : x.letters.drop i = x.letters[i] :: x.letters[i + 1] :: x.letters.drop (i + 1 + 1) := by rw [drop_cons _ i h5, drop_cons _ (i + 1) h6]
    simp only [i_ValidLessons_l2, s_l18Ok_l2, hi, decide_true, cond_true, e4, idx_lt x.letters i h5, idx_lt x.letters (i + 1) h6, Option.bind_some, w64_nat (i + 1) (by omega), g1, g2]
    rw [e2, drop_cons _ (i + 1) h6]
    simp only [ascB]
    have e6 : decide (x.letters[i + 1] ≤ x.letters[i]) = !(decide (x.letters[i] < x.letters[i + 1])) := by rw [Bool.eq_iff_iff]; simp [UInt8.not_lt]
    have e7 : decide (x.letters[i] ≥ x.letters[i + 1]) = !(decide (x.letters[i] < x.letters[i + 1])) := by rw [Bool.eq_iff_iff]; simp [UInt8.not_lt]
    rw [e6]
    cases decide (x.letters[i] < x.letters[i + 1]) <;> exact ⟨rfl, rfl⟩
theorem asc_ok (x : Lesson) (kj : Option Bool) (hl : x.letters.length ≤ 1000) (N : Nat) (hN : 1000 < N) : i_ValidLessons_l2 kj x N 1 = (bif ascB x.letters then kj else some false) ∧ s_l18Ok_l2 kj x N 1 = (bif ascB x.letters then kj else some false) := by
  cases hx : x.letters with
  | nil =>
    obtain ⟨N, rfl⟩ := pos_fuel hN
    have hi : ¬ ((1 : Int) < (x.letters.length : Int)) := by rw [hx]; simp
    simp only [i_ValidLessons_l2, s_l18Ok_l2, hi, decide_false, cond_false, ascB, cond_true]
    exact ⟨trivial, trivial⟩
  | cons a r =>
    have := ascI_l2 x kj hl r.length 0 N (by rw [hx]; simp; omega) (by rw [hx] at hl; simp at hl; omega)
    rw [List.drop_zero, hx] at this
    exact this
/-- sizes -/
def SzL (L : List Lesson) : Prop := L.length ≤ 20 ∧ ∀ x ∈ L, x.letters.length ≤ 200 ∧ x.needs.length ≤ 200 ∧ x.name.length ≤ 200
def okL (n i : Nat) (x : Lesson) : Bool := nm x.name && ((isT x.letters 33 && decide ((x.letters.length : Int) ≤ 100)) && (inr x.hours 0 100 && (ascB x.letters && (risB n x.needs && !(x.needs.any (· == (i : Int)))))))
def vl (n : Nat) : List Str → Nat → List Lesson → Bool
  | _, _, [] => true
  | seen, i, x :: r => (okL n i x && !(seen.any (x.name == ·))) && vl n (seen ++ [x.name]) (i + 1) r
theorem vlI_l1 (L : List Lesson) (h : SzL L) : ∀ (q i N : Nat) (mp : List (Str × Bool)) (seen : List Str), i + q = L.length → q + 1001 < N → (∀ s, mget mp s = seen.any (s == ·)) → i_ValidLessons_l1 (some true) L N mp (i : Int) = some (vl L.length seen i (L.drop i)) := by
  intro q
  induction q with
  | zero =>
    intro i N mp seen h1 h3 hm
    obtain ⟨N, rfl⟩ := pos_fuel h3
    have hi : ¬ ((i : Int) < (L.length : Int)) := by omega
    have e2 : L.drop i = [] := List.drop_of_length_le (by omega)
    simp [i_ValidLessons_l1, hi, e2, vl]
  | succ q ih =>
    intro i N mp seen h1 h3 hm
    obtain ⟨N, rfl⟩ := pos_fuel h3
    have hi : (i : Int) < (L.length : Int) := by omega
    have hn : i < L.length := by omega
    obtain ⟨hL, hX⟩ := h
    obtain ⟨z1, z2, z3⟩ := hX L[i] (List.getElem_mem hn)
    have g1 := fun kj => (asc_ok L[i] kj (by omega) N (by omega)).1
    have g2 := (ris_ok L[i].needs L.length (by omega) (by omega) N (by omega)).1
    have g3 := cont_ok L[i].needs (i : Int) (by omega) N (by omega)
    have g4 := i_text L[i].letters 33 100 (by omega) N (by omega)
    have e33 : (33 : UInt8).toNat = 33 := rfl
    rw [drop_cons L i hn]
    simp only [i_ValidLessons_l1, hi, decide_true, cond_true, withK_n, idx_lt L i hn, Option.bind_some, i_IsName_eq N (by omega), g4, i_between_eq, orO_some, g1, g2, g3, vl, e33]
    have hm' : ∀ s, mget (mset mp L[i].name true) s = (seen ++ [L[i].name]).any (s == ·) := fun s => by
      rw [mget_mset, hm s, List.any_append]
      simp [Bool.or_comm]
    rw [hm, w64_nat i (by omega), ih (i + 1) N _ _ (by omega) (by omega) hm']
    simp only [okL]
    cases nm L[i].name <;> cases decide ((L[i].letters.length : Int) ≤ 100) <;> cases isT L[i].letters 33 <;> cases inr L[i].hours 0 100 <;> cases ascB L[i].letters <;> cases risB L.length L[i].needs <;> cases (L[i].needs.any (· == (i : Int))) <;> cases (seen.any (L[i].name == ·)) <;> rfl
theorem vlS_l3 (L : List Lesson) (hL : L.length ≤ 20) (i : Nat) (hi : i ≤ L.length) (x : Lesson) (kj : Option Bool) : ∀ (q k N : Nat), k + q = i → q < N → s_l18Ok_l3 kj L (i : Int) x N (k : Int) = (bif ((L.take i).drop k).any (fun y => y.name == x.name) then some false else kj) := by
  intro q
  induction q with
  | zero =>
    intro k N h1 h3
    obtain ⟨N, rfl⟩ := pos_fuel h3
    have hz : ¬ ((k : Int) < (i : Int)) := by omega
    have e2 : (L.take i).drop k = [] := List.drop_of_length_le (by rw [List.length_take]; omega)
    simp [s_l18Ok_l3, hz, e2]
  | succ q ih =>
    intro k N h1 h3
    obtain ⟨N, rfl⟩ := pos_fuel h3
    have hz : (k : Int) < (i : Int) := by omega
    have hk : k < (L.take i).length := by rw [List.length_take]; omega
    have hk2 : k < L.length := by omega
    rw [drop_cons (L.take i) k hk]
    simp only [s_l18Ok_l3, hz, decide_true, cond_true, idx_lt L k hk2, Option.bind_some, w64_nat k (by omega), ih (k + 1) N (by omega) (by omega), List.any_cons, List.getElem_take]
    cases (L[k].name == x.name) <;> rfl
theorem vlS_l1 (L : List Lesson) (h : SzL L) (kj : Option Bool) : ∀ (q i N : Nat), i + q = L.length → q + 1001 < N → s_l18Ok_l1 kj L N (i : Int) = bif vl L.length ((L.take i).map (·.name)) i (L.drop i) then kj else some false := by
  intro q
  induction q with
  | zero =>
    intro i N h1 h3
    obtain ⟨N, rfl⟩ := pos_fuel h3
    have hi : ¬ ((i : Int) < (L.length : Int)) := by omega
    have e2 : L.drop i = [] := List.drop_of_length_le (by omega)
    simp [s_l18Ok_l1, hi, e2, vl]
  | succ q ih =>
    intro i N h1 h3
    obtain ⟨N, rfl⟩ := pos_fuel h3
    have hi : (i : Int) < (L.length : Int) := by omega
    have hn : i < L.length := by omega
    have h0 := h
    obtain ⟨hL, hX⟩ := h
    obtain ⟨z1, z2, z3⟩ := hX L[i] (List.getElem_mem hn)
    have g1 := fun kj => (asc_ok L[i] kj (by omega) N (by omega)).2
    have g2 := (ris_ok L[i].needs L.length (by omega) (by omega) N (by omega)).2
    have g3 := (Has_eq N L[i].needs (i : Int) (by unfold LIM; omega) (by omega)).1
    have g4 := s_text L[i].letters (by omega) N (by omega)
    have g5 := fun kj => vlS_l3 L hL i (by omega) L[i] kj i 0 N (by omega) (by omega)
    rw [drop_cons L i hn]
    simp only [s_l18Ok_l1, hi, decide_true, cond_true, withK_n, idx_lt L i hn, Option.bind_some, s_IsName_eq N (by omega), g4, s_l00In_eq, orO_some, g1, g2, g3, vl]
    have e3 : ((L.take (i + 1)).map (·.name)) = (L.take i).map (·.name) ++ [L[i].name] := by rw [List.take_succ_eq_append_getElem hn, List.map_append]; rfl
    rw [show (0 : Int) = ((0 : Nat) : Int) from rfl, g5, w64_nat i (by omega), ih (i + 1) N (by omega) (by omega), e3, List.drop_zero]
    have e4 : ((L.take i).map (·.name)).any (L[i].name == ·) = (L.take i).any (fun y => y.name == L[i].name) := by
      rw [List.any_map]
      exact congrArg (fun f => List.any (L.take i) f) (funext fun y => BEq.comm)
    rw [e4]
    simp only [okL]
    cases nm L[i].name <;> cases decide ((L[i].letters.length : Int) ≤ 100) <;> cases isT L[i].letters 33 <;> cases inr L[i].hours 0 100 <;> cases ascB L[i].letters <;> cases risB L.length L[i].needs <;> cases (L[i].needs.any (· == (i : Int))) <;> cases ((L.take i).any (fun y => y.name == L[i].name)) <;> rfl
def vlL (L : List Lesson) : Bool := decide ((L.length : Int) ≤ 12) && vl L.length [] 0 L
theorem valid_ok (L : List Lesson) (h : SzL L) (N : Nat) (hN : 2000 < N) : i_ValidLessons N L = some (vlL L) ∧ s_l18Ok N L = some (vlL L) := by
  have hL := h.1
  have h1 := vlI_l1 L h L.length 0 N [] [] (by omega) (by omega) (fun s => rfl)
  have h2 := fun kj => vlS_l1 L h kj L.length 0 N (by omega) (by omega)
  rw [show ((0 : Nat) : Int) = 0 from rfl] at h1 h2
  rw [List.drop_zero] at h1 h2
  unfold i_ValidLessons s_l18Ok vlL
  simp only [withK_n, h1, h2]
  rw [List.take_zero, List.map_nil]
  have e : decide ((L.length : Int) > 12) = !(decide ((L.length : Int) ≤ 12)) := by rw [Bool.eq_iff_iff]; simp
  rw [e]
  cases decide ((L.length : Int) ≤ 12) <;> cases vl L.length [] 0 L <;> exact ⟨rfl, rfl⟩
end Go.Proofs.Ytbgngihmpdneaaa
