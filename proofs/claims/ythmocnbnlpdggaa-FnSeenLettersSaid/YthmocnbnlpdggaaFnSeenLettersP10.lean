/-
  Plain lemmas on these functions. No conditions but those that each states.
-/
import Derived.Test.YthmocnbnlpdggaaFnSeenLettersP9
namespace Go.Proofs.Ythmocnbnlpdggaa
set_option linter.unusedVariables false
set_option linter.unusedSimpArgs false
/-- how many plans erase a place -/
def wc (P : List Str) (x : Nat) : Nat := P.countP (fun p => p[x]? == some 35)
theorem wc_snoc (P : List Str) (p : Str) (x : Nat) : wc (P ++ [p]) x = wc P x + (bif p[x]? == some 35 then 1 else 0) := by
  unfold wc
  rw [List.countP_append, List.countP_cons, List.countP_nil]
  cases (p[x]? == some 35) <;> simp
theorem wc_le (P : List Str) (x : Nat) : wc P x ≤ P.length := List.countP_le_length
theorem worn_l1 (P : List Str) (hl : P.length ≤ 1000) (hw : ∀ p ∈ P, p.length ≤ 1000) : ∀ (n i N : Nat), i + n = P.length → n + 1010 < N → ∀ K, i_WornPlaces_l1 K P N (i : Int) = (bif (P.drop i).all isP then K else some ([], 7)) ∧ s_WornPlaces_l1 K P N (i : Int) = (bif (P.drop i).all isP then K else some ([], 7)) := by
  intro n
  induction n with
  | zero =>
    intro i N h1 h3 K
    obtain ⟨N, rfl⟩ := pos_fuel (by omega : 0 < N)
    have hi : ¬ ((i : Int) < (P.length : Int)) := by omega
    have e2 : P.drop i = [] := List.drop_of_length_le (by omega)
    simp [i_WornPlaces_l1, s_WornPlaces_l1, hi, e2]
  | succ n ih =>
    intro i N h1 h3 K
    obtain ⟨N, rfl⟩ := pos_fuel (by omega : 0 < N)
    have hi : (i : Int) < (P.length : Int) := by omega
    have hn : i < P.length := by omega
    have hle := hw _ (List.getElem_mem hn)
    obtain ⟨p1, p2⟩ := isPlan_eq N P[i] hle (by omega)
    obtain ⟨g1, g2⟩ := ih (i + 1) N (by omega) (by omega) K
    simp only [i_WornPlaces_l1, s_WornPlaces_l1, hi, decide_true, cond_true, idx_lt P i hn, Option.bind_some, p1, p2, w64_nat i (by omega), g1, g2, drop_cons P i hn, List.all_cons]
    cases isP P[i] <;> exact ⟨rfl, rfl⟩
/-- the numbers of a table -/
def Tbl (l : List Int) (f : Nat → Nat) : Prop := l.length = 60 ∧ ∀ x (h : x < l.length), l[x] = ((f x : Nat) : Int)
theorem worn_l3 (p : Str) (hp : p.length ≤ 60) (f : Nat → Nat) (hf : ∀ x, f x ≤ 1000) : ∀ (n i N : Nat) (l : List Int), i + n = p.length → n < N → Tbl l (fun x => f x + (bif decide (x < i) && p[x]? == some 35 then 1 else 0)) →
    ∃ l', Tbl l' (fun x => f x + (bif p[x]? == some 35 then 1 else 0)) ∧ ∀ K, i_WornPlaces_l3 K p N l (i : Int) = K l' := by
  intro n
  induction n with
  | zero =>
    intro i N l h1 h3 ht
    obtain ⟨N, rfl⟩ := pos_fuel h3
    have hi : ¬ ((i : Int) < (p.length : Int)) := by omega
    refine ⟨l, ⟨ht.1, fun x hx => ?_⟩, fun K => by simp [i_WornPlaces_l3, hi]⟩
    rw [ht.2 x hx]
    by_cases g : x < i
    · simp [g]
    · have : p[x]? = none := List.getElem?_eq_none (by omega)
      simp [this]
  | succ n ih =>
    intro i N l h1 h3 ht
    obtain ⟨N, rfl⟩ := pos_fuel h3
    have hi : (i : Int) < (p.length : Int) := by omega
    have hn : i < p.length := by omega
    have hl : i < l.length := by rw [ht.1]; omega
    have hx := ht.2 i hl
    have hfi := hf i
    have hx : l[i] = (f i : Int) := by rw [hx]; simp
    have ew : w64 (l[i] + 1) = ((f i + 1 : Nat) : Int) := by rw [hx, w64_id (by omega) (by omega)]; rfl
    cases hc : (p[i] == 35)
    · obtain ⟨l', g1, g2⟩ := ih (i + 1) N l (by omega) (by omega) ⟨ht.1, fun x h => by
        rw [ht.2 x h]
        by_cases e : x = i
        · subst e
          have : (p[x]? == some 35) = false := by rw [List.getElem?_eq_getElem hn]; simpa using hc
          simp [this]
        · have : decide (x < i + 1) = decide (x < i) := by rw [decide_eq_decide]; omega
          simp only [this]⟩
      refine ⟨l', g1, fun K => ?_⟩
      simp only [i_WornPlaces_l3, hi, decide_true, cond_true, withK_eq, idx_lt p i hn, Option.bind_some, hc, cond_false, w64_nat i (by omega)]
      exact g2 K
    · obtain ⟨l', g1, g2⟩ := ih (i + 1) N (l.set i ((f i + 1 : Nat) : Int)) (by omega) (by omega) ⟨by simpa using ht.1, fun x h => by
        by_cases e : x = i
        · subst e
          have : (p[x]? == some 35) = true := by rw [List.getElem?_eq_getElem hn]; simpa using hc
          rw [List.getElem_set_self]
          simp [this]
        · rw [List.getElem_set_ne (by omega), ht.2 x (by simpa using h)]
          have : decide (x < i + 1) = decide (x < i) := by rw [decide_eq_decide]; omega
          simp only [this]⟩
      refine ⟨l', g1, fun K => ?_⟩
      simp only [i_WornPlaces_l3, hi, decide_true, cond_true, withK_eq, idx_lt p i hn, idx_lt l i hl, Option.bind_some, hc, ew, Int.toNat_natCast, w64_nat i (by omega)]
      exact g2 K
theorem worn_l2 (P : List Str) (hl : P.length ≤ 100) (hw : ∀ p ∈ P, p.length ≤ 60) : ∀ (n i N : Nat) (l : List Int), i + n = P.length → n + 100 < N → Tbl l (wc (P.take i)) → ∃ l', Tbl l' (wc P) ∧ ∀ K, i_WornPlaces_l2 K P N l (i : Int) = K l' := by
  intro n
  induction n with
  | zero =>
    intro i N l h1 h3 ht
    obtain ⟨N, rfl⟩ := pos_fuel (by omega : 0 < N)
    have hi : ¬ ((i : Int) < (P.length : Int)) := by omega
    refine ⟨l, by rw [List.take_of_length_le (by omega)] at ht; exact ht, fun K => by simp [i_WornPlaces_l2, hi]⟩
  | succ n ih =>
    intro i N l h1 h3 ht
    obtain ⟨N, rfl⟩ := pos_fuel (by omega : 0 < N)
    have hi : (i : Int) < (P.length : Int) := by omega
    have hn : i < P.length := by omega
    have hle := hw _ (List.getElem_mem hn)
    obtain ⟨l1, g1, g2⟩ := worn_l3 P[i] hle (wc (P.take i)) (fun x => by have := wc_le (P.take i) x; simp at this; omega) (P[i]).length 0 N l (by omega) (by omega) (by simpa using ht)
    obtain ⟨l', f1, f2⟩ := ih (i + 1) N l1 (by omega) (by omega) (by
      rw [List.take_succ_eq_append_getElem hn]
      exact ⟨g1.1, fun x h => by rw [wc_snoc]; exact g1.2 x h⟩)
    rw [show ((0 : Nat) : Int) = 0 from rfl] at g2
    refine ⟨l', f1, fun K => ?_⟩
    simp only [i_WornPlaces_l2, hi, decide_true, cond_true, withK_eq, idx_lt P i hn, Option.bind_some, w64_nat i (by omega)]
    rw [g2]
    exact f2 K
def wp (f : Nat → Nat) (i : Nat) : Nat → List Int
  | 0 => []
  | n + 1 => (bif decide (f i > 3) then [(i : Int)] else []) ++ wp f (i + 1) n
theorem wp_len (f : Nat → Nat) : ∀ (n i : Nat), (wp f i n).length ≤ n
  | 0, _ => by simp [wp]
  | n + 1, i => by
    have := wp_len f n (i + 1)
    simp only [wp, List.length_append]
    cases decide (f i > 3) <;> simp <;> omega
theorem worn_l4 (l : List Int) (f : Nat → Nat) (ht : Tbl l f) : ∀ (n i N : Nat) (o : List Int), i + n = 60 → n < N → o.length ≤ i → ∀ K, i_WornPlaces_l4 K l N o (i : Int) = K (o ++ wp f i n) := by
  have hll := ht.1
  intro n
  induction n with
  | zero =>
    intro i N o h1 h3 ho K
    obtain ⟨N, rfl⟩ := pos_fuel h3
    have hi : ¬ ((i : Int) < 60) := by omega
    simp [i_WornPlaces_l4, hi, wp]
  | succ n ih =>
    intro i N o h1 h3 ho K
    obtain ⟨N, rfl⟩ := pos_fuel h3
    have hi : (i : Int) < 60 := by omega
    have hn : i < l.length := by omega
    have hx : idxA 60 l (i : Int) = some ((f i : Nat) : Int) := by
      unfold idxA; rw [if_pos hll, idx_lt l i hn, ht.2 i hn]
    have ea : app o [(i : Int)] = some (o ++ [(i : Int)]) := app_some _ _ (by simp; unfold LIM; omega)
    have hd : decide (((f i : Nat) : Int) > 3) = decide (f i > 3) := by rw [decide_eq_decide]; omega
    simp only [i_WornPlaces_l4, hi, decide_true, cond_true, withK_eq, hx, Option.bind_some, hd, ea, w64_nat i (by omega), wp]
    rw [ih (i + 1) N (o ++ [(i : Int)]) (by omega) (by omega) (by simp; omega) K, ih (i + 1) N o (by omega) (by omega) (by omega) K]
    cases decide (f i > 3) <;> simp
theorem worn_s3 (P : List Str) (hl : P.length ≤ 100) (x : Nat) (hx : x < 60) : ∀ (n i N m : Nat), i + n = P.length → n < N → m ≤ i → ∀ K, s_WornPlaces_l3 K P (x : Int) N (m : Int) (i : Int) = K ((m + wc (P.drop i) x : Nat) : Int) := by
  intro n
  induction n with
  | zero =>
    intro i N m h1 h3 hm K
    obtain ⟨N, rfl⟩ := pos_fuel h3
    have hi : ¬ ((i : Int) < (P.length : Int)) := by omega
    have e2 : P.drop i = [] := List.drop_of_length_le (by omega)
    simp [s_WornPlaces_l3, hi, e2, wc]
  | succ n ih =>
    intro i N m h1 h3 hm K
    obtain ⟨N, rfl⟩ := pos_fuel h3
    have hi : (i : Int) < (P.length : Int) := by omega
    have hn : i < P.length := by omega
    have ht : (andO (decide ((x : Int) < ((P[i]).length : Int))) ((idx P[i] (x : Int)).bind fun c52 => some (c52 == (35 : UInt8)))) = some (P[i][x]? == some 35) := by
      by_cases g : x < (P[i]).length
      · have g' : (x : Int) < ((P[i]).length : Int) := by omega
        rw [idx_lt _ x g, List.getElem?_eq_getElem g]
        simp [g']
      · have g' : ¬ (x : Int) < ((P[i]).length : Int) := by omega
        rw [List.getElem?_eq_none (by omega)]
        simp [g']
    have ew : wc (P.drop i) x = wc (P.drop (i + 1)) x + (bif P[i][x]? == some 35 then 1 else 0) := by
      rw [drop_cons P i hn]
      unfold wc
      rw [List.countP_cons]
      cases (P[i][x]? == some 35) <;> simp
    simp only [s_WornPlaces_l3, hi, decide_true, cond_true, withK_eq, idx_lt P i hn, Option.bind_some, ht, w64_nat i (by omega), w64_nat m (by omega)]
    rw [ih (i + 1) N (m + 1) (by omega) (by omega) (by omega) K, ih (i + 1) N m (by omega) (by omega) (by omega) K, ew]
    cases (P[i][x]? == some 35) with
    | false => simp
    | true => simp; congr 1; omega
theorem worn_s2 (P : List Str) (hl : P.length ≤ 100) : ∀ (n i N : Nat) (o : List Int), i + n = 60 → n + 200 < N → o.length ≤ i → ∀ K, s_WornPlaces_l2 K P N o (i : Int) = K (o ++ wp (wc P) i n) := by
  intro n
  induction n with
  | zero =>
    intro i N o h1 h3 ho K
    obtain ⟨N, rfl⟩ := pos_fuel (by omega : 0 < N)
    have hi : ¬ ((i : Int) < 60) := by omega
    simp [s_WornPlaces_l2, hi, wp]
  | succ n ih =>
    intro i N o h1 h3 ho K
    obtain ⟨N, rfl⟩ := pos_fuel (by omega : 0 < N)
    have hi : (i : Int) < 60 := by omega
    have h4 := fun K => worn_s3 P hl i (by omega) P.length 0 N 0 (by omega) (by omega) (by omega) K
    rw [show ((0 : Nat) : Int) = 0 from rfl] at h4
    simp only [List.drop_zero, Nat.zero_add] at h4
    have ea : app o [(i : Int)] = some (o ++ [(i : Int)]) := app_some _ _ (by simp; unfold LIM; omega)
    have hd : decide (((wc P i : Nat) : Int) > 3) = decide (wc P i > 3) := by rw [decide_eq_decide]; omega
    simp only [s_WornPlaces_l2, hi, decide_true, cond_true, withK_eq, h4, hd, ea, Option.bind_some, w64_nat i (by omega), wp]
    rw [ih (i + 1) N (o ++ [(i : Int)]) (by omega) (by omega) (by simp; omega) K, ih (i + 1) N o (by omega) (by omega) (by omega) K]
    cases decide (wc P i > 3) <;> simp
theorem Worn_eq (N : Nat) (P : List Str) (hl : P.length ≤ 100) (hw : ∀ p ∈ P, p.length ≤ 100) (hN : 3000 < N) : ∃ p : List Int × Int, i_WornPlaces N P = some p ∧ s_WornPlaces N P = some p ∧ p.1.length ≤ 60 := by
  have h1 := fun K => worn_l1 P (by omega) (fun p hp => by have := hw p hp; omega) P.length 0 N (by omega) (by omega) K
  rw [show ((0 : Nat) : Int) = 0 from rfl] at h1
  simp only [List.drop_zero] at h1
  unfold i_WornPlaces s_WornPlaces
  simp only [withK_eq, (h1 _).1, (h1 _).2]
  cases hP : P.all isP
  · exact ⟨([], 7), rfl, rfl, by simp⟩
  · simp only [cond_true]
    by_cases g : (P.length : Int) > 20
    · exact ⟨([], 2), by simp [g], by simp [g], by simp⟩
    · rw [List.all_eq_true] at hP
      have hw60 : ∀ p ∈ P, p.length ≤ 60 := fun p hp => by
        have := hP p hp
        unfold isP at this
        rw [Bool.and_eq_true, decide_eq_true_eq] at this
        omega
      obtain ⟨l', t1, t2⟩ := worn_l2 P hl hw60 P.length 0 N (List.replicate 60 0) (by omega) (by omega) ⟨by simp, fun x hx => by rw [List.getElem_replicate]; simp [wc]⟩
      rw [show ((0 : Nat) : Int) = 0 from rfl] at t2
      have h4 := worn_l4 l' (wc P) t1 60 0 N [] rfl (by omega) (by simp)
      have h5 := worn_s2 P hl 60 0 N [] rfl (by omega) (by simp)
      rw [show ((0 : Nat) : Int) = 0 from rfl] at h4 h5
      refine ⟨(wp (wc P) 0 60, 0), ?_, ?_, wp_len _ 60 0⟩
      · simp only [g, decide_false, cond_false, t2, h4, List.nil_append]
      · simp only [g, decide_false, cond_false, h5, List.nil_append]
end Go.Proofs.Ythmocnbnlpdggaa
