/-
  Plain lemmas on these functions. No conditions but those that each states.
-/
import Derived.Test.YtpdcifgphocllaaFnAbbreviationsP8
namespace Go.Proofs.Ytpdcifgphocllaa
set_option linter.unusedVariables false
set_option linter.unusedSimpArgs false
/-! Which are doubtful, and one more. -/
theorem mget_mset (l : List (Str × Bool)) (k s : Str) : mget (mset l k true) s = (s == k || mget l s) := by
  induction l with
  | nil => simp only [mset, mget]; cases s == k <;> rfl
  | cons p r ih =>
    obtain ⟨a, b⟩ := p
    simp only [mset]
    by_cases h : k = a
    · subst h; simp only [beq_self_eq_true, cond_true, mget]; cases s == k <;> rfl
    · have : (k == a) = false := by simpa using h
      simp only [this, cond_false, mget]
      by_cases h2 : s = a
      · subst h2
        have : (s == k) = false := by simp; exact fun e => h e.symm
        simp [this]
      · have : (s == a) = false := by simpa using h2
        simp only [this, cond_false]; exact ih
theorem f6_l1 (l : List Int) (hl : l.length ≤ 100) (kj : Option Bool) : ∀ (q x N : Nat), x + q = l.length → q < N → w_f6ints_l1 kj l l N (x : Int) = kj := by
  intro q
  induction q with
  | zero =>
    intro x N hx hN
    obtain ⟨N, rfl⟩ := pos_fuel hN
    rw [w_f6ints_l1, decide_eq_false (by omega : ¬ (x : Int) < (l.length : Int)), cond_false]
  | succ q ih =>
    intro x N hx hN
    obtain ⟨N, rfl⟩ := pos_fuel hN
    have hlt : x < l.length := by omega
    have hne : (l[x] != l[x]) = false := by simp
    rw [w_f6ints_l1, decide_eq_true (by omega : (x : Int) < (l.length : Int)), cond_true, idx_lt l x hlt, Option.bind_some, Option.bind_some, hne, cond_false, w64_nat x (by omega)]
    exact ih (x + 1) N (by omega) (by omega)
theorem ints_ok (l : List Int) (hl : l.length ≤ 100) (N : Nat) (hN : 200 < N) : w_f6ints N l l = some true := by
  unfold w_f6ints
  have hne : ((l.length : Int) != (l.length : Int)) = false := by simp
  rw [hne, cond_false, withK_n]
  exact f6_l1 l hl (some true) l.length 0 N (by omega) (by omega)
theorem same_l1 (a b : List Abbr) (hab : a.length = b.length) (hl : a.length ≤ 100) (kj : Option Bool) (hk : ∃ v, kj = some v) : ∀ (q i N : Nat), i + q = a.length → q < N → ∃ v, i_SameAbbrs_l1 kj a b N (i : Int) = some v ∧ s_SameAbbrs_l1 kj a b N (i : Int) = some v := by
  intro q
  induction q with
  | zero =>
    intro i N h1 h2
    obtain ⟨N, rfl⟩ := pos_fuel h2
    have hz : ¬ (i : Int) < (a.length : Int) := by omega
    obtain ⟨v, rfl⟩ := hk
    exact ⟨v, by simp only [i_SameAbbrs_l1, hz, decide_false, cond_false], by simp only [s_SameAbbrs_l1, hz, decide_false, cond_false]⟩
  | succ q ih =>
    intro i N h1 h2
    obtain ⟨N, rfl⟩ := pos_fuel h2
    have hi : i < a.length := by omega
    have hz : (i : Int) < (a.length : Int) := by omega
    simp only [i_SameAbbrs_l1, s_SameAbbrs_l1, hz, decide_true, cond_true, idx_lt a i hi, idx_lt b i (by omega), Option.bind_some, w64_nat i (by omega)]
    cases Abbr.beq a[i] b[i]
    · exact ⟨false, rfl, rfl⟩
    · exact ih (i + 1) N (by omega) (by omega)
theorem same_ok (a b : List Abbr) (hl : a.length ≤ 100) (N : Nat) (hN : 200 < N) : ∃ v, i_SameAbbrs N a b = some v ∧ s_SameAbbrs N a b = some v := by
  unfold i_SameAbbrs s_SameAbbrs
  by_cases h : a.length = b.length
  · have hne : ((a.length : Int) != (b.length : Int)) = false := by simp [h]
    rw [hne]
    simp only [cond_false, withK_n]
    exact same_l1 a b h hl _ ⟨_, rfl⟩ a.length 0 N (by omega) (by omega)
  · have hne : ((a.length : Int) != (b.length : Int)) = true := by rw [bne_iff_ne]; omega
    rw [hne]
    exact ⟨false, rfl, rfl⟩
theorem abq (x : Abbr) : Abbr.beq x x = true := by unfold Abbr.beq; simp
theorem sameS_refl (a : List Abbr) (hl : a.length ≤ 100) (N : Nat) (hN : 200 < N) : s_SameAbbrs N a a = some true := by
  unfold s_SameAbbrs
  have hne : ((a.length : Int) != (a.length : Int)) = false := by simp
  rw [hne, cond_false, withK_n]
  have loop : ∀ (q x N : Nat), x + q = a.length → q < N → s_SameAbbrs_l1 (some true) a a N (x : Int) = some true := by
    intro q
    induction q with
    | zero =>
      intro x N hx hN
      obtain ⟨N, rfl⟩ := pos_fuel hN
      rw [s_SameAbbrs_l1, decide_eq_false (by omega : ¬ (x : Int) < (a.length : Int)), cond_false]
    | succ q ih =>
      intro x N hx hN
      obtain ⟨N, rfl⟩ := pos_fuel hN
      have hlt : x < a.length := by omega
      rw [s_SameAbbrs_l1, decide_eq_true (by omega : (x : Int) < (a.length : Int)), cond_true, idx_lt a x hlt, Option.bind_some, Option.bind_some, abq, Bool.not_true, cond_false, w64_nat x (by omega)]
      exact ih (x + 1) N (by omega) (by omega)
  exact loop a.length 0 N (by omega) (by omega)
/-- in doubt: its short is the long of one -/
def dbt (l : List Abbr) (i : Int) : Bool := match idx l i with | some x => l.any fun y => y.long == x.short | none => false
def dl (l : List Abbr) (n : Nat) : List Int := (rng n).filter (dbt l)
theorem dl_succ (l : List Abbr) (n : Nat) : dl l (n + 1) = if dbt l (n : Int) = true then dl l n ++ [(n : Int)] else dl l n := by
  unfold dl
  rw [rng_succ, List.filter_append]
  by_cases c : dbt l (n : Int) = true <;> simp [c]
theorem dl_len (l : List Abbr) (n : Nat) : (dl l n).length ≤ n := by
  have := List.length_filter_le (dbt l) (rng n)
  rw [rng_len] at this
  exact this
theorem dbt_at (l : List Abbr) (i : Nat) (hi : i < l.length) : dbt l (i : Int) = l.any fun y => y.long == (l[i]).short := by unfold dbt; rw [idx_lt l i hi]
section
variable {l : List Abbr} (hl : l.length ≤ 30)
include hl
theorem db_i1 (kj : List (Str × Bool) → Option (List Int × Int)) (Q : Option (List Int × Int) → Prop) (hk : ∀ mp, (∀ s, mget mp s = l.any fun y => y.long == s) → Q (kj mp)) :
    ∀ (q x N : Nat) (mp : List (Str × Bool)), x + q = l.length → q < N → (∀ s, mget mp s = (l.take x).any fun y => y.long == s) → Q (i_DoubtfulAbbrs_l1 kj l N mp (x : Int)) := by
  intro q
  induction q with
  | zero =>
    intro x N mp h1 h2 h3
    obtain ⟨N, rfl⟩ := pos_fuel h2
    have hz : ¬ (x : Int) < (l.length : Int) := by omega
    rw [List.take_of_length_le (by omega)] at h3
    simp only [i_DoubtfulAbbrs_l1, hz, decide_false, cond_false]
    exact hk mp h3
  | succ q ih =>
    intro x N mp h1 h2 h3
    obtain ⟨N, rfl⟩ := pos_fuel h2
    have hx : x < l.length := by omega
    have hz : (x : Int) < (l.length : Int) := by omega
    simp only [i_DoubtfulAbbrs_l1, hz, decide_true, cond_true, idx_lt _ x hx, Option.bind_some, w64_nat x (by omega)]
    refine ih (x + 1) N _ (by omega) (by omega) fun s => ?_
    rw [mget_mset, h3 s, List.take_succ_eq_append_getElem hx, List.any_append]
    have : (s == (l[x]).long) = ((l[x]).long == s) := by
      by_cases e : s = (l[x]).long
      · rw [e]
      · rw [beq_eq_false_iff_ne.2 e, beq_eq_false_iff_ne.2 fun h => e h.symm]
    rw [this]
    simp [Bool.or_comm]
theorem db_i2 (kj : List Int → Option (List Int × Int)) (mp : List (Str × Bool)) (hm : ∀ s, mget mp s = l.any fun y => y.long == s) : ∀ (q x N : Nat), x + q = l.length → q < N → i_DoubtfulAbbrs_l2 kj l mp N (dl l x) (x : Int) = kj (dl l l.length) := by
  intro q
  induction q with
  | zero =>
    intro x N h1 h2
    obtain ⟨N, rfl⟩ := pos_fuel h2
    have hz : ¬ (x : Int) < (l.length : Int) := by omega
    have e : x = l.length := by omega
    simp only [i_DoubtfulAbbrs_l2, hz, decide_false, cond_false]
    rw [e]
  | succ q ih =>
    intro x N h1 h2
    obtain ⟨N, rfl⟩ := pos_fuel h2
    have hx : x < l.length := by omega
    have hz : (x : Int) < (l.length : Int) := by omega
    have ih := ih (x + 1) N (by omega) (by omega)
    have hle := dl_len l x
    rw [dl_succ, dbt_at l x hx] at ih
    simp only [i_DoubtfulAbbrs_l2, hz, decide_true, cond_true, withK_n, idx_lt l x hx, hm, Option.bind_some, w64_nat x (by omega)]
    cases hc : l.any fun y => y.long == (l[x]).short with
    | true =>
      rw [hc, if_pos rfl] at ih
      rw [cond_true, app_some _ _ (by simp; unfold LIM; omega), Option.bind_some]
      exact ih
    | false =>
      rw [hc, if_neg (by simp)] at ih
      exact ih
theorem db_s2 (kj : Bool → Option (List Int × Int)) (i : Nat) (hi : i < l.length) : ∀ (q x N : Nat) (b : Bool), x + q = l.length → q < N → s_DoubtfulAbbrs_l2 kj l (i : Int) N b (x : Int) = kj (b || (l.drop x).any fun y => y.long == (l[i]).short) := by
  intro q
  induction q with
  | zero =>
    intro x N b h1 h2
    obtain ⟨N, rfl⟩ := pos_fuel h2
    have hz : ¬ (x : Int) < (l.length : Int) := by omega
    rw [List.drop_eq_nil_of_le (by omega)]
    simp only [s_DoubtfulAbbrs_l2, hz, decide_false, cond_false, List.any_nil, Bool.or_false]
  | succ q ih =>
    intro x N b h1 h2
    obtain ⟨N, rfl⟩ := pos_fuel h2
    have hx : x < l.length := by omega
    have hz : (x : Int) < (l.length : Int) := by omega
    rw [drop_cons _ x hx, List.any_cons]
    simp only [s_DoubtfulAbbrs_l2, hz, decide_true, cond_true, idx_lt l x hx, idx_lt l i hi, Option.bind_some, orO_some, w64_nat x (by omega), ih (x + 1) N _ (by omega) (by omega), Bool.or_assoc]
theorem db_s1 (kj : List Int → Option (List Int × Int)) : ∀ (q x N : Nat), x + q = l.length → q + 50 < N → s_DoubtfulAbbrs_l1 kj l N (dl l x) (x : Int) = kj (dl l l.length) := by
  intro q
  induction q with
  | zero =>
    intro x N h1 h2
    obtain ⟨N, rfl⟩ := pos_fuel h2
    have hz : ¬ (x : Int) < (l.length : Int) := by omega
    have e : x = l.length := by omega
    simp only [s_DoubtfulAbbrs_l1, hz, decide_false, cond_false]
    rw [e]
  | succ q ih =>
    intro x N h1 h2
    obtain ⟨N, rfl⟩ := pos_fuel h2
    have hx : x < l.length := by omega
    have hz : (x : Int) < (l.length : Int) := by omega
    have ih := ih (x + 1) N (by omega) (by omega)
    have hle := dl_len l x
    have e2 := fun kj => db_s2 hl kj x hx l.length 0 N false (by omega) (by omega)
    rw [show ((0 : Nat) : Int) = 0 from rfl] at e2
    simp only [Bool.false_or, List.drop_zero] at e2
    rw [dl_succ, dbt_at l x hx] at ih
    simp only [s_DoubtfulAbbrs_l1, hz, decide_true, cond_true, withK_n, e2, w64_nat x (by omega)]
    cases hc : l.any fun y => y.long == (l[x]).short with
    | true =>
      rw [hc, if_pos rfl] at ih
      rw [cond_true, app_some _ _ (by simp; unfold LIM; omega), Option.bind_some]
      exact ih
    | false =>
      rw [hc, if_neg (by simp)] at ih
      exact ih
end
theorem dbt_ok (l : List Abbr) (hl : l.length ≤ 1000) (hz : ∀ x ∈ l, SzA x) (N : Nat) (hN : 3000 < N) : ∃ (r : List Int) (c : Int), i_DoubtfulAbbrs N l = some (r, c) ∧ s_DoubtfulAbbrs N l = some (r, c) ∧ r.length ≤ 30 := by
  obtain ⟨v1, v2⟩ := vl_ok l hl hz N (by omega)
  unfold i_DoubtfulAbbrs s_DoubtfulAbbrs
  rw [v1, v2]
  simp only [Option.bind_some, withK_n]
  cases hv : vL l with
  | false => exact ⟨[], 1, rfl, rfl, by simp⟩
  | true =>
    have hV := (vL_iff l).1 hv
    have hn := hV.n
    simp only [Bool.not_true, cond_false]
    have e0 : dl l 0 = [] := rfl
    refine ⟨dl l l.length, 0, ?_, ?_, by have := dl_len l l.length; omega⟩
    · have := db_i1 hn (fun mp8 => i_DoubtfulAbbrs_l2 (fun l21 => some (l21, 0)) l mp8 N [] 0) (fun o => o = some (dl l l.length, 0)) (fun mp hm => db_i2 hn _ mp hm l.length 0 N (by omega) (by omega)) l.length 0 N [] (by omega) (by omega) (fun s => rfl)
      exact this
    · exact db_s1 hn _ l.length 0 N (by omega) (by omega)
/-! one more -/
theorem cutA (w : Str) : ∀ l : List Abbr, ∃ A B, l = A ++ B ∧ (∀ y ∈ A, ltL y.short w = true) ∧ ∀ y r, B = y :: r → ltL y.short w = false
  | [] => ⟨[], [], rfl, fun _ h => by (cases h), fun _ _ h => by (cases h)⟩
  | x :: l => by
    cases h : ltL x.short w with
    | false => exact ⟨[], x :: l, rfl, fun _ h => by (cases h), fun y r e => by cases e; exact h⟩
    | true =>
      obtain ⟨A, B, e, h1, h2⟩ := cutA w l
      refine ⟨x :: A, B, by rw [e]; rfl, fun y hy => ?_, h2⟩
      rcases List.mem_cons.1 hy with rfl | hy
      · exact h
      · exact h1 y hy
theorem lg_none : ∀ (l : List Abbr) (w : Str), (∀ y ∈ l, y.short ≠ w) → lg w l = none
  | [], _, _ => rfl
  | x :: l, w, h => by
    have e : (x.short == w) = false := beq_eq_false_iff_ne.2 (h x List.mem_cons_self)
    simp only [lg, e]
    exact lg_none l w fun y hy => h y (List.mem_cons_of_mem _ hy)
theorem lg_has : ∀ (l : List Abbr) (w : Str), (∃ y ∈ l, y.short = w) → lg w l ≠ none
  | x :: l, w, ⟨y, hy, e⟩ => by
    simp only [lg]
    cases h : x.short == w with
    | true => simp
    | false =>
      rcases List.mem_cons.1 hy with rfl | hy
      · rw [e, beq_self_eq_true] at h; cases h
      · exact lg_has l w ⟨y, hy, e⟩
section
variable {A B : List Abbr} {x : Abbr} (hl : (A ++ B).length ≤ 30) (hA : ∀ y ∈ A, ltL y.short x.short = true)
include hl hA
theorem add_i1 (hB : ∀ y r, B = y :: r → ltL y.short x.short = false) (kj : Int → Option (List Abbr × Int)) : ∀ (q i N : Nat), i + q = A.length → q < N → i_AddAbbr_l1 kj (A ++ B) x N (i : Int) = kj (A.length : Int) := by
  have hl2 : A.length + B.length ≤ 30 := by rw [← List.length_append]; exact hl
  intro q
  induction q with
  | zero =>
    intro i N h1 h2
    obtain ⟨N, rfl⟩ := pos_fuel h2
    have e : i = A.length := by omega
    subst e
    cases B with
    | nil =>
      have hz : decide ((A.length : Int) < ((A ++ [] : List Abbr).length : Int)) = false := decide_eq_false (by simp)
      rw [i_AddAbbr_l1, hz]
      rfl
    | cons y r =>
      have hz : decide ((A.length : Int) < ((A ++ y :: r : List Abbr).length : Int)) = true := decide_eq_true (by simp; omega)
      have hi : idx (A ++ y :: r) (A.length : Int) = some y := by rw [idx_nat, List.getElem?_append_right (Nat.le_refl _), Nat.sub_self]; rfl
      rw [i_AddAbbr_l1, hz, hi]
      simp only [Option.bind_some, andO_some, hB y r rfl, Bool.and_false, cond_false]
  | succ q ih =>
    intro i N h1 h2
    obtain ⟨N, rfl⟩ := pos_fuel h2
    have hi : i < A.length := by omega
    have hz : decide ((i : Int) < ((A ++ B).length : Int)) = true := decide_eq_true (by simp only [List.length_append]; omega)
    have hd : idx (A ++ B) (i : Int) = some A[i] := by rw [idx_nat, List.getElem?_append_left hi, List.getElem?_eq_getElem hi]
    rw [i_AddAbbr_l1, hz, hd]
    simp only [Option.bind_some, andO_some, hA _ (List.getElem_mem hi), Bool.and_true, cond_true]
    rw [w64_nat i (by omega)]
    exact ih (i + 1) N (by omega) (by omega)
theorem add_s1 (hB : ∀ y ∈ B, ltL x.short y.short = true) (kj : Int → Option (List Abbr × Int)) : ∀ (q k N : Nat), k = A.length + q → q ≤ B.length → q < N → s_AddAbbr_l1 kj (A ++ B) x N (k : Int) = kj (A.length : Int) := by
  have hl2 : A.length + B.length ≤ 30 := by rw [← List.length_append]; exact hl
  intro q
  induction q with
  | zero =>
    intro k N h1 _ h2
    obtain ⟨N, rfl⟩ := pos_fuel h2
    have e : k = A.length := h1
    subst e
    by_cases h0 : A.length = 0
    · have hz : decide ((A.length : Int) > 0) = false := decide_eq_false (by omega)
      rw [s_AddAbbr_l1, hz]; rfl
    · have hz : decide ((A.length : Int) > 0) = true := decide_eq_true (by omega)
      have ew : w64 ((A.length : Int) - 1) = ((A.length - 1 : Nat) : Int) := by rw [w64_id (by omega) (by omega)]; omega
      have hd : idx (A ++ B) ((A.length - 1 : Nat) : Int) = some A[A.length - 1] := by rw [idx_nat, List.getElem?_append_left (by omega), List.getElem?_eq_getElem (by omega)]
      rw [s_AddAbbr_l1, hz, ew, hd]
      simp only [Option.bind_some, andO_some, hA _ (List.getElem_mem _), Bool.true_or, Bool.not_true, Bool.and_false, cond_false]
  | succ q ih =>
    intro k N h1 h3 h2
    obtain ⟨N, rfl⟩ := pos_fuel h2
    have hz : decide ((k : Int) > 0) = true := decide_eq_true (by omega)
    have ew : w64 ((k : Int) - 1) = ((A.length + q : Nat) : Int) := by rw [w64_id (by omega) (by omega)]; omega
    have hq : q < B.length := by omega
    have hd : idx (A ++ B) ((A.length + q : Nat) : Int) = some B[q] := by rw [idx_nat, List.getElem?_append_right (by omega), show A.length + q - A.length = q by omega, List.getElem?_eq_getElem hq]
    have hb := hB _ (List.getElem_mem hq)
    have f1 : ltL (B[q]).short x.short = false := by
      cases h : ltL (B[q]).short x.short with
      | false => rfl
      | true => have := ltL_trans _ _ _ hb h; rw [ltL_irr] at this; cases this
    have f2 : ((B[q]).short == x.short) = false := by
      rw [beq_eq_false_iff_ne]
      intro e
      rw [e, ltL_irr] at hb; cases hb
    rw [s_AddAbbr_l1, hz, ew, hd]
    simp only [Option.bind_some, andO_some, f1, f2, Bool.or_self, Bool.not_false, Bool.and_true, cond_true]
    exact ih _ N rfl (by omega) (by omega)
end
theorem vA_sz {x : Abbr} (h : vA x = true) : SzA x := by
  obtain ⟨a1, a2, a3⟩ := vA_facts h
  exact ⟨by omega, by omega⟩
theorem VL.sz {l : List Abbr} (h : VL l) : ∀ x ∈ l, SzA x := fun x hx => vA_sz (h.v x hx)
theorem add_ok (l : List Abbr) (hl : l.length ≤ 1000) (hz : ∀ x ∈ l, SzA x) (x : Abbr) (hx : SzA x) (N : Nat) (hN : 3000 < N) : ∃ (r : List Abbr) (c : Int), i_AddAbbr N l x = some (r, c) ∧ s_AddAbbr N l x = some (r, c) ∧ ((c = 0 ∧ VL r ∧ r.length = l.length + 1) ∨ (c ≠ 0 ∧ r = [])) := by
  obtain ⟨v1, v2⟩ := vl_ok l hl hz N (by omega)
  have o1 := va_i x hx N (by omega)
  have o2 : s_l16One N (Abbr.mk x.short x.long) = some (vA x) := va_s x hx N (by omega)
  have hs := (lo_ok hl x.short N (by omega)).2
  unfold i_AddAbbr s_AddAbbr
  rw [v1, v2, o1, o2, hs]
  simp only [Option.bind_some, withK_n]
  cases hv : vL l with
  | false => exact ⟨[], 1, rfl, rfl, .inr ⟨by decide, rfl⟩⟩
  | true =>
    have hV := (vL_iff l).1 hv
    have hn := hV.n
    have hP := hV.s
    simp only [Bool.not_true, cond_false]
    cases hw : vA x with
    | false => exact ⟨[], 2, rfl, rfl, .inr ⟨by decide, rfl⟩⟩
    | true =>
      simp only [Bool.not_true, cond_false]
      obtain ⟨A, B, rfl, hA, hB⟩ := cutA x.short l
      have e1 := fun kj => add_i1 hn hA hB kj A.length 0 N (by omega) (by simp only [List.length_append] at hn; omega)
      rw [show ((0 : Nat) : Int) = 0 from rfl] at e1
      rw [e1]
      by_cases hex : ∃ y ∈ A ++ B, y.short = x.short
      · -- it stands there
        have hne := lg_has _ _ hex
        have hd : decide (ix x.short (A ++ B) 0 ≥ 0) = true := by
          rcases ix_lg x.short (A ++ B) 0 with ⟨e, _⟩ | ⟨k, y, e, _⟩
          · exact absurd e hne
          · rw [e]; exact decide_eq_true (by omega)
        rw [hd, cond_true]
        refine ⟨[], 4, ?_, rfl, .inr ⟨by decide, rfl⟩⟩
        obtain ⟨y, hy, ey⟩ := hex
        have hyB : y ∈ B := by
          rcases List.mem_append.1 hy with h | h
          · have := hA y h
            rw [ey, ltL_irr] at this; cases this
          · exact h
        cases B with
        | nil => cases hyB
        | cons b r =>
          have hb := hB b r rfl
          have eb : (b.short == x.short) = true := by
            rw [beq_iff_eq]
            rcases List.mem_cons.1 hyB with rfl | hyr
            · exact ey
            · have h2 := (List.pairwise_cons.1 (List.pairwise_append.1 hP).2.1).1 y hyr
              rw [ey, hb] at h2; cases h2
          have hi : idx (A ++ b :: r) (A.length : Int) = some b := by rw [idx_nat, List.getElem?_append_right (Nat.le_refl _), Nat.sub_self]; rfl
          have hzz : decide ((A.length : Int) < ((A ++ b :: r : List Abbr).length : Int)) = true := decide_eq_true (by simp; omega)
          rw [hzz, hi]
          simp only [Option.bind_some, andO_some, eb, Bool.and_true, cond_true]
      · have hnx : ∀ y ∈ A ++ B, y.short ≠ x.short := fun y hy e => hex ⟨y, hy, e⟩
        have hd : decide (ix x.short (A ++ B) 0 ≥ 0) = false := by
          rcases ix_lg x.short (A ++ B) 0 with ⟨_, e⟩ | ⟨k, y, _, _, e⟩
          · rw [e]; decide
          · rw [lg_none _ _ hnx] at e; cases e
        have hB2 : ∀ y ∈ B, ltL x.short y.short = true := by
          intro y hy
          cases B with
          | nil => cases hy
          | cons b r =>
            have hbx := ltL_total (hB b r rfl) (hnx b (List.mem_append_right _ List.mem_cons_self))
            rcases List.mem_cons.1 hy with rfl | hyr
            · exact hbx
            · exact ltL_trans _ _ _ hbx ((List.pairwise_cons.1 (List.pairwise_append.1 hP).2.1).1 y hyr)
        have ht : (andO (decide ((A.length : Int) < ((A ++ B).length : Int))) ((idx (A ++ B) (A.length : Int)).bind fun e28 => some (e28.short == x.short))) = some false := by
          cases B with
          | nil =>
            have hzz : decide ((A.length : Int) < ((A ++ [] : List Abbr).length : Int)) = false := decide_eq_false (by simp)
            rw [hzz]; rfl
          | cons b r =>
            have hi : idx (A ++ b :: r) (A.length : Int) = some b := by rw [idx_nat, List.getElem?_append_right (Nat.le_refl _), Nat.sub_self]; rfl
            have eb : (b.short == x.short) = false := beq_eq_false_iff_ne.2 (hnx b (List.mem_append_right _ List.mem_cons_self))
            rw [hi, Option.bind_some, eb, andO_some, Bool.and_false]
        rw [ht, hd]
        simp only [Option.bind_some, cond_false]
        by_cases h30 : (A ++ B).length = 30
        · have z1 : (((A ++ B).length : Int) == 30) = true := by rw [beq_iff_eq]; omega
          have z2 : decide (((A ++ B).length : Int) ≥ 30) = true := decide_eq_true (by omega)
          rw [z1, z2]
          exact ⟨[], 5, rfl, rfl, .inr ⟨by decide, rfl⟩⟩
        · have z1 : (((A ++ B).length : Int) == 30) = false := by rw [beq_eq_false_iff_ne]; omega
          have z2 : decide (((A ++ B).length : Int) ≥ 30) = false := decide_eq_false (by omega)
          have e2 := fun kj => add_s1 hn hA hB2 kj B.length (A ++ B).length N (by simp) (Nat.le_refl _) (by simp only [List.length_append] at hn; omega)
          have s0 : sub (A ++ B) 0 (A.length : Int) = some A := by
            rw [sub_some _ _ _ (by omega) (by omega) (by simp only [List.length_append]; omega)]; simp
          have s1 : sub (A ++ B) (A.length : Int) ((A ++ B).length : Int) = some B := by
            rw [sub_some _ _ _ (by omega) (by simp only [List.length_append]; omega) (by omega), Int.toNat_natCast, Int.toNat_natCast, List.drop_left, List.take_of_length_le (by simp only [List.length_append]; omega)]
          simp only [List.length_append] at hn h30
          rw [z1, z2, cond_false, cond_false, e2]
          simp only [s0, s1, Option.bind_some]
          rw [app_some [] A (by simp; unfold LIM; omega)]
          simp only [List.nil_append, Option.bind_some]
          rw [app_some A _ (by simp; unfold LIM; omega)]
          simp only [Option.bind_some]
          rw [app_some _ B (by simp; unfold LIM; omega)]
          refine ⟨A ++ [x] ++ B, 0, rfl, rfl, .inl ⟨rfl, ⟨?_, ?_, ?_⟩, ?_⟩⟩
          · simp only [List.length_append, List.length_cons, List.length_nil]; omega
          · intro y hy
            rw [List.append_assoc] at hy
            rcases List.mem_append.1 hy with h | h
            · exact hV.v y (List.mem_append_left _ h)
            · rcases List.mem_cons.1 h with rfl | h
              · exact hw
              · exact hV.v y (List.mem_append_right _ h)
          · rw [List.pairwise_append] at hP
            rw [List.append_assoc, List.pairwise_append]
            refine ⟨hP.1, List.pairwise_cons.2 ⟨hB2, hP.2.1⟩, fun a ha b hb => ?_⟩
            rcases List.mem_cons.1 hb with rfl | hb
            · exact hA a ha
            · exact hP.2.2 a ha b hb
          · simp only [List.length_append, List.length_cons, List.length_nil]; omega
end Go.Proofs.Ytpdcifgphocllaa
