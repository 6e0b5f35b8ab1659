/-
  Plain lemmas on these functions. No conditions but those that each states.
-/
import Derived.Test.YtoojddajhalimaaFnShadesP5
namespace Go.Proofs.Ytoojddajhalimaa
set_option linter.unusedVariables false
set_option linter.unusedSimpArgs false
theorem col_l1 (K : Option (Int × Int)) (s : Str) : ∀ (N : Nat) (i : Int), i_ColourRuns_l1 K s N i = s_ColourRuns_l1 K s N i := by
  intro N
  induction N with
  | zero => intros; rfl
  | succ N ih =>
    intro i
    unfold i_ColourRuns_l1 s_ColourRuns_l1
    cases h : idx s i with
    | none => rfl
    | some c => simp only [Option.bind_some, ih]
theorem col_l1v (K : Option (Int × Int)) (s : Str) (hs : s.length ≤ 5000) : ∀ (n i N : Nat), i + n = s.length → n < N → s_ColourRuns_l1 K s N (i : Int) = K ∨ s_ColourRuns_l1 K s N (i : Int) = some (0, 7) := by
  intro n
  induction n with
  | zero =>
    intro i N h1 h2
    obtain ⟨N, rfl⟩ := pos_fuel h2
    have hi : ¬ ((i : Int) < (s.length : Int)) := by omega
    exact .inl (by simp only [s_ColourRuns_l1, hi, decide_false, cond_false])
  | succ n ih =>
    intro i N h1 h2
    obtain ⟨N, rfl⟩ := pos_fuel h2
    have hi : (i : Int) < (s.length : Int) := by omega
    simp only [s_ColourRuns_l1, hi, decide_true, cond_true, idx_lt s i (by omega), Option.bind_some, andO_some, w64_nat i (by omega)]
    cases (s[i]'(by omega) != 98 && s[i]'(by omega) != 114 && s[i]'(by omega) != 32)
    · exact ih (i + 1) N (by omega) (by omega)
    · exact .inr rfl
theorem col_l2 (kj : Int → Option (Int × Int)) (s : Str) : ∀ (N : Nat) (w : UInt8) (n i : Int), i_ColourRuns_l2 kj s N w n i = s_ColourRuns_l2 kj s N n w i := by
  intro N
  induction N with
  | zero => intros; rfl
  | succ N ih =>
    intro w n i
    unfold i_ColourRuns_l2 s_ColourRuns_l2
    cases h : idx s i with
    | none => rfl
    | some c => simp only [Option.bind_some, withK_eq, ih]
theorem col_l2v (kj : Int → Option (Int × Int)) (s : Str) (hs : s.length ≤ 5000) : ∀ (d i N : Nat) (w : UInt8) (n : Int), i + d = s.length → d < N → 0 ≤ n → n ≤ i → ∃ m, s_ColourRuns_l2 kj s N n w (i : Int) = kj m ∧ 0 ≤ m ∧ m ≤ s.length := by
  intro d
  induction d with
  | zero =>
    intro i N w n h1 h2 h3 h4
    obtain ⟨N, rfl⟩ := pos_fuel h2
    have hi : ¬ ((i : Int) < (s.length : Int)) := by omega
    exact ⟨n, by simp only [s_ColourRuns_l2, hi, decide_false, cond_false], h3, by omega⟩
  | succ d ih =>
    intro i N w n h1 h2 h3 h4
    obtain ⟨N, rfl⟩ := pos_fuel h2
    have hi : (i : Int) < (s.length : Int) := by omega
    simp only [s_ColourRuns_l2, hi, decide_true, cond_true, withK_eq, idx_lt s i (by omega), Option.bind_some, andO_some, w64_nat i (by omega), w64_id (x := n + 1) (by omega) (by omega)]
    cases (s[i]'(by omega) != 32 && s[i]'(by omega) != w)
    · exact ih (i + 1) N w n (by omega) (by omega) h3 (by omega)
    · exact ih (i + 1) N _ (n + 1) (by omega) (by omega) (by omega) (by omega)
theorem Col_eq (N : Nat) (s : Str) (hs : s.length ≤ 5000) (hN : 5000 < N) : ∃ p, i_ColourRuns N s = some p ∧ s_ColourRuns N s = some p ∧ (p.2 = 0 → 0 ≤ p.1 ∧ p.1 ≤ s.length) := by
  have e : i_ColourRuns N s = s_ColourRuns N s := by
    unfold i_ColourRuns s_ColourRuns
    simp only [withK_eq, col_l1, col_l2]
  rw [e]
  unfold s_ColourRuns
  simp only [withK_eq]
  have h := fun K => col_l1v K s hs s.length 0 N (by omega) (by omega)
  rw [show ((0 : Nat) : Int) = 0 from rfl] at h
  rcases h (bif decide ((s.length : Int) > 1000) then some (0, 2) else s_ColourRuns_l2 (fun n20 => some (n20, 0)) s N 0 98 0) with h1 | h1
  · rw [h1]
    cases decide ((s.length : Int) > 1000)
    · obtain ⟨m, g1, g2, g3⟩ := col_l2v (fun n20 => some (n20, 0)) s hs s.length 0 N 98 0 (by omega) (by omega) (by omega) (by omega)
      rw [show ((0 : Nat) : Int) = 0 from rfl] at g1
      rw [cond_false, g1]
      exact ⟨(m, 0), rfl, rfl, fun _ => ⟨g2, g3⟩⟩
    · exact ⟨(0, 2), rfl, rfl, by intro e; simp at e⟩
  · rw [h1]
    exact ⟨(0, 7), rfl, rfl, by intro e; simp at e⟩
/-! the best ribbon -/
theorem best_l1 (K : Option (Int × Int × Int)) (l : List Ribbon) (hl : l.length ≤ 1000) : ∀ (n i N : Nat), i + n = l.length → n < N → i_BestRibbon_l1 K l N (i : Int) = (bif (l.drop i).all vR then K else some (0, 0, 1)) ∧ s_BestRibbon_l1 K l N (i : Int) = (bif (l.drop i).all vR then K else some (0, 0, 1)) := by
  intro n
  induction n with
  | zero =>
    intro i N h1 h2
    obtain ⟨N, rfl⟩ := pos_fuel h2
    have hi : ¬ ((i : Int) < (l.length : Int)) := by omega
    have e2 : l.drop i = [] := List.drop_of_length_le (by omega)
    simp only [i_BestRibbon_l1, s_BestRibbon_l1, hi, decide_false, cond_false, e2, List.all_nil, cond_true, and_self]
  | succ n ih =>
    intro i N h1 h2
    obtain ⟨N, rfl⟩ := pos_fuel h2
    have hi : (i : Int) < (l.length : Int) := by omega
    obtain ⟨g1, g2⟩ := ih (i + 1) N (by omega) (by omega)
    simp only [i_BestRibbon_l1, s_BestRibbon_l1, hi, decide_true, cond_true, idx_lt l i (by omega), Option.bind_some, iValid_eq, sValid_eq, w64_nat i (by omega), g1, g2, drop_cons l i (by omega), List.all_cons]
    cases vR (l[i]'(by omega)) <;> exact ⟨rfl, rfl⟩
def inP (x : Int) : Bool := decide (0 ≤ x ∧ x ≤ 100000)
theorem best_l2 (K : Option (Int × Int × Int)) (l : List Int) (hl : l.length ≤ 1000) : ∀ (n i N : Nat), i + n = l.length → n < N → i_BestRibbon_l2 K l N (i : Int) = (bif (l.drop i).all inP then K else some (0, 0, 2)) ∧ s_BestRibbon_l2 K l N (i : Int) = (bif (l.drop i).all inP then K else some (0, 0, 2)) := by
  intro n
  induction n with
  | zero =>
    intro i N h1 h2
    obtain ⟨N, rfl⟩ := pos_fuel h2
    have hi : ¬ ((i : Int) < (l.length : Int)) := by omega
    have e2 : l.drop i = [] := List.drop_of_length_le (by omega)
    simp only [i_BestRibbon_l2, s_BestRibbon_l2, hi, decide_false, cond_false, e2, List.all_nil, cond_true, and_self]
  | succ n ih =>
    intro i N h1 h2
    obtain ⟨N, rfl⟩ := pos_fuel h2
    have hi : (i : Int) < (l.length : Int) := by omega
    obtain ⟨g1, g2⟩ := ih (i + 1) N (by omega) (by omega)
    have e : decide (0 ≤ l[i]'(by omega) ∧ l[i]'(by omega) ≤ 100000) = inP (l[i]'(by omega)) := rfl
    simp only [i_BestRibbon_l2, s_BestRibbon_l2, hi, decide_true, cond_true, idx_lt l i (by omega), Option.bind_some, btw_eq, sIn_eq, w64_nat i (by omega), g1, g2, drop_cons l i (by omega), List.all_cons, e]
    cases inP (l[i]'(by omega)) <;> exact ⟨rfl, rfl⟩
/-- what ribbon number i costs -/
def pc (l : List Ribbon) (pr : List Int) (st least : Int) (i : Nat) (c : Int) : Prop := ∃ r p, l[i]? = some r ∧ pr[i]? = some p ∧ least ≤ r.ink ∧ c = w64 (p * ndI r st least)
theorem best_l3 (l : List Ribbon) (pr : List Int) (st least : Int) (hl : l.length ≤ 1000) (hp : pr.length = l.length) (hv : ∀ r ∈ l, okR r) (h0 : 0 ≤ st) (h1' : st ≤ 100000) (kj : Int → Int → Option (Int × Int × Int)) :
    ∀ (n i N : Nat) (b c : Int), i + n = l.length → n + 100010 < N → (∀ j x, j < i → pc l pr st least j x → 0 ≤ b ∧ c ≤ x) →
    ∃ b' c', i_BestRibbon_l3 kj l pr st least N b c (i : Int) = kj b' c' ∧ s_BestRibbon_l3 kj l pr st least N b c (i : Int) = kj b' c' ∧ (∀ j x, pc l pr st least j x → 0 ≤ b' ∧ c' ≤ x) := by
  intro n
  induction n with
  | zero =>
    intro i N b c h1 h2 hI
    obtain ⟨N, rfl⟩ := pos_fuel (show 0 < N by omega)
    have hi : ¬ ((i : Int) < (l.length : Int)) := by omega
    refine ⟨b, c, by simp only [i_BestRibbon_l3, hi, decide_false, cond_false], by simp only [s_BestRibbon_l3, hi, decide_false, cond_false], fun j x hx => hI j x ?_ hx⟩
    obtain ⟨r, p, hr, _⟩ := hx
    have := (List.getElem?_eq_some_iff.1 hr).1
    omega
  | succ n ih =>
    intro i N b c h1 h2 hI
    obtain ⟨N, rfl⟩ := pos_fuel (show 0 < N by omega)
    have hi : (i : Int) < (l.length : Int) := by omega
    have hn : i < l.length := by omega
    have hn2 : i < pr.length := by omega
    have hr : okR l[i] := hv _ (List.getElem_mem hn)
    simp only [i_BestRibbon_l3, s_BestRibbon_l3, hi, decide_true, cond_true, withK_eq, idx_lt l i hn, Option.bind_some, w64_nat i (by omega)]
    by_cases g : l[i].ink < least
    · have g2 : least > l[i].ink := g
      simp only [g, g2, decide_true, cond_true]
      refine ih (i + 1) N b c (by omega) (by omega) fun j x hj hx => ?_
      by_cases e : j = i
      · subst e
        obtain ⟨r, p, hr, _, hk, _⟩ := hx
        rw [List.getElem?_eq_getElem hn] at hr
        obtain rfl := Option.some.inj hr
        omega
      · exact hI j x (by omega) hx
    · have g2 : ¬ least > l[i].ink := g
      have hx0 : pc l pr st least i (w64 (pr[i] * ndI l[i] st least)) := ⟨_, _, List.getElem?_eq_getElem hn, List.getElem?_eq_getElem hn2, by omega, rfl⟩
      have huniq : ∀ x, pc l pr st least i x → x = w64 (pr[i] * ndI l[i] st least) := by
        rintro x ⟨r, p, hr, hp, _, hx⟩
        rw [List.getElem?_eq_getElem hn] at hr
        rw [List.getElem?_eq_getElem hn2] at hp
        obtain rfl := Option.some.inj hr
        obtain rfl := Option.some.inj hp
        exact hx
      simp only [g, g2, decide_false, cond_false, idx_lt pr i hn2, Option.bind_some, Many_eq N _ st least hr, needed_val N _ st least hr (by omega) h0 h1' (by omega), orO_some]
      by_cases q : b < 0 ∨ w64 (pr[i] * ndI l[i] st least) < c
      · have qb : (decide (b < 0) || decide (w64 (pr[i] * ndI l[i] st least) < c)) = true := by rw [← Bool.decide_or]; simpa using q
        rw [qb, cond_true]
        refine ih (i + 1) N _ _ (by omega) (by omega) fun j x hj hx => ?_
        by_cases e : j = i
        · subst e
          rw [huniq x hx]
          omega
        · have := hI j x (by omega) hx
          omega
      · have qb : (decide (b < 0) || decide (w64 (pr[i] * ndI l[i] st least) < c)) = false := by rw [← Bool.decide_or]; simpa using q
        rw [qb, cond_false]
        refine ih (i + 1) N b c (by omega) (by omega) fun j x hj hx => ?_
        by_cases e : j = i
        · subst e
          rw [huniq x hx]
          omega
        · exact hI j x (by omega) hx
theorem Best_eq (N : Nat) (l : List Ribbon) (pr : List Int) (st least : Int) (hl : l.length ≤ 1000) (hp : pr.length ≤ 1000) (hN : 102000 < N) : ∃ p, i_BestRibbon N l pr st least = some p ∧ s_BestRibbon N l pr st least = some p ∧
    (p.2.2 = 0 → (∀ r ∈ l, okR r) ∧ pr.length = l.length ∧ 0 ≤ st ∧ st ≤ 100000 ∧ 1 ≤ least ∧ ∀ j x, pc l pr st least j x → p.2.1 ≤ x) := by
  unfold i_BestRibbon s_BestRibbon
  have h1 := fun K => best_l1 K l hl l.length 0 N (by omega) (by omega)
  have h2 := fun K => best_l2 K pr hp pr.length 0 N (by omega) (by omega)
  simp only [List.drop_zero] at h1 h2
  rw [show ((0 : Nat) : Int) = 0 from rfl] at h1 h2
  simp only [withK_eq, (h1 _).1, (h1 _).2, (h2 _).1, (h2 _).2, use_eq, sIn_eq, btw_eq, Option.bind_some, orO_some]
  cases v : l.all vR
  · exact ⟨(0, 0, 1), rfl, rfl, by intro e; simp at e⟩
  · have hv : ∀ r ∈ l, okR r := fun r hr => vR_iff.1 (List.all_eq_true.1 v r hr)
    simp only [cond_true]
    by_cases a : 0 ≤ st ∧ st ≤ 100000
    · by_cases b : 1 ≤ least ∧ least ≤ 1000
      · by_cases c : (l.length : Int) > 20
        · simp only [a, b, c, and_self, decide_true, Bool.not_true, Bool.or_true, Bool.true_or, cond_true]
          exact ⟨(0, 0, 2), rfl, by cases pr.all inP <;> rfl, by intro e; simp at e⟩
        · by_cases d : pr.length = l.length
          · have db : ((pr.length : Int) != (l.length : Int)) = false := by rw [d]; simp
            simp only [a, b, c, db, and_self, decide_true, decide_false, Bool.not_true, Bool.or_self, cond_false]
            cases z : pr.all inP
            · exact ⟨(0, 0, 2), rfl, rfl, by intro e; simp at e⟩
            · obtain ⟨b', c', g1, g2, g3⟩ := best_l3 l pr st least hl d hv a.1 a.2 (fun best48 cost49 => bif decide (best48 < 0) then some (0, 0, 3) else some (best48, cost49, 0)) l.length 0 N (-1) 0 (by omega) (by omega) (fun j x hj => by omega)
              rw [show ((0 : Nat) : Int) = 0 from rfl] at g1 g2
              rw [cond_true, cond_true, g1, g2]
              by_cases q : b' < 0
              · simp only [q, decide_true, cond_true]
                exact ⟨(0, 0, 3), rfl, rfl, by intro e; simp at e⟩
              · simp only [q, decide_false, cond_false]
                exact ⟨(b', c', 0), rfl, rfl, fun _ => ⟨hv, d, by first | exact a.1 | trivial, by first | exact a.2 | trivial, by first | exact b.1 | trivial, fun j x hx => (g3 j x hx).2⟩⟩
          · have db : ((pr.length : Int) != (l.length : Int)) = true := by simp; omega
            simp only [a, b, c, db, and_self, decide_true, decide_false, Bool.not_true, Bool.or_true, Bool.true_or, Bool.or_self, cond_true]
            exact ⟨(0, 0, 2), rfl, by cases pr.all inP <;> rfl, by intro e; simp at e⟩
      · simp only [a, b, and_self, decide_true, decide_false, Bool.not_true, Bool.not_false, Bool.or_true, Bool.true_or, cond_true]
        exact ⟨(0, 0, 2), rfl, by cases pr.all inP <;> rfl, by intro e; simp at e⟩
    · simp only [a, decide_false, Bool.not_false, Bool.or_true, Bool.true_or, cond_true]
      exact ⟨(0, 0, 2), rfl, by cases pr.all inP <;> rfl, by intro e; simp at e⟩
end Go.Proofs.Ytoojddajhalimaa
