/-
  Plain lemmas on these functions. No conditions but those that each states.
-/
import Derived.Test.YtoojddajhalimaaFnCorrectedP3
namespace Go.Proofs.Ytoojddajhalimaa
set_option linter.unusedVariables false
set_option linter.unusedSimpArgs false
def hd (s : Str) : UInt8 := s.headD 0
theorem Ru.hds {l : List Over} (h : Ru l) {x : Over} (hx : x ∈ l) : idx x.under 0 = some (hd x.under) ∧ idx x.top 0 = some (hd x.top) ∧ idx x.seen 0 = some (hd x.seen) := by
  obtain ⟨u, t, s, rfl, _⟩ := h.one x hx
  exact ⟨rfl, rfl, rfl⟩
theorem nz {c : UInt8} (h : 0 < c.toNat) : c ≠ 0 := fun e => by subst e; simp at h
theorem pr_nz {c : UInt8} (h : pr c = true) : c ≠ 0 := fun e => by subst e; revert h; decide
def bs (u w b : UInt8) (x : Over) : UInt8 := bif hd x.under == u && hd x.seen == w && (b == 0 || decide (hd x.top < b)) then hd x.top else b
def best (l : List Over) (u w : UInt8) : UInt8 := l.foldl (bs u w) 0
theorem top_l1 (l : List Over) (hr : Ru l) (u w : UInt8) : ∀ (n i N : Nat) (b : UInt8), i + n = l.length → n < N → (∀ K, i_topFor_l1 K l u w N b (i : Int) = K ((l.drop i).foldl (bs u w) b)) ∧ ∀ K, s_l12Top_l1 K l u w N b (i : Int) = K ((l.drop i).foldl (bs u w) b) := by
  have hl := hr.len
  intro n
  induction n with
  | zero =>
    intro i N b h1 h3
    obtain ⟨N, rfl⟩ := pos_fuel h3
    have hi : ¬ ((i : Int) < (l.length : Int)) := by omega
    have e2 : l.drop i = [] := List.drop_of_length_le (by omega)
    exact ⟨fun K => by simp [i_topFor_l1, hi, e2], fun K => by simp [s_l12Top_l1, hi, e2]⟩
  | succ n ih =>
    intro i N b h1 h3
    obtain ⟨N, rfl⟩ := pos_fuel h3
    have hi : (i : Int) < (l.length : Int) := by omega
    have hn : i < l.length := by omega
    obtain ⟨e1, e2, e3⟩ := hr.hds (List.getElem_mem hn)
    obtain ⟨g1, g2⟩ := ih (i + 1) N (bs u w b l[i]) (by omega) (by omega)
    have ef : (l.drop i).foldl (bs u w) b = (l.drop (i + 1)).foldl (bs u w) (bs u w b l[i]) := by rw [drop_cons l i hn]; rfl
    refine ⟨fun K => ?_, fun K => ?_⟩
    · rw [ef, ← g1 K]
      simp only [i_topFor_l1, hi, decide_true, cond_true, withK_eq, idx_lt l i hn, Option.bind_some, e1, e2, e3, andO_some, orO_some, w64_nat i (by omega), bs]
      cases (hd l[i].under == u && hd l[i].seen == w && (b == 0 || decide (hd l[i].top < b))) <;> rfl
    · rw [ef, ← g2 K]
      simp only [s_l12Top_l1, hi, decide_true, cond_true, withK_eq, idx_lt l i hn, Option.bind_some, e1, e2, e3, andO_some, orO_some, w64_nat i (by omega), bs]
      cases (hd l[i].under == u && hd l[i].seen == w && (b == 0 || decide (hd l[i].top < b))) <;> rfl
def tp (l : List Over) (u w : UInt8) : UInt8 := bif u == 32 then w else best l u w
theorem top_eq (N : Nat) (l : List Over) (hr : Ru l) (u w : UInt8) (hN : 30 < N) : i_topFor N l u w = some (best l u w) ∧ s_l12Top N l u w = some (tp l u w) := by
  have hl := hr.len
  obtain ⟨g1, g2⟩ := top_l1 l hr u w l.length 0 N 0 (by omega) (by omega)
  rw [show ((0 : Nat) : Int) = 0 from rfl] at g1 g2
  constructor
  · unfold i_topFor; simp only [withK_eq]; rw [g1]; rfl
  · unfold s_l12Top; simp only [withK_eq]; rw [g2]
    unfold tp best
    cases (u == 32) <;> rfl
/-- what is done at a place -/
def pl (l : List Over) (u w : UInt8) : UInt8 × UInt8 := bif u == w then (46, 32) else bif (tp l u w != 0) then (43, tp l u w) else (35, w)
def plP (l : List Over) : Str → Str → Str
  | u :: a, w :: b => (pl l u w).1 :: plP l a b
  | _, _ => []
def plT (l : List Over) : Str → Str → Str
  | u :: a, w :: b => (pl l u w).2 :: plT l a b
  | _, _ => []
theorem plP_len (l : List Over) : ∀ (a b : Str), a.length = b.length → (plP l a b).length = a.length ∧ (plT l a b).length = a.length
  | [], [], _ => ⟨rfl, rfl⟩
  | u :: a, w :: b, h => by
    obtain ⟨h1, h2⟩ := plP_len l a b (by simpa using h)
    simp [plP, plT, h1, h2]
theorem Plan_l1 (l : List Over) (hr : Ru l) (a b : Str) (hab : a.length = b.length) (ha : a.length ≤ 1000) (hb : ∀ c ∈ b, pr c = true) : ∀ (n i N : Nat) (o p : Str), i + n = a.length → n + 40 < N → o.length = i → p.length = i →
    (∀ K, i_CorrectionPlan_l1 K l a b N o p (i : Int) = K (o ++ plT l (a.drop i) (b.drop i)) (p ++ plP l (a.drop i) (b.drop i))) ∧ ∀ K, s_l12Plan_l1 K l a b N o p (i : Int) = K (o ++ plT l (a.drop i) (b.drop i)) (p ++ plP l (a.drop i) (b.drop i)) := by
  intro n
  induction n with
  | zero =>
    intro i N o p h1 h3 ho hp
    obtain ⟨N, rfl⟩ := pos_fuel (by omega : 0 < N)
    have hi : ¬ ((i : Int) < (a.length : Int)) := by omega
    have hi' : ¬ ((i : Int) < (b.length : Int)) := by omega
    have e2 : a.drop i = [] := List.drop_of_length_le (by omega)
    exact ⟨fun K => by simp [i_CorrectionPlan_l1, hi, e2, plT, plP], fun K => by simp [s_l12Plan_l1, hi', e2, plT, plP]⟩
  | succ n ih =>
    intro i N o p h1 h3 ho hp
    obtain ⟨N, rfl⟩ := pos_fuel (by omega : 0 < N)
    have hi : (i : Int) < (a.length : Int) := by omega
    have hi' : (i : Int) < (b.length : Int) := by omega
    have hn : i < a.length := by omega
    have hn' : i < b.length := by omega
    obtain ⟨t1, t2⟩ := top_eq N l hr a[i] b[i] (by omega)
    have hw := pr_nz (hb _ (List.getElem_mem hn'))
    obtain ⟨g1, g2⟩ := ih (i + 1) N (o ++ [(pl l a[i] b[i]).2]) (p ++ [(pl l a[i] b[i]).1]) (by omega) (by omega) (by simp; omega) (by simp; omega)
    have eT : o ++ plT l (a.drop i) (b.drop i) = o ++ [(pl l a[i] b[i]).2] ++ plT l (a.drop (i + 1)) (b.drop (i + 1)) := by
      rw [drop_cons a i hn, drop_cons b i hn']; simp only [plT, List.append_assoc, List.cons_append, List.nil_append]
    have eP : p ++ plP l (a.drop i) (b.drop i) = p ++ [(pl l a[i] b[i]).1] ++ plP l (a.drop (i + 1)) (b.drop (i + 1)) := by
      rw [drop_cons a i hn, drop_cons b i hn']; simp only [plP, List.append_assoc, List.cons_append, List.nil_append]
    have ap : ∀ (q : Str) (c : UInt8), q.length = i → app q [c] = some (q ++ [c]) := fun q c hq => app_some _ _ (by simp; unfold LIM; omega)
    refine ⟨fun K => ?_, fun K => ?_⟩
    · rw [eT, eP, ← g1 K]
      simp only [i_CorrectionPlan_l1, hi, decide_true, cond_true, withK_eq, idx_lt a i hn, idx_lt b i hn', Option.bind_some, t1, ap o _ ho, ap p _ hp, w64_nat i (by omega), pl, tp]
      cases h1 : (a[i] == b[i])
      · cases h2 : (a[i] == 32)
        · simp only [cond_false]; cases (best l a[i] b[i] != 0) <;> rfl
        · have : (b[i] != 0) = true := by simpa using hw
          simp only [this, cond_true, cond_false]
      · simp only [cond_true]
    · rw [eT, eP, ← g2 K]
      simp only [s_l12Plan_l1, hi', decide_true, cond_true, withK_eq, idx_lt a i hn, idx_lt b i hn', Option.bind_some, t2, ap o _ ho, ap p _ hp, w64_nat i (by omega), pl]
      cases h1 : (a[i] == b[i])
      · cases (tp l a[i] b[i] != 0) <;> rfl
      · rfl
def er (p : Str) : Int := (p.countP (· == 35) : Nat)
theorem erased_l1 (p : Str) (hp : p.length ≤ 1000) : ∀ (n i N m : Nat), i + n = p.length → n < N → m ≤ i → (∀ K, i_erased_l1 K p N (m : Int) (i : Int) = K ((m + (p.drop i).countP (· == 35) : Nat) : Int)) ∧ ∀ K, s_l12Erased_l1 K p N (m : Int) (i : Int) = K ((m + (p.drop i).countP (· == 35) : Nat) : Int) := by
  intro n
  induction n with
  | zero =>
    intro i N m h1 h3 hm
    obtain ⟨N, rfl⟩ := pos_fuel h3
    have hi : ¬ ((i : Int) < (p.length : Int)) := by omega
    have e2 : p.drop i = [] := List.drop_of_length_le (by omega)
    exact ⟨fun K => by simp [i_erased_l1, hi, e2], fun K => by simp [s_l12Erased_l1, hi, e2]⟩
  | succ n ih =>
    intro i N m h1 h3 hm
    obtain ⟨N, rfl⟩ := pos_fuel h3
    have hi : (i : Int) < (p.length : Int) := by omega
    have hn : i < p.length := by omega
    obtain ⟨a1, a2⟩ := ih (i + 1) N (m + 1) (by omega) (by omega) (by omega)
    obtain ⟨b1, b2⟩ := ih (i + 1) N m (by omega) (by omega) (by omega)
    refine ⟨fun K => ?_, fun K => ?_⟩
    · simp only [i_erased_l1, hi, decide_true, cond_true, withK_eq, idx_lt p i hn, Option.bind_some, w64_nat i (by omega), w64_nat m (by omega)]
      rw [a1, b1, drop_cons p i hn, List.countP_cons]
      cases (p[i] == 35) with
      | false => simp
      | true => simp; congr 1; omega
    · simp only [s_l12Erased_l1, hi, decide_true, cond_true, withK_eq, idx_lt p i hn, Option.bind_some, w64_nat i (by omega), w64_nat m (by omega)]
      rw [a2, b2, drop_cons p i hn, List.countP_cons]
      cases (p[i] == 35) with
      | false => simp
      | true => simp; congr 1; omega
theorem erased_eq (N : Nat) (p : Str) (hp : p.length ≤ 1000) (hN : p.length < N) : i_erased N p = some (er p) ∧ s_l12Erased N p = some (er p) := by
  obtain ⟨h1, h2⟩ := erased_l1 p hp p.length 0 N 0 (by omega) hN (by omega)
  rw [show ((0 : Nat) : Int) = 0 from rfl] at h1 h2
  constructor
  · unfold i_erased; simp only [withK_eq]; rw [h1]; simp [er]
  · unfold s_l12Erased; simp only [withK_eq]; rw [h2]; simp [er]
def okp (c : UInt8) : Bool := !(c != 46 && c != 43 && c != 35)
def isP (p : Str) : Bool := p.all okp && decide ((p.length : Int) ≤ 60)
theorem isPlan_l1 (p : Str) (hp : p.length ≤ 1000) : ∀ (n i N : Nat), i + n = p.length → n < N → ∀ K, i_isPlan_l1 K p N (i : Int) = (bif (p.drop i).all okp then K else some false) ∧ s_l12IsPlan_l1 K p N (i : Int) = (bif (p.drop i).all okp then K else some false) := by
  intro n
  induction n with
  | zero =>
    intro i N h1 h3 K
    obtain ⟨N, rfl⟩ := pos_fuel h3
    have hi : ¬ ((i : Int) < (p.length : Int)) := by omega
    have e2 : p.drop i = [] := List.drop_of_length_le (by omega)
    simp [i_isPlan_l1, s_l12IsPlan_l1, hi, e2]
  | succ n ih =>
    intro i N h1 h3 K
    obtain ⟨N, rfl⟩ := pos_fuel h3
    have hi : (i : Int) < (p.length : Int) := by omega
    have hn : i < p.length := by omega
    obtain ⟨h4, h5⟩ := ih (i + 1) N (by omega) (by omega) K
    simp only [i_isPlan_l1, s_l12IsPlan_l1, hi, decide_true, cond_true, idx_lt p i hn, Option.bind_some, andO_some, w64_nat i (by omega), h4, h5, drop_cons p i hn, List.all_cons]
    have e : okp p[i] = !(p[i] != 46 && p[i] != 43 && p[i] != 35) := rfl
    rw [e]
    cases (p[i] != 46 && p[i] != 43 && p[i] != 35) <;> exact ⟨rfl, rfl⟩
theorem isPlan_eq (N : Nat) (p : Str) (hp : p.length ≤ 1000) (hN : p.length < N) : i_isPlan N p = some (isP p) ∧ s_l12IsPlan N p = some (isP p) := by
  have h := fun K => isPlan_l1 p hp p.length 0 N (by omega) hN K
  rw [show ((0 : Nat) : Int) = 0 from rfl] at h
  simp only [List.drop_zero] at h
  unfold i_isPlan s_l12IsPlan isP
  simp only [withK_eq, (h _).1, (h _).2]
  cases p.all okp <;> exact ⟨rfl, rfl⟩
end Go.Proofs.Ytoojddajhalimaa
