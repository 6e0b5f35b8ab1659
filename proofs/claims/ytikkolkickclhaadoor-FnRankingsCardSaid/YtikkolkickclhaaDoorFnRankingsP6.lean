/-
  Plain lemmas on these functions. No conditions but those that each states.
-/
import Derived.Test.YtikkolkickclhaaDoorFnRankingsP5
namespace Go.Proofs.YtikkolkickclhaaDoor
set_option linter.unusedVariables false
set_option linter.unusedSimpArgs false
/-! The ranking of results. -/
def btr (x y : Result) : Bool := decide (x.net > y.net) || (x.net == y.net && decide (x.errors < y.errors))
theorem btr_i (x y : Result) : i_Result_better x y = some (btr x y) := by unfold i_Result_better btr; simp only [andO_some, orO_some, Option.bind_some]
theorem btr_s (x y : Result) : s_l22Better x y = some (btr x y) := by unfold s_l22Better btr; simp only [andO_some, orO_some, Option.bind_some]
theorem btr_iff (x y : Result) : btr x y = true ↔ x.net > y.net ∨ x.net = y.net ∧ x.errors < y.errors := by
  unfold btr; simp
theorem btr_not (x y : Result) : btr x y = false ↔ ¬ (x.net > y.net ∨ x.net = y.net ∧ x.errors < y.errors) := by
  rw [← btr_iff]; simp
def gR (l : List Result) (i : Int) : Result := (idx l i).getD ⟨[], 0, 0⟩
theorem gR_at (l : List Result) (i : Nat) (h : i < l.length) : gR l (i : Int) = l[i] := by unfold gR; rw [idx_lt l i h]; rfl
def bt (l : List Result) (i j : Int) : Bool := btr (gR l i) (gR l j)
theorem bt_neg (l : List Result) (x y z : Int) (h1 : bt l x y = true) (h2 : bt l z y = false) : bt l x z = true := by
  unfold bt at *
  rw [btr_iff] at *
  rw [btr_not] at h2
  omega
theorem bt_asym (l : List Result) (x y : Int) (h : bt l x y = true) : bt l y x = false := by
  unfold bt at *
  rw [btr_iff] at h
  rw [btr_not]
  omega
theorem bt_irr (l : List Result) (x : Int) : bt l x x = false := by
  unfold bt
  rw [btr_not]
  omega
theorem bt_at (l : List Result) (i j : Nat) (hi : i < l.length) (hj : j < l.length) : i_Result_better l[i] l[j] = some (bt l i j) ∧ s_l22Better l[i] l[j] = some (bt l i j) := by
  unfold bt
  rw [gR_at l i hi, gR_at l j hj]
  exact ⟨btr_i _ _, btr_s _ _⟩
def ord (l : List Result) : List Int := isort (bt l) (rng l.length)
theorem ord_perm (l : List Result) : (ord l).Perm (rng l.length) := isort_perm _ _
theorem ord_len (l : List Result) : (ord l).length = l.length := by rw [(ord_perm l).length_eq, rng_len]
theorem ord_mem (l : List Result) {x : Int} (h : x ∈ ord l) : 0 ≤ x ∧ x < l.length := (rng_mem _ _).1 ((ord_perm l).mem_iff.1 h)
theorem ord_srt (l : List Result) : Srt (bt l) (ord l) := isort_srt _ (bt_neg l) (bt_asym l) _
section
variable {l : List Result} (hn : l.length ≤ 40)
include hn
theorem rank_i1 (kj : List Int → Option (List Int)) : ∀ (q i N : Nat), i + q = l.length → q < N → i_ranking_l1 kj l N (rng i) (i : Int) = kj (rng l.length) := by
  intro q
  induction q with
  | zero =>
    intro i N h1 h2
    obtain ⟨N, rfl⟩ := pos_fuel h2
    have hz : ¬ (i : Int) < (l.length : Int) := by omega
    have e : i = l.length := by omega
    simp only [i_ranking_l1, hz, decide_false, cond_false]
    rw [e]
  | succ q ih =>
    intro i N h1 h2
    obtain ⟨N, rfl⟩ := pos_fuel h2
    have hz : (i : Int) < (l.length : Int) := by omega
    simp only [i_ranking_l1, hz, decide_true, cond_true]
    rw [app_some _ _ (by rw [rng_len]; simp; unfold LIM; omega), Option.bind_some, w64_nat i (by omega), ← rng_succ]
    exact ih (i + 1) N (by omega) (by omega)
omit hn in
theorem rank_c (x y : Int) (hx : x ∈ rng l.length) (hy : y ∈ rng l.length) : i_ranking_c1 0 1 l [x, y] = some (bt l x y) := by
  rw [rng_mem] at hx hy
  obtain ⟨i, rfl⟩ : ∃ i : Nat, x = i := ⟨x.toNat, by omega⟩
  obtain ⟨j, rfl⟩ : ∃ j : Nat, y = j := ⟨y.toNat, by omega⟩
  have hi : i < l.length := by omega
  have hj : j < l.length := by omega
  have e0 : idx [(i : Int), (j : Int)] 0 = some (i : Int) := rfl
  have e1 : idx [(i : Int), (j : Int)] 1 = some (j : Int) := rfl
  unfold i_ranking_c1
  simp only [e0, e1, Option.bind_some, idx_lt l i hi, idx_lt l j hj, (bt_at l i j hi hj).1]
theorem rank_i (N : Nat) (hN : 100 < N) : i_ranking N l = some (ord l) := by
  unfold i_ranking
  rw [withK_n]
  have := fun kj => rank_i1 hn kj l.length 0 N (by omega) (by omega)
  rw [show rng 0 = [] from rfl, show ((0 : Nat) : Int) = 0 from rfl] at this
  rw [this, srtS_some _ (bt l) _ (by rw [rng_len]; exact hn) (fun x hx y hy => rank_c x y hx hy) (bt_neg l) (bt_asym l)]
  rfl
theorem rank_s2 (i : Nat) (hi : i < l.length) (kj : Int → Option (List Int)) : ∀ (acc post : List Int) (N : Nat), acc.length < N → acc.length ≤ 40 → (∀ x ∈ acc, x ∈ rng l.length) → s_l22Rank_l2 kj l (acc.reverse ++ post) (i : Int) N (acc.length : Int) = kj (insP (bt l) (i : Int) acc : Nat)
  | [], post, N, h1, _, _ => by
    obtain ⟨N, rfl⟩ := pos_fuel h1
    have _ := hn
    simp [s_l22Rank_l2, insP]
  | y :: r, post, N, h1, h2, h3 => by
    obtain ⟨N, rfl⟩ := pos_fuel h1
    have hy := h3 y List.mem_cons_self
    rw [rng_mem] at hy
    obtain ⟨j, rfl⟩ : ∃ j : Nat, y = j := ⟨y.toNat, by omega⟩
    have hj : j < l.length := by omega
    simp only [List.length_cons] at h1 h2
    have z0 : decide (((r.length + 1 : Nat) : Int) > 0) = true := decide_eq_true (by omega)
    have z1 : w64 (((r.length + 1 : Nat) : Int) - 1) = (r.length : Int) := by rw [w64_id (by omega) (by omega)]; omega
    have z2 : idx (((j : Int) :: r).reverse ++ post) (r.length : Int) = some (j : Int) := by
      rw [idx_nat, List.reverse_cons, List.append_assoc, List.getElem?_append_right (by simp)]
      simp
    have ih := rank_s2 i hi kj r ((j : Int) :: post) N (by omega) (by omega) (fun x hx => h3 x (List.mem_cons_of_mem _ hx))
    simp only [s_l22Rank_l2, List.length_cons, z0, andO_true, idx_lt l i hi, Option.bind_some, z1, z2, idx_lt l j hj, (bt_at l i j hi hj).2, insP]
    cases bt l i j with
    | true =>
      rw [cond_true, cond_true, ← ih, List.reverse_cons, List.append_assoc]; rfl
    | false => rfl
theorem rank_s1 (kj : List Int → Option (List Int)) : ∀ (q i N : Nat), i + q = l.length → q + 50 < N → s_l22Rank_l1 kj l N (isortB (bt l) [] (rng i)).reverse (i : Int) = kj (ord l) := by
  intro q
  induction q with
  | zero =>
    intro i N h1 h2
    obtain ⟨N, rfl⟩ := pos_fuel h2
    have hz : ¬ (i : Int) < (l.length : Int) := by omega
    have e : i = l.length := by omega
    simp only [s_l22Rank_l1, hz, decide_false, cond_false]
    rw [e]; rfl
  | succ q ih =>
    intro i N h1 h2
    obtain ⟨N, rfl⟩ := pos_fuel h2
    have hi : i < l.length := by omega
    have hz : (i : Int) < (l.length : Int) := by omega
    have hpm := isortB_perm (bt l) (rng i) []
    rw [List.append_nil] at hpm
    have hlen : (isortB (bt l) [] (rng i)).length = i := by rw [hpm.length_eq, rng_len]
    have hm : ∀ x ∈ isortB (bt l) [] (rng i), x ∈ rng l.length := fun x hx => by
      have := hpm.mem_iff.1 hx
      rw [rng_mem] at this ⊢
      omega
    have e1 : isortB (bt l) [] (rng (i + 1)) = insB (bt l) (i : Int) (isortB (bt l) [] (rng i)) := by
      rw [rng_succ, isortB_append]; rfl
    generalize isortB (bt l) [] (rng i) = acc at *
    have hp := insP_le (bt l) (i : Int) acc
    have hrl : acc.reverse.length = acc.length := by simp
    have hs2 := fun kj => rank_s2 hn i hi kj acc [] N (by omega) (by omega) hm
    have hcut := insP_cut (bt l) (i : Int) acc []
    simp only [List.append_nil] at hs2 hcut
    simp only [s_l22Rank_l1, hz, decide_true, cond_true, withK_n, hrl, hs2]
    have hsub0 : sub acc.reverse 0 ((insP (bt l) (i : Int) acc : Nat) : Int) = some (acc.reverse.take (insP (bt l) (i : Int) acc)) := by
      rw [sub_some _ _ _ (by omega) (by omega) (by omega)]; simp
    have hsub1 : sub acc.reverse ((insP (bt l) (i : Int) acc : Nat) : Int) (acc.length : Int) = some (acc.reverse.drop (insP (bt l) (i : Int) acc)) := by
      rw [sub_some _ _ _ (by omega) (by omega) (by omega), Int.toNat_natCast, Int.toNat_natCast, List.take_of_length_le (by simp)]
    rw [hsub0, hsub1]
    generalize hA : acc.reverse.take (insP (bt l) (i : Int) acc) = A at *
    generalize hB : acc.reverse.drop (insP (bt l) (i : Int) acc) = B at *
    have hAB : A.length + B.length = acc.length := by rw [← hA, ← hB, List.length_take, List.length_drop]; simp; omega
    unfold s_l00Own
    simp only [Option.bind_some]
    rw [app_some [] A (by simp; unfold LIM; omega)]
    simp only [List.nil_append, Option.bind_some]
    rw [app_some A _ (by simp; unfold LIM; omega)]
    simp only [Option.bind_some]
    rw [app_some _ B (by simp; unfold LIM; omega), Option.bind_some, w64_nat i (by omega), List.append_assoc, List.singleton_append, hcut, ← e1]
    exact ih (i + 1) N (by omega) (by omega)
theorem rank_s (N : Nat) (hN : 150 < N) : s_l22Rank N l = some (ord l) := by
  unfold s_l22Rank
  rw [withK_n]
  have := fun kj => rank_s1 hn kj l.length 0 N (by omega) (by omega)
  rw [show (isortB (bt l) [] (rng 0)).reverse = [] from rfl, show ((0 : Nat) : Int) = 0 from rfl] at this
  rw [this]
end
end Go.Proofs.YtikkolkickclhaaDoor
