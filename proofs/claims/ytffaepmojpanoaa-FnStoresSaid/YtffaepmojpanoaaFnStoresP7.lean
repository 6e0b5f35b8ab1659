/-
  Plain lemmas on these functions. No conditions but those that each states.
-/
import Derived.Test.YtffaepmojpanoaaFnStoresP6
namespace Go.Proofs.Ytffaepmojpanoaa
set_option linter.unusedVariables false
set_option linter.unusedSimpArgs false
theorem max0_eq (x : Int) : s_l00Max 0 x = some (imax x 0) := by
  unfold s_l00Max imax
  by_cases h : 0 > x <;> simp [h]
theorem OrderList_l1_eq (l : List SparePart) (h40 : l.length ≤ 40) : ∀ (n i N : Nat) (o : List Int), i + n = l.length → n + 50 < N → o.length ≤ i →
    ∃ r : List Int, r.length ≤ 40 ∧ ∀ K, s_OrderList_l1 K l N o (i : Int) = K r ∧ i_OrderList_l1 K l N o (i : Int) = K r := by
  intro n
  induction n with
  | zero =>
    intro i N o h1 h3 h4
    obtain ⟨N, rfl⟩ := pos_fuel (by omega : 0 < N)
    have hi : ¬ ((i : Int) < (l.length : Int)) := by omega
    exact ⟨o, by omega, fun K => by simp [s_OrderList_l1, i_OrderList_l1, hi]⟩
  | succ n ih =>
    intro i N o h1 h3 h4
    obtain ⟨N, rfl⟩ := pos_fuel (by omega : 0 < N)
    have hi : (i : Int) < (l.length : Int) := by omega
    have hn : i < l.length := by omega
    obtain ⟨o', h6, h7⟩ := ih (i + 1) N (o ++ [imax (w64 (l[i].target - l[i].stock)) 0]) (by omega) (by omega) (by simp; omega)
    refine ⟨o', h6, fun K => ?_⟩
    have ea : app o [imax (w64 (l[i].target - l[i].stock)) 0] = some (o ++ [imax (w64 (l[i].target - l[i].stock)) 0]) := app_some _ _ (by simp; unfold LIM; omega)
    simp only [s_OrderList_l1, i_OrderList_l1, hi, decide_true, cond_true, idx_lt l i hn, Option.bind_some, max0_eq, ea, w64_nat i (by omega)]
    exact h7 K
theorem OrderList_eq (N : Nat) (l : List SparePart) (ha : l.length ≤ LIM) (hN : 2 * l.length + 100 < N) : ∃ p : List Int × Int, p.1.length ≤ 40 ∧ s_OrderList N l = some p ∧ i_OrderList N l = some p := by
  obtain ⟨t, h1, h2⟩ := ValidParts_eq l ha
  obtain ⟨h3, h4⟩ := h2 N hN
  cases t
  · exact ⟨([], 1), by simp, by simp [s_OrderList, h3], by simp [i_OrderList, h4]⟩
  · have hv := h1 rfl
    obtain ⟨r, h5, h6⟩ := OrderList_l1_eq l hv.1 l.length 0 N [] (by omega) (by omega) (by simp)
    refine ⟨(r, 0), h5, ?_, ?_⟩
    · simp only [s_OrderList, h3, Option.bind_some, Bool.not_true, cond_false, withK_eq]; exact (h6 _).1
    · simp only [i_OrderList, h4, Option.bind_some, Bool.not_true, cond_false, withK_eq]; exact (h6 _).2
theorem law_FnExactOrderList (a : List SparePart) (ha : wfL wfSparePart a) : ∃ N, w_FnExactOrderList N a = some true := by
  obtain ⟨N, hN⟩ : ∃ N, N = 3000000 := ⟨_, rfl⟩
  refine ⟨N, ?_⟩
  obtain ⟨r1, h1, h2⟩ := w_szSparePartS_eq (N := N) a 1048576 (by omega) (by omega) (by omega) ha.1 (fun x hx => (ha.2 x hx).1)
  unfold w_FnExactOrderList
  rw [h1]
  rcases h2 with h2 | ⟨h2, h3, la⟩
  · simp [h2]
  have h2' : ¬ r1 < 0 := by omega
  have la' : a.length ≤ LIM := by unfold LIM; omega
  obtain ⟨p, lp, h7, h8⟩ := OrderList_eq N a la' (by omega)
  have lp' : p.1.length ≤ LIM := by unfold LIM; omega
  obtain ⟨m1, h9, _⟩ := w_markSparePartS_eq (N := N) a la' (by omega)
  obtain ⟨m2, h10, h11⟩ := w_markInt64S_eq (N := N) p.1 lp' (by omega)
  have f1 : ¬ (1 + 5 * (a.length : Int) < 0) := by omega
  have f2 : ¬ (1 + (p.1.length : Int) < 0) := by omega
  simp only [Option.bind_some, h2', f1, f2, decide_false, cond_false, w_toSparePartS_eq a la' (by omega : a.length < N), h7, h8, h9, h10, h11, w_eqSparePartS_eq a la' (by omega : a.length < N), w_eqInt64S_eq p.1 lp' (by omega : p.1.length < N), bne_self_eq_false, Bool.not_true, orO_some, orO_false, Bool.or_false]
end Go.Proofs.Ytffaepmojpanoaa
