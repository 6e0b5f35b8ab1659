/-
  Plain lemmas on these functions. No conditions but those that each states.
-/
import Derived.Test.YtdnnnakjhehfkaaDoorFnReplacementsP7
namespace Go.Proofs.YtdnnnakjhehfkaaDoor
set_option linter.unusedVariables false
set_option linter.unusedSimpArgs false
theorem Code_eq (l : List SparePart) (ha : l.length ≤ LIM) (k m : Int) : ∃ c : Int, (c = 0 → VP l ∧ 0 ≤ k ∧ k < l.length ∧ 1 ≤ m ∧ m ≤ 100000) ∧ ∀ N, 2 * l.length + 100 < N → s_l24Code N l k m = some c ∧ i_partCode N l k m = some c := by
  obtain ⟨t, h1, h2⟩ := ValidParts_eq l ha
  unfold LIM at ha
  have e2 : w64 ((l.length : Int) - 1) = (l.length : Int) - 1 := w64_id (by omega) (by omega)
  refine ⟨bif !t then 1 else bif (!(inr k 0 ((l.length : Int) - 1)) || !(inr m 1 100000)) then 2 else 0, ?_, fun N hN => ?_⟩
  · intro h
    cases t
    · simp at h
    · cases e : (!(inr k 0 ((l.length : Int) - 1)) || !(inr m 1 100000))
      · simp only [Bool.or_eq_false_iff, Bool.not_eq_false', inr_iff] at e
        exact ⟨h1 rfl, by omega, by omega, by omega, by omega⟩
      · rw [e] at h; simp at h
  · obtain ⟨h3, h4⟩ := h2 N hN
    simp only [s_l24Code, i_partCode, h3, h4, Option.bind_some, s_l00In_eq, i_between_eq, orO_some, e2]
    cases t
    · exact ⟨rfl, rfl⟩
    · cases (!(inr k 0 ((l.length : Int) - 1)) || !(inr m 1 100000)) <;> exact ⟨rfl, rfl⟩
theorem Use_l1_eq (l : List SparePart) (m : Int) (hl : ∀ e ∈ l, e.instead < l.length) : ∀ (n : Nat) (N : Nat) (x : Int), alv l n x = false → x < l.length → n < N →
    ∃ r : Int, r < l.length ∧ ∀ K, s_l24Use_l1 K l m N x = K r ∧ i_usedPart_l1 K l m N x = K r := by
  intro n
  induction n with
  | zero =>
    intro N x h1 h2 h3
    obtain ⟨N, rfl⟩ := pos_fuel h3
    simp only [alv, decide_eq_false_iff_not] at h1
    exact ⟨x, h2, fun K => by simp [s_l24Use_l1, i_usedPart_l1, h1]⟩
  | succ n ih =>
    intro N x h1 h2 h3
    obtain ⟨N, rfl⟩ := pos_fuel h3
    by_cases hx : x ≥ 0
    · have hn : nx l x = (l[x.toNat]'(by omega)).instead := by unfold nx; rw [List.getElem?_eq_getElem (by omega)]
      rw [alv] at h1
      simp only [hx, decide_true, Bool.true_and, hn] at h1
      by_cases hs : (l[x.toNat]'(by omega)).stock < m
      · obtain ⟨r, h4, h5⟩ := ih N _ h1 (hl _ (List.getElem_mem _)) (by omega)
        refine ⟨r, h4, fun K => ?_⟩
        simp only [s_l24Use_l1, i_usedPart_l1, hx, decide_true, andO_true, idx_int l x hx (by omega), Option.bind_some, hs, cond_true]
        exact h5 K
      · refine ⟨x, h2, fun K => ?_⟩
        simp only [s_l24Use_l1, i_usedPart_l1, hx, decide_true, andO_true, idx_int l x hx (by omega), Option.bind_some, hs, decide_false, cond_false, and_self]
    · exact ⟨x, h2, fun K => by simp only [s_l24Use_l1, i_usedPart_l1, hx, decide_false, andO_false, Option.bind_some, cond_false, and_self]⟩
theorem VP.alv {l : List SparePart} (h : VP l) (x : Int) (h1 : x < l.length) : alv l l.length x = false := by
  by_cases hx : x ≥ 0
  · have := h.2.2 x.toNat (by omega)
    rwa [Int.toNat_of_nonneg hx] at this
  · cases e : YtdnnnakjhehfkaaDoor.alv l l.length x
    · rfl
    · exact absurd ((alv_itn l l.length x).1 e 0 (by omega)) (by show ¬ 0 ≤ x; omega)
theorem Use_eq (l : List SparePart) (hv : VP l) (k m : Int) (hk : k < l.length) : ∃ r : Int, r < l.length ∧ ∀ N, 41 < N → s_l24Use N l k m = some r ∧ i_usedPart N l k m = some r := by
  have h40 := hv.1
  obtain ⟨r0, h1, h2⟩ := Use_l1_eq l m hv.instead l.length (l.length + 1) k (hv.alv k hk) hk (by omega)
  -- the value does not hang on the fuel
  have mono : ∀ (n : Nat) (N M : Nat) (x : Int), alv l n x = false → x < l.length → n < N → n < M → ∀ K, s_l24Use_l1 K l m N x = s_l24Use_l1 K l m M x := by
    intro n
    induction n with
    | zero =>
      intro N M x h1 h2 h3 h4 K
      obtain ⟨N, rfl⟩ := pos_fuel h3
      obtain ⟨M, rfl⟩ := pos_fuel h4
      simp only [YtdnnnakjhehfkaaDoor.alv, decide_eq_false_iff_not] at h1
      simp [s_l24Use_l1, h1]
    | succ n ih =>
      intro N M x h1 h2 h3 h4 K
      obtain ⟨N, rfl⟩ := pos_fuel h3
      obtain ⟨M, rfl⟩ := pos_fuel h4
      by_cases hx : x ≥ 0
      · have hn : nx l x = (l[x.toNat]'(by omega)).instead := by unfold nx; rw [List.getElem?_eq_getElem (by omega)]
        rw [YtdnnnakjhehfkaaDoor.alv] at h1
        simp only [hx, decide_true, Bool.true_and, hn] at h1
        simp only [s_l24Use_l1, hx, decide_true, andO_true, idx_int l x hx (by omega), Option.bind_some]
        rw [ih N M _ h1 (hv.instead _ (List.getElem_mem _)) (by omega) (by omega) K]
      · simp only [s_l24Use_l1, hx, decide_false, andO_false, Option.bind_some, cond_false]
  refine ⟨r0, h1, fun N hN => ?_⟩
  obtain ⟨r, _, h3⟩ := Use_l1_eq l m hv.instead l.length N k (hv.alv k hk) hk (by omega)
  have e := mono l.length N (l.length + 1) k (hv.alv k hk) hk (by omega) (by omega) (fun k => some k)
  rw [(h2 _).1, (h3 _).1] at e
  injection e with e
  subst e
  exact h3 _
theorem ReplacementOf_eq (l : List SparePart) (ha : l.length ≤ LIM) (k m : Int) : ∃ p : Int × Int, (p.2 = 0 → VP l ∧ 0 ≤ p.1 ∧ p.1 < l.length ∧ 1 ≤ m ∧ m ≤ 100000) ∧ ∀ N, 2 * l.length + 100 < N → s_ReplacementOf N l k m = some p ∧ i_ReplacementOf N l k m = some p := by
  obtain ⟨c, h1, h2⟩ := Code_eq l ha k m
  by_cases hc : c = 0
  · obtain ⟨hv, h3, h4, h5, h6⟩ := h1 hc
    obtain ⟨r, h7, h8⟩ := Use_eq l hv k m h4
    refine ⟨bif decide (r < 0) then (0, 3) else (r, 0), ?_, fun N hN => ?_⟩
    · by_cases hr : r < 0
      · simp [hr]
      · simp only [hr, decide_false, cond_false]; intro _; exact ⟨hv, by omega, h7, h5, h6⟩
    · simp only [s_ReplacementOf, i_ReplacementOf, h2 N hN, h8 N (by omega), Option.bind_some, hc, bne_self_eq_false, cond_false]
      cases decide (r < 0) <;> exact ⟨rfl, rfl⟩
  · refine ⟨(0, c), fun h => absurd h hc, fun N hN => ?_⟩
    have : (c != 0) = true := by simpa using hc
    simp only [s_ReplacementOf, i_ReplacementOf, h2 N hN, Option.bind_some, this, cond_true, and_self]
theorem DeadParts_l1_eq (l : List SparePart) (hv : VP l) : ∀ (n i N : Nat) (o : List Int), i + n = l.length → n + 50 < N → o.length ≤ i →
    ∃ r : List Int, r.length ≤ 40 ∧ ∀ K, s_DeadParts_l1 K l N o (i : Int) = K r ∧ i_DeadParts_l1 K l N o (i : Int) = K r := by
  have h40 := hv.1
  intro n
  induction n with
  | zero =>
    intro i N o h1 h3 h4
    obtain ⟨N, rfl⟩ := pos_fuel (by omega : 0 < N)
    have hi : ¬ ((i : Int) < (l.length : Int)) := by omega
    exact ⟨o, by omega, fun K => by simp [s_DeadParts_l1, i_DeadParts_l1, hi]⟩
  | succ n ih =>
    intro i N o h1 h3 h4
    obtain ⟨N, rfl⟩ := pos_fuel (by omega : 0 < N)
    have hi : (i : Int) < (l.length : Int) := by omega
    obtain ⟨r, _, h5⟩ := Use_eq l hv (i : Int) 1 hi
    by_cases hr : r < 0
    · obtain ⟨o', h6, h7⟩ := ih (i + 1) N (o ++ [(i : Int)]) (by omega) (by omega) (by simp; omega)
      refine ⟨o', h6, fun K => ?_⟩
      simp only [s_DeadParts_l1, i_DeadParts_l1, hi, decide_true, cond_true, withK_eq, h5 N (by omega), Option.bind_some, hr, w64_nat i (by omega)]
      rw [app_some _ _ (by simp; unfold LIM; omega)]
      exact h7 K
    · obtain ⟨o', h6, h7⟩ := ih (i + 1) N o (by omega) (by omega) (by omega)
      refine ⟨o', h6, fun K => ?_⟩
      simp only [s_DeadParts_l1, i_DeadParts_l1, hi, decide_true, cond_true, withK_eq, h5 N (by omega), Option.bind_some, hr, decide_false, cond_false, w64_nat i (by omega)]
      exact h7 K
theorem DeadParts_eq (N : Nat) (l : List SparePart) (ha : l.length ≤ LIM) (hN : 2 * l.length + 100 < N) : ∃ p : List Int × Int, p.1.length ≤ 40 ∧ s_DeadParts N l = some p ∧ i_DeadParts N l = some p := by
  obtain ⟨t, h1, h2⟩ := ValidParts_eq l ha
  obtain ⟨h3, h4⟩ := h2 N hN
  cases t
  · exact ⟨([], 1), by simp, by simp [s_DeadParts, h3], by simp [i_DeadParts, h4]⟩
  · have hv := h1 rfl
    obtain ⟨r, h5, h6⟩ := DeadParts_l1_eq l hv l.length 0 N [] (by omega) (by omega) (by simp)
    refine ⟨(r, 0), h5, ?_, ?_⟩
    · simp only [s_DeadParts, h3, Option.bind_some, Bool.not_true, cond_false, withK_eq]; exact (h6 _).1
    · simp only [i_DeadParts, h4, Option.bind_some, Bool.not_true, cond_false, withK_eq]; exact (h6 _).2
end Go.Proofs.YtdnnnakjhehfkaaDoor
