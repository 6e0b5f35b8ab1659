/-
  Plain lemmas on these functions. No conditions but those that each states.
-/
import Derived.Test.YtdnnnakjhehfkaaDoorFnReplacementsP6
namespace Go.Proofs.YtdnnnakjhehfkaaDoor
set_option linter.unusedVariables false
set_option linter.unusedSimpArgs false
theorem nm_len {s : Str} (h : nm s = true) : s.length ≤ 14 := by
  unfold nm at h
  split at h
  · simp
  · simp only [Bool.and_eq_true, decide_eq_true_eq] at h
    simp only [List.length_cons]
    omega
theorem VP.ok {l : List SparePart} (h : VP l) : ∀ e ∈ l, e.name.length ≤ 14 ∧ 0 ≤ e.stock ∧ e.stock ≤ 100000 ∧ 0 ≤ e.target ∧ e.target ≤ 100000 ∧ 0 ≤ e.days ∧ e.days ≤ 365 ∧ -1 ≤ e.instead ∧ e.instead < l.length := by
  intro e he
  have := h.2.1 e he
  simp only [fok, Bool.and_eq_true, inr_iff] at this
  have h2 := nm_len this.1
  omega
theorem cat_ok (a b : Str) (m n : Nat) (ha : a.length ≤ m) (hb : b.length ≤ n) (h : m + n ≤ 10000) : cat a b = some (a ++ b) ∧ (a ++ b).length ≤ m + n := by
  constructor
  · exact cat_some _ _ (by unfold LIM; omega)
  · simp; omega
theorem PartText_eq (l : List SparePart) (ha : l.length ≤ LIM) (k : Int) : ∃ s : Str, ∀ N, 2 * l.length + 100 < N → s_PartText N l k = some s ∧ i_PartText N l k = some s := by
  obtain ⟨t, h1, h2⟩ := ValidParts_eq l ha
  have e0 : w64 ((l.length : Int) - 1) = (l.length : Int) - 1 := by unfold LIM at ha; exact w64_id (by omega) (by omega)
  by_cases c : t = true ∧ inr k 0 ((l.length : Int) - 1) = true
  · obtain ⟨rfl, c2⟩ := c
    have hv := h1 rfl
    have hk := inr_iff.1 c2
    have hkl : k.toNat < l.length := by omega
    obtain ⟨b1, b2, b3, b4, b5, b6, b7, b8, b9⟩ := hv.ok _ (List.getElem_mem hkl)
    have ei := idx_int l k (by omega) (by omega)
    obtain ⟨s1, s2, s3, _⟩ := Dec_eq 31 l[k.toNat].stock (by omega) (by omega) (by omega)
    obtain ⟨t1, t2, t3, _⟩ := Dec_eq 31 l[k.toNat].target (by omega) (by omega) (by omega)
    obtain ⟨d1, d2, d3, _⟩ := Dec_eq 31 l[k.toNat].days (by omega) (by omega) (by omega)
    obtain ⟨c1, n1⟩ := cat_ok l[k.toNat].name [32] 14 1 b1 (by simp) (by omega)
    obtain ⟨c3, n3⟩ := cat_ok _ _ _ 20 n1 s3 (by omega)
    obtain ⟨c4, n4⟩ := cat_ok _ [47] _ 1 n3 (by simp) (by omega)
    obtain ⟨c5, n5⟩ := cat_ok _ _ _ 20 n4 t3 (by omega)
    obtain ⟨c6, n6⟩ := cat_ok _ [32, 105, 110, 32] _ 4 n5 (by simp) (by omega)
    obtain ⟨c7, n7⟩ := cat_ok _ _ _ 20 n6 d3 (by omega)
    obtain ⟨c8, n8⟩ := cat_ok _ [32, 100, 97, 121, 115] _ 5 n7 (by simp) (by omega)
    by_cases q : l[k.toNat].instead ≥ 0
    · have hil : l[k.toNat].instead.toNat < l.length := by omega
      have ej := idx_int l l[k.toNat].instead (by omega) (by omega)
      obtain ⟨f1, _⟩ := hv.ok _ (List.getElem_mem hil)
      obtain ⟨c9, n9⟩ := cat_ok [32, 111, 114, 32] l[l[k.toNat].instead.toNat].name 4 14 (by simp) f1 (by omega)
      obtain ⟨c10, n10⟩ := cat_ok _ _ _ _ n8 n9 (by omega)
      refine ⟨l[k.toNat].name ++ [32] ++ Lib.itoa l[k.toNat].stock ++ [47] ++ Lib.itoa l[k.toNat].target ++ [32, 105, 110, 32] ++ Lib.itoa l[k.toNat].days ++ [32, 100, 97, 121, 115] ++ ([32, 111, 114, 32] ++ l[l[k.toNat].instead.toNat].name), fun N hN => ?_⟩
      obtain ⟨g1, g2⟩ := h2 N hN
      have s1' := (Dec_eq N l[k.toNat].stock (by omega) (by omega) (by omega)).1
      have t1' := (Dec_eq N l[k.toNat].target (by omega) (by omega) (by omega)).1
      have d1' := (Dec_eq N l[k.toNat].days (by omega) (by omega) (by omega)).1
      simp only [s_PartText, i_PartText, g1, g2, Option.bind_some, s_l00In_eq, i_between_eq, e0, c2, orO_some, Bool.not_true, Bool.or_self, cond_false, ei, c1, s1', s2, c3, c4, t1', t2, c5, c6, d1', d2, c7, c8, withK_eq, q, decide_true, cond_true, ej, c9, c10, and_self]
    · refine ⟨l[k.toNat].name ++ [32] ++ Lib.itoa l[k.toNat].stock ++ [47] ++ Lib.itoa l[k.toNat].target ++ [32, 105, 110, 32] ++ Lib.itoa l[k.toNat].days ++ [32, 100, 97, 121, 115], fun N hN => ?_⟩
      obtain ⟨g1, g2⟩ := h2 N hN
      have s1' := (Dec_eq N l[k.toNat].stock (by omega) (by omega) (by omega)).1
      have t1' := (Dec_eq N l[k.toNat].target (by omega) (by omega) (by omega)).1
      have d1' := (Dec_eq N l[k.toNat].days (by omega) (by omega) (by omega)).1
      simp only [s_PartText, i_PartText, g1, g2, Option.bind_some, s_l00In_eq, i_between_eq, e0, c2, orO_some, Bool.not_true, Bool.or_self, cond_false, ei, c1, s1', s2, c3, c4, t1', t2, c5, c6, d1', d2, c7, c8, withK_eq, q, decide_false, cond_false, and_self]
  · refine ⟨[], fun N hN => ?_⟩
    obtain ⟨g1, g2⟩ := h2 N hN
    have : (!t || !inr k 0 ((l.length : Int) - 1)) = true := by
      cases t
      · rfl
      · cases hh : inr k 0 ((l.length : Int) - 1)
        · rfl
        · exact absurd ⟨rfl, hh⟩ c
    simp only [s_PartText, i_PartText, g1, g2, Option.bind_some, s_l00In_eq, i_between_eq, e0, orO_some, this, cond_true, and_self]
theorem law_FnExactPartText (a : List SparePart) (k : Int) (ha : wfL wfSparePart a) (_ : wfI64 k) : ∃ N, w_FnExactPartText N a k = some true := by
  obtain ⟨N, hN⟩ : ∃ N, N = 3000000 := ⟨_, rfl⟩
  refine ⟨N, ?_⟩
  obtain ⟨r1, h1, h2⟩ := w_szSparePartS_eq (N := N) a 1048576 (by omega) (by omega) (by omega) ha.1 (fun x hx => (ha.2 x hx).1)
  unfold w_FnExactPartText
  rw [h1]
  rcases h2 with h2 | ⟨h2, h3, la⟩
  · simp [h2]
  have h2' : ¬ r1 < 0 := by omega
  have la' : a.length ≤ LIM := by unfold LIM; omega
  obtain ⟨p, h7⟩ := PartText_eq a la' k
  obtain ⟨h7, h8⟩ := h7 N (by omega)
  simp only [Option.bind_some, h2', decide_false, cond_false, w_toSparePartS_eq a la' (by omega : a.length < N), h7, h8, w_eqSparePartS_eq a la' (by omega : a.length < N), bne_self_eq_false, Bool.not_true]
end Go.Proofs.YtdnnnakjhehfkaaDoor
