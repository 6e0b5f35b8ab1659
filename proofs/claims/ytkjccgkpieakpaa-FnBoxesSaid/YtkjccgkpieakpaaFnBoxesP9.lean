/-
  Plain lemmas on these functions. No conditions but those that each states.
-/
import Derived.Test.YtkjccgkpieakpaaFnBoxesP8
namespace Go.Proofs.Ytkjccgkpieakpaa
set_option linter.unusedVariables false
set_option linter.unusedSimpArgs false
theorem LDraw_ok (code : List UInt8) (at_ seed : Int) (N : Nat) (hN : 200 < N) (h0 : 0 ≤ at_) (h1 : at_ + 300 < BIG) : ∃ v a sd, s_l10Draw N ⟨code, at_, seed⟩ = some (v, ⟨code, a, sd⟩) ∧ 0 ≤ a ∧ a ≤ at_ + 10 ∧ v.length ≤ 120 := by
  obtain ⟨t1, a1, s1, e1, b1, c1, d1⟩ := text_mem code at_ seed [[], [97], [80, 114, 105, 99, 101, 32, 108, 105, 115, 116], [111, 102, 32, 116, 121, 112, 101, 119, 114, 105, 116, 101, 114, 115], [78, 111, 46, 32, 53], [84, 104, 101, 32, 83, 116, 97, 110, 100, 97, 114, 100, 32, 87, 114, 105, 116, 101, 114], [120, 32, 121]] (by simp) h0 (by omega)
  have l1 : t1.length ≤ 30 := by
    simp only [List.mem_cons, List.not_mem_nil, or_false] at d1
    rcases d1 with rfl | rfl | rfl | rfl | rfl | rfl | rfl <;> decide
  obtain ⟨v2, a2, s2, e2, b2, c2, _, _⟩ := pick_ok code a1 s1 20 (by omega) (by omega)
  obtain ⟨t3, a3, s3, e3, b3, c3, d3⟩ := text_mem code a2 s2 [[32], [127]] (by simp) (by omega) (by omega)
  have l3 : t3.length ≤ 30 := by
    simp only [List.mem_cons, List.not_mem_nil, or_false] at d3
    rcases d3 with rfl | rfl <;> decide
  obtain ⟨v4, a4, s4, e4, b4, c4, d4, f4⟩ := pick_ok code a2 s2 2 (by omega) (by omega)
  have f4 := f4 (by omega)
  have ew : w64 (100 + v4) = 100 + v4 := w64_id (by omega) (by omega)
  have er := rule_eq N 119 (100 + v4) (by omega) (by omega) (by omega)
  have ca : cat t1 t3 = some (t1 ++ t3) := cat_some _ _ (by unfold LIM; omega)
  have cb : cat [32] t1 = some ([32] ++ t1) := cat_some _ _ (by simp; unfold LIM; omega)
  simp only [s_l10Draw, e1, Option.bind_some, withK_eq, e2, e3, e4, ew, er, ca, cb]
  cases (v2 == 0)
  · cases (v2 == 1)
    · cases (v2 == 2)
      · exact ⟨_, _, _, rfl, by omega, by omega, by omega⟩
      · exact ⟨_, _, _, rfl, by omega, by omega, by simp; omega⟩
    · exact ⟨_, _, _, rfl, by omega, by omega, by simp; omega⟩
  · exact ⟨_, _, _, rfl, by omega, by omega, by simp; omega⟩
theorem LWidth_ok (code : List UInt8) (at_ seed : Int) (h0 : 0 ≤ at_) (h1 : at_ + 300 < BIG) : ∃ v a sd, s_l10Width ⟨code, at_, seed⟩ = some (v, ⟨code, a, sd⟩) ∧ 0 ≤ a ∧ a ≤ at_ + 10 := by
  obtain ⟨v1, a1, s1, e1, b1, c1⟩ := one_ok code at_ seed 10 h0 (by omega)
  obtain ⟨v2, a2, s2, e2, b2, c2⟩ := among_ok code a1 s1 [(-1), 0, 1, 100, 101, (-9223372036854775808)] (by simp) (by omega) (by omega)
  obtain ⟨v3, a3, s3, e3, b3, c3, _, _⟩ := pick_ok code a1 s1 50 (by omega) (by omega)
  simp only [s_l10Width, e1, Option.bind_some, e2, e3]
  cases v1
  · exact ⟨_, _, _, rfl, by omega, by omega⟩
  · exact ⟨_, _, _, rfl, by omega, by omega⟩
end Go.Proofs.Ytkjccgkpieakpaa
