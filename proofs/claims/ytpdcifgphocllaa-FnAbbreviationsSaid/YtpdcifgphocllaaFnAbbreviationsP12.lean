/-
  Plain lemmas on these functions. No conditions but those that each states.
-/
import Derived.Test.YtpdcifgphocllaaFnAbbreviationsP11
namespace Go.Proofs.Ytpdcifgphocllaa
set_option linter.unusedVariables false
set_option linter.unusedSimpArgs false
theorem text_mem (code : List UInt8) (at_ seed : Int) (l : List Str) (hl : 0 < l.length) (h0 : 0 ≤ at_) (h1 : at_ < BIG) : ∃ v a sd, s_l00Src_text ⟨code, at_, seed⟩ l = some (v, ⟨code, a, sd⟩) ∧ at_ ≤ a ∧ a ≤ at_ + 2 ∧ v ∈ l := by
  obtain ⟨v, a, sd, e, h2, h3, h4, h5⟩ := pick_ok code at_ seed (l.length : Int) h0 h1
  have := h5 (by omega)
  exact ⟨l[v.toNat]'(by omega), a, sd, by simp only [s_l00Src_text, e, Option.bind_some, idx_int l v h4 this], h2, h3, List.getElem_mem _⟩
end Go.Proofs.Ytpdcifgphocllaa
