/-
  Plain lemmas on these functions. No conditions but those that each states.
-/
import Derived.Test.YtacdadfaialbpaaFnCodesP2
namespace Go.Proofs.Ytacdadfaialbpaa
set_option linter.unusedVariables false
set_option linter.unusedSimpArgs false
theorem wrapu_id {x : Int} (h0 : 0 ≤ x) (h1 : x < 18446744073709551616) : IntKind.u64.wrap x = x := by
  have h2 : IntKind.u64.wrap x = x % 18446744073709551616 := by simp [IntKind.wrap, IntKind.bits, IntKind.signed]
  omega
theorem uand255 (a : Int) : 0 ≤ uand a 255 ∧ uand a 255 ≤ 255 := by
  unfold uand
  have h1 : (BitVec.ofInt 64 a &&& BitVec.ofInt 64 255).toNat ≤ 255 := by
    rw [BitVec.toNat_and]
    exact Nat.le_trans Nat.and_le_right (by decide)
  rw [wrapu_id (by omega) (by omega)]
  omega
def BIG : Int := 1152921504606846976
theorem next_ok (code : List UInt8) (at_ seed : Int) (h0 : 0 ≤ at_) (h1 : at_ ≤ BIG) : ∃ v sd, s_l00Src_next ⟨code, at_, seed⟩ = some (v, ⟨code, at_ + 1, sd⟩) ∧ 0 ≤ v ∧ v ≤ 255 := by
  unfold BIG at h1
  have e1 : w64 (at_ + 1) = at_ + 1 := w64_id (by omega) (by omega)
  have key : ∀ b : Int, 0 ≤ b → b ≤ 255 → ∀ z : Int, ∃ v sd, (bif decide (at_ + 1 ≤ (code.length : Int)) then some (b, L00Src.mk code (at_ + 1) z) else some (w64 (uand (ushr z 40) 255), L00Src.mk code (at_ + 1) z)) = some (v, L00Src.mk code (at_ + 1) sd) ∧ 0 ≤ v ∧ v ≤ 255 := by
    intro b hb0 hb1 z
    cases decide (at_ + 1 ≤ (code.length : Int))
    · have := uand255 (ushr z 40)
      exact ⟨_, _, rfl, by rw [w64_id (by omega) (by omega)]; exact this⟩
    · exact ⟨_, _, rfl, hb0, hb1⟩
  unfold s_l00Src_next
  simp only [withK_eq, e1]
  by_cases h : at_ < (code.length : Int)
  · simp only [h, decide_true, cond_true, idx_int code at_ h0 h, Option.bind_some]
    have := (code[at_.toNat]'(by omega)).toNat_lt
    exact key _ (by omega) (by omega) _
  · simp only [h, decide_false, cond_false]
    exact key 0 (by omega) (by omega) _
theorem remO_ok (x n : Int) (h0 : 0 ≤ x) (hn : 0 < n) : ∃ q, remO x n = some q ∧ 0 ≤ q ∧ q < n := by
  unfold remO
  rw [if_neg (by omega)]
  exact ⟨_, rfl, by rw [Int.tmod_eq_emod_of_nonneg h0]; exact Int.emod_nonneg _ (by omega), by rw [Int.tmod_eq_emod_of_nonneg h0]; exact Int.emod_lt_of_pos _ hn⟩
theorem pick_ok (code : List UInt8) (at_ seed n : Int) (h0 : 0 ≤ at_) (h1 : at_ < BIG) : ∃ v a sd, s_l00Src_pick ⟨code, at_, seed⟩ n = some (v, ⟨code, a, sd⟩) ∧ at_ ≤ a ∧ a ≤ at_ + 2 ∧ 0 ≤ v ∧ (0 < n → v < n) := by
  unfold s_l00Src_pick
  by_cases h : n ≤ 1
  · exact ⟨0, at_, seed, by simp only [h, decide_true, cond_true], by omega, by omega, by omega, by omega⟩
  · obtain ⟨v1, sd1, e1, h2, h3⟩ := next_ok code at_ seed h0 (by omega)
    simp only [h, decide_false, cond_false, e1, Option.bind_some, withK_eq]
    by_cases hn : n > 200
    · obtain ⟨v2, sd2, e2, h4, h5⟩ := next_ok code (at_ + 1) sd1 (by omega) (by omega)
      have e3 : w64 (w64 (v1 * 256) + v2) = v1 * 256 + v2 := by rw [w64_id (x := v1 * 256) (by omega) (by omega), w64_id (by omega) (by omega)]
      obtain ⟨q, e4, h6, h7⟩ := remO_ok (v1 * 256 + v2) n (by omega) (by omega)
      simp only [hn, decide_true, cond_true, e2, Option.bind_some, e3, e4]
      exact ⟨_, _, _, rfl, by omega, by omega, h6, fun _ => h7⟩
    · obtain ⟨q, e4, h6, h7⟩ := remO_ok v1 n (by omega) (by omega)
      simp only [hn, decide_false, cond_false, e4, Option.bind_some]
      exact ⟨_, _, _, rfl, by omega, by omega, h6, fun _ => h7⟩
end Go.Proofs.Ytacdadfaialbpaa
