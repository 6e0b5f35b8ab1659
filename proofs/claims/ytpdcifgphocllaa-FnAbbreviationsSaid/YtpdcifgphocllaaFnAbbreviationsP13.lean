/-
  Plain lemmas on these functions. No conditions but those that each states.
-/
import Derived.Test.YtpdcifgphocllaaFnAbbreviationsP12
namespace Go.Proofs.Ytpdcifgphocllaa
set_option linter.unusedVariables false
set_option linter.unusedSimpArgs false
/-! Draws, step by step. -/
def SrcAt (code : List UInt8) (hi : Int) (s : L00Src) : Prop := s.code = code ∧ 0 ≤ s.at_ ∧ s.at_ ≤ hi
theorem bindE {α β : Type} {x : Option α} {f : α → Option β} {P : α → Prop} {Q : β → Prop} (h : ∃ v, x = some v ∧ P v) (k : ∀ v, P v → ∃ r, f v = some r ∧ Q r) : ∃ r, x.bind f = some r ∧ Q r := by
  obtain ⟨v, rfl, hv⟩ := h
  exact k v hv
theorem condE {β : Type} {b : Bool} {x y : Option β} {Q : β → Prop} (h1 : b = true → ∃ r, x = some r ∧ Q r) (h2 : b = false → ∃ r, y = some r ∧ Q r) : ∃ r, (bif b then x else y) = some r ∧ Q r := by
  cases b
  · exact h2 rfl
  · exact h1 rfl
theorem appE {α β : Type} {a b : List α} {f : List α → Option β} {Q : β → Prop} (h : a.length + b.length ≤ LIM) (k : ∃ r, f (a ++ b) = some r ∧ Q r) : ∃ r, (app a b).bind f = some r ∧ Q r := by
  rw [app_some a b h]; exact k
theorem SrcAt.mono {code : List UInt8} {a b : Int} {s : L00Src} (h : SrcAt code a s) (hab : a ≤ b) : SrcAt code b s := ⟨h.1, h.2.1, Int.le_trans h.2.2 hab⟩
theorem pickA {code : List UInt8} {hi : Int} {s : L00Src} (n : Int) (h : SrcAt code hi s) (hb : hi ≤ 100000000) : ∃ v, s_l00Src_pick s n = some v ∧ SrcAt code (hi + 2) v.2 ∧ 0 ≤ v.1 ∧ (0 < n → v.1 < n) := by
  obtain ⟨c, a, sd⟩ := s
  obtain ⟨rfl, h0, h1⟩ := h
  have hB : BIG = 1152921504606846976 := rfl
  simp only at h0 h1
  obtain ⟨v, a', sd', e, g1, g2, g3, g4⟩ := pick_ok c a sd n h0 (by omega)
  exact ⟨_, e, ⟨rfl, by show 0 ≤ a'; omega, by show a' ≤ hi + 2; omega⟩, g3, g4⟩
theorem oneA {code : List UInt8} {hi : Int} {s : L00Src} (n : Int) (h : SrcAt code hi s) (hb : hi ≤ 100000000) : ∃ v, s_l00Src_one s n = some v ∧ SrcAt code (hi + 2) v.2 := by
  obtain ⟨c, a, sd⟩ := s
  obtain ⟨rfl, h0, h1⟩ := h
  have hB : BIG = 1152921504606846976 := rfl
  simp only at h0 h1
  obtain ⟨v, a', sd', e, g1, g2⟩ := one_ok c a sd n h0 (by omega)
  exact ⟨_, e, rfl, by show 0 ≤ a'; omega, by show a' ≤ hi + 2; omega⟩
theorem textA {code : List UInt8} {hi : Int} {s : L00Src} (l : List Str) (hl : 0 < l.length) (h : SrcAt code hi s) (hb : hi ≤ 100000000) : ∃ v, s_l00Src_text s l = some v ∧ SrcAt code (hi + 2) v.2 ∧ v.1 ∈ l := by
  obtain ⟨c, a, sd⟩ := s
  obtain ⟨rfl, h0, h1⟩ := h
  have hB : BIG = 1152921504606846976 := rfl
  simp only at h0 h1
  obtain ⟨v, a', sd', e, g1, g2, g3⟩ := text_mem c a sd l hl h0 (by omega)
  exact ⟨_, e, ⟨rfl, by show 0 ≤ a'; omega, by show a' ≤ hi + 2; omega⟩, g3⟩
theorem fromA (code : List UInt8) : s_l00From code = some ⟨code, 0, 0⟩ := rfl
end Go.Proofs.Ytpdcifgphocllaa
