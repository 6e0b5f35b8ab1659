/-
  Plain lemmas on these functions. No conditions but those that each states.
-/
import Derived.Test.YtacdadfaialbpaaFnCodesP
namespace Go.Proofs.Ytacdadfaialbpaa
set_option linter.unusedVariables false
set_option linter.unusedSimpArgs false
def pre (u s : Str) : Bool := decide ((s.length : Int) ≥ (u.length : Int)) && (s.take u.length == u)
def Rd (W : List Str) : List Nat → Str → Prop
  | [], s => s = []
  | k :: L, s => ∃ h : k < W.length, pre W[k] s = true ∧ Rd W L (s.drop W[k].length)
/-- the least number of words of a text, -1 if it cannot be read -/
def Isf (W : List Str) (s : Str) (v : Int) : Prop := (v = -1 ∧ ∀ L, ¬ Rd W L s) ∨ (0 ≤ v ∧ (∃ L, Rd W L s ∧ (L.length : Int) = v) ∧ ∀ L, Rd W L s → v ≤ (L.length : Int))
def IsfK (W : List Str) (k : Nat) (s : Str) (v : Int) : Prop := (v = -1 ∧ ∀ j L, Rd W (j :: L) s → ¬ j < k) ∨ (0 ≤ v ∧ (∃ j L, j < k ∧ Rd W (j :: L) s ∧ (L.length : Int) + 1 = v) ∧ ∀ j L, j < k → Rd W (j :: L) s → v ≤ (L.length : Int) + 1)
theorem IsfK_zero (W : List Str) (s : Str) : IsfK W 0 s (-1) := .inl ⟨rfl, fun j L _ h => by omega⟩
theorem Isf_nil (W : List Str) (hW : ∀ w ∈ W, w ≠ []) : Isf W [] 0 := .inr ⟨Int.le_refl _, ⟨[], rfl, rfl⟩, fun L _ => by omega⟩
theorem IsfK_skip {W : List Str} {k : Nat} {s : Str} {v : Int} (h : IsfK W k s v) (hk : ∀ L, ¬ Rd W (k :: L) s) : IsfK W (k + 1) s v := by
  rcases h with ⟨h1, h2⟩ | ⟨h1, ⟨j, L, g1, g2, g3⟩, h3⟩
  · refine .inl ⟨h1, fun j L hr hj => ?_⟩
    by_cases e : j = k
    · subst e; exact hk L hr
    · exact h2 j L hr (by omega)
  · refine .inr ⟨h1, ⟨j, L, by omega, g2, g3⟩, fun j L hj hr => ?_⟩
    by_cases e : j = k
    · subst e; exact absurd hr (hk L)
    · exact h3 j L (by omega) hr
theorem IsfK_take {W : List Str} {k : Nat} {s : Str} {v f : Int} (h : IsfK W k s v) (hk : k < W.length) (hp : pre W[k] s = true) (hf : Isf W (s.drop W[k].length) f) (f0 : 0 ≤ f) :
    IsfK W (k + 1) s (if v < 0 ∨ f + 1 < v then f + 1 else v) := by
  rcases hf with ⟨e, _⟩ | ⟨_, ⟨L0, l1, l2⟩, l3⟩
  · omega
  have hr0 : Rd W (k :: L0) s := ⟨hk, hp, l1⟩
  have hmin : ∀ L, Rd W (k :: L) s → f + 1 ≤ (L.length : Int) + 1 := fun L ⟨_, _, hr⟩ => by have := l3 L hr; omega
  rcases h with ⟨h1, h2⟩ | ⟨h1, ⟨j, L, g1, g2, g3⟩, h3⟩
  · rw [if_pos (.inl (by omega))]
    refine .inr ⟨by omega, ⟨k, L0, by omega, hr0, by omega⟩, fun j L hj hr => ?_⟩
    by_cases e : j = k
    · subst e; exact hmin L hr
    · exact absurd (by omega : j < k) (h2 j L hr)
  · by_cases g : f + 1 < v
    · rw [if_pos (.inr g)]
      refine .inr ⟨by omega, ⟨k, L0, by omega, hr0, by omega⟩, fun j L hj hr => ?_⟩
      by_cases e : j = k
      · subst e; exact hmin L hr
      · have := h3 j L (by omega) hr; omega
    · rw [if_neg (by omega)]
      refine .inr ⟨h1, ⟨j, L, by omega, g2, g3⟩, fun j L hj hr => ?_⟩
      by_cases e : j = k
      · subst e; have := hmin L hr; omega
      · exact h3 j L (by omega) hr
theorem Isf_full {W : List Str} {s : Str} {v : Int} (h : IsfK W W.length s v) (hs : s ≠ []) : Isf W s v := by
  have hc : ∀ L, Rd W L s → ∃ j L', L = j :: L' ∧ j < W.length := fun L hr => by
    cases L with
    | nil => exact absurd hr hs
    | cons j L' => exact ⟨j, L', rfl, hr.1⟩
  rcases h with ⟨h1, h2⟩ | ⟨h1, ⟨j, L, g1, g2, g3⟩, h3⟩
  · refine .inl ⟨h1, fun L hr => ?_⟩
    obtain ⟨j, L', rfl, hj⟩ := hc L hr
    exact h2 j L' hr hj
  · refine .inr ⟨h1, ⟨j :: L, g2, by simpa using g3⟩, fun L hr => ?_⟩
    obtain ⟨j, L', rfl, hj⟩ := hc L hr
    have := h3 j L' hj hr
    simpa using this
/-- the text of words -/
def enc (W : List Str) : List Nat → Str
  | [] => []
  | k :: L => (W[k]?.getD []) ++ enc W L
theorem pre_app (u t : Str) : pre u (u ++ t) = true := by unfold pre; simp; omega
theorem pre_iff {u s : Str} (h : pre u s = true) : s = u ++ s.drop u.length := by
  unfold pre at h
  rw [Bool.and_eq_true, beq_iff_eq] at h
  conv => lhs; rw [← List.take_append_drop u.length s, h.2]
theorem Rd_enc (W : List Str) : ∀ (L : List Nat), (∀ k ∈ L, k < W.length) → Rd W L (enc W L)
  | [], _ => rfl
  | k :: L, h => by
    have hk := h k (by simp)
    refine ⟨hk, ?_, ?_⟩
    · simp only [enc, List.getElem?_eq_getElem hk, Option.getD_some]; exact pre_app _ _
    · simp only [enc, List.getElem?_eq_getElem hk, Option.getD_some, List.drop_left]
      exact Rd_enc W L (fun j hj => h j (by simp [hj]))
theorem enc_Rd (W : List Str) : ∀ (L : List Nat) (s : Str), Rd W L s → enc W L = s ∧ ∀ k ∈ L, k < W.length
  | [], s, h => ⟨h.symm, fun k hk => by simp at hk⟩
  | k :: L, s, ⟨hk, hp, hr⟩ => by
    obtain ⟨h1, h2⟩ := enc_Rd W L _ hr
    refine ⟨?_, fun j hj => ?_⟩
    · simp only [enc, List.getElem?_eq_getElem hk, Option.getD_some, h1]; exact (pre_iff hp).symm
    · rcases List.mem_cons.1 hj with rfl | hj
      · exact hk
      · exact h2 j hj
/-- the first reading: no smaller word leaves a text that can be read -/
def Fst (W : List Str) : List Nat → Str → Prop
  | [], s => s = []
  | k :: L, s => ∃ h : k < W.length, pre W[k] s = true ∧ (∀ j, j < k → ∀ L', ¬ Rd W (j :: L') s) ∧ Fst W L (s.drop W[k].length)
theorem Fst.Rd {W : List Str} : ∀ {L : List Nat} {s : Str}, Fst W L s → Rd W L s
  | [], _, h => h
  | _ :: _, _, ⟨hk, hp, _, hr⟩ => ⟨hk, hp, Fst.Rd hr⟩
/-- the first reading is not behind another one -/
theorem Fst_lex {W : List Str} (hW : ∀ w ∈ W, w ≠ []) : ∀ (A B : List Nat) (s : Str), Fst W A s → Rd W B s → A = B ∨ ∃ C a b A' B', A = C ++ a :: A' ∧ B = C ++ b :: B' ∧ a < b
  | [], [], _, _, _ => .inl rfl
  | [], b :: B, s, h1, ⟨hb, hp, _⟩ => by
    have : s = [] := h1
    subst this
    have h0 := hW _ (List.getElem_mem hb)
    have := pre_iff hp
    simp at this
    exact absurd this h0
  | a :: A, [], s, ⟨ha, hp, _⟩, h2 => by
    have : s = [] := h2
    subst this
    have h0 := hW _ (List.getElem_mem ha)
    have := pre_iff hp
    simp at this
    exact absurd this h0
  | a :: A, b :: B, s, ⟨ha, hpa, hmin, hra⟩, hrb => by
    by_cases e : a = b
    · subst e
      obtain ⟨_, _, hrb⟩ := hrb
      rcases Fst_lex hW A B _ hra hrb with h | ⟨C, x, y, A', B', h1, h2, h3⟩
      · exact .inl (by rw [h])
      · exact .inr ⟨a :: C, x, y, A', B', by rw [h1]; rfl, by rw [h2]; rfl, h3⟩
    · have : ¬ b < a := fun h => hmin b h B hrb
      exact .inr ⟨[], a, b, A, B, rfl, rfl, by omega⟩
end Go.Proofs.Ytacdadfaialbpaa
