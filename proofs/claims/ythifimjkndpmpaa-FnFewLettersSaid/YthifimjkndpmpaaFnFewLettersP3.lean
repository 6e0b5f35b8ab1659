/-
  Plain lemmas on these functions. No conditions but those that each states.
-/
import Derived.Test.YthifimjkndpmpaaFnFewLettersP2
namespace Go.Proofs.Ythifimjkndpmpaa
set_option linter.unusedVariables false
set_option linter.unusedSimpArgs false
/-! The letters by which machines differ. -/
def hd (s : Str) : Nat := (s.headD 0).toNat
def mkF (A B : List TypeFault) : List TypeFault → List Bool → List Bool
  | [], m => m
  | f :: l, m => mkF A B l (bif kOf A f.letter != kOf B f.letter then m.set (hd f.letter) true else m)
theorem mkF_len (A B : List TypeFault) : ∀ (l : List TypeFault) (m : List Bool), (mkF A B l m).length = m.length
  | [], m => rfl
  | f :: l, m => by
    rw [mkF, mkF_len A B l]
    cases (kOf A f.letter != kOf B f.letter)
    · rfl
    · simp
theorem hd_lt (s : Str) : hd s < 256 := UInt8.toNat_lt _
theorem mkF_get (A B : List TypeFault) (j : Nat) : ∀ (l : List TypeFault) (m : List Bool), m.length = 256 → ((mkF A B l m)[j]? = some true ↔ m[j]? = some true ∨ ∃ f ∈ l, kOf A f.letter ≠ kOf B f.letter ∧ hd f.letter = j)
  | [], m, _ => by simp [mkF]
  | f :: l, m, h => by
    rw [mkF]
    cases hc : (kOf A f.letter != kOf B f.letter)
    · have hc' : kOf A f.letter = kOf B f.letter := by simpa using hc
      rw [cond_false, mkF_get A B j l m h]
      constructor
      · rintro (h1 | ⟨g, g1, g2⟩)
        · exact .inl h1
        · exact .inr ⟨g, by simp [g1], g2⟩
      · rintro (h1 | ⟨g, g1, g2, g3⟩)
        · exact .inl h1
        · rcases List.mem_cons.1 g1 with rfl | g1
          · exact absurd hc' g2
          · exact .inr ⟨g, g1, g2, g3⟩
    · have hc' : kOf A f.letter ≠ kOf B f.letter := by simpa using hc
      rw [cond_true, mkF_get A B j l _ (by simpa using h), List.getElem?_set]
      have hlt := hd_lt f.letter
      constructor
      · rintro (h1 | ⟨g, g1, g2⟩)
        · by_cases e : hd f.letter = j
          · exact .inr ⟨f, by simp, hc', e⟩
          · rw [if_neg e] at h1; exact .inl h1
        · exact .inr ⟨g, by simp [g1], g2⟩
      · rintro (h1 | ⟨g, g1, g2, g3⟩)
        · left
          by_cases e : hd f.letter = j
          · rw [if_pos e, if_pos (by omega)]
          · rw [if_neg e]; exact h1
        · rcases List.mem_cons.1 g1 with rfl | g1
          · left; rw [if_pos g3, if_pos (by omega)]
          · exact .inr ⟨g, g1, g2, g3⟩
def MK (A B : List TypeFault) (m : List Bool) : List Bool := mkF A B B (mkF A B A m)
def Z256 : List Bool := List.replicate 256 false
def DF (A B : List TypeFault) : List Bool := MK A B Z256
theorem Z_len : Z256.length = 256 := List.length_replicate
theorem Z_get (j : Nat) : ¬ Z256[j]? = some true := by
  unfold Z256
  rw [List.getElem?_replicate]
  split <;> simp
theorem MK_len (A B : List TypeFault) (m : List Bool) : (MK A B m).length = m.length := by unfold MK; rw [mkF_len, mkF_len]
theorem MK_get (A B : List TypeFault) (j : Nat) (m : List Bool) (h : m.length = 256) : (MK A B m)[j]? = some true ↔ m[j]? = some true ∨ ∃ f, (f ∈ A ∨ f ∈ B) ∧ kOf A f.letter ≠ kOf B f.letter ∧ hd f.letter = j := by
  unfold MK
  rw [mkF_get A B j B _ (by rw [mkF_len]; exact h), mkF_get A B j A m h]
  constructor
  · rintro ((h1 | ⟨f, f1, f2⟩) | ⟨f, f1, f2⟩)
    · exact .inl h1
    · exact .inr ⟨f, .inl f1, f2⟩
    · exact .inr ⟨f, .inr f1, f2⟩
  · rintro (h1 | ⟨f, f1 | f1, f2⟩)
    · exact .inl (.inl h1)
    · exact .inl (.inr ⟨f, f1, f2⟩)
    · exact .inr ⟨f, f1, f2⟩
theorem DF_len (A B : List TypeFault) : (DF A B).length = 256 := by unfold DF; rw [MK_len, Z_len]
theorem DF_get (A B : List TypeFault) (j : Nat) : (DF A B)[j]? = some true ↔ ∃ f, (f ∈ A ∨ f ∈ B) ∧ kOf A f.letter ≠ kOf B f.letter ∧ hd f.letter = j := by
  unfold DF
  rw [MK_get A B j Z256 Z_len]
  constructor
  · rintro (h | h)
    · exact absurd h (Z_get j)
    · exact h
  · exact .inr
theorem MK_or (A B : List TypeFault) (j : Nat) (m : List Bool) (h : m.length = 256) : (MK A B m)[j]? = some true ↔ m[j]? = some true ∨ (DF A B)[j]? = some true := by
  rw [MK_get A B j m h, DF_get]
theorem bools_eq {a b : List Bool} (hl : a.length = b.length) (h : ∀ j : Nat, a[j]? = some true ↔ b[j]? = some true) : a = b := by
  refine List.ext_getElem hl fun j h1 h2 => ?_
  have := h j
  rw [List.getElem?_eq_getElem h1, List.getElem?_eq_getElem h2] at this
  simp only [Option.some.injEq] at this
  cases ha : a[j] <;> cases hb : b[j] <;> simp_all
theorem DF_symm (A B : List TypeFault) : DF A B = DF B A := by
  refine bools_eq (by rw [DF_len, DF_len]) fun j => ?_
  rw [DF_get, DF_get]
  constructor
  · rintro ⟨f, f1, f2, f3⟩; exact ⟨f, f1.symm, fun e => f2 e.symm, f3⟩
  · rintro ⟨f, f1, f2, f3⟩; exact ⟨f, f1.symm, fun e => f2 e.symm, f3⟩
theorem isL_hd {s : Str} (h : isL s = true) : ∃ c, s = [c] := by
  unfold isL at h
  split at h
  · exact ⟨_, rfl⟩
  · cases h
theorem apart_l2 (a b e : Writer) (ha : FOK a.faults) (hb : FOK b.faults) (he : FOK e.faults) (kj : List Bool → Option (List Bool)) : ∀ (n x N : Nat) (m : List Bool), x + n = e.faults.length → n + 200 < N → m.length = 256 → i_apart_l2 kj a b e N m (x : Int) = kj (mkF a.faults b.faults (e.faults.drop x) m) := by
  have hel := he.1
  intro n
  induction n with
  | zero =>
    intro x N m h1 h2 h3
    obtain ⟨N, rfl⟩ := pos_fuel (by omega : 0 < N)
    have hi : ¬ ((x : Int) < (e.faults.length : Int)) := by omega
    rw [List.drop_eq_nil_of_le (by omega)]
    simp [i_apart_l2, hi, mkF]
  | succ n ih =>
    intro x N m h1 h2 h3
    obtain ⟨N, rfl⟩ := pos_fuel (by omega : 0 < N)
    have hi : (x : Int) < (e.faults.length : Int) := by omega
    have hx : x < e.faults.length := by omega
    obtain ⟨c, hc⟩ := isL_hd (he.2.1 x hx).1
    have k1 := kind_ok ⟨a.name, a.faults⟩ (e.faults[x]).letter (by have := ha.1; show a.faults.length ≤ 100; omega) N (by omega)
    have k2 := kind_ok ⟨b.name, b.faults⟩ (e.faults[x]).letter (by have := hb.1; show b.faults.length ≤ 100; omega) N (by omega)
    rw [drop_cons _ x hx, mkF]
    simp only [i_apart_l2, hi, decide_true, cond_true, withK_eq, idx_lt _ x hx, Option.bind_some, k1, k2, w64_nat x (by omega)]
    cases hk : (kOf a.faults (e.faults[x]).letter != kOf b.faults (e.faults[x]).letter)
    · simp only [cond_false]
      exact ih (x + 1) N m (by omega) (by omega) h3
    · have hcl := UInt8.toNat_lt c
      have i1 : idx (e.faults[x]).letter 0 = some c := by rw [hc]; rfl
      have i2 : idx m (UInt8.toNat c : Int) = some (m[c.toNat]'(by omega)) := idx_lt m c.toNat (by omega)
      have i3 : hd (e.faults[x]).letter = c.toNat := by rw [hc]; rfl
      simp only [cond_true, i1, Option.bind_some, i2, Int.toNat_natCast, i3]
      exact ih (x + 1) N _ (by omega) (by omega) (by simpa using h3)
theorem apart_ok (a b : Writer) (ha : FOK a.faults) (hb : FOK b.faults) (N : Nat) (hN : 300 < N) (m : List Bool) (hm : m.length = 256) : i_apart N a b m = some (MK a.faults b.faults m) := by
  obtain ⟨N, rfl⟩ := pos_fuel (by omega : 0 < N)
  obtain ⟨N, rfl⟩ := pos_fuel (by omega : 0 < N)
  obtain ⟨N, rfl⟩ := pos_fuel (by omega : 0 < N)
  have hal := ha.1
  have hbl := hb.1
  have d0 : ((0 : Int) < (List.length ([(Writer.mk a.name a.faults), (Writer.mk b.name b.faults)] : List Writer) : Int)) := by simp
  have d1 : ((1 : Int) < (List.length ([(Writer.mk a.name a.faults), (Writer.mk b.name b.faults)] : List Writer) : Int)) := by simp
  have d2 : ¬ ((2 : Int) < (List.length ([(Writer.mk a.name a.faults), (Writer.mk b.name b.faults)] : List Writer) : Int)) := by simp
  have w0 : w64 ((0 : Int) + 1) = 1 := by decide
  have w1 : w64 ((1 : Int) + 1) = 2 := by decide
  have i0 : idx ([(Writer.mk a.name a.faults), (Writer.mk b.name b.faults)] : List Writer) 0 = some ⟨a.name, a.faults⟩ := rfl
  have i1 : idx ([(Writer.mk a.name a.faults), (Writer.mk b.name b.faults)] : List Writer) 1 = some ⟨b.name, b.faults⟩ := rfl
  have l0 := fun K => apart_l2 a b ⟨a.name, a.faults⟩ ha hb ha K a.faults.length 0 (N + 2) m (by simp) (by omega) hm
  have l1 := fun K => apart_l2 a b ⟨b.name, b.faults⟩ ha hb hb K b.faults.length 0 (N + 1) (mkF a.faults b.faults a.faults m) (by simp) (by omega) (by rw [mkF_len]; exact hm)
  rw [show ((0 : Nat) : Int) = 0 from rfl] at l0 l1
  simp only [List.drop_zero] at l0 l1
  unfold i_apart
  simp only [i_apart_l1, d0, decide_true, cond_true, withK_eq, i0, Option.bind_some, l0, w0, d1, i1, l1, w1, d2, decide_false, cond_false]
  rfl
theorem asc_of : ∀ (m : List Bool) (x j : Nat), x + m.length ≤ 256 → m[j]? = some true → ∃ c ∈ asc m x, c.toNat = x + j
  | [], x, j, _, h => by simp at h
  | b :: r, x, j, hl, h => by
    simp only [List.length_cons] at hl
    cases j with
    | zero =>
      simp only [List.getElem?_cons_zero, Option.some.injEq] at h
      subst h
      exact ⟨UInt8.ofInt (x : Int), by simp [asc], by rw [ofInt_toNat x (by omega)]; rfl⟩
    | succ j =>
      simp only [List.getElem?_cons_succ] at h
      obtain ⟨c, c1, c2⟩ := asc_of r (x + 1) j (by omega) h
      refine ⟨c, ?_, by omega⟩
      cases b
      · simpa [asc] using c1
      · simp only [asc, cond_true, List.mem_cons]; exact .inr c1
/-- a text's letters, one by one -/
def ones (s : Str) : List Str := s.map fun c => [c]
theorem ones_l1 (s : Str) (hs : s.length ≤ 300) (kj : List Str → Option (List Str)) : ∀ (n x N : Nat) (l : List Str), x + n = s.length → n < N → l.length = x → i_letterList_l1 kj s N l (x : Int) = kj (l ++ ones (s.drop x)) := by
  intro n
  induction n with
  | zero =>
    intro x N l h1 h2 h3
    obtain ⟨N, rfl⟩ := pos_fuel h2
    have hi : ¬ ((x : Int) < (s.length : Int)) := by omega
    rw [List.drop_eq_nil_of_le (by omega)]
    simp [i_letterList_l1, hi, ones]
  | succ n ih =>
    intro x N l h1 h2 h3
    obtain ⟨N, rfl⟩ := pos_fuel h2
    have hi : (x : Int) < (s.length : Int) := by omega
    have hx : x < s.length := by omega
    have hs1 : sub s (x : Int) ((x + 1 : Nat) : Int) = some [s[x]] := by
      rw [sub_some _ _ _ (by omega) (by omega) (by omega), Int.toNat_natCast, Int.toNat_natCast, drop_cons s x hx, show x + 1 - x = 1 by omega]
      rfl
    have ha : app l [[s[x]]] = some (l ++ [[s[x]]]) := app_some _ _ (by simp; unfold LIM; omega)
    simp only [i_letterList_l1, hi, decide_true, cond_true, hs1, Option.bind_some, ha, w64_nat x (by omega)]
    rw [ih (x + 1) N _ (by omega) (by omega) (by simp; omega), drop_cons s x hx, List.append_assoc]
    rfl
theorem ones_ok (s : Str) (hs : s.length ≤ 300) (N : Nat) (hN : 400 < N) : i_letterList N s = some (ones s) := by
  have := ones_l1 s hs (fun l3 => some l3) s.length 0 N [] (by omega) (by omega) rfl
  rw [show ((0 : Nat) : Int) = 0 from rfl] at this
  unfold i_letterList
  rw [withK_eq, this]
  simp
theorem lapart_ok (a b : Writer) (ha : FOK a.faults) (hb : FOK b.faults) (i k : Nat) (hi : nms[i]? = some a.name) (hk : nms[k]? = some b.name) (N : Nat) (hN : 1300 < N) : i_LettersApart N a b = some (ones (asc (DF a.faults b.faults) 0), 0) := by
  have v1 := valid_ok ⟨a.name, a.faults⟩ ha i hi N (by omega)
  have v2 := valid_ok ⟨b.name, b.faults⟩ hb k hk N (by omega)
  have e1 := apart_ok ⟨a.name, a.faults⟩ ⟨b.name, b.faults⟩ ha hb N (by omega) Z256 Z_len
  have e2 := asc_ok (DF a.faults b.faults) (DF_len _ _) N (by omega)
  have hl := asc_len (DF a.faults b.faults) 0
  rw [DF_len] at hl
  have e3 := ones_ok (asc (DF a.faults b.faults) 0) (by omega) N (by omega)
  unfold i_LettersApart
  rw [show List.replicate 256 false = Z256 from rfl]
  simp only [v1, v2, Option.bind_some, Bool.not_true, orO_some, Bool.or_self, cond_false, e1]
  rw [show MK a.faults b.faults Z256 = DF a.faults b.faults from rfl]
  simp only [e2, e3, Option.bind_some]
end Go.Proofs.Ythifimjkndpmpaa
