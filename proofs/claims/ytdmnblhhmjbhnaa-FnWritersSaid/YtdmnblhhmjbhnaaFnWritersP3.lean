/-
  Plain lemmas on these functions. No conditions but those that each states.
-/
import Derived.Test.YtdmnblhhmjbhnaaFnWritersP2
namespace Go.Proofs.Ytdmnblhhmjbhnaa
set_option linter.unusedVariables false
set_option linter.unusedSimpArgs false
/-! The machines that are drawn. -/
def lets : List Str := [[97], [101], [110], [114], [116], [126]]
def nms : List Str := [[97, 100, 108, 101, 114, 45, 55], [105, 100, 101, 97, 108], [109, 105, 103, 110, 111, 110], [111, 108, 121, 109, 112, 105, 97], [114, 111, 121, 97, 108]]
def FOK (l : List TypeFault) : Prop := l.length ≤ 6 ∧ (∀ (i : Nat) (h : i < l.length), isL l[i].letter = true ∧ 1 ≤ l[i].kind ∧ l[i].kind ≤ 3) ∧ ∀ (i : Nat) (h : i + 1 < l.length), ltL l[i].letter l[i + 1].letter = true
def FOKi (l : List TypeFault) (i : Nat) : Prop := l.length ≤ i ∧ (∀ (j : Nat) (h : j < l.length), ∃ k : Nat, k < i ∧ lets[k]? = some l[j].letter ∧ 1 ≤ l[j].kind ∧ l[j].kind ≤ 3) ∧ ∀ (j : Nat) (h : j + 1 < l.length), ltL l[j].letter l[j + 1].letter = true
theorem lets_lt : ∀ (i k : Nat), k < i → i < 6 → ∀ a b, lets[k]? = some a → lets[i]? = some b → ltL a b = true := by
  intro i k h1 h2 a b ha hb
  have hi : i = 1 ∨ i = 2 ∨ i = 3 ∨ i = 4 ∨ i = 5 := by omega
  have hk : k = 0 ∨ k = 1 ∨ k = 2 ∨ k = 3 ∨ k = 4 := by omega
  rcases hi with rfl | rfl | rfl | rfl | rfl <;> rcases hk with rfl | rfl | rfl | rfl | rfl <;> first | omega | (cases ha; cases hb; decide)
theorem lets_L : ∀ (k : Nat) a, lets[k]? = some a → isL a = true := by
  intro k a h
  have := List.mem_of_getElem? h
  revert a
  intro a h h2
  revert h2
  have : ∀ a ∈ lets, isL a = true := by decide
  exact this a
theorem FOKi.mono {l : List TypeFault} {i : Nat} (h : FOKi l i) : FOKi l (i + 1) := by
  refine ⟨by have := h.1; omega, fun j hj => ?_, h.2.2⟩
  obtain ⟨k, k1, k2⟩ := h.2.1 j hj
  exact ⟨k, by omega, k2⟩
theorem FOKi.snoc {l : List TypeFault} {i : Nat} (h : FOKi l i) (hi : i < 6) (e : Str) (he : lets[i]? = some e) (v : Int) (h1 : 1 ≤ v) (h2 : v ≤ 3) : FOKi (l ++ [⟨e, v⟩]) (i + 1) := by
  obtain ⟨a1, a2, a3⟩ := h
  refine ⟨by simp; omega, fun j hj => ?_, fun j hj => ?_⟩
  · simp at hj
    by_cases hc : j < l.length
    · obtain ⟨k, k1, k2⟩ := a2 j hc
      rw [List.getElem_append_left hc]
      exact ⟨k, by omega, k2⟩
    · have : j = l.length := by omega
      subst this
      simp
      exact ⟨i, by omega, he, h1, h2⟩
  · simp at hj
    by_cases hc : j + 1 < l.length
    · rw [List.getElem_append_left hc, List.getElem_append_left (by omega)]
      exact a3 j hc
    · have hq : j + 1 = l.length := by omega
      rw [List.getElem_append_left (by omega : j < l.length), List.getElem_append_right (by omega)]
      obtain ⟨k, k1, k2, _⟩ := a2 j (by omega)
      have := lets_lt i k k1 hi _ _ k2 he
      simpa [hq] using this
theorem FOKi.ok {l : List TypeFault} (h : FOKi l 6) : FOK l := by
  refine ⟨h.1, fun i hi => ?_, h.2.2⟩
  obtain ⟨k, k1, k2, k3⟩ := h.2.1 i hi
  exact ⟨lets_L k _ k2, k3⟩
theorem new_l1 (code : List UInt8) (hi : Int) (hb : hi ≤ 1000) (nm0 : Str) (kj : List TypeFault → Str → Int → Int → Option (Writer × L00Src)) (Q : Writer × L00Src → Prop) (s0 : L00Src) (hs0 : s0.code = code)
    (hk : ∀ l a sd, SrcAt code (hi + 24) ⟨code, a, sd⟩ → FOK l → ∃ r, kj l nm0 a sd = some r ∧ Q r) :
    ∀ (n i N : Nat) (l : List TypeFault) (a sd : Int), i + n = 6 → n < N → SrcAt code (hi + 4 * i) ⟨code, a, sd⟩ → FOKi l i → ∃ r, s_l15New_l1 kj s0 N l nm0 a sd (i : Int) = some r ∧ Q r := by
  intro n
  induction n with
  | zero =>
    intro i N l a sd h1 h2 h3 h4
    obtain ⟨N, rfl⟩ := pos_fuel h2
    obtain rfl : i = 6 := by omega
    simp only [s_l15New_l1, show decide (((6 : Nat) : Int) < (([[97], [101], [110], [114], [116], [126]] : List Str).length : Int)) = false from rfl, cond_false]
    exact hk l a sd (by simpa using h3) h4.ok
  | succ n ih =>
    intro i N l a sd h1 h2 h3 h4
    obtain ⟨N, rfl⟩ := pos_fuel h2
    have hi6 : i < 6 := by omega
    have hlt : decide ((i : Int) < (([[97], [101], [110], [114], [116], [126]] : List Str).length : Int)) = true := by simp; omega
    have ih' := ih (i + 1) N
    rw [show (([[97], [101], [110], [114], [116], [126]] : List Str)) = lets from rfl] at *
    simp only [s_l15New_l1, hlt, cond_true, withK_eq, w64_nat i (by omega), hs0]
    rw [show (([[97], [101], [110], [114], [116], [126]] : List Str)) = lets from rfl, hlt, cond_true]
    refine bindE (oneA 3 h3 (by omega)) fun v hv => condE (fun hb1 => ?_) (fun hb1 => ?_)
    · rw [idx_lt lets i (by exact hi6), Option.bind_some]
      have hv' : SrcAt code (hi + 4 * i + 2) ⟨code, v.2.at_, v.2.seed⟩ := ⟨rfl, hv.2.1, hv.2.2⟩
      refine bindE (pickA 3 hv' (by omega)) fun u hu => ?_
      obtain ⟨u1, u2, u3⟩ := hu
      have u4 := u3 (by omega)
      refine appE (by have := h4.1; simp; unfold LIM; omega) ?_
      refine ih' _ _ _ (by omega) (by omega) ⟨rfl, u1.2.1, by have := u1.2.2; show u.2.at_ ≤ _; omega⟩ ?_
      rw [w64_id (by omega) (by omega)]
      exact h4.snoc hi6 _ (List.getElem?_eq_getElem _) _ (by omega) (by omega)
    · exact ih' _ _ _ (by omega) (by omega) ⟨rfl, hv.2.1, by have := hv.2.2; show v.2.at_ ≤ _; omega⟩ h4.mono
theorem newA {code : List UInt8} {hi : Int} {s : L00Src} (N : Nat) (hN : 10 < N) (e : Str) (h : SrcAt code hi s) (hb : hi ≤ 1000) : ∃ v, s_l15New N s e = some v ∧ SrcAt code (hi + 24) v.2 ∧ v.1.name = e ∧ FOK v.1.faults := by
  obtain ⟨c, a, sd⟩ := s
  obtain ⟨rfl, h0, h1⟩ := h
  simp only at h0 h1
  unfold s_l15New
  simp only [withK_eq]
  have := new_l1 c hi hb e (fun l9 x11 x12 x13 => some (Writer.mk x11 l9, L00Src.mk c x12 x13)) (fun v => SrcAt c (hi + 24) v.2 ∧ v.1.name = e ∧ FOK v.1.faults) ⟨c, a, sd⟩ rfl (fun l a sd k1 k2 => ⟨_, rfl, k1, rfl, k2⟩) 6 0 N [] a sd (by omega) (by omega) ⟨rfl, h0, by simpa using h1⟩ ⟨by simp, fun j hj => by simp at hj, fun j hj => by simp at hj⟩
  exact this
def WOK (l : List Writer) : Prop := l.length ≤ 5 ∧ ∀ (i : Nat) (h : i < l.length), nms[i]? = some l[i].name ∧ FOK l[i].faults
theorem WOK.snoc {l : List Writer} (h : WOK l) (hl : l.length < 5) (w : Writer) (hn : nms[l.length]? = some w.name) (hf : FOK w.faults) : WOK (l ++ [w]) := by
  refine ⟨by simp; omega, fun i hi => ?_⟩
  simp at hi
  by_cases hc : i < l.length
  · rw [List.getElem_append_left hc]; exact h.2 i hc
  · obtain rfl : i = l.length := by omega
    simp; exact ⟨hn, hf⟩
theorem draw_l1 (code : List UInt8) (kj : Int → Int → List Writer → Option (List Writer × L00Src)) (Q : List Writer × L00Src → Prop) (s0 : L00Src) (hs0 : s0.code = code)
    (hk : ∀ l a sd, WOK l → ∃ r, kj a sd l = some r ∧ Q r) :
    ∀ (n N : Nat) (l : List Writer) (a sd : Int), l.length + n ≤ 5 → n + 20 < N → SrcAt code (10 + 24 * l.length) ⟨code, a, sd⟩ → WOK l → ∃ r, s_l15Draw_l1 kj s0 N a sd l (n : Int) = some r ∧ Q r := by
  intro n
  induction n with
  | zero =>
    intro N l a sd h1 h2 h3 h4
    obtain ⟨N, rfl⟩ := pos_fuel h2
    simp only [s_l15Draw_l1, show decide (((0 : Nat) : Int) > 0) = false from rfl, cond_false]
    exact hk l a sd h4
  | succ n ih =>
    intro N l a sd h1 h2 h3 h4
    obtain ⟨N, rfl⟩ := pos_fuel h2
    have hlt : decide (((n + 1 : Nat) : Int) > 0) = true := by simp
    have hl5 : l.length < nms.length := by show _ < 5; omega
    have e1 : w64 (((n + 1 : Nat) : Int) - 1) = (n : Int) := by rw [w64_id (by omega) (by omega)]; omega
    simp only [s_l15Draw_l1, hlt, cond_true, hs0, e1]
    rw [show ([[97, 100, 108, 101, 114, 45, 55], [105, 100, 101, 97, 108], [109, 105, 103, 110, 111, 110], [111, 108, 121, 109, 112, 105, 97], [114, 111, 121, 97, 108]] : List Str) = nms from rfl, idx_lt nms l.length hl5, Option.bind_some]
    refine bindE (newA N (by omega) _ h3 (by omega)) fun v hv => appE (by simp; unfold LIM; omega) ?_
    obtain ⟨v1, v2, v3⟩ := hv
    refine ih N _ _ _ (by simp; omega) (by omega) ⟨rfl, v1.2.1, by have := v1.2.2; show v.2.at_ ≤ _; simp; omega⟩ (h4.snoc (by omega) _ ?_ v3)
    rw [List.getElem?_eq_getElem hl5]; exact congrArg some v2.symm
theorem drawA (code : List UInt8) (N : Nat) (hN : 100 < N) : ∃ l, s_A2Writers N code = some l ∧ WOK l := by
  unfold s_A2Writers
  rw [fromA, Option.bind_some]
  have h0 : SrcAt code 0 ⟨code, 0, 0⟩ := ⟨rfl, by simp, by simp⟩
  have : ∃ r, s_l15Draw N ⟨code, 0, 0⟩ = some r ∧ WOK r.1 := by
    unfold s_l15Draw
    simp only [withK_eq]
    refine bindE (pickA 6 h0 (by omega)) fun u hu => ?_
    obtain ⟨u1, u2, u3⟩ := hu
    have u4 := u3 (by omega)
    obtain ⟨m, hm⟩ : ∃ m : Nat, u.1 = m := ⟨u.1.toNat, by omega⟩
    rw [hm]
    exact draw_l1 code (fun x7 x8 l9 => some (l9, L00Src.mk code x7 x8)) (fun r => WOK r.1) ⟨code, 0, 0⟩ rfl (fun l a sd k => ⟨_, rfl, k⟩) m N [] _ _ (by simp; omega) (by omega) ⟨rfl, u1.2.1, by have := u1.2.2; show u.2.at_ ≤ _; simp; omega⟩ ⟨by simp, fun i hi => by simp at hi⟩
  obtain ⟨r, e, h⟩ := this
  exact ⟨r.1, by rw [e]; rfl, h⟩
/-! The page that is drawn. -/
def POK (l : List Seen) : Prop := l.length ≤ 60 ∧ ∀ x ∈ l, isL x.letter = true ∧ 0 ≤ x.kind ∧ x.kind ≤ 6
theorem page_l1 (code : List UInt8) (kj : List Seen → Option (List Seen)) (Q : List Seen → Prop) (hk : ∀ l, POK l → ∃ r, kj l = some r ∧ Q r) :
    ∀ (n N : Nat) (l : List Seen) (a sd : Int), l.length + n ≤ 10 → n < N → SrcAt code (10 + 4 * l.length) ⟨code, a, sd⟩ → POK l → ∃ r, s_A2Page_l1 kj code N a sd l (n : Int) = some r ∧ Q r := by
  intro n
  induction n with
  | zero =>
    intro N l a sd h1 h2 h3 h4
    obtain ⟨N, rfl⟩ := pos_fuel h2
    simp only [s_A2Page_l1, show decide (((0 : Nat) : Int) > 0) = false from rfl, cond_false]
    exact hk l h4
  | succ n ih =>
    intro N l a sd h1 h2 h3 h4
    obtain ⟨N, rfl⟩ := pos_fuel h2
    have hlt : decide (((n + 1 : Nat) : Int) > 0) = true := by simp
    have e1 : w64 (((n + 1 : Nat) : Int) - 1) = (n : Int) := by rw [w64_id (by omega) (by omega)]; omega
    simp only [s_A2Page_l1, hlt, cond_true, e1]
    refine bindE (textA _ (by simp) h3 (by omega)) fun v hv => ?_
    obtain ⟨v1, v2⟩ := hv
    have v1' : SrcAt code (10 + 4 * l.length + 2) ⟨code, v.2.at_, v.2.seed⟩ := ⟨rfl, v1.2.1, v1.2.2⟩
    refine bindE (pickA 4 v1' (by omega)) fun u hu => ?_
    obtain ⟨u1, u2, u3⟩ := hu
    have u4 := u3 (by omega)
    refine appE (by simp; unfold LIM; omega) ?_
    refine ih N _ _ _ (by simp; omega) (by omega) ⟨rfl, u1.2.1, by have := u1.2.2; show u.2.at_ ≤ _; simp; omega⟩ ⟨by simp; omega, fun x hx => ?_⟩
    rcases List.mem_append.1 hx with hx | hx
    · exact h4.2 x hx
    · simp only [List.mem_singleton] at hx
      subst hx
      have : ∀ a ∈ ([[97], [101], [110], [114], [116], [120]] : List Str), isL a = true := by decide
      exact ⟨this _ v2, by show 0 ≤ u.1; omega, by show u.1 ≤ 6; omega⟩
theorem pageA (code : List UInt8) (N : Nat) (hN : 100 < N) : ∃ l, s_A2Page N code = some l ∧ POK l := by
  unfold s_A2Page
  rw [fromA, Option.bind_some]
  have h0 : SrcAt code 0 ⟨code, 0, 0⟩ := ⟨rfl, by simp, by simp⟩
  simp only [withK_eq]
  refine bindE (pickA 10 h0 (by omega)) fun u hu => ?_
  obtain ⟨u1, u2, u3⟩ := hu
  have u4 := u3 (by omega)
  obtain ⟨m, hm⟩ : ∃ m : Nat, u.1 = m := ⟨u.1.toNat, by omega⟩
  rw [hm]
  exact page_l1 code _ POK (fun l k => ⟨_, rfl, k⟩) m N [] _ _ (by simp; omega) (by omega) ⟨rfl, u1.2.1, by have := u1.2.2; show u.2.at_ ≤ _; simp; omega⟩ ⟨by simp, fun i hi => by simp at hi⟩
end Go.Proofs.Ytdmnblhhmjbhnaa
