/-
  Plain lemmas on these functions. No conditions but those that each states.
-/
import Derived.Test.YtdmnblhhmjbhnaaFnWritersP3
namespace Go.Proofs.Ytdmnblhhmjbhnaa
set_option linter.unusedVariables false
set_option linter.unusedSimpArgs false
/-! What the machines and the pages give. -/
def kOf : List TypeFault → Str → Int
  | [], _ => 0
  | f :: r, s => bif f.letter == s then f.kind else kOf r s
def agn (w : Writer) : List Seen → Nat
  | [] => 0
  | x :: r => (if x.kind = kOf w.faults x.letter then 0 else 1) + agn w r
theorem agn_append (w : Writer) : ∀ (a b : List Seen), agn w (a ++ b) = agn w a + agn w b
  | [], b => by simp [agn]
  | x :: r, b => by simp only [List.cons_append, agn, agn_append w r b]; omega
theorem agn_le (w : Writer) : ∀ (a : List Seen), agn w a ≤ a.length
  | [] => by simp [agn]
  | x :: r => by have := agn_le w r; simp only [agn, List.length_cons]; split <;> omega
theorem kind_l1 (w : Writer) (s : Str) (hl : w.faults.length ≤ 100) : ∀ (n i N : Nat), i + n = w.faults.length → n < N → i_Writer_kind_l1 (some 0) w s N (i : Int) = some (kOf (w.faults.drop i) s) := by
  intro n
  induction n with
  | zero =>
    intro i N h1 h2
    obtain ⟨N, rfl⟩ := pos_fuel h2
    have hi : ¬ ((i : Int) < (w.faults.length : Int)) := by omega
    rw [List.drop_eq_nil_of_le (by omega)]
    simp only [i_Writer_kind_l1, hi, decide_false, cond_false, kOf]
  | succ n ih =>
    intro i N h1 h2
    obtain ⟨N, rfl⟩ := pos_fuel h2
    have hil : i < w.faults.length := by omega
    have hi : (i : Int) < (w.faults.length : Int) := by omega
    rw [drop_cons _ i hil]
    simp only [i_Writer_kind_l1, hi, decide_true, cond_true, idx_lt _ i hil, Option.bind_some, w64_nat i (by omega), ih (i + 1) N (by omega) (by omega), kOf]
    cases w.faults[i].letter == s <;> rfl
theorem kind_ok (w : Writer) (s : Str) (hl : w.faults.length ≤ 100) (N : Nat) (hN : 100 < N) : i_Writer_kind N w s = some (kOf w.faults s) := by
  have := kind_l1 w s hl w.faults.length 0 N (by omega) (by omega)
  unfold i_Writer_kind
  simp only [withK_eq]
  simpa using this
theorem agn_l1 (w : Writer) (hl : w.faults.length ≤ 100) (p : List Seen) (hp : p.length ≤ 100) (kj : Int → Option Int) : ∀ (n i N : Nat) (m : Nat), i + n = p.length → n + 200 < N → m ≤ i → i_Writer_contradictions_l1 kj w p N (m : Int) (i : Int) = kj ((m + agn w (p.drop i) : Nat) : Int) := by
  intro n
  induction n with
  | zero =>
    intro i N m h1 h2 h3
    obtain ⟨N, rfl⟩ := pos_fuel h2
    have hi : ¬ ((i : Int) < (p.length : Int)) := by omega
    rw [List.drop_eq_nil_of_le (by omega)]
    simp only [i_Writer_contradictions_l1, hi, decide_false, cond_false, agn, Nat.add_zero]
  | succ n ih =>
    intro i N m h1 h2 h3
    obtain ⟨N, rfl⟩ := pos_fuel h2
    have hil : i < p.length := by omega
    have hi : (i : Int) < (p.length : Int) := by omega
    rw [drop_cons _ i hil]
    simp only [i_Writer_contradictions_l1, hi, decide_true, cond_true, idx_lt _ i hil, Option.bind_some, withK_eq, kind_ok w _ hl N (by omega), w64_nat i (by omega), w64_nat m (by omega), agn]
    by_cases hc : p[i].kind = kOf w.faults p[i].letter
    · have hb : (p[i].kind != kOf w.faults p[i].letter) = false := by simp [hc]
      rw [hb, if_pos hc]
      simp only [cond_false, ih (i + 1) N m (by omega) (by omega) (by omega), Nat.zero_add]
    · have hb : (p[i].kind != kOf w.faults p[i].letter) = true := by simp [hc]
      rw [hb, if_neg hc]
      simp only [cond_true, ih (i + 1) N (m + 1) (by omega) (by omega) (by omega)]
      rw [show m + 1 + agn w (p.drop (i + 1)) = m + (1 + agn w (p.drop (i + 1))) from by omega]
theorem agn_ok (w : Writer) (hl : w.faults.length ≤ 100) (p : List Seen) (hp : p.length ≤ 100) (N : Nat) (hN : 400 < N) : i_Writer_contradictions N w p = some (agn w p : Int) := by
  have := agn_l1 w hl p hp (fun n8 => some n8) p.length 0 N 0 (by omega) (by omega) (by omega)
  unfold i_Writer_contradictions
  simp only [withK_eq]
  simpa using this
/-! The machines and the pages are valid. -/
theorem isName_ok (N : Nat) (hN : 14 < N) (i : Nat) (s : Str) (h : nms[i]? = some s) : i_IsName N s = some true := by
  have h1 : ∀ a ∈ nms, nm a = true := by decide
  rw [i_IsName_eq N hN, h1 s (List.mem_of_getElem? h)]
theorem ltL_asymm : ∀ a b : Str, ltL a b = true → (ltL b a || b == a) = false
  | [], [], h => by simp [ltL] at h
  | [], y :: b, h => by simp [ltL]
  | x :: a, [], h => by simp [ltL] at h
  | x :: a, y :: b, h => by
    have ih := ltL_asymm a b
    simp only [ltL, Bool.or_eq_true, Bool.and_eq_true, decide_eq_true_eq, beq_iff_eq] at h
    simp only [ltL, Bool.or_eq_false_iff, List.cons_beq_cons, Bool.and_eq_false_iff, decide_eq_false_iff_not, beq_eq_false_iff_ne]
    rcases h with h | ⟨h1, h2⟩
    · have h1 : x.toNat < y.toNat := h
      have e : y ≠ x := fun e => by rw [e] at h1; omega
      exact ⟨⟨by show ¬ (y.toNat < x.toNat); omega, Or.inl e⟩, Or.inl e⟩
    · subst h1
      have := ih h2
      simp only [Bool.or_eq_false_iff, beq_eq_false_iff_ne] at this
      exact ⟨⟨by show ¬ (x.toNat < x.toNat); omega, Or.inr (by simpa using this.1)⟩, Or.inr (by simpa using this.2)⟩
theorem valid_l1 (w : Writer) (hf : FOK w.faults) (kj : Option Bool) : ∀ (n i N : Nat), i + n = w.faults.length → n + 1100 < N → i_validWriter_l1 kj w N (i : Int) = kj := by
  have hl := hf.1
  intro n
  induction n with
  | zero =>
    intro i N h1 h2
    obtain ⟨N, rfl⟩ := pos_fuel h2
    have hi : ¬ ((i : Int) < (w.faults.length : Int)) := by omega
    simp only [i_validWriter_l1, hi, decide_false, cond_false]
  | succ n ih =>
    intro i N h1 h2
    obtain ⟨N, rfl⟩ := pos_fuel h2
    have hil : i < w.faults.length := by omega
    have hi : (i : Int) < (w.faults.length : Int) := by omega
    obtain ⟨f1, f2, f3⟩ := hf.2.1 i hil
    have f4 : inr w.faults[i].kind 1 6 = true := inr_iff.2 ⟨by omega, by omega⟩
    have ih' := ih (i + 1) N (by omega) (by omega)
    simp only [i_validWriter_l1, hi, decide_true, cond_true, idx_lt _ i hil, Option.bind_some, i_letter _ N (by omega), f1, Bool.not_true, orO_false, i_between_eq, f4, w64_nat i (by omega), ih']
    by_cases h0 : i = 0
    · subst h0; simp
    · obtain ⟨j, rfl⟩ : ∃ j, i = j + 1 := ⟨i - 1, by omega⟩
      have hp : ((j + 1 : Nat) : Int) > 0 := by omega
      have e1 : w64 (((j + 1 : Nat) : Int) - 1) = (j : Int) := by rw [w64_id (by omega) (by omega)]; omega
      simp only [hp, decide_true, andO_true, e1, idx_lt _ j (by omega : j < w.faults.length), Option.bind_some, ltL_asymm _ _ (hf.2.2 j hil), cond_false]
theorem valid_ok (w : Writer) (hf : FOK w.faults) (i : Nat) (hn : nms[i]? = some w.name) (N : Nat) (hN : 1200 < N) : i_validWriter N w = some true := by
  have hl := hf.1
  have h10 : ¬ ((w.faults.length : Int) > 10) := by omega
  have := valid_l1 w hf (some true) w.faults.length 0 N (by omega) (by omega)
  unfold i_validWriter
  simp only [isName_ok N (by omega) i _ hn, Option.bind_some, Bool.not_true, orO_false, h10, decide_false, cond_false, withK_eq]
  exact this
theorem seen_l1 (p : List Seen) (hp : POK p) (kj : Option Bool) : ∀ (n i N : Nat), i + n = p.length → n + 1100 < N → i_ValidSeen_l1 kj p N (i : Int) = kj := by
  have hl := hp.1
  intro n
  induction n with
  | zero =>
    intro i N h1 h2
    obtain ⟨N, rfl⟩ := pos_fuel h2
    have hi : ¬ ((i : Int) < (p.length : Int)) := by omega
    simp only [i_ValidSeen_l1, hi, decide_false, cond_false]
  | succ n ih =>
    intro i N h1 h2
    obtain ⟨N, rfl⟩ := pos_fuel h2
    have hil : i < p.length := by omega
    have hi : (i : Int) < (p.length : Int) := by omega
    obtain ⟨f1, f2, f3⟩ := hp.2 _ (List.getElem_mem hil)
    have f4 : inr p[i].kind 0 6 = true := inr_iff.2 ⟨by omega, by omega⟩
    have ih' := ih (i + 1) N (by omega) (by omega)
    simp only [i_ValidSeen_l1, hi, decide_true, cond_true, idx_lt _ i hil, Option.bind_some, i_letter _ N (by omega), f1, Bool.not_true, orO_false, i_between_eq, f4, w64_nat i (by omega), ih', cond_false]
theorem seen_ok (p : List Seen) (hp : POK p) (N : Nat) (hN : 1200 < N) : i_ValidSeen N p = some true := by
  have hl := hp.1
  have := seen_l1 p hp (some (decide ((p.length : Int) ≤ 60))) p.length 0 N (by omega) (by omega)
  have h60 : (p.length : Int) ≤ 60 := by omega
  unfold i_ValidSeen
  simp only [withK_eq]
  rw [show ((0 : Nat) : Int) = 0 from rfl] at this
  rw [this]; simp [h60]
theorem names_lt : ∀ (i k : Nat), k < i → i < 5 → ∀ a b, nms[k]? = some a → nms[i]? = some b → (b == a) = false := by
  intro i k h1 h2 a b ha hb
  have hi : i = 1 ∨ i = 2 ∨ i = 3 ∨ i = 4 := by omega
  have hk : k = 0 ∨ k = 1 ∨ k = 2 ∨ k = 3 := by omega
  rcases hi with rfl | rfl | rfl | rfl <;> rcases hk with rfl | rfl | rfl | rfl <;> first | omega | (cases ha; cases hb; decide)
theorem vws_l1 (l : List Writer) (hw : WOK l) (kj : Option Bool) : ∀ (n i N : Nat) (mp : List (Str × Bool)), i + n = l.length → n + 1300 < N → (∀ j, i ≤ j → ∀ b, nms[j]? = some b → mget mp b = false) → i_ValidWriters_l1 kj l N mp (i : Int) = kj := by
  have hl := hw.1
  intro n
  induction n with
  | zero =>
    intro i N mp h1 h2 h3
    obtain ⟨N, rfl⟩ := pos_fuel h2
    have hi : ¬ ((i : Int) < (l.length : Int)) := by omega
    simp only [i_ValidWriters_l1, hi, decide_false, cond_false]
  | succ n ih =>
    intro i N mp h1 h2 h3
    obtain ⟨N, rfl⟩ := pos_fuel h2
    have hil : i < l.length := by omega
    have hi : (i : Int) < (l.length : Int) := by omega
    obtain ⟨f1, f2⟩ := hw.2 i hil
    have ih' := ih (i + 1) N (mset mp l[i].name true) (by omega) (by omega) (fun j hj b hb => by
      have hj5 : j < 5 := by have := (List.getElem?_eq_some_iff.1 hb).1; exact this
      rw [mget_mset, names_lt j i (by omega) hj5 _ _ f1 hb, h3 j (by omega) b hb]; rfl)
    simp only [i_ValidWriters_l1, hi, decide_true, cond_true, idx_lt _ i hil, Option.bind_some, valid_ok l[i] f2 i f1 N (by omega), Bool.not_true, orO_false, h3 i (by omega) _ f1, w64_nat i (by omega), ih', cond_false]
theorem vws_ok (l : List Writer) (hw : WOK l) (N : Nat) (hN : 1400 < N) : i_ValidWriters N l = some true := by
  have hl := hw.1
  have := vws_l1 l hw (some (decide ((l.length : Int) ≤ 12))) l.length 0 N [] (by omega) (by omega) (fun j _ b _ => rfl)
  have h60 : (l.length : Int) ≤ 12 := by omega
  unfold i_ValidWriters
  simp only [withK_eq]
  rw [show ((0 : Nat) : Int) = 0 from rfl] at this
  rw [this]; simp [h60]
end Go.Proofs.Ytdmnblhhmjbhnaa
