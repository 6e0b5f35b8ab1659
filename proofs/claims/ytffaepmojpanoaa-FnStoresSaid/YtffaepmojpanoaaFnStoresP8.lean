/-
  Plain lemmas on these functions. No conditions but those that each states.
-/
import Derived.Test.YtffaepmojpanoaaFnStoresP7
namespace Go.Proofs.Ytffaepmojpanoaa
set_option linter.unusedVariables false
set_option linter.unusedSimpArgs false
theorem Wants_l1_eq (ks ki : Option Int) (c : Int) (hs : ks = some c) (hi0 : ki = some c) (w : List Int) (ha : w.length ≤ LIM) : ∀ (n i N : Nat), i + n = w.length → n < N →
    (s_l24Wants_l1 ks w N (i : Int) = some c ∨ s_l24Wants_l1 ks w N (i : Int) = some 2) ∧ s_l24Wants_l1 ks w N (i : Int) = i_numbersCode_l1 ki w N (i : Int) := by
  subst hs hi0
  intro n
  induction n with
  | zero =>
    intro i N h1 h3
    obtain ⟨N, rfl⟩ := pos_fuel h3
    have hi : ¬ ((i : Int) < (w.length : Int)) := by omega
    simp [s_l24Wants_l1, i_numbersCode_l1, hi]
  | succ n ih =>
    intro i N h1 h3
    obtain ⟨N, rfl⟩ := pos_fuel h3
    have hi : (i : Int) < (w.length : Int) := by omega
    have hn : i < w.length := by omega
    unfold LIM at ha
    obtain ⟨h4, h5⟩ := ih (i + 1) N (by omega) (by omega)
    simp only [s_l24Wants_l1, i_numbersCode_l1, hi, decide_true, cond_true, idx_lt w i hn, Option.bind_some, s_l24Many_eq, i_between_eq, w64_nat i (by omega)]
    cases inr w[i] 0 100000
    · exact ⟨.inr rfl, rfl⟩
    · exact ⟨h4, h5⟩
/-- numbers behind a place are in range if the code is 0 -/
theorem Wants_l1_good (w : List Int) (ha : w.length ≤ LIM) : ∀ (n i N : Nat), i + n = w.length → n < N → s_l24Wants_l1 (some 0) w N (i : Int) = some 0 → ∀ j, i ≤ j → ∀ h : j < w.length, 0 ≤ w[j] ∧ w[j] ≤ 100000 := by
  intro n
  induction n with
  | zero => intro i N h1 h3 _ j h4 h5; omega
  | succ n ih =>
    intro i N h1 h3 h
    obtain ⟨N, rfl⟩ := pos_fuel h3
    have hi : (i : Int) < (w.length : Int) := by omega
    have hn : i < w.length := by omega
    have la := ha
    unfold LIM at la
    simp only [s_l24Wants_l1, hi, decide_true, cond_true, idx_lt w i hn, Option.bind_some, s_l24Many_eq, w64_nat i (by omega)] at h
    cases e : inr w[i] 0 100000
    · rw [e] at h; simp at h
    · rw [e] at h
      intro j hj hj2
      by_cases hji : j = i
      · subst hji; exact inr_iff.1 e
      · exact ih (i + 1) N (by omega) (by omega) h j (by omega) hj2
def okW (l : List SparePart) (w : List Int) : Prop := VP l ∧ w.length = l.length ∧ ∀ j, ∀ h : j < w.length, 0 ≤ w[j] ∧ w[j] ≤ 100000
theorem Wants_eq (N : Nat) (l : List SparePart) (w : List Int) (ha : l.length ≤ LIM) (hw : w.length ≤ LIM) (hN : 2 * l.length + 100 < N) (hN2 : w.length < N) :
    ∃ c : Int, (c = 0 → okW l w) ∧ s_l24Wants N l w = some c ∧ i_numbersCode N l w = some c := by
  obtain ⟨t, h1, h2⟩ := ValidParts_eq l ha
  obtain ⟨h3, h4⟩ := h2 N hN
  cases t
  · exact ⟨1, fun h => by simp at h, by simp [s_l24Wants, h3], by simp [i_numbersCode, h4]⟩
  · by_cases hlen : w.length = l.length
    · have e : ((w.length : Int) != (l.length : Int)) = false := by simp [hlen]
      obtain ⟨h5, h6⟩ := Wants_l1_eq (some 0) (some 0) 0 rfl rfl w hw w.length 0 N (by omega) hN2
      rw [show ((0 : Nat) : Int) = 0 from rfl] at h5 h6
      have hs : s_l24Wants N l w = s_l24Wants_l1 (some 0) w N 0 := by simp only [s_l24Wants, h3, Option.bind_some, Bool.not_true, cond_false, e, withK_eq]
      have hi : i_numbersCode N l w = s_l24Wants_l1 (some 0) w N 0 := by rw [h6]; simp only [i_numbersCode, h4, Option.bind_some, Bool.not_true, cond_false, e, withK_eq]
      rcases h5 with h5 | h5
      · refine ⟨0, fun _ => ⟨h1 rfl, hlen, fun j h => Wants_l1_good w hw w.length 0 N (by omega) hN2 h5 j (by omega) h⟩, by rw [hs, h5], by rw [hi, h5]⟩
      · exact ⟨2, fun h => by simp at h, by rw [hs, h5], by rw [hi, h5]⟩
    · have e : ((w.length : Int) != (l.length : Int)) = true := by simp; omega
      obtain ⟨h5, _⟩ := Wants_l1_eq (some 2) (some 2) 2 rfl rfl w hw w.length 0 N (by omega) hN2
      rw [show ((0 : Nat) : Int) = 0 from rfl] at h5
      refine ⟨2, fun h => by simp at h, ?_, ?_⟩
      · simp only [s_l24Wants, h3, Option.bind_some, Bool.not_true, cond_false, e, cond_true, withK_eq]
        rcases h5 with h5 | h5 <;> exact h5
      · simp only [i_numbersCode, h4, Option.bind_some, Bool.not_true, cond_false, e, cond_true]
theorem Scarce_l1_eq (l : List SparePart) (w : List Int) (hv : okW l w) : ∀ (n i N : Nat) (b f : Int), i + n = l.length → n < N →
    ∃ r : Int × Int, ∀ K : Int → Int → Option (Int × Int), s_l24Scarce_l1 K l w N b f (i : Int) = K r.1 r.2 ∧ i_scarcest_l1 K l w N b f (i : Int) = K r.1 r.2 := by
  intro n
  induction n with
  | zero =>
    intro i N b f h1 h3
    obtain ⟨N, rfl⟩ := pos_fuel h3
    have hi : ¬ ((i : Int) < (l.length : Int)) := by omega
    exact ⟨(b, f), fun K => by simp [s_l24Scarce_l1, i_scarcest_l1, hi]⟩
  | succ n ih =>
    intro i N b f h1 h3
    obtain ⟨N, rfl⟩ := pos_fuel h3
    have h40 := hv.1.1
    have hw := hv.2.1
    have hi : (i : Int) < (l.length : Int) := by omega
    have hn : i < l.length := by omega
    have hn' : i < w.length := by omega
    by_cases hz : w[i] = 0
    · obtain ⟨r, h4⟩ := ih (i + 1) N b f (by omega) (by omega)
      refine ⟨r, fun K => ?_⟩
      simp only [s_l24Scarce_l1, i_scarcest_l1, hi, decide_true, cond_true, idx_lt l i hn, idx_lt w i hn', Option.bind_some, w64_nat i (by omega), withK_eq, hz, beq_self_eq_true]
      exact h4 K
    · have e : (w[i] == 0) = false := by simpa using hz
      have hq : quoO l[i].stock w[i] = some (w64 (Int.tdiv l[i].stock w[i])) := by unfold quoO; rw [if_neg hz]
      have h5 : ∃ b' f', ∀ K : Int → Int → Option (Int × Int), (bif (decide (b < 0) || decide (w64 (Int.tdiv l[i].stock w[i]) < f)) then K (i : Int) (w64 (Int.tdiv l[i].stock w[i])) else K b f) = K b' f' := by
        cases (decide (b < 0) || decide (w64 (Int.tdiv l[i].stock w[i]) < f))
        · exact ⟨b, f, fun K => rfl⟩
        · exact ⟨_, _, fun K => rfl⟩
      obtain ⟨b', f', h5⟩ := h5
      obtain ⟨r, h4⟩ := ih (i + 1) N b' f' (by omega) (by omega)
      refine ⟨r, fun K => ?_⟩
      simp only [s_l24Scarce_l1, i_scarcest_l1, hi, decide_true, cond_true, idx_lt l i hn, idx_lt w i hn', Option.bind_some, w64_nat i (by omega), withK_eq, e, cond_false, hq, orO_some]
      exact ⟨(h5 (fun b f => s_l24Scarce_l1 K l w N b f ((i + 1 : Nat) : Int))).trans (h4 K).1, (h5 (fun b f => i_scarcest_l1 K l w N b f ((i + 1 : Nat) : Int))).trans (h4 K).2⟩
theorem Scarce_eq (N : Nat) (l : List SparePart) (w : List Int) (hv : okW l w) (hN : 41 < N) : ∃ r : Int × Int, s_l24Scarce N l w = some r ∧ i_scarcest N l w = some r := by
  have h40 := hv.1.1
  obtain ⟨r, h1⟩ := Scarce_l1_eq l w hv l.length 0 N (-1) 0 (by omega) (by omega)
  exact ⟨r, by unfold s_l24Scarce; exact (h1 _).1, by unfold i_scarcest; exact (h1 _).2⟩
theorem MachinesFrom_eq (N : Nat) (l : List SparePart) (w : List Int) (ha : l.length ≤ LIM) (hw : w.length ≤ LIM) (hN : 2 * l.length + 100 < N) (hN2 : w.length < N) :
    ∃ p, s_MachinesFrom N l w = some p ∧ i_MachinesFrom N l w = some p := by
  obtain ⟨c, h1, h2, h3⟩ := Wants_eq N l w ha hw hN hN2
  by_cases hc : c = 0
  · obtain ⟨r, h4, h5⟩ := Scarce_eq N l w (h1 hc) (by omega)
    subst hc
    simp only [s_MachinesFrom, i_MachinesFrom, h2, h3, h4, h5, Option.bind_some, bne_self_eq_false, cond_false]
    cases decide (r.1 < 0) <;> exact ⟨_, rfl, rfl⟩
  · have e : (c != 0) = true := by simpa using hc
    exact ⟨(0, c), by simp [s_MachinesFrom, h2, e], by simp [i_MachinesFrom, h3, e]⟩
theorem ScarcePart_eq (N : Nat) (l : List SparePart) (w : List Int) (ha : l.length ≤ LIM) (hw : w.length ≤ LIM) (hN : 2 * l.length + 100 < N) (hN2 : w.length < N) :
    ∃ p, s_ScarcePart N l w = some p ∧ i_ScarcePart N l w = some p := by
  obtain ⟨c, h1, h2, h3⟩ := Wants_eq N l w ha hw hN hN2
  by_cases hc : c = 0
  · obtain ⟨r, h4, h5⟩ := Scarce_eq N l w (h1 hc) (by omega)
    subst hc
    simp only [s_ScarcePart, i_ScarcePart, h2, h3, h4, h5, Option.bind_some, bne_self_eq_false, cond_false]
    cases decide (r.1 < 0) <;> exact ⟨_, rfl, rfl⟩
  · have e : (c != 0) = true := by simpa using hc
    exact ⟨(0, c), by simp [s_ScarcePart, h2, e], by simp [i_ScarcePart, h3, e]⟩
theorem law_FnExactMachinesFrom (a : List SparePart) (b : List Int) (ha : wfL wfSparePart a) (_ : wfL wfI64 b) : ∃ N, w_FnExactMachinesFrom N a b = some true := by
  obtain ⟨N, hN⟩ : ∃ N, N = 3000000 := ⟨_, rfl⟩
  refine ⟨N, ?_⟩
  obtain ⟨r1, h1, h2⟩ := w_szSparePartS_eq (N := N) a 1048576 (by omega) (by omega) (by omega) ha.1 (fun x hx => (ha.2 x hx).1)
  unfold w_FnExactMachinesFrom
  rw [h1]
  by_cases hb1 : (b.length : Int) > 1048576
  · simp [hb1]
  rcases h2 with h2 | ⟨h2, h3, la⟩
  · simp [h2]
  have h2' : ¬ r1 < 0 := by omega
  have la' : a.length ≤ LIM := by unfold LIM; omega
  have lb' : b.length ≤ LIM := by unfold LIM; omega
  obtain ⟨p, h7, h8⟩ := MachinesFrom_eq N a b la' lb' (by omega) (by omega)
  simp only [Option.bind_some, h2', hb1, decide_false, cond_false, w_toSparePartS_eq a la' (by omega : a.length < N), w_toInt64S_eq b lb' (by omega : b.length < N), h7, h8, w_eqSparePartS_eq a la' (by omega : a.length < N), w_eqInt64S_eq b lb' (by omega : b.length < N), bne_self_eq_false, Bool.not_true, orO_some, Bool.or_false]
theorem law_FnExactScarcePart (a : List SparePart) (b : List Int) (ha : wfL wfSparePart a) (_ : wfL wfI64 b) : ∃ N, w_FnExactScarcePart N a b = some true := by
  obtain ⟨N, hN⟩ : ∃ N, N = 3000000 := ⟨_, rfl⟩
  refine ⟨N, ?_⟩
  obtain ⟨r1, h1, h2⟩ := w_szSparePartS_eq (N := N) a 1048576 (by omega) (by omega) (by omega) ha.1 (fun x hx => (ha.2 x hx).1)
  unfold w_FnExactScarcePart
  rw [h1]
  by_cases hb1 : (b.length : Int) > 1048576
  · simp [hb1]
  rcases h2 with h2 | ⟨h2, h3, la⟩
  · simp [h2]
  have h2' : ¬ r1 < 0 := by omega
  have la' : a.length ≤ LIM := by unfold LIM; omega
  have lb' : b.length ≤ LIM := by unfold LIM; omega
  obtain ⟨p, h7, h8⟩ := ScarcePart_eq N a b la' lb' (by omega) (by omega)
  simp only [Option.bind_some, h2', hb1, decide_false, cond_false, w_toSparePartS_eq a la' (by omega : a.length < N), w_toInt64S_eq b lb' (by omega : b.length < N), h7, h8, w_eqSparePartS_eq a la' (by omega : a.length < N), w_eqInt64S_eq b lb' (by omega : b.length < N), bne_self_eq_false, Bool.not_true, orO_some, Bool.or_false]
end Go.Proofs.Ytffaepmojpanoaa
