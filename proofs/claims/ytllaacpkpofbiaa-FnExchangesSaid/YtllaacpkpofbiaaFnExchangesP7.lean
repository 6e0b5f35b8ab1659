/-
  Plain lemmas on these functions. No conditions but those that each states.
-/
import Derived.Test.YtllaacpkpofbiaaFnExchangesP6
namespace Go.Proofs.Ytllaacpkpofbiaa
set_option linter.unusedVariables false
set_option linter.unusedSimpArgs false
/-! Do two layouts have the same letters in rows of the same lengths? -/
def cw (B : List Str) (w : Str) : Bool := w.all fun c => decide (c ∈ B.flatten)
theorem cw_cons (B : List Str) (c : UInt8) (w : Str) : cw B (c :: w) = (decide (c ∈ B.flatten) && cw B w) := rfl
def cz (B : List Str) : List Str → List Str → Bool
  | [], _ => true
  | w :: r, v :: s => decide (w.length = v.length) && (cw B w && cz B r s)
  | _ :: _, [] => false
def CB (A B : List Str) : Int := bif !(VL A) || !(VL B) then 1 else bif decide (A.length = B.length) && cz B A B then 0 else 9
theorem sp_found (B : List Str) (c : UInt8) : (spI (fo c B 0)).2.2 = decide (c ∈ B.flatten) ∧ decide ((spS (fo c B 0)).1 < 0) = !(decide (c ∈ B.flatten)) := by
  by_cases h : c ∈ B.flatten
  · obtain ⟨i, k, w, g, _⟩ := (fo_mem c B).1 h
    rw [g, decide_eq_true h]
    exact ⟨rfl, decide_eq_false (by show ¬ (i : Int) < 0; omega)⟩
  · rw [(fo_mem c B).2 h, decide_eq_false h]
    exact ⟨rfl, rfl⟩
theorem cc_l2 (A B : List Str) (hB : B.length ≤ 10) (hBw : ∀ w ∈ B, w.length ≤ 100) (x : Nat) (w : Str) (hx : idx A (x : Int) = some w) (hw : w.length ≤ 100) (kj : Option Int) : ∀ (q y N : Nat), y + q = w.length → q + 400 < N →
    i_compareCode_l2 kj (Layout.mk B) w N (y : Int) = (bif cw B (w.drop y) then kj else some 9) ∧ s_l06Both_l2 kj (Layout.mk A) (Layout.mk B) (x : Int) N (y : Int) = (bif cw B (w.drop y) then kj else some 9) := by
  intro q
  induction q with
  | zero =>
    intro y N hy hN
    obtain ⟨N, rfl⟩ := pos_fuel (show 0 < N by omega)
    have hx' : idx (Layout.mk A).rows (x : Int) = some w := hx
    rw [i_compareCode_l2, s_l06Both_l2, hx', Option.bind_some, decide_eq_false (by omega : ¬ (y : Int) < (w.length : Int)), cond_false, cond_false, List.drop_eq_nil_of_le (by omega)]
    exact ⟨rfl, rfl⟩
  | succ q ih =>
    intro y N hy hN
    obtain ⟨N, rfl⟩ := pos_fuel (show 0 < N by omega)
    have hlt : y < w.length := by omega
    have hx' : idx (Layout.mk A).rows (x : Int) = some w := hx
    obtain ⟨g1, g2⟩ := ih (y + 1) N (by omega) (by omega)
    obtain ⟨f1, f2⟩ := sp_found B w[y]
    rw [i_compareCode_l2, s_l06Both_l2, hx', Option.bind_some, decide_eq_true (by omega : (y : Int) < (w.length : Int)), cond_true, cond_true, Option.bind_some, idx_lt w y hlt, Option.bind_some, Option.bind_some,
      show i_Layout_spot N (Layout.mk (Layout.mk B).rows) w[y] = some (spI (fo w[y] B 0)) from ispot B hB hBw _ N (by omega), show s_l06At N (Layout.mk B).rows w[y] = some (spS (fo w[y] B 0)) from sat B hB hBw _ N (by omega), Option.bind_some, Option.bind_some, w64_nat y (by omega), g1, g2, f1, f2, List.drop_eq_getElem_cons hlt, cw_cons]
    cases decide (w[y] ∈ B.flatten) <;> exact ⟨rfl, rfl⟩
theorem cc_l1 (A B : List Str) (hA : A.length ≤ 10) (hAw : ∀ w ∈ A, w.length ≤ 100) (hB : B.length ≤ 10) (hBw : ∀ w ∈ B, w.length ≤ 100) (hl : A.length = B.length) : ∀ (q x N : Nat), x + q = A.length → q + 800 < N →
    i_compareCode_l1 (some 0) (Layout.mk A) (Layout.mk B) N (x : Int) = some (bif cz B (A.drop x) (B.drop x) then 0 else 9) ∧ s_l06Both_l1 (some 0) (Layout.mk A) (Layout.mk B) N (x : Int) = some (bif cz B (A.drop x) (B.drop x) then 0 else 9) := by
  intro q
  induction q with
  | zero =>
    intro x N hx hN
    obtain ⟨N, rfl⟩ := pos_fuel (show 0 < N by omega)
    rw [i_compareCode_l1, s_l06Both_l1, decide_eq_false (by show ¬ (x : Int) < (A.length : Int); omega), cond_false, cond_false, List.drop_eq_nil_of_le (by omega)]
    exact ⟨rfl, rfl⟩
  | succ q ih =>
    intro x N hx hN
    obtain ⟨N, rfl⟩ := pos_fuel (show 0 < N by omega)
    have hlt : x < A.length := by omega
    have hltB : x < B.length := by omega
    have hwl := hAw _ (List.getElem_mem hlt)
    obtain ⟨g1, g2⟩ := ih (x + 1) N (by omega) (by omega)
    have l2 := fun kj => cc_l2 A B hB hBw x A[x] (idx_lt A x hlt) hwl kj A[x].length 0 N (by omega) (by omega)
    rw [show ((0 : Nat) : Int) = 0 from rfl, List.drop_zero] at l2
    have e1 : idx (Layout.mk A).rows (x : Int) = some A[x] := idx_lt A x hlt
    have e2 : idx (Layout.mk B).rows (x : Int) = some B[x] := idx_lt B x hltB
    rw [i_compareCode_l1, s_l06Both_l1, decide_eq_true (by show (x : Int) < (A.length : Int); omega), cond_true, cond_true]
    simp only [withK_n]
    rw [e1, e2]
    simp only [Option.bind_some]
    rw [w64_nat x (by omega), (l2 _).1, (l2 _).2, g1, g2, List.drop_eq_getElem_cons hlt, List.drop_eq_getElem_cons hltB, cz]
    by_cases h : A[x].length = B[x].length
    · have : ((A[x].length : Int) != (B[x].length : Int)) = false := by rw [h]; simp
      rw [this, decide_eq_true h, Bool.true_and]
      simp only [cond_false]
      cases cw B A[x] <;> exact ⟨rfl, rfl⟩
    · have : ((A[x].length : Int) != (B[x].length : Int)) = true := by rw [bne_iff_ne]; omega
      rw [this, decide_eq_false h, Bool.false_and]
      exact ⟨rfl, rfl⟩
theorem both_ok (A B : List Str) (hA : A.length ≤ 10) (hAw : ∀ w ∈ A, w.length ≤ 100) (hB : B.length ≤ 10) (hBw : ∀ w ∈ B, w.length ≤ 100) (N : Nat) (hN : 3000 < N) : i_compareCode N (Layout.mk A) (Layout.mk B) = some (CB A B) ∧ s_l06Both N (Layout.mk A) (Layout.mk B) = some (CB A B) := by
  unfold i_compareCode s_l06Both CB
  rw [show i_ValidLayout N (Layout.mk (Layout.mk A).rows) = some (VL A) from ivalid A hA hAw N (by omega), show i_ValidLayout N (Layout.mk (Layout.mk B).rows) = some (VL B) from ivalid B hB hBw N (by omega), show s_l06Ok N (Layout.mk (Layout.mk A).rows) = some (VL A) from svalid A hA hAw N (by omega), show s_l06Ok N (Layout.mk (Layout.mk B).rows) = some (VL B) from svalid B hB hBw N (by omega)]
  simp only [Option.bind_some, orO_some]
  cases (!(VL A) || !(VL B)) with
  | true => exact ⟨rfl, rfl⟩
  | false =>
    rw [cond_false, cond_false, cond_false]
    by_cases h : A.length = B.length
    · have e : (((Layout.mk A).rows.length : Int) != ((Layout.mk B).rows.length : Int)) = false := by show ((A.length : Int) != (B.length : Int)) = false; rw [h]; simp
      rw [e, decide_eq_true h, cond_false, cond_false, Bool.true_and]
      simp only [withK_n]
      have := cc_l1 A B hA hAw hB hBw h A.length 0 N (by omega) (by omega)
      rw [show ((0 : Nat) : Int) = 0 from rfl, List.drop_zero, List.drop_zero] at this
      refine ⟨this.1.trans ?_, this.2.trans ?_⟩ <;> cases cz B A B <;> rfl
    · have e : (((Layout.mk A).rows.length : Int) != ((Layout.mk B).rows.length : Int)) = true := by show ((A.length : Int) != (B.length : Int)) = true; rw [bne_iff_ne]; omega
      rw [e, decide_eq_false h]
      exact ⟨rfl, rfl⟩
theorem cz_iff (B : List Str) : ∀ (r s : List Str), r.length = s.length → cz B r s = true → r.map List.length = s.map List.length ∧ ∀ c ∈ r.flatten, c ∈ B.flatten
  | [], [], _, _ => ⟨rfl, fun c hc => by cases hc⟩
  | [], _ :: _, h, _ => by cases h
  | _ :: _, [], h, _ => by cases h
  | w :: r, v :: s, h, hz => by
    rw [cz, Bool.and_eq_true, Bool.and_eq_true, decide_eq_true_eq] at hz
    obtain ⟨h1, h2, h3⟩ := hz
    obtain ⟨g1, g2⟩ := cz_iff B r s (by simpa using h) h3
    refine ⟨by rw [List.map_cons, List.map_cons, h1, g1], fun c hc => ?_⟩
    rw [List.flatten_cons, List.mem_append] at hc
    rcases hc with hc | hc
    · have := List.all_eq_true.1 h2 c hc
      exact of_decide_eq_true this
    · exact g2 c hc
def Sm (A B : List Str) : Prop := V A ∧ V B ∧ A.map List.length = B.map List.length ∧ ∀ c ∈ A.flatten, c ∈ B.flatten
theorem CB_zero (A B : List Str) (h : CB A B = 0) : Sm A B := by
  unfold CB at h
  cases hv : (!(VL A) || !(VL B)) with
  | true => rw [hv] at h; exact absurd h (by rw [cond_true]; decide)
  | false =>
    rw [hv, cond_false] at h
    rw [Bool.or_eq_false_iff, Bool.not_eq_false', Bool.not_eq_false'] at hv
    cases hz : (decide (A.length = B.length) && cz B A B) with
    | false => rw [hz] at h; exact absurd h (by decide)
    | true =>
      rw [Bool.and_eq_true, decide_eq_true_eq] at hz
      obtain ⟨g1, g2⟩ := cz_iff B A B hz.1 hz.2
      exact ⟨(VL_iff A).1 hv.1, (VL_iff B).1 hv.2, g1, g2⟩
end Go.Proofs.Ytllaacpkpofbiaa
