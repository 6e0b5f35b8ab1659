/-
  Plain lemmas on these functions. No conditions but those that each states.
-/
import Derived.Test.YthkckgiicchpnaaFnTypedActsP6
namespace Go.Proofs.Ythkckgiicchpnaa
set_option linter.unusedVariables false
set_option linter.unusedSimpArgs false
/-! Acts. -/
def okAct (a : Act) : Bool := bif a.kind == 0 then isL a.letter else (decide (a.kind ≥ 1) && decide (a.kind ≤ 5)) && a.letter == []
def okA (l : List Act) : Bool := l.all okAct && decide ((l.length : Int) ≤ 200)
theorem okA_i (N : Nat) (l : List Act) (hl : l.length ≤ 1000) (hN : l.length + 20 ≤ N) : i_ValidActs N l = some (okA l) := by
  have loop : ∀ (K : Option Bool) (n i N : Nat), i + n = l.length → n + 10 ≤ N → i_ValidActs_l1 K l N (i : Int) = if (l.drop i).all okAct then K else some false := by
    intro K n
    induction n with
    | zero =>
      intro i N h1 h2
      obtain ⟨N, rfl⟩ := pos_fuel (show 0 < N by omega)
      have hi : ¬ ((i : Int) < (l.length : Int)) := by omega
      rw [List.drop_of_length_le (by omega)]
      simp only [i_ValidActs_l1, hi, decide_false, cond_false, List.all_nil, if_true]
    | succ n ih =>
      intro i N h1 h2
      obtain ⟨N, rfl⟩ := pos_fuel (show 0 < N by omega)
      have hi : (i : Int) < (l.length : Int) := by omega
      have hil : i < l.length := by omega
      rw [List.drop_eq_getElem_cons hil, List.all_cons]
      simp only [i_ValidActs_l1, hi, decide_true, cond_true, idx_lt l i hil, Option.bind_some, i_between, andO_some, isL_i N _ (show 5 ≤ N by omega), orO_some, w64_nat i (by omega), ih (i + 1) N (by omega) (by omega)]
      have key : ((!(decide (l[i].kind ≥ 0) && decide (l[i].kind ≤ 5)) || (l[i].kind == 0 && !isL l[i].letter)) || (l[i].kind != 0 && l[i].letter != [])) = !okAct l[i] := by
        unfold okAct
        by_cases h0 : l[i].kind = 0
        · have e1 : (l[i].kind == 0) = true := by simpa using h0
          have e2 : decide (l[i].kind ≥ 0) = true := by simp; omega
          have e3 : decide (l[i].kind ≤ 5) = true := by simp; omega
          rw [e2, e3, bne, e1]
          cases isL l[i].letter <;> rfl
        · have e1 : (l[i].kind == 0) = false := by simpa using h0
          have e2 : decide (l[i].kind ≥ 0) = decide (l[i].kind ≥ 1) := by rw [decide_eq_decide]; omega
          rw [e2, bne, e1]
          cases decide (l[i].kind ≥ 1) <;> cases decide (l[i].kind ≤ 5) <;> cases h : (l[i].letter == []) <;> simp [bne, h]
      rw [key]
      cases okAct l[i] <;> simp
  unfold i_ValidActs okA
  by_cases h : (l.length : Int) > 200
  · have : ¬ (l.length : Int) ≤ 200 := by omega
    simp [h, this]
  · have h' : (l.length : Int) ≤ 200 := by omega
    have := loop (some true) l.length 0 N (by omega) (by omega)
    rw [show ((0 : Nat) : Int) = 0 from rfl, List.drop_zero] at this
    simp only [h, decide_false, cond_false, withK_eq, this, h', decide_true, Bool.and_true]
    cases l.all okAct <;> rfl
theorem okA_s (N : Nat) (l : List Act) (hl : l.length ≤ 1000) (hN : l.length + 20 ≤ N) : s_l04Acts N l = some (okA l) := by
  have loop : ∀ (K : Option Bool) (n i N : Nat), i + n = l.length → n + 10 ≤ N → s_l04Acts_l1 K l N (i : Int) = if (l.drop i).all okAct then K else some false := by
    intro K n
    induction n with
    | zero =>
      intro i N h1 h2
      obtain ⟨N, rfl⟩ := pos_fuel (show 0 < N by omega)
      have hi : ¬ ((i : Int) < (l.length : Int)) := by omega
      rw [List.drop_of_length_le (by omega)]
      simp only [s_l04Acts_l1, hi, decide_false, cond_false, List.all_nil, if_true]
    | succ n ih =>
      intro i N h1 h2
      obtain ⟨N, rfl⟩ := pos_fuel (show 0 < N by omega)
      have hi : (i : Int) < (l.length : Int) := by omega
      have hil : i < l.length := by omega
      rw [List.drop_eq_getElem_cons hil, List.all_cons]
      simp only [s_l04Acts_l1, hi, decide_true, cond_true, idx_lt l i hil, Option.bind_some, s_l00In, andO_some, isL_s, orO_some, withK_eq, w64_nat i (by omega), ih (i + 1) N (by omega) (by omega)]
      unfold okAct
      cases h0 : (l[i].kind == 0)
      · cases decide (l[i].kind ≥ 1) <;> cases decide (l[i].kind ≤ 5) <;> cases h : (l[i].letter == []) <;> simp [bne, h]
      · cases isL l[i].letter <;> simp
  unfold s_l04Acts okA
  have := loop (some (decide ((l.length : Int) ≤ 200))) l.length 0 N (by omega) (by omega)
  rw [show ((0 : Nat) : Int) = 0 from rfl, List.drop_zero] at this
  simp only [withK_eq, this]
  cases l.all okAct <;> simp
theorem okA_facts {l : List Act} (h : okA l = true) : l.length ≤ 200 ∧ ∀ i, ∀ h : i < l.length, okAct l[i] = true := by
  unfold okA at h
  simp only [Bool.and_eq_true, List.all_eq_true, decide_eq_true_eq] at h
  exact ⟨by omega, fun i hi => h.1 _ (List.getElem_mem hi)⟩
theorem okAct_kind {a : Act} (h : okAct a = true) : (a.kind = 0 ∧ isL a.letter = true) ∨ ((a.kind = 1 ∨ a.kind = 2 ∨ a.kind = 3 ∨ a.kind = 4 ∨ a.kind = 5) ∧ a.letter = []) := by
  unfold okAct at h
  cases h0 : (a.kind == 0) with
  | true => rw [h0, cond_true] at h; exact .inl ⟨by simpa using h0, h⟩
  | false =>
    rw [h0, cond_false] at h
    simp only [Bool.and_eq_true, decide_eq_true_eq, beq_iff_eq] at h
    right
    exact ⟨by omega, h.2⟩
/-! one act -/
structure Ts where
  p : Int
  m : Bool
  b : Int
  l : List Struck
def stp (c : Carriage) (s : Ts) (a : Act) : Option Ts :=
  if a.kind = 0 ∨ a.kind = 1 ∨ a.kind = 3 then
    bif (s.m && decide (s.p + (if a.kind = 3 then 1 else 2) > c.right)) || decide (s.p + (if a.kind = 3 then 1 else 2) > 300) then none
    else some ⟨s.p + (if a.kind = 3 then 1 else 2), s.m, bif decide (s.p < c.bell) && decide (c.bell ≤ s.p + (if a.kind = 3 then 1 else 2)) then s.b + 1 else s.b, if a.kind = 0 then s.l ++ [⟨s.p, a.letter⟩] else s.l⟩
  else if a.kind = 2 then some ⟨imax (s.p - 2) 0, s.m, s.b, s.l⟩
  else if a.kind = 4 then some ⟨s.p, false, s.b, s.l⟩
  else some ⟨c.left, true, s.b, s.l⟩
def TsOk (s : Ts) (i : Nat) : Prop := 0 ≤ s.p ∧ s.p ≤ 300 ∧ 0 ≤ s.b ∧ s.b ≤ i ∧ s.l.length ≤ i
theorem stp_ok {c : Carriage} (hc : okC c = true) {s s' : Ts} {a : Act} {i : Nat} (h : TsOk s i) (he : stp c s a = some s') : TsOk s' (i + 1) := by
  obtain ⟨c1, c2, c3, _⟩ := okC_facts hc
  obtain ⟨h1, h2, h3, h4, h5⟩ := h
  unfold stp at he
  split at he
  · cases hb : ((s.m && decide (s.p + (if a.kind = 3 then 1 else 2) > c.right)) || decide (s.p + (if a.kind = 3 then 1 else 2) > 300)) with
    | true => rw [hb] at he; cases he
    | false =>
      rw [hb, cond_false] at he
      obtain rfl := Option.some.inj he
      rw [Bool.or_eq_false_iff] at hb
      have h6 := of_decide_eq_false hb.2
      refine ⟨by show 0 ≤ s.p + (if a.kind = 3 then 1 else 2); split <;> omega, by show s.p + (if a.kind = 3 then 1 else 2) ≤ 300; omega, ?_, ?_, ?_⟩
      · show 0 ≤ (bif _ then s.b + 1 else s.b)
        cases (decide (s.p < c.bell) && decide (c.bell ≤ s.p + (if a.kind = 3 then 1 else 2))) <;> simp <;> omega
      · show (bif _ then s.b + 1 else s.b) ≤ ((i + 1 : Nat) : Int)
        cases (decide (s.p < c.bell) && decide (c.bell ≤ s.p + (if a.kind = 3 then 1 else 2))) <;> simp <;> omega
      · show (if a.kind = 0 then s.l ++ [⟨s.p, a.letter⟩] else s.l).length ≤ i + 1
        split
        · simp; omega
        · omega
  · split at he
    · obtain rfl := Option.some.inj he
      refine ⟨?_, ?_, h3, by show s.b ≤ ((i + 1 : Nat) : Int); omega, by show s.l.length ≤ i + 1; omega⟩
      · show 0 ≤ imax (s.p - 2) 0; unfold imax; split <;> omega
      · show imax (s.p - 2) 0 ≤ 300; unfold imax; split <;> omega
    · split at he
      · obtain rfl := Option.some.inj he
        exact ⟨h1, h2, h3, by show s.b ≤ ((i + 1 : Nat) : Int); omega, by show s.l.length ≤ i + 1; omega⟩
      · obtain rfl := Option.some.inj he
        exact ⟨c1, by show c.left ≤ 300; omega, h3, by show s.b ≤ ((i + 1 : Nat) : Int); omega, by show s.l.length ≤ i + 1; omega⟩
theorem act_eq (c : Carriage) (hc : okC c = true) (s : Ts) (i : Nat) (hi : i ≤ 500) (h : TsOk s i) (a : Act) (ha : okAct a = true) :
    s_l04M_act (L04M.mk (Carriage.mk c.left c.right c.bell) s.p (!s.m) s.b s.l) a = some (match stp c s a with | none => (false, L04M.mk (Carriage.mk c.left c.right c.bell) s.p (!s.m) s.b s.l) | some s' => (true, L04M.mk (Carriage.mk c.left c.right c.bell) s'.p (!s'.m) s'.b s'.l)) := by
  obtain ⟨c1, c2, c3, _⟩ := okC_facts hc
  obtain ⟨h1, h2, h3, h4, h5⟩ := h
  obtain ⟨p, m, b, l⟩ := s
  simp only at h1 h2 h3 h4 h5
  obtain ⟨k, le⟩ := a
  have w2 : w64 (p + 2) = p + 2 := w64_id (by omega) (by omega)
  have w1 : w64 (p + 1) = p + 1 := w64_id (by omega) (by omega)
  have w0 : w64 (p + 0) = p := by rw [w64_id (by omega) (by omega)]; omega
  have n3 : ¬ p > 300 := by omega
  have wp : w64 p = p := w64_id (by omega) (by omega)
  have n3' : ¬ 300 < p := n3
  have wb : w64 (b + 1) = b + 1 := w64_id (by omega) (by omega)
  have wm : w64 (p - 2) = p - 2 := w64_id (by omega) (by omega)
  have happ : ∀ e : Struck, app l [e] = some (l ++ [e]) := fun e => app_some _ _ (by unfold LIM; simp; omega)
  have hmax : s_l00Max 0 (p - 2) = some (imax (p - 2) 0) := by
    unfold s_l00Max imax
    by_cases q : (0 : Int) > p - 2
    · simp [q]
    · simp [q]
  rcases okAct_kind ha with ⟨hk, hL⟩ | ⟨hk | hk | hk | hk | hk, hL⟩
  all_goals
    simp only at hk
    subst hk
    simp only [s_l04M_act, s_l04Step, stp, withK_eq, andO_some, orO_some, Option.bind_some, w2, w1, w0, wb, wm, n3, hmax, happ]
  · by_cases hq1 : c.right < p + 2 <;> by_cases hq2 : 300 < p + 2 <;> by_cases hq3 : p < c.bell <;> by_cases hq4 : c.bell ≤ p + 2 <;> cases m <;> simp [hq1, hq2, hq3, hq4, w2, happ]
  · by_cases hq1 : c.right < p + 2 <;> by_cases hq2 : 300 < p + 2 <;> by_cases hq3 : p < c.bell <;> by_cases hq4 : c.bell ≤ p + 2 <;> cases m <;> simp [hq1, hq2, hq3, hq4, w2, happ]
  · simp [wp, hmax, n3', wm]
  · by_cases hq1 : c.right < p + 1 <;> by_cases hq2 : 300 < p + 1 <;> by_cases hq3 : p < c.bell <;> by_cases hq4 : c.bell ≤ p + 1 <;> cases m <;> simp [hq1, hq2, hq3, hq4, w1, happ]
  · simp [wp, n3']
  · simp [wp, n3']
end Go.Proofs.Ythkckgiicchpnaa
