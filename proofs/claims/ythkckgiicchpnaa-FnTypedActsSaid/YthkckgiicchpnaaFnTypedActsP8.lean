/-
  Plain lemmas on these functions. No conditions but those that each states.
-/
import Derived.Test.YthkckgiicchpnaaFnTypedActsP7
namespace Go.Proofs.Ythkckgiicchpnaa
set_option linter.unusedVariables false
set_option linter.unusedSimpArgs false
/-! All acts, both ways. -/
theorem typed_step (c : Carriage) (hc : okC c = true) (acts : List Act) (i : Nat) (hi : i < acts.length) (h500 : acts.length ≤ 500) (s : Ts) (h : TsOk s i) (ha : okAct acts[i] = true) (kj : Int → Int → Int → List Struck → Int → Int → Int → Option Typing) (N : Nat) :
    i_typed_l1 kj c acts (N + 1) s.p s.b (-1) s.l 0 0 0 s.m (i : Int) = match stp c s acts[i] with
      | none => some (Typing.mk s.l s.p s.b (i : Int))
      | some s' => i_typed_l1 kj c acts N s'.p s'.b (-1) s'.l 0 0 0 s'.m ((i + 1 : Nat) : Int) := by
  obtain ⟨c1, c2, c3, _⟩ := okC_facts hc
  obtain ⟨h1, h2, h3, h4, h5⟩ := h
  obtain ⟨p, m, b, l⟩ := s
  simp only at h1 h2 h3 h4 h5
  have hil : (i : Int) < (acts.length : Int) := by omega
  have hix := idx_lt acts i hi
  obtain ⟨a, hA⟩ : ∃ a, a = acts[i] := ⟨_, rfl⟩
  rw [← hA] at ha hix ⊢
  obtain ⟨k, le⟩ := a
  have w2 : w64 (p + 2) = p + 2 := w64_id (by omega) (by omega)
  have w1 : w64 (p + 1) = p + 1 := w64_id (by omega) (by omega)
  have wb : w64 (b + 1) = b + 1 := w64_id (by omega) (by omega)
  have wm : w64 (p - 2) = p - 2 := w64_id (by omega) (by omega)
  have wi := w64_nat i (by omega)
  have happ : ∀ e : Struck, app l [e] = some (l ++ [e]) := fun e => app_some _ _ (by unfold LIM; simp; omega)
  rcases okAct_kind ha with ⟨hk, hL⟩ | ⟨hk | hk | hk | hk | hk, hL⟩
  all_goals
    simp only at hk
    subst hk
    simp only [i_typed_l1, stp, withK_eq, hil, decide_true, cond_true, hix, Option.bind_some, andO_some, orO_some, wi]
  · by_cases hq1 : c.right < p + 2 <;> by_cases hq2 : 300 < p + 2 <;> by_cases hq3 : p < c.bell <;> by_cases hq4 : c.bell ≤ p + 2 <;> cases m <;> simp [hq1, hq2, hq3, hq4, w2, wb, happ]
  · by_cases hq1 : c.right < p + 2 <;> by_cases hq2 : 300 < p + 2 <;> by_cases hq3 : p < c.bell <;> by_cases hq4 : c.bell ≤ p + 2 <;> cases m <;> simp [hq1, hq2, hq3, hq4, w2, wb, happ]
  · simp [wm]
  · by_cases hq1 : c.right < p + 1 <;> by_cases hq2 : 300 < p + 1 <;> by_cases hq3 : p < c.bell <;> by_cases hq4 : c.bell ≤ p + 1 <;> cases m <;> simp [hq1, hq2, hq3, hq4, w1, wb, happ]
  · simp
  · simp
/-- what the acts from one on do: how far, and what is there then -/
def go (c : Carriage) : List Act → Ts → Nat → Ts × Option Nat
  | [], s, _ => (s, none)
  | a :: r, s, i => match stp c s a with
    | none => (s, some i)
    | some s' => go c r s' (i + 1)
def stopI : Option Nat → Int
  | none => -1
  | some i => i
theorem typed_go (c : Carriage) (hc : okC c = true) (acts : List Act) (h500 : acts.length ≤ 500) (hA : ∀ i, ∀ h : i < acts.length, okAct acts[i] = true) : ∀ (n i N : Nat) (s : Ts), i + n = acts.length → n < N → TsOk s i →
    i_typed_l1 (fun x11 x12 x13 l14 x16 x17 x18 => some (Typing.mk l14 x11 x12 x13)) c acts N s.p s.b (-1) s.l 0 0 0 s.m (i : Int) = some (Typing.mk (go c (acts.drop i) s i).1.l (go c (acts.drop i) s i).1.p (go c (acts.drop i) s i).1.b (stopI (go c (acts.drop i) s i).2)) := by
  intro n
  induction n with
  | zero =>
    intro i N s h1 h2 h3
    obtain ⟨N, rfl⟩ := pos_fuel h2
    have hi : ¬ ((i : Int) < (acts.length : Int)) := by omega
    rw [List.drop_of_length_le (by omega)]
    simp only [i_typed_l1, hi, decide_false, cond_false, go, stopI]
  | succ n ih =>
    intro i N s h1 h2 h3
    obtain ⟨N, rfl⟩ := pos_fuel h2
    have hil : i < acts.length := by omega
    rw [typed_step c hc acts i hil h500 s h3 (hA i hil), List.drop_eq_getElem_cons hil]
    simp only [go]
    cases e : stp c s acts[i] with
    | none => rfl
    | some s' =>
      simp only
      exact ih (i + 1) N s' (by omega) (by omega) (stp_ok hc h3 e)
def stopL (n : Nat) : Option Nat → Int
  | none => n
  | some i => i
theorem run_go (c : Carriage) (hc : okC c = true) (acts : List Act) (h500 : acts.length ≤ 500) (hA : ∀ i, ∀ h : i < acts.length, okAct acts[i] = true) : ∀ (n i N : Nat) (s : Ts), i + n = acts.length → n < N → TsOk s i →
    s_l04Run_l1 (fun x9 x10 x11 x12 x13 x14 l15 => some ((L04M.mk (Carriage.mk x9 x10 x11) x12 x13 x14 l15), (List.length acts : Int))) acts N c.left c.right c.bell s.p (!s.m) s.b s.l (i : Int) = some (L04M.mk (Carriage.mk c.left c.right c.bell) (go c (acts.drop i) s i).1.p (!(go c (acts.drop i) s i).1.m) (go c (acts.drop i) s i).1.b (go c (acts.drop i) s i).1.l, stopL acts.length (go c (acts.drop i) s i).2) := by
  intro n
  induction n with
  | zero =>
    intro i N s h1 h2 h3
    obtain ⟨N, rfl⟩ := pos_fuel h2
    have hi : ¬ ((i : Int) < (acts.length : Int)) := by omega
    rw [List.drop_of_length_le (by omega)]
    simp only [s_l04Run_l1, hi, decide_false, cond_false, go, stopL]
  | succ n ih =>
    intro i N s h1 h2 h3
    obtain ⟨N, rfl⟩ := pos_fuel h2
    have hil : i < acts.length := by omega
    have hi : (i : Int) < (acts.length : Int) := by omega
    have ha := act_eq c hc s i (by omega) h3 acts[i] (hA i hil)
    rw [List.drop_eq_getElem_cons hil]
    simp only [s_l04Run_l1, hi, decide_true, cond_true, idx_lt acts i hil, Option.bind_some, ha, w64_nat i (by omega), go]
    cases e : stp c s acts[i] with
    | none => simp only [Bool.not_false, cond_true, stopL]
    | some s' =>
      simp only [Bool.not_true, cond_false]
      exact ih (i + 1) N s' (by omega) (by omega) (stp_ok hc h3 e)
theorem go_stop (c : Carriage) : ∀ (r : List Act) (s : Ts) (i : Nat), ∀ q, (go c r s i).2 = some q → i ≤ q ∧ q < i + r.length
  | [], s, i, q, h => by simp [go] at h
  | a :: r, s, i, q, h => by
    simp only [go] at h
    split at h
    · have := Option.some.inj h; simp; omega
    · have := go_stop c r _ (i + 1) q h; simp; omega
theorem go_ok (c : Carriage) (hc : okC c = true) : ∀ (r : List Act) (s : Ts) (i : Nat), TsOk s i → TsOk (go c r s i).1 (i + r.length)
  | [], s, i, h => h
  | a :: r, s, i, h => by
    simp only [go]
    split
    · obtain ⟨h1, h2, h3, h4, h5⟩ := h
      exact ⟨h1, h2, h3, by simp; omega, by simp; omega⟩
    · rename_i s' e
      have := go_ok c hc r s' (i + 1) (stp_ok hc h e)
      simp only [List.length_cons]
      rw [show i + (r.length + 1) = i + 1 + r.length by omega]
      exact this
def ini (c : Carriage) : Ts := ⟨c.left, true, 0, []⟩
theorem ini_ok {c : Carriage} (hc : okC c = true) : TsOk (ini c) 0 := by
  obtain ⟨c1, c2, c3, _⟩ := okC_facts hc
  exact ⟨c1, by show c.left ≤ 300; omega, by show (0 : Int) ≤ 0; omega, by show (0 : Int) ≤ ((0 : Nat) : Int); omega, by show ([] : List Struck).length ≤ 0; simp⟩
/-- the three answers -/
structure Acts3 (N : Nat) (c : Carriage) (l : List Act) (ty : List Struck × Int × Int) (lk bl : Int × Int) : Prop where
  t1 : i_TypeActs N c l = some ty
  t2 : s_TypeActs N c l = some ty
  l1 : i_LockedAt N c l = some lk
  l2 : s_LockedAt N c l = some lk
  b1 : i_BellsOf N c l = some bl
  b2 : s_BellsOf N c l = some bl
  law : bl.2 = 0 → (ty.2.2 == 6) = (lk.2 == 0)
  len : ty.1.length ≤ l.length
theorem acts3 (N : Nat) (c : Carriage) (l : List Act) (hl : l.length ≤ 500) (hN : 1000 ≤ N) : ∃ ty lk bl, Acts3 N c l ty lk bl ∧ (okC c = true → okA l = true → ty = if (go c l (ini c) 0).2 = none then ((go c l (ini c) 0).1.l, (go c l (ini c) 0).1.p, 0) else ([], 0, 6)) := by
  cases hv : (okC c && okA l) with
  | false =>
    have hi : ∀ b : Bool, (orO (!okC c) (some (!okA l))) = some true := fun _ => by rw [orO_some]; revert hv; cases okC c <;> cases okA l <;> simp
    have hs : (andO (okC c) (some (okA l))) = some false := by rw [andO_some, hv]
    refine ⟨([], 0, 1), (0, 1), (0, 1), ⟨?_, ?_, ?_, ?_, ?_, ?_, fun h => absurd h (by decide), by simp⟩, fun h1 h2 => (by rw [h1, h2] at hv; cases hv)⟩
    · unfold i_TypeActs; simp only [okC_i, okA_i N l (by omega) (by omega), Option.bind_some, hi true, cond_true]
    · unfold s_TypeActs s_l04Both; simp only [okC_s, okA_s N l (by omega) (by omega), Option.bind_some, hs, Bool.not_false, cond_true]
    · unfold i_LockedAt; simp only [okC_i, okA_i N l (by omega) (by omega), Option.bind_some, hi true, cond_true]
    · unfold s_LockedAt s_l04Both; simp only [okC_s, okA_s N l (by omega) (by omega), Option.bind_some, hs, Bool.not_false, cond_true]
    · unfold i_BellsOf; simp only [okC_i, okA_i N l (by omega) (by omega), Option.bind_some, hi true, cond_true]
    · unfold s_BellsOf s_l04Both; simp only [okC_s, okA_s N l (by omega) (by omega), Option.bind_some, hs, Bool.not_false, cond_true]
  | true =>
    rw [Bool.and_eq_true] at hv
    obtain ⟨hc, ha⟩ := hv
    obtain ⟨h200, hA⟩ := okA_facts ha
    have hi : (orO (!okC c) (some (!okA l))) = some false := by rw [hc, ha]; rfl
    have hs : (andO (okC c) (some (okA l))) = some true := by rw [hc, ha]; rfl
    have g1 := typed_go c hc l hl hA l.length 0 N (ini c) (by omega) (by omega) (ini_ok hc)
    have g2 := run_go c hc l hl hA l.length 0 N (ini c) (by omega) (by omega) (ini_ok hc)
    have g3 := go_stop c l (ini c) 0
    have g4 := go_ok c hc l (ini c) 0 (ini_ok hc)
    rw [List.drop_zero] at g1 g2
    obtain ⟨G, hG⟩ : ∃ G, G = go c l (ini c) 0 := ⟨_, rfl⟩
    rw [← hG] at g1 g2 g3 g4 ⊢
    have e1 : i_typed N c l = some (Typing.mk G.1.l G.1.p G.1.b (stopI G.2)) := by unfold i_typed; simp only [withK_eq]; exact g1
    have e2 : s_l04Run N c l = some (L04M.mk (Carriage.mk c.left c.right c.bell) G.1.p (!G.1.m) G.1.b G.1.l, stopL l.length G.2) := by unfold s_l04Run; simp only [withK_eq]; exact g2
    obtain ⟨s, st⟩ := G
    simp only at e1 e2 g3 g4 ⊢
    have h1000 := g4.2.2.2.2
    cases st with
    | none =>
      have q1 : decide ((-1 : Int) ≥ 0) = false := rfl
      have q2 : decide ((l.length : Int) < (l.length : Int)) = false := by simp
      refine ⟨(s.l, s.p, 0), (0, 3), (s.b, 0), ⟨?_, ?_, ?_, ?_, ?_, ?_, fun _ => rfl, by simp at h1000; exact h1000⟩, fun _ _ => rfl⟩
      · unfold i_TypeActs; simp only [okC_i, okA_i N l (by omega) (by omega), Option.bind_some, hi, cond_false, e1, stopI, q1]
      · unfold s_TypeActs s_l04Both; simp only [okC_s, okA_s N l (by omega) (by omega), Option.bind_some, hs, Bool.not_true, cond_false, e2, stopL, q2]
      · unfold i_LockedAt; simp only [okC_i, okA_i N l (by omega) (by omega), Option.bind_some, hi, cond_false, e1, stopI]; rfl
      · unfold s_LockedAt s_l04Both; simp only [okC_s, okA_s N l (by omega) (by omega), Option.bind_some, hs, Bool.not_true, cond_false, e2, stopL, beq_self_eq_true, cond_true]
      · unfold i_BellsOf; simp only [okC_i, okA_i N l (by omega) (by omega), Option.bind_some, hi, cond_false, e1]
      · unfold s_BellsOf s_l04Both; simp only [okC_s, okA_s N l (by omega) (by omega), Option.bind_some, hs, Bool.not_true, cond_false, e2]
    | some q =>
      have hq := g3 q rfl
      have q1 : decide ((q : Int) ≥ 0) = true := by simp
      have q2 : decide ((q : Int) < (l.length : Int)) = true := by simp; omega
      have q3 : decide ((q : Int) < 0) = false := by simp
      have q4 : ((q : Int) == (l.length : Int)) = false := by rw [beq_eq_false_iff_ne]; omega
      refine ⟨([], 0, 6), ((q : Int), 0), (s.b, 0), ⟨?_, ?_, ?_, ?_, ?_, ?_, fun _ => rfl, by simp⟩, fun _ _ => rfl⟩
      · unfold i_TypeActs; simp only [okC_i, okA_i N l (by omega) (by omega), Option.bind_some, hi, cond_false, e1, stopI, q1, cond_true]
      · unfold s_TypeActs s_l04Both; simp only [okC_s, okA_s N l (by omega) (by omega), Option.bind_some, hs, Bool.not_true, cond_false, e2, stopL, q2, cond_true]
      · unfold i_LockedAt; simp only [okC_i, okA_i N l (by omega) (by omega), Option.bind_some, hi, cond_false, e1, stopI, q3]
      · unfold s_LockedAt s_l04Both; simp only [okC_s, okA_s N l (by omega) (by omega), Option.bind_some, hs, Bool.not_true, cond_false, e2, stopL, q4]
      · unfold i_BellsOf; simp only [okC_i, okA_i N l (by omega) (by omega), Option.bind_some, hi, cond_false, e1]
      · unfold s_BellsOf s_l04Both; simp only [okC_s, okA_s N l (by omega) (by omega), Option.bind_some, hs, Bool.not_true, cond_false, e2]
end Go.Proofs.Ythkckgiicchpnaa
