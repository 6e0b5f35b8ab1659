/-
  Plain lemmas on these functions. No conditions but those that each states.
-/
import Derived.Test.YthkckgiicchpnaaFnCarriageLinesP11
namespace Go.Proofs.Ythkckgiicchpnaa
set_option linter.unusedVariables false
set_option linter.unusedSimpArgs false
/-! Drawn letters at places. -/
def LetB (l : List Struck) : Prop := ∀ s ∈ l, s.letter.length ≤ 10
theorem step_some (k : Int) : ∃ v, s_l04Step k = some v ∧ True := by
  unfold s_l04Step
  simp only [withK_eq]
  cases k == 0 <;> cases k == 1 <;> cases k == 3 <;> exact ⟨_, rfl, trivial⟩
theorem act_some (m : L04M) (a : Act) (hm : m.list.length ≤ 1000) (hl : LetB m.list) (ha : a.letter.length ≤ 10) : ∃ r, s_l04M_act m a = some r ∧ r.2.list.length ≤ m.list.length + 1 ∧ LetB r.2.list := by
  unfold s_l04M_act
  refine bindE (step_some a.kind) fun v _ => ?_
  simp only [andO_some, orO_some, Option.bind_some, withK_eq]
  have old : ∀ (b : Bool) (c : Carriage) (x : Int) (f : Bool) (y : Int), ∃ r : Bool × L04M, some (b, L04M.mk c x f y m.list) = some r ∧ r.2.list.length ≤ m.list.length + 1 ∧ LetB r.2.list := fun b c x f y => ⟨_, rfl, Nat.le_succ _, hl⟩
  refine condE (fun _ => old _ _ _ _ _) fun _ => condE (fun _ => ?_) fun _ => condE (fun _ => ?_) fun _ => condE (fun _ => ?_) fun _ => condE (fun _ => ?_) fun _ => ?_
  · refine appE (by unfold LIM; simp; omega) ?_
    have nw : ∀ (b : Bool) (c : Carriage) (x : Int) (f : Bool) (y z : Int), ∃ r : Bool × L04M, some (b, L04M.mk c x f y (m.list ++ [Struck.mk z a.letter])) = some r ∧ r.2.list.length ≤ m.list.length + 1 ∧ LetB r.2.list := fun b c x f y z => ⟨_, rfl, by simp, fun s hs => by
      rcases List.mem_append.1 hs with hs | hs
      · exact hl s hs
      · rw [List.mem_singleton.1 hs]; exact ha⟩
    exact condE (fun _ => condE (fun _ => nw _ _ _ _ _ _) fun _ => nw _ _ _ _ _ _) fun _ => nw _ _ _ _ _ _
  · have : ∃ v, s_l00Max 0 (w64 (m.at_ - 2)) = some v ∧ True := by
      unfold s_l00Max
      cases decide ((0 : Int) > w64 (m.at_ - 2)) <;> exact ⟨_, rfl, trivial⟩
    refine bindE this fun v2 _ => ?_
    exact condE (fun _ => condE (fun _ => old _ _ _ _ _) fun _ => old _ _ _ _ _) fun _ => old _ _ _ _ _
  · exact condE (fun _ => condE (fun _ => old _ _ _ _ _) fun _ => old _ _ _ _ _) fun _ => old _ _ _ _ _
  · exact condE (fun _ => condE (fun _ => old _ _ _ _ _) fun _ => old _ _ _ _ _) fun _ => old _ _ _ _ _
  · exact condE (fun _ => condE (fun _ => old _ _ _ _ _) fun _ => old _ _ _ _ _) fun _ => old _ _ _ _ _
theorem run_l1 (acts : List Act) (h1000 : acts.length ≤ 500) (hL : ∀ a ∈ acts, a.letter.length ≤ 10) (kj : Int → Int → Int → Int → Bool → Int → List Struck → Option (L04M × Int)) (Q : L04M × Int → Prop) : ∀ (n i N : Nat) (x1 x2 x3 x4 : Int) (f : Bool) (x5 : Int) (l : List Struck), i + n = acts.length → n < N → l.length ≤ i → LetB l →
    (∀ x1 x2 x3 x4 f x5 l, l.length ≤ acts.length → LetB l → ∃ r, kj x1 x2 x3 x4 f x5 l = some r ∧ Q r) → (∀ (m : L04M) (i : Int), m.list.length ≤ acts.length → LetB m.list → Q (m, i)) →
    ∃ r, s_l04Run_l1 kj acts N x1 x2 x3 x4 f x5 l (i : Int) = some r ∧ Q r := by
  intro n
  induction n with
  | zero =>
    intro i N x1 x2 x3 x4 f x5 l h1 h2 h3 h4 hk hq
    obtain ⟨N, rfl⟩ := pos_fuel h2
    have hi : ¬ ((i : Int) < (acts.length : Int)) := by omega
    simp only [s_l04Run_l1, hi, decide_false, cond_false]
    exact hk _ _ _ _ _ _ _ (by omega) h4
  | succ n ih =>
    intro i N x1 x2 x3 x4 f x5 l h1 h2 h3 h4 hk hq
    obtain ⟨N, rfl⟩ := pos_fuel h2
    have hi : (i : Int) < (acts.length : Int) := by omega
    have hil : i < acts.length := by omega
    simp only [s_l04Run_l1, hi, decide_true, cond_true, idx_lt acts i hil, Option.bind_some, w64_nat i (by omega)]
    refine bindE (act_some (L04M.mk (Carriage.mk x1 x2 x3) x4 f x5 l) acts[i] (by show l.length ≤ 1000; omega) h4 (hL _ (List.getElem_mem hil))) fun v hv => ?_
    have hv1 := hv.1
    simp only at hv1
    refine condE (fun _ => ⟨_, rfl, hq _ _ (by show v.2.list.length ≤ _; omega) hv.2⟩) fun _ => ?_
    exact ih (i + 1) N _ _ _ _ _ _ _ (by omega) (by omega) (by omega) hv.2 hk hq
theorem acts_ok (N : Nat) (l : List Act) (hl : l.length ≤ 500) (hN : l.length + 20 ≤ N) : ∃ b, s_l04Acts N l = some b := by
  have loop : ∀ (K : Option Bool) (hK : ∃ b, K = some b) (n i N : Nat), i + n = l.length → n < N → ∃ b, s_l04Acts_l1 K l N (i : Int) = some b := by
    intro K hK n
    induction n with
    | zero =>
      intro i N h1 h2
      obtain ⟨N, rfl⟩ := pos_fuel h2
      have hi : ¬ ((i : Int) < (l.length : Int)) := by omega
      simp only [s_l04Acts_l1, hi, decide_false, cond_false]
      exact hK
    | succ n ih =>
      intro i N h1 h2
      obtain ⟨N, rfl⟩ := pos_fuel h2
      have hi : (i : Int) < (l.length : Int) := by omega
      have hil : i < l.length := by omega
      obtain ⟨b, hb⟩ := ih (i + 1) N (by omega) (by omega)
      simp only [s_l04Acts_l1, hi, decide_true, cond_true, idx_lt l i hil, Option.bind_some, isL_s, s_l00In, andO_some, orO_some, withK_eq, w64_nat i (by omega), hb]
      cases l[i].kind == 0 <;> cases isL l[i].letter <;> cases (decide (l[i].kind ≥ 1) && decide (l[i].kind ≤ 5)) <;> cases (l[i].letter != []) <;> exact ⟨_, rfl⟩
  obtain ⟨b, hb⟩ := loop (some (decide ((l.length : Int) ≤ 200))) ⟨_, rfl⟩ l.length 0 N (by omega) (by omega)
  rw [show ((0 : Nat) : Int) = 0 from rfl] at hb
  exact ⟨b, by unfold s_l04Acts; simp only [withK_eq, hb]⟩
theorem TypeActs_some (N : Nat) (c : Carriage) (l : List Act) (hl : l.length ≤ 500) (hL : ∀ a ∈ l, a.letter.length ≤ 10) (hN : l.length + 20 ≤ N) : ∃ r, s_TypeActs N c l = some r ∧ r.1.length ≤ l.length ∧ LetB r.1 := by
  unfold s_TypeActs s_l04Both
  obtain ⟨b, hb⟩ := acts_ok N l hl hN
  simp only [okC_s, hb, Option.bind_some, andO_some]
  refine condE (fun _ => ⟨_, rfl, Nat.zero_le _, fun s hs => by simp at hs⟩) fun _ => ?_
  have : ∃ v, s_l04Run N c l = some v ∧ v.1.list.length ≤ l.length ∧ LetB v.1.list := by
    unfold s_l04Run
    simp only [withK_eq]
    exact run_l1 l hl hL _ (fun v => v.1.list.length ≤ l.length ∧ LetB v.1.list) l.length 0 N _ _ _ _ _ _ [] (by omega) (by omega) (by simp) (fun s hs => by simp at hs) (fun _ _ _ _ _ _ l' h1 h2 => ⟨_, rfl, h1, h2⟩) (fun m i h1 h2 => ⟨h1, h2⟩)
  refine bindE this fun v hv => ?_
  exact condE (fun _ => ⟨_, rfl, Nat.zero_le _, fun s hs => by simp at hs⟩) fun _ => ⟨_, rfl, hv.1, hv.2⟩
/-- what can be drawn -/
def StD (l : List Struck) : Prop := l.length ≤ 210 ∧ LetB l
theorem ys_l2 (kj : List Struck → Option (Carriage × List Struck)) (Q : Carriage × List Struck → Prop) (hk : ∀ l, StD l → ∃ r, kj l = some r ∧ Q r) : ∀ (n N : Nat) (l : List Struck), n < N → l.length + n ≤ 210 → LetB l → ∃ r, s_l04DrawStruck_l2 kj N l (n : Int) = some r ∧ Q r := by
  intro n
  induction n with
  | zero =>
    intro N l h1 h2 h3
    obtain ⟨N, rfl⟩ := pos_fuel h1
    have hz : ¬ ((0 : Nat) : Int) > 0 := by omega
    simp only [s_l04DrawStruck_l2, hz, decide_false, cond_false]
    exact hk l ⟨by omega, h3⟩
  | succ n ih =>
    intro N l h1 h2 h3
    obtain ⟨N, rfl⟩ := pos_fuel h1
    have hz : ((n + 1 : Nat) : Int) > 0 := by omega
    have e2 : w64 (((n + 1 : Nat) : Int) - 1) = (n : Int) := by rw [w64_id (by omega) (by omega)]; omega
    simp only [s_l04DrawStruck_l2, hz, decide_true, cond_true, e2]
    refine appE (by unfold LIM; simp; omega) ?_
    exact ih N _ (by omega) (by simp; omega) fun s hs => by
      rcases List.mem_append.1 hs with hs | hs
      · exact h3 s hs
      · rw [List.mem_singleton.1 hs]; show [121].length ≤ 10; simp
theorem keep_l1 (kj : List Act → Option (Carriage × List Struck)) (Q : Carriage × List Struck → Prop) (r11 : List Act × L00Src) (hr : ActsD r11.1) (hk : ∀ l, ActsD l → ∃ r, kj l = some r ∧ Q r) : ∀ (n i N : Nat) (l : List Act), i + n = r11.1.length → n < N → l.length ≤ i → ActsD l → ∃ r, s_l04DrawStruck_l1 kj r11 N l (i : Int) = some r ∧ Q r := by
  intro n
  induction n with
  | zero =>
    intro i N l h1 h2 h3 h4
    obtain ⟨N, rfl⟩ := pos_fuel h2
    have hi : ¬ ((i : Int) < (r11.1.length : Int)) := by omega
    simp only [s_l04DrawStruck_l1, hi, decide_false, cond_false]
    exact hk l h4
  | succ n ih =>
    intro i N l h1 h2 h3 h4
    obtain ⟨N, rfl⟩ := pos_fuel h2
    have hi : (i : Int) < (r11.1.length : Int) := by omega
    have hil : i < r11.1.length := by omega
    have h201 := hr.1
    simp only [s_l04DrawStruck_l1, hi, decide_true, cond_true, idx_lt r11.1 i hil, Option.bind_some, orO_some, withK_eq, w64_nat i (by omega)]
    refine condE (fun _ => ?_) fun _ => ih (i + 1) N l (by omega) (by omega) (by omega) h4
    refine appE (by unfold LIM; simp; omega) ?_
    exact ih (i + 1) N _ (by omega) (by omega) (by simp; omega) ⟨by simp; omega, fun a ha => by
      rcases List.mem_append.1 ha with ha | ha
      · exact h4.2 a ha
      · rw [List.mem_singleton.1 ha]; exact hr.2 _ (List.getElem_mem hil)⟩
theorem Draw_struck (code : List UInt8) (N : Nat) (hN : 1000 ≤ N) : ∃ r, s_l04DrawStruck N code = some r ∧ StD r.2 := by
  unfold s_l04DrawStruck
  simp only [fromA, Option.bind_some, withK_eq]
  refine bindE (Draw_car (code := code) (hi := 0) (L00Src.mk code 0 0) ⟨rfl, by simp, by simp⟩ (by omega)) fun v1 h1 => ?_
  refine bindE (Draw_acts (code := code) (hi := 10) (L00Src.mk code v1.2.at_ v1.2.seed) ⟨rfl, h1.2.1, by have := h1.2.2; show v1.2.at_ ≤ 10; omega⟩ (by omega) N (by omega)) fun v2 h2 => ?_
  refine bindE (oneA (code := code) (hi := 2010) 3 ⟨rfl, h2.1.2.1, by have := h2.1.2.2; show v2.2.at_ ≤ _; omega⟩ (by omega)) fun v3 h3 => ?_
  have h33 := h3.2.2
  have main : ∀ l : List Act, ActsD l → ∃ r, ((s_TypeActs N v1.1 l).bind fun r50 =>
      bif (r50.2.2 != 0) then
        (s_l00Src_pick (L00Src.mk code v3.2.at_ v3.2.seed) 16).bind fun r63 =>
        bif (r63.1 == 0) then
        (s_l00Src_among (L00Src.mk code r63.2.at_ r63.2.seed) [(-1), 0, 300, 301]).bind fun r67 =>
        (app [] [(Struck.mk r67.1 [120])]).bind fun l70 =>
        some (v1.1, l70)
        else
        bif (r63.1 == 1) then
        (s_l00Src_text (L00Src.mk code r63.2.at_ r63.2.seed) [[], [120], [32, 32]]).bind fun r75 =>
        (app [] [(Struck.mk 0 r75.1)]).bind fun l78 =>
        some (v1.1, l78)
        else
        bif (r63.1 == 2) then
        (s_l00Src_pick (L00Src.mk code r63.2.at_ r63.2.seed) 2).bind fun r83 =>
        s_l04DrawStruck_l2 (fun l59 => some (v1.1, l59)) N [] (w64 (200 + r83.1))
        else
        some (v1.1, [])
      else
        (s_l00Src_pick (L00Src.mk code v3.2.at_ v3.2.seed) 16).bind fun r63 =>
        bif (r63.1 == 0) then
        (s_l00Src_among (L00Src.mk code r63.2.at_ r63.2.seed) [(-1), 0, 300, 301]).bind fun r67 =>
        (app r50.1 [(Struck.mk r67.1 [120])]).bind fun l70 =>
        some (v1.1, l70)
        else
        bif (r63.1 == 1) then
        (s_l00Src_text (L00Src.mk code r63.2.at_ r63.2.seed) [[], [120], [32, 32]]).bind fun r75 =>
        (app r50.1 [(Struck.mk 0 r75.1)]).bind fun l78 =>
        some (v1.1, l78)
        else
        bif (r63.1 == 2) then
        (s_l00Src_pick (L00Src.mk code r63.2.at_ r63.2.seed) 2).bind fun r83 =>
        s_l04DrawStruck_l2 (fun l59 => some (v1.1, l59)) N [] (w64 (200 + r83.1))
        else
        some (v1.1, r50.1)) = some r ∧ StD r.2 := fun l hl => by
    have h201 := hl.1
    refine bindE (TypeActs_some N v1.1 l (by omega) (fun a ha => by have := (hl.2 a ha).1; omega) (by omega)) fun t ht => ?_
    have sub : ∀ q : List Struck, q.length ≤ 201 → LetB q → ∃ r, ((s_l00Src_pick (L00Src.mk code v3.2.at_ v3.2.seed) 16).bind fun r63 =>
        bif (r63.1 == 0) then
        (s_l00Src_among (L00Src.mk code r63.2.at_ r63.2.seed) [(-1), 0, 300, 301]).bind fun r67 =>
        (app q [(Struck.mk r67.1 [120])]).bind fun l70 =>
        some (v1.1, l70)
        else
        bif (r63.1 == 1) then
        (s_l00Src_text (L00Src.mk code r63.2.at_ r63.2.seed) [[], [120], [32, 32]]).bind fun r75 =>
        (app q [(Struck.mk 0 r75.1)]).bind fun l78 =>
        some (v1.1, l78)
        else
        bif (r63.1 == 2) then
        (s_l00Src_pick (L00Src.mk code r63.2.at_ r63.2.seed) 2).bind fun r83 =>
        s_l04DrawStruck_l2 (fun l59 => some (v1.1, l59)) N [] (w64 (200 + r83.1))
        else
        some (v1.1, q)) = some r ∧ StD r.2 := fun q hq1 hq2 => by
      have snoc : ∀ e : Struck, e.letter.length ≤ 10 → StD (q ++ [e]) := fun e he => ⟨by simp; omega, fun s hs => by
        rcases List.mem_append.1 hs with hs | hs
        · exact hq2 s hs
        · rw [List.mem_singleton.1 hs]; exact he⟩
      refine bindE (pickA (code := code) (hi := 2012) 16 ⟨rfl, h3.2.1, by show v3.2.at_ ≤ _; omega⟩ (by omega)) fun v4 h4 => ?_
      have h44 := h4.1.2
      refine condE (fun _ => ?_) fun _ => condE (fun _ => ?_) fun _ => condE (fun _ => ?_) fun _ => ⟨_, rfl, by show q.length ≤ 210; omega, hq2⟩
      · refine bindE (amongA (code := code) (hi := 2014) _ (by simp) ⟨rfl, h44.1, h44.2⟩ (by omega)) fun v5 h5 => ?_
        refine appE (by unfold LIM; simp; omega) ?_
        exact ⟨_, rfl, snoc _ (by simp)⟩
      · refine bindE (textA (code := code) (hi := 2014) _ (by simp) ⟨rfl, h44.1, h44.2⟩ (by omega)) fun v5 h5 => ?_
        refine appE (by unfold LIM; simp; omega) ?_
        have : ∀ x ∈ ([[], [120], [32, 32]] : List Str), x.length ≤ 10 := by decide
        exact ⟨_, rfl, snoc _ (this _ h5.2)⟩
      · refine bindE (pickA (code := code) (hi := 2014) 2 ⟨rfl, h44.1, h44.2⟩ (by omega)) fun v5 h5 => ?_
        have h55 := h5.2.2 (by omega)
        have e : w64 (200 + v5.1) = ((200 + v5.1).toNat : Int) := by rw [w64_id (by omega) (by omega)]; have := h5.2.1; omega
        rw [e]
        exact ys_l2 _ _ (fun l hl => ⟨_, rfl, hl⟩) _ N [] (by omega) (by simp; omega) (fun s hs => by simp at hs)
    refine condE (fun _ => sub [] (by simp) (fun s hs => by simp at hs)) fun _ => sub t.1 (by omega) ht.2
  refine condE (fun _ => ?_) fun _ => main v2.1 h2.2
  have h201 := h2.2.1
  exact keep_l1 _ _ v2 h2.2 (fun l hl => main l hl) v2.1.length 0 N [] (by omega) (by omega) (by simp) ⟨by simp, by simp⟩
end Go.Proofs.Ythkckgiicchpnaa
