/-
  Plain lemmas on these functions. No conditions but those that each states.
-/
import Derived.Test.YthkckgiicchpnaaFnTypedActsP10
namespace Go.Proofs.Ythkckgiicchpnaa
set_option linter.unusedVariables false
set_option linter.unusedSimpArgs false
/-! The law. -/
theorem okT_facts {s : Str} (h : okT s = true) : s.length ≤ 300 ∧ ∀ c ∈ s, 32 ≤ c ∧ c ≤ 126 := by
  unfold okT at h
  simp only [Bool.and_eq_true, List.all_eq_true, decide_eq_true_eq] at h
  exact ⟨by omega, h.1⟩
theorem okL_of {c : UInt8} (h : 32 ≤ c ∧ c ≤ 126) (hc : c ≠ 32) : isL [c] = true := by
  obtain ⟨h1, h2⟩ := h
  have : 33 ≤ c := by
    rw [UInt8.le_iff_toNat_le] at h1 ⊢
    have h3 : c.toNat ≠ 32 := fun e => hc (UInt8.toNat_inj.1 e)
    have q1 : (32 : UInt8).toNat = 32 := rfl
    have q2 : (33 : UInt8).toNat = 33 := rfl
    omega
  simp [isL, this, h2]
theorem validStruck_ok (N : Nat) (l : List Struck) (hl : l.length ≤ 200) (hN : l.length + 20 ≤ N) (h : ∀ e ∈ l, 0 ≤ e.place ∧ e.place ≤ 300 ∧ isL e.letter = true) : i_validStruck N l = some true := by
  have loop : ∀ (K : Option Bool) (n i N : Nat), i + n = l.length → n + 10 ≤ N → i_validStruck_l1 K l N (i : Int) = K := by
    intro K n
    induction n with
    | zero =>
      intro i N h1 h2
      obtain ⟨N, rfl⟩ := pos_fuel (show 0 < N by omega)
      have hi : ¬ ((i : Int) < (l.length : Int)) := by omega
      simp only [i_validStruck_l1, hi, decide_false, cond_false]
    | succ n ih =>
      intro i N h1 h2
      obtain ⟨N, rfl⟩ := pos_fuel (show 0 < N by omega)
      have hi : (i : Int) < (l.length : Int) := by omega
      have hil : i < l.length := by omega
      obtain ⟨g1, g2, g3⟩ := h _ (List.getElem_mem hil)
      have g1' : l[i].place ≥ 0 := g1
      simp only [i_validStruck_l1, hi, decide_true, cond_true, idx_lt l i hil, Option.bind_some, i_between, andO_some, isL_i N _ (show 5 ≤ N by omega), orO_some, w64_nat i (by omega), ih (i + 1) N (by omega) (by omega), g1', g2, g3, Bool.and_self, Bool.not_true, Bool.or_self, cond_false]
  have h2 : ¬ (l.length : Int) > 200 := by omega
  have := fun K => loop K l.length 0 N (by omega) (by omega)
  rw [show ((0 : Nat) : Int) = 0 from rfl] at this
  unfold i_validStruck
  simp only [h2, decide_false, cond_false, withK_eq, this]
theorem okA_line {t : Str} (h : ∀ c ∈ t, 32 ≤ c ∧ c ≤ 126) (ht : t.length ≤ 200) : okA (t.map actOf) = true := by
  unfold okA
  rw [Bool.and_eq_true, List.all_eq_true]
  refine ⟨fun a ha => ?_, by simp; omega⟩
  obtain ⟨c, hc, rfl⟩ := List.mem_map.1 ha
  unfold actOf
  split
  · rfl
  · rename_i hne
    show isL [c] = true
    exact okL_of (h c hc) hne
theorem back_ok (N : Nat) (c : Carriage) (s : Str) (hs : s.length ≤ 1000) (hc : okC c = true) (ht : okT s = true) (hr : 2 * ((trimmed s).length : Int) ≤ c.right - c.left) (hN : 2000 ≤ N) :
    ∃ l, i_TypeActs N c ((trimmed s).map actOf) = some (l, c.left + 2 * ((trimmed s).length : Int), 0) ∧ i_LineOf N c l = some (trimmed s, 0) := by
  obtain ⟨c1, c2, c3, _⟩ := okC_facts hc
  obtain ⟨h300, hch⟩ := okT_facts ht
  have hle : (trimmed s).length ≤ 150 := by omega
  have hch2 : ∀ ch ∈ trimmed s, 32 ≤ ch ∧ ch ≤ 126 := fun ch h => hch ch (List.mem_of_mem_take h)
  have hA := okA_line hch2 (by omega)
  obtain ⟨ty, lk, bl, h3, h4⟩ := acts3 N c ((trimmed s).map actOf) (by simp; omega) (by omega)
  have h5 := h4 hc hA
  obtain ⟨b', hg⟩ := go_line c hc (trimmed s) 0 0 0 [] (by simp; omega)
  have hini : ini c = ⟨c.left + 2 * ((0 : Nat) : Int), true, 0, []⟩ := by unfold ini; simp
  rw [hini, hg] at h5
  simp only [if_true, Nat.zero_add, List.nil_append] at h5
  refine ⟨skel c.left 0 (trimmed s), by rw [h3.t1, h5], ?_⟩
  have hsl := skel_len c.left (trimmed s) 0
  have hval := validStruck_ok N (skel c.left 0 (trimmed s)) (by omega) (by omega) (fun e he => by
    obtain ⟨j, hj, rfl, hne⟩ := skel_mem c.left (trimmed s) 0 e he
    refine ⟨by show 0 ≤ c.left + 2 * ((0 + j : Nat) : Int); omega, by show c.left + 2 * ((0 + j : Nat) : Int) ≤ 300; omega, okL_of (hch2 _ (List.getElem_mem hj)) hne⟩)
  have := line_back c hc (trimmed s) (fun h => trimmed_last s h) (by omega) (skel c.left 0 (trimmed s)) (by omega) (trimmed s) 0 0 N [] (by simp) (by omega) (by simp) (by omega) (by omega) (by simp) (by simp)
  rw [show ((0 : Nat) : Int) = 0 from rfl] at this
  unfold i_LineOf
  simp only [okC_i, hc, hval, Option.bind_some, Bool.not_true, orO_some, Bool.or_self, cond_false, withK_eq, this]
/-! draws -/
theorem dl_l1 (code : List UInt8) (kj : Int → Int → List UInt8 → Option (Carriage × Str)) (Q : Carriage × Str → Prop) : ∀ (n N : Nat) (a sd hi : Int) (l : Str), n < N → 0 ≤ a → a ≤ hi → hi + 2 * n ≤ 100000 → l.length + n ≤ 310 →
    (∀ a' sd' l', 0 ≤ a' → a' ≤ hi + 2 * n → l'.length = l.length + n → ∃ r, kj a' sd' l' = some r ∧ Q r) → ∃ r, s_DrawActsForLine_l1 kj code N a sd l (n : Int) = some r ∧ Q r := by
  intro n
  induction n with
  | zero =>
    intro N a sd hi l hN h0 h1 h2 h3 k
    obtain ⟨N, rfl⟩ := pos_fuel hN
    have hz : ¬ ((0 : Nat) : Int) > 0 := by omega
    simp only [s_DrawActsForLine_l1, hz, decide_false, cond_false]
    exact k a sd l h0 (by omega) (by omega)
  | succ n ih =>
    intro N a sd hi l hN h0 h1 h2 h3 k
    obtain ⟨N, rfl⟩ := pos_fuel hN
    have hz : ((n + 1 : Nat) : Int) > 0 := by omega
    have e2 : w64 (((n + 1 : Nat) : Int) - 1) = (n : Int) := by rw [w64_id (by omega) (by omega)]; omega
    simp only [s_DrawActsForLine_l1, hz, decide_true, cond_true, e2]
    refine bindE (pickA (code := code) (hi := hi) 6 ⟨rfl, h0, h1⟩ (by omega)) fun v hv => ?_
    have hv6 := hv.2.2 (by omega)
    rw [idx_int ([97, 98, 32, 120, 32, 32] : Str) v.1 hv.2.1 (by simpa using hv6), Option.bind_some]
    refine appE (by unfold LIM; simp; omega) ?_
    have h22 := hv.1.2.2
    exact ih N _ _ (hi + 2) _ (by omega) hv.1.2.1 h22 (by omega) (by simp; omega) fun a2 sd2 l2 q1 q2 q3 => k a2 sd2 l2 q1 (by omega) (by simp at q3; omega)
theorem Draw_line (code : List UInt8) (N : Nat) (hN : 1000 ≤ N) : ∃ r, s_DrawActsForLine N code = some r ∧ r.2.length ≤ 310 := by
  unfold s_DrawActsForLine
  simp only [fromA, Option.bind_some, withK_eq]
  refine bindE (Draw_car (code := code) (hi := 0) (L00Src.mk code 0 0) ⟨rfl, by simp, by simp⟩ (by omega)) fun v1 h1 => ?_
  refine bindE (pickA (code := code) (hi := 10) 24 ⟨rfl, h1.2⟩ (by omega)) fun v2 h2 => ?_
  refine bindE (oneA (code := code) (hi := 12) 24 ⟨rfl, h2.1.2⟩ (by omega)) fun v3 h3 => ?_
  have main : ∀ (a sd : Int) (q : Nat), 0 ≤ a → a ≤ 100 → q ≤ 301 → ∃ r, s_DrawActsForLine_l1 (fun (x24 : Int) (x25 : Int) (l26 : List UInt8) =>
      (bif decide ((q : Int) > 0) then (s_l00Src_one (L00Src.mk code x24 x25) 16).bind fun r51 =>
      some (r51.1, (L00Src.mk code r51.2.at_ r51.2.seed)) else some (false, (L00Src.mk code x24 x25))).bind fun x49 =>
      bif x49.1 then
      (idx l26 0).bind fun e54 =>
      some (v1.1, List.set l26 (Int.toNat 0) 127)
      else
      some (v1.1, l26)) code N a sd [] (q : Int) = some r ∧ r.2.length ≤ 310 := fun a sd q g1 g2 g3 => by
    refine dl_l1 code _ _ q N a sd 100 [] (by omega) g1 g2 (by omega) (by simp; omega) fun a2 sd2 l2 p1 p2 p3 => ?_
    simp only [List.length_nil, Nat.zero_add] at p3
    have first : ∃ x, (bif decide ((q : Int) > 0) then (s_l00Src_one (L00Src.mk code a2 sd2) 16).bind fun r51 =>
        some (r51.1, (L00Src.mk code r51.2.at_ r51.2.seed)) else some (false, (L00Src.mk code a2 sd2))) = some x ∧ (x.1 = true → 0 < l2.length) := by
      refine condE (fun c => ?_) fun _ => ⟨_, rfl, fun h => by cases h⟩
      have hq := of_decide_eq_true c
      refine bindE (oneA (code := code) (hi := 1000) 16 ⟨rfl, p1, by show a2 ≤ _; omega⟩ (by omega)) fun v h => ?_
      exact ⟨_, rfl, fun _ => by omega⟩
    refine bindE first fun x hx => ?_
    refine condE (fun c => ?_) fun _ => ⟨_, rfl, by show l2.length ≤ _; omega⟩
    have hpos := hx c
    rw [idx_int l2 0 (by omega) (by omega), Option.bind_some]
    exact ⟨_, rfl, by show (l2.set _ _).length ≤ _; rw [List.length_set]; omega⟩
  refine condE (fun _ => ?_) fun _ => ?_
  · refine bindE (pickA (code := code) (hi := 14) 2 ⟨rfl, h3.2⟩ (by omega)) fun v4 h4 => ?_
    have h44 := h4.2.2 (by omega)
    have e : w64 (300 + v4.1) = ((300 + v4.1).toNat : Int) := by rw [w64_id (by omega) (by omega)]; have := h4.2.1; omega
    rw [e]
    have := h4.1.2.2
    exact main _ _ _ h4.1.2.1 (by omega) (by omega)
  · have h44 := h2.2.2 (by omega)
    have e : v2.1 = (v2.1.toNat : Int) := by have := h2.2.1; omega
    rw [e]
    have := h3.2.2
    exact main _ _ _ h3.2.1 (by omega) (by omega)
theorem Draw_all (code : List UInt8) (N : Nat) (hN : 1000 ≤ N) : ∃ r, s_DrawTypeActs N code = some r ∧ ActsD r.2 := by
  unfold s_DrawTypeActs s_l04All
  simp only [fromA, Option.bind_some]
  refine bindE (P := fun r : Carriage × List Act => ActsD r.2) ?_ fun v hv => ⟨_, rfl, hv⟩
  refine bindE (Draw_car (code := code) (hi := 0) (L00Src.mk code 0 0) ⟨rfl, by simp, by simp⟩ (by omega)) fun v1 h1 => ?_
  refine bindE (Draw_acts (code := code) (hi := 10) (L00Src.mk code v1.2.at_ v1.2.seed) ⟨rfl, h1.2⟩ (by omega) N (by omega)) fun v2 h2 => ?_
  exact ⟨_, rfl, h2.2⟩
theorem law_FnTypedActs (code : List UInt8) (_ : wfL wfByte code) : ∃ N, w_FnTypedActs N code = some true := by
  refine ⟨5000, ?_⟩
  obtain ⟨N, hN⟩ : ∃ N, N = 5000 := ⟨_, rfl⟩
  rw [← hN]
  unfold w_FnTypedActs w_f6big
  rw [Option.bind_some]
  cases (decide ((code.length : Int) > 4096))
  case true => rfl
  rw [cond_false]
  obtain ⟨r7, x1, g1⟩ := Draw_line code N (by omega)
  obtain ⟨r10, x2, x3, g2, g3⟩ := ActsFor_ok N r7.1 r7.2 (by omega) (by omega)
  obtain ⟨r16, x4, g4⟩ := Draw_all code N (by omega)
  have h201 := g4.1
  obtain ⟨ty, lk, bl, h3, _⟩ := acts3 N r16.1 r16.2 (by omega) (by omega)
  obtain ⟨tx, x5, x6⟩ := Text_ok N r16.2 (by omega) (by omega)
  have x7 := SameS_ok N ty.1 (by have := h3.len; omega) (by have := h3.len; omega)
  have x8 : s_ValidActs N r16.2 = some (okA r16.2) := by unfold s_ValidActs; rw [okA_s N r16.2 (by omega) (by omega)]; rfl
  have x9 : s_ValidCarriage r16.1 = some (okC r16.1) := by unfold s_ValidCarriage; rw [okC_s]; rfl
  have x10 := fun K => wl1_ok r10 g2 K r10.1.length 0 N (by omega) (by omega)
  rw [show ((0 : Nat) : Int) = 0 from rfl] at x10
  simp only [x1, x2, x3, x4, h3.t1, h3.t2, h3.l1, h3.l2, h3.b1, h3.b2, x5, x6, x7, x8, x9, okC_i, okA_i N r16.2 (by omega) (by omega), Option.bind_some, bne_self_eq_false, orO_some, Bool.or_self, Bool.not_true, cond_false, withK_eq, x10, andO_some]
  have hb : ((bl.2 == 0) && ((ty.2.2 == 6) != (lk.2 == 0))) = false := by
    by_cases h : bl.2 = 0
    · rw [h3.law h]; simp
    · have : (bl.2 == 0) = false := by simpa using h
      rw [this]; rfl
  rw [hb, cond_false]
  rcases g3 with h | ⟨hc, ht, hr, e⟩
  · have : (r10.2 != 0) = true := by simpa using h
    rw [this]; rfl
  · obtain ⟨l, y1, y2⟩ := back_ok N r7.1 r7.2 (by omega) hc ht hr (by omega)
    have y3 := f6trim_ok N r7.2 (by omega) (by omega)
    obtain ⟨c1, c2, c3, _⟩ := okC_facts hc
    have hle : (trimmed r7.2).length ≤ 150 := by omega
    have e1 : w64 (r7.1.left + w64 (2 * ((trimmed r7.2).length : Int))) = r7.1.left + 2 * ((trimmed r7.2).length : Int) := by
      rw [w64_id (x := 2 * ((trimmed r7.2).length : Int)) (by omega) (by omega), w64_id (by omega) (by omega)]
    rw [e]
    simp only [bne_self_eq_false, cond_false, y1, Option.bind_some, List.length_map, e1, Bool.or_self, y2, y3, beq_self_eq_true, andO_some, Bool.and_self]
end Go.Proofs.Ythkckgiicchpnaa
