/-
  Plain lemmas on these functions. No conditions but those that each states.
-/
import Derived.Test.YthkckgiicchpnaaFnCarriageLinesP12
namespace Go.Proofs.Ythkckgiicchpnaa
set_option linter.unusedVariables false
set_option linter.unusedSimpArgs false
/-! The law. -/
theorem Draw_same (code : List UInt8) (N : Nat) (hN : 1000 ≤ N) : ∃ r, s_DrawSameStruck N code = some r ∧ r.1.length ≤ 210 := by
  unfold s_DrawSameStruck
  simp only [fromA, Option.bind_some, withK_eq]
  refine bindE (Draw_struck code N hN) fun v hv => ?_
  have hv1 := hv.1
  refine appE (by unfold LIM; simp; omega) ?_
  simp only [List.nil_append]
  have fin : ∀ (a sd : Int) (l : List Struck), 0 ≤ a → a ≤ 100 → l.length ≤ 210 → ∃ r, ((s_l00Src_one (L00Src.mk code a sd) 5).bind fun r41 =>
      bif r41.1 then
      (app l [(Struck.mk 0 [])]).bind fun l45 =>
      some (v.2, l45)
      else
      some (v.2, l)) = some r ∧ r.1.length ≤ 210 := fun a sd l h0 h1 h2 => by
    refine bindE (oneA (code := code) (hi := 100) 5 ⟨rfl, h0, h1⟩ (by omega)) fun v2 h2 => ?_
    refine condE (fun _ => ?_) fun _ => ⟨_, rfl, hv1⟩
    refine appE (by unfold LIM; simp; omega) ?_
    exact ⟨_, rfl, hv1⟩
  have first : ∃ x, (bif decide ((List.length v.2 : Int) > 0) then (s_l00Src_one (L00Src.mk code 0 0) 2).bind fun r24 =>
      some (r24.1, (L00Src.mk code r24.2.at_ r24.2.seed)) else some (false, (L00Src.mk code 0 0))) = some x ∧ SrcAt code 2 x.2 ∧ (x.1 = true → 0 < v.2.length) := by
    refine condE (fun c => ?_) fun _ => ⟨_, rfl, ⟨rfl, by simp, by simp⟩, fun h => by cases h⟩
    refine bindE (oneA (code := code) (hi := 0) 2 ⟨rfl, by simp, by simp⟩ (by omega)) fun v2 h2 => ?_
    have := of_decide_eq_true c
    exact ⟨_, rfl, ⟨rfl, h2.2⟩, fun _ => by omega⟩
  refine bindE first fun x hx => ?_
  refine condE (fun c => ?_) fun _ => fin _ _ _ hx.1.2.1 (by have := hx.1.2.2; omega) hv1
  have hpos := hx.2 c
  have hix : idx v.2 0 = some v.2[0] := by rw [idx_int v.2 0 (by omega) (by omega)]; rfl
  simp only [hix, Option.bind_some]
  refine bindE (textA (code := code) (hi := 2) _ (by simp) ⟨rfl, hx.1.2⟩ (by omega)) fun t ht => ?_
  have h1 : ∀ y ∈ ([[], [120]] : List Str), y.length ≤ 1 := by decide
  have h2 := h1 _ ht.2
  have h3 := hv.2 _ (List.getElem_mem hpos)
  rw [cat_some _ _ (by unfold LIM; omega), Option.bind_some]
  exact fin _ _ _ ht.1.2.1 (by have := ht.1.2.2; omega) (by rw [List.length_set]; exact hv1)
theorem ints_ok (N : Nat) (a : List Int) (ha : a.length ≤ 1000) (hN : a.length < N) : w_f6ints N a a = some true := by
  have loop : ∀ (K : Option Bool) (n i N : Nat), i + n = a.length → n < N → w_f6ints_l1 K a a N (i : Int) = K := by
    intro K n
    induction n with
    | zero =>
      intro i N h1 h2
      obtain ⟨N, rfl⟩ := pos_fuel h2
      have hi : ¬ ((i : Int) < (a.length : Int)) := by omega
      simp only [w_f6ints_l1, hi, decide_false, cond_false]
    | succ n ih =>
      intro i N h1 h2
      obtain ⟨N, rfl⟩ := pos_fuel h2
      have hi : (i : Int) < (a.length : Int) := by omega
      simp only [w_f6ints_l1, hi, decide_true, cond_true, idx_lt a i (by omega), Option.bind_some, bne_self_eq_false, cond_false, w64_nat i (by omega), ih (i + 1) N (by omega) (by omega)]
  have := fun K => loop K a.length 0 N (by omega) hN
  rw [show ((0 : Nat) : Int) = 0 from rfl] at this
  unfold w_f6ints
  simp only [bne_self_eq_false, cond_false, withK_eq, this]
theorem wl_l1 (r : Str × Int) (hr : r.1.length ≤ 1000) (kj : Int → Option Bool) : ∀ (n i N : Nat) (m : Nat), i + n = r.1.length → n < N → m + n ≤ 100000 → w_FnCarriageLines_l1 kj r N (m : Int) (i : Int) = kj ((m + ((r.1.drop i).filter (fun c => c != 32)).length : Nat) : Int) := by
  intro n
  induction n with
  | zero =>
    intro i N m h1 h2 h3
    obtain ⟨N, rfl⟩ := pos_fuel h2
    have hi : ¬ ((i : Int) < (r.1.length : Int)) := by omega
    rw [List.drop_of_length_le (by omega)]
    simp only [w_FnCarriageLines_l1, hi, decide_false, cond_false, List.filter_nil, List.length_nil, Nat.add_zero]
  | succ n ih =>
    intro i N m h1 h2 h3
    obtain ⟨N, rfl⟩ := pos_fuel h2
    have hi : (i : Int) < (r.1.length : Int) := by omega
    have hil : i < r.1.length := by omega
    rw [List.drop_eq_getElem_cons hil, List.filter_cons]
    simp only [w_FnCarriageLines_l1, hi, decide_true, cond_true, withK_eq, idx_lt r.1 i hil, Option.bind_some, w64_nat i (by omega), w64_nat m (by omega)]
    cases hb : (r.1[i] != 32) with
    | true =>
      simp only [cond_true, if_true]
      rw [ih (i + 1) N (m + 1) (by omega) (by omega) (by omega)]
      congr 2
      simp only [List.length_cons]
      omega
    | false =>
      simp only [cond_false, Bool.false_eq_true, if_false]
      exact ih (i + 1) N m (by omega) (by omega) (by omega)
theorem wl_l2 (r7 : Carriage × List Struck) (r : Str × Int) (hc : okC r7.1 = true) (hl : okS r7.2 = true) (h : LnI r7.1 r7.2 r7.2.length r.1) (K : Option Bool) : ∀ (n i N : Nat), i + n = r7.2.length → n < N → w_FnCarriageLines_l2 K r7 r N (i : Int) = K := by
  obtain ⟨h200, hf⟩ := okS_facts hl
  obtain ⟨c1, c2, c3, _⟩ := okC_facts hc
  intro n
  induction n with
  | zero =>
    intro i N h1 h2
    obtain ⟨N, rfl⟩ := pos_fuel h2
    have hi : ¬ ((i : Int) < (r7.2.length : Int)) := by omega
    simp only [w_FnCarriageLines_l2, hi, decide_false, cond_false]
  | succ n ih =>
    intro i N h1 h2
    obtain ⟨N, rfl⟩ := pos_fuel h2
    have hi : (i : Int) < (r7.2.length : Int) := by omega
    have hil : i < r7.2.length := by omega
    obtain ⟨p1, p2, p3⟩ := hf i hil
    have hev := h.even i hil (by omega)
    obtain ⟨ch, q1, q2, q3⟩ := h.here i hil (by omega)
    unfold evn at hev
    have ed : w64 (Int.tdiv (w64 (r7.2[i].place - r7.1.left)) 2) = (atN r7.1 r7.2[i] : Int) := by
      rw [w64_id (x := r7.2[i].place - r7.1.left) (by omega) (by omega), Int.tdiv_eq_ediv_of_nonneg (by omega), w64_id (by omega) (by omega)]
      unfold atN
      omega
    have hlt := lt_of_some q3
    have n1 : ¬ ((atN r7.1 r7.2[i] : Nat) : Int) < 0 := by omega
    have n2 : ¬ ((atN r7.1 r7.2[i] : Nat) : Int) ≥ (r.1.length : Int) := by omega
    have hx : idx r.1 (atN r7.1 r7.2[i] : Int) = some ch := by rw [idx_nat]; exact q3
    have hlet : idx r7.2[i].letter 0 = some ch := by rw [q1]; rfl
    simp only [w_FnCarriageLines_l2, hi, decide_true, cond_true, idx_lt r7.2 i hil, Option.bind_some, ed, n1, n2, decide_false, orO_some, Bool.or_self, hx, hlet, bne_self_eq_false, cond_false, w64_nat i (by omega), ih (i + 1) N (by omega) (by omega)]
theorem law_FnCarriageLines (code : List UInt8) (_ : wfL wfByte code) : ∃ N, w_FnCarriageLines N code = some true := by
  refine ⟨5000, ?_⟩
  obtain ⟨N, hN⟩ : ∃ N, N = 5000 := ⟨_, rfl⟩
  rw [← hN]
  unfold w_FnCarriageLines w_f6big
  rw [Option.bind_some]
  cases (decide ((code.length : Int) > 4096))
  case true => rfl
  rw [cond_false]
  obtain ⟨r7, x1, hD⟩ := Draw_struck code N (by omega)
  have e1 : s_DrawLineOf N code = some r7 := by unfold s_DrawLineOf; rw [x1]; rfl
  have hl := hD.1
  obtain ⟨r11, x2, g1, g2⟩ := Line_ok N r7.1 r7.2 (by omega) (by omega)
  have x3 := Line_eq N r7.1 r7.2 (by omega) (by omega)
  obtain ⟨r15, x4, g3⟩ := Half_ok N r7.1 r7.2 (by omega) (by omega)
  have x5 := Half_eq N r7.1 r7.2 (by omega) (by omega)
  obtain ⟨r19, x6, x7, g4, g5⟩ := Over_ok N r7.2 (by omega) (by omega)
  obtain ⟨r25, x8, g6⟩ := Draw_same code N (by omega)
  obtain ⟨b, x9⟩ := Same_some N r25.1 r25.2 (by omega) (by omega)
  have x10 := Same_eq N r25.1 r25.2
  have x11 := ints_ok N r19.1 (by omega) (by omega)
  rw [x2] at x3
  rw [x4] at x5
  rw [x9] at x10
  simp only [e1, x2, x3, x4, x5, x6, x7, x8, x9, x10, x11, Option.bind_some, bne_self_eq_false, orO_some, Bool.or_self, Bool.not_true, cond_false, withK_eq]
  by_cases hv : (okC r7.1 && okS r7.2) = false
  · rw [g1 hv]
    rfl
  · have hv' : (okC r7.1 && okS r7.2) = true := by simpa using hv
    rw [Bool.and_eq_true] at hv'
    obtain ⟨hc, hs⟩ := hv'
    obtain ⟨g7, g8⟩ := g5 hs
    rcases g2 hc hs with h | ⟨h, i, j, hi, hj, hji, he⟩ | ⟨h, hI⟩
    · have : (r11.2 != 0) = true := by rw [h]; rfl
      have h2 : (r11.2 == 8) = true := by rw [h]; rfl
      simp only [this, cond_true, h2, Bool.or_true, Bool.true_or]
    · have : (r11.2 != 0) = true := by rw [h]; rfl
      have hm : r7.2[i].place ∈ r19.1 := (g8 _).2 (cnt_two r7.2 j i hi hji he)
      have hp : ((r19.1.length : Nat) : Int) > 0 := by have := List.length_pos_of_mem hm; omega
      simp only [this, cond_true, hp, decide_true, Bool.or_true]
    · have h0 : (r11.2 != 0) = false := by rw [h]; rfl
      have hh := g3 hc hs (fun j hj => hI.even j hj hj)
      have hno : r19.1 = [] := by
        rcases hq : r19.1 with _ | ⟨x, t⟩
        · rfl
        · exfalso
          have hm := (g8 x).1 (by rw [hq]; simp)
          have key : ∀ k, k ≤ r7.2.length → 1 < cnt (r7.2.take k) x → ∃ i j, ∃ hi : i < r7.2.length, ∃ hj : j < r7.2.length, j < i ∧ r7.2[j].place = x ∧ r7.2[i].place = x := by
            intro k
            induction k with
            | zero => intro _ h; simp [cnt] at h
            | succ k ih =>
              intro hk h
              rw [cnt_take r7.2 k hk] at h
              by_cases e : r7.2[k].place = x
              · rw [if_pos e] at h
                obtain ⟨j, hj, q1, q2⟩ := cnt_ex r7.2 x k (by omega) (by omega)
                exact ⟨k, j, hk, hj, q1, q2, e⟩
              · rw [if_neg e] at h; exact ih (by omega) h
          obtain ⟨i, j, hi, hj, hji, q1, q2⟩ := key r7.2.length (Nat.le_refl _) (by rw [List.take_length]; exact hm)
          refine hI.inj i j hi hj hji hi ?_
          unfold atN
          rw [q1, q2]
      have hz : ¬ ((r19.1.length : Nat) : Int) > 0 := by rw [hno]; simp
      have w1 := fun kj => wl_l1 r11 (by have := hI.len; omega) kj r11.1.length 0 N 0 (by omega) (by have := hI.len; omega) (by have := hI.len; omega)
      rw [show ((0 : Nat) : Int) = 0 from rfl, List.drop_zero, Nat.zero_add, hI.many] at w1
      have w2 := fun K => wl_l2 r7 r11 hc hs hI K r7.2.length 0 N (by omega) (by omega)
      rw [show ((0 : Nat) : Int) = 0 from rfl] at w2
      simp only [h0, cond_false, hh, hz, decide_false, Bool.or_self, w1, w2, beq_self_eq_true]
end Go.Proofs.Ythkckgiicchpnaa
