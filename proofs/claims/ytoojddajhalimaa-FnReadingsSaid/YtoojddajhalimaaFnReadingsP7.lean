/-
  Plain lemmas on these functions. No conditions but those that each states.
-/
import Derived.Test.YtoojddajhalimaaFnReadingsP6
namespace Go.Proofs.Ytoojddajhalimaa
set_option linter.unusedVariables false
set_option linter.unusedSimpArgs false
theorem index_l1 (l : List Str) (s : Str) (hl : l.length ≤ 1000) : ∀ (n i N : Nat), i + n = l.length → n < N → ∃ r : Int, s_l17Index_l1 (some (-1)) l s N (i : Int) = some r ∧ (r < 0 → ∀ x ∈ l.drop i, x ≠ s) := by
  intro n
  induction n with
  | zero =>
    intro i N h1 h3
    obtain ⟨N, rfl⟩ := pos_fuel h3
    have hi : ¬ ((i : Int) < (l.length : Int)) := by omega
    have e2 : l.drop i = [] := List.drop_of_length_le (by omega)
    exact ⟨-1, by simp [s_l17Index_l1, hi], fun _ x hx => by rw [e2] at hx; simp at hx⟩
  | succ n ih =>
    intro i N h1 h3
    obtain ⟨N, rfl⟩ := pos_fuel h3
    have hi : (i : Int) < (l.length : Int) := by omega
    have hn : i < l.length := by omega
    obtain ⟨r, g1, g2⟩ := ih (i + 1) N (by omega) (by omega)
    cases hc : (l[i] == s)
    · refine ⟨r, by simp only [s_l17Index_l1, hi, decide_true, cond_true, idx_lt l i hn, Option.bind_some, hc, cond_false, w64_nat i (by omega), g1], fun h x hx => ?_⟩
      rw [drop_cons l i hn] at hx
      rcases List.mem_cons.1 hx with rfl | hx
      · intro e; rw [e] at hc; simp at hc
      · exact g2 h x hx
    · exact ⟨(i : Int), by simp only [s_l17Index_l1, hi, decide_true, cond_true, idx_lt l i hn, Option.bind_some, hc], fun h => by omega⟩
theorem index_eq (N : Nat) (l : List Str) (s : Str) (hl : l.length ≤ 1000) (hN : l.length < N) : ∃ r : Int, s_l17Index N l s = some r ∧ (r < 0 → s ∉ l) := by
  obtain ⟨r, h1, h2⟩ := index_l1 l s hl l.length 0 N (by omega) hN
  rw [show ((0 : Nat) : Int) = 0 from rfl] at h1
  rw [List.drop_zero] at h2
  exact ⟨r, by simpa [s_l17Index] using h1, fun h hm => h2 h s hm rfl⟩
theorem CDraw_l2 (code : List UInt8) : ∀ (k N : Nat) (s1 : L00Src) (at_ seed B : Int) (o : Str), s1.code = code → 0 ≤ at_ → at_ + 2 * k ≤ B → B < BIG → o.length + k ≤ 100 → (∀ c ∈ o, c = 97 ∨ c = 98) → k < N →
    ∃ a sd o', a ≤ B ∧ 0 ≤ a ∧ o'.length = o.length + k ∧ (∀ c ∈ o', c = 97 ∨ c = 98) ∧ ∀ K, s_l17Draw_l2 K s1 N at_ seed o (k : Int) = K a sd o' := by
  intro k
  induction k with
  | zero =>
    intro N s1 at_ seed B o hs h0 h2 h3 h4 hc h5
    obtain ⟨N, rfl⟩ := pos_fuel h5
    exact ⟨at_, seed, o, by omega, h0, by omega, hc, fun K => by simp [s_l17Draw_l2]⟩
  | succ k ih =>
    intro N s1 at_ seed B o hs h0 h2 h3 h4 hc h5
    obtain ⟨N, rfl⟩ := pos_fuel h5
    subst hs
    have hk : (((k + 1 : Nat) : Int) > 0) := by omega
    have hkk : w64 (((k + 1 : Nat) : Int) - 1) = (k : Int) := by rw [w64_id (by omega) (by omega)]; omega
    obtain ⟨v1, a1, s1', e1, b1, c1, d1, f1⟩ := pick_ok s1.code at_ seed 3 h0 (by omega)
    have f1 := f1 (by omega)
    have hx := idx_int ([97, 97, 98] : List UInt8) v1 d1 (by simpa using f1)
    have ea : ∀ x : UInt8, app o [x] = some (o ++ [x]) := fun x => app_some _ _ (by simp; unfold LIM; omega)
    have hm := List.getElem_mem (l := ([97, 97, 98] : List UInt8)) (n := v1.toNat) (by simp; omega)
    obtain ⟨a', sd', o', i1, i2, i3, i4, i5⟩ := ih N s1 a1 s1' B (o ++ [([97, 97, 98] : List UInt8)[v1.toNat]'(by simp; omega)]) rfl (by omega) (by omega) h3 (by simp; omega) (fun c h => by
      rcases List.mem_append.1 h with h | h
      · exact hc c h
      · simp only [List.mem_cons, List.not_mem_nil, or_false] at h
        rw [h]
        simp only [List.mem_cons, List.not_mem_nil, or_false] at hm
        rcases hm with hm | hm | hm <;> rw [hm] <;> simp) (by omega)
    refine ⟨a', sd', o', i1, i2, by rw [i3]; simp; omega, i4, fun K => ?_⟩
    simp only [s_l17Draw_l2, hk, decide_true, cond_true, e1, Option.bind_some, hx, ea, hkk]
    exact i5 K
theorem CDraw_l1 (code : List UInt8) : ∀ (k N : Nat) (s1 : L00Src) (at_ seed B : Int) (l : List Str), s1.code = code → 0 ≤ at_ → at_ + 20 * k ≤ B → B < BIG → l.length + k ≤ 5 → Cw l → k + 100 < N →
    ∃ a sd l', a ≤ B ∧ 0 ≤ a ∧ Cw l' ∧ ∀ K, s_l17Draw_l1 K s1 N at_ seed l (k : Int) = K a sd l' := by
  intro k
  induction k with
  | zero =>
    intro N s1 at_ seed B l hs h0 h1 h2 h3 hl h4
    obtain ⟨N, rfl⟩ := pos_fuel (by omega : 0 < N)
    exact ⟨at_, seed, l, by omega, h0, hl, fun K => by simp [s_l17Draw_l1]⟩
  | succ k ih =>
    intro N s1 at_ seed B l hs h0 h1 h2 h3 hl h4
    obtain ⟨N, rfl⟩ := pos_fuel (by omega : 0 < N)
    subst hs
    have hk : (((k + 1 : Nat) : Int) > 0) := by omega
    have hkk : w64 (((k + 1 : Nat) : Int) - 1) = (k : Int) := by rw [w64_id (by omega) (by omega)]; omega
    obtain ⟨v1, a1, s1', e1, b1, c1, d1, f1⟩ := pick_ok s1.code at_ seed 4 h0 (by omega)
    have f1 := f1 (by omega)
    obtain ⟨q, hq⟩ := Int.eq_ofNat_of_zero_le (by omega : 0 ≤ 1 + v1)
    have ew : w64 (q : Int) = (q : Int) := w64_id (by omega) (by omega)
    obtain ⟨a2, s2, o, i1, i2, i3, i4, i5⟩ := CDraw_l2 s1.code q N s1 a1 s1' (a1 + 10) [] rfl (by omega) (by omega) (by omega) (by simp; omega) (by simp) (by omega)
    simp only [List.length_nil, Nat.zero_add] at i3
    obtain ⟨x, x1, x2⟩ := index_eq N l o (by omega) (by omega)
    have eb : app l [o] = some (l ++ [o]) := app_some _ _ (by simp; unfold LIM; omega)
    by_cases g : x < 0
    · have hno := x2 g
      have hl' : Cw (l ++ [o]) := by
        refine ⟨by simp; omega, fun w hw => ?_, fun i j hi hj e => ?_⟩
        · rcases List.mem_append.1 hw with hw | hw
          · exact hl.word w hw
          · simp at hw; subst hw; exact ⟨by omega, by omega, i4⟩
        · simp only [List.length_append, List.length_cons, List.length_nil] at hi hj
          rw [List.getElem_append, List.getElem_append] at e
          split at e
          · split at e
            · exact hl.dst i j _ _ e
            · simp at e
              exact absurd (e ▸ List.getElem_mem _) hno
          · split at e
            · simp at e
              exact absurd (e ▸ List.getElem_mem _) hno
            · omega
      obtain ⟨a', sd', l', j1, j2, j3, j4⟩ := ih N s1 a2 s2 B (l ++ [o]) rfl (by omega) (by omega) h2 (by simp; omega) hl' (by omega)
      refine ⟨a', sd', l', j1, j2, j3, fun K => ?_⟩
      simp only [s_l17Draw_l1, hk, decide_true, cond_true, withK_eq, e1, Option.bind_some, hq, ew]
      rw [i5]
      simp only [x1, Option.bind_some, g, decide_true, cond_true, eb, hkk]
      exact j4 K
    · obtain ⟨a', sd', l', j1, j2, j3, j4⟩ := ih N s1 a2 s2 B l rfl (by omega) (by omega) h2 (by omega) hl (by omega)
      refine ⟨a', sd', l', j1, j2, j3, fun K => ?_⟩
      simp only [s_l17Draw_l1, hk, decide_true, cond_true, withK_eq, e1, Option.bind_some, hq, ew]
      rw [i5]
      simp only [x1, Option.bind_some, g, decide_false, cond_false, hkk]
      exact j4 K
theorem Code_ok (code : List UInt8) (N : Nat) (hN : 1000 < N) : ∃ W, s_A2Code N code = some W ∧ Cw W := by
  have hb : BIG = 1152921504606846976 := rfl
  obtain ⟨v, a1, s1, e1, b1, c1, d1, f1⟩ := pick_ok code 0 0 6 (by omega) (by omega)
  have f1 := f1 (by omega)
  obtain ⟨k, rfl⟩ := Int.eq_ofNat_of_zero_le d1
  obtain ⟨a, sd, l, i1, i2, i3, i4⟩ := CDraw_l1 code k N ⟨code, 0, 0⟩ a1 s1 1000 [] rfl (by omega) (by omega) (by omega) (by simp; omega) ⟨by simp, fun w hw => by simp at hw, fun i j hi => by simp at hi⟩ (by omega)
  refine ⟨l, ?_, i3⟩
  simp only [s_A2Code, s_l00From, Option.bind_some, s_l17Draw, withK_eq, e1]
  rw [i4]; rfl
theorem Ind_l1 (code : List UInt8) (n : Nat) (hn : 0 < n) (hn2 : n ≤ 100) : ∀ (k N : Nat) (at_ seed B : Int) (L : List Nat), 0 ≤ at_ → at_ + 2 * k ≤ B → B < BIG → L.length + k ≤ 8 → (∀ x ∈ L, x < n) → k < N →
    ∃ L' : List Nat, L'.length ≤ 8 ∧ (∀ x ∈ L', x < n) ∧ ∀ K, s_A2Indices_l1 K code (n : Int) N at_ seed (cast L) (k : Int) = K (cast L') := by
  intro k
  induction k with
  | zero =>
    intro N at_ seed B L h0 h2 h3 h4 hc h5
    obtain ⟨N, rfl⟩ := pos_fuel h5
    exact ⟨L, by omega, hc, fun K => by simp [s_A2Indices_l1, andO_some]⟩
  | succ k ih =>
    intro N at_ seed B L h0 h2 h3 h4 hc h5
    obtain ⟨N, rfl⟩ := pos_fuel h5
    have hk : (((k + 1 : Nat) : Int) > 0) := by omega
    have hnn : ((n : Int) > 0) := by omega
    have hkk : w64 (((k + 1 : Nat) : Int) - 1) = (k : Int) := by rw [w64_id (by omega) (by omega)]; omega
    obtain ⟨v1, a1, s1', e1, b1, c1, d1, f1⟩ := pick_ok code at_ seed (n : Int) h0 (by omega)
    have f1 := f1 (by omega)
    obtain ⟨q, rfl⟩ := Int.eq_ofNat_of_zero_le d1
    have ea : app (cast L) [(q : Int)] = some (cast (L ++ [q])) := by
      rw [app_some _ _ (by simp [cast]; unfold LIM; omega)]; simp [cast]
    obtain ⟨L', i1, i2, i3⟩ := ih N a1 s1' B (L ++ [q]) (by omega) (by omega) h3 (by simp; omega) (fun x hx => by
      rcases List.mem_append.1 hx with hx | hx
      · exact hc x hx
      · simp at hx; omega) (by omega)
    refine ⟨L', i1, i2, fun K => ?_⟩
    simp only [s_A2Indices_l1, hk, hnn, decide_true, andO_some, Bool.and_self, Option.bind_some, cond_true, e1, ea, hkk]
    exact i3 K
theorem Ind_ok (code : List UInt8) (n N : Nat) (hn2 : n ≤ 100) (hN : 1000 < N) : ∃ L : List Nat, s_A2Indices N code (n : Int) = some (cast L) ∧ L.length ≤ 8 ∧ ∀ x ∈ L, x < n := by
  have hb : BIG = 1152921504606846976 := rfl
  obtain ⟨v, a1, s1, e1, b1, c1, d1, f1⟩ := pick_ok code 0 0 9 (by omega) (by omega)
  have f1 := f1 (by omega)
  obtain ⟨k, rfl⟩ := Int.eq_ofNat_of_zero_le d1
  by_cases h : 0 < n
  · obtain ⟨L, i1, i2, i3⟩ := Ind_l1 code n h hn2 k N a1 s1 1000 [] (by omega) (by omega) (by omega) (by simp; omega) (by simp) (by omega)
    refine ⟨L, ?_, i1, i2⟩
    simp only [s_A2Indices, s_l00From, Option.bind_some, withK_eq, e1]
    exact i3 _
  · obtain ⟨M, rfl⟩ := pos_fuel (by omega : 0 < N)
    have hnn : ¬ ((n : Int) > 0) := by omega
    refine ⟨[], ?_, by simp, fun x hx => by simp at hx⟩
    simp only [s_A2Indices, s_l00From, Option.bind_some, withK_eq, e1, s_A2Indices_l1, hnn, decide_false, andO_some, Bool.and_false, cond_false]
    rfl
theorem Rd_same (K : Option Bool) (X : List Int) (hl : X.length ≤ 1000) (c : Int) : ∀ (n i N : Nat), i + n = X.length → n < N → w_FnReadings_l1 K X (X, c) N (i : Int) = K := by
  intro n
  induction n with
  | zero =>
    intro i N h1 h3
    obtain ⟨N, rfl⟩ := pos_fuel h3
    have hi : ¬ ((i : Int) < (X.length : Int)) := by omega
    simp only [w_FnReadings_l1, hi, decide_false, andO_false, Option.bind_some, cond_false]
  | succ n ih =>
    intro i N h1 h3
    obtain ⟨N, rfl⟩ := pos_fuel h3
    have hi : (i : Int) < (X.length : Int) := by omega
    have hn : i < X.length := by omega
    simp only [w_FnReadings_l1, hi, decide_true, andO_some, Bool.and_self, Option.bind_some, cond_true, idx_lt X i hn, bne_self_eq_false, cond_false, w64_nat i (by omega)]
    exact ih (i + 1) N (by omega) (by omega)
theorem Rd_diff (K : Option Bool) (X Y : List Int) (c : Int) (m : Nat) (hx : m < X.length) (hy : m < Y.length) (hm : m ≤ 1000) (hs : ∀ j (h1 : j < X.length) (h2 : j < Y.length), j < m → X[j] = Y[j]) (hd : X[m] < Y[m]) : ∀ (n i N : Nat), i + n = m → n < N → w_FnReadings_l1 K Y (X, c) N (i : Int) = some true := by
  intro n
  induction n with
  | zero =>
    intro i N h1 h3
    obtain ⟨N, rfl⟩ := pos_fuel h3
    have e : i = m := by omega
    subst e
    have hi : (i : Int) < (X.length : Int) := by omega
    have hi' : (i : Int) < (Y.length : Int) := by omega
    have hne : (X[i] != Y[i]) = true := by
      have : X[i] ≠ Y[i] := by omega
      simpa using this
    simp only [w_FnReadings_l1, hi, hi', decide_true, andO_some, Bool.and_self, Option.bind_some, cond_true, idx_lt X i hx, idx_lt Y i hy, hne, hd]
  | succ n ih =>
    intro i N h1 h3
    obtain ⟨N, rfl⟩ := pos_fuel h3
    have hi : (i : Int) < (X.length : Int) := by omega
    have hi' : (i : Int) < (Y.length : Int) := by omega
    have he := hs i (by omega) (by omega) (by omega)
    have hne : (X[i]'(by omega) != Y[i]'(by omega)) = false := by rw [he]; simp
    simp only [w_FnReadings_l1, hi, hi', decide_true, andO_some, Bool.and_self, Option.bind_some, cond_true, idx_lt X i (by omega), idx_lt Y i (by omega), hne, cond_false, w64_nat i (by omega)]
    exact ih (i + 1) N (by omega) (by omega)
theorem law_FnReadings (code more : List UInt8) (_ : wfL wfByte code) (_ : wfL wfByte more) : ∃ N, w_FnReadings N code more = some true := by
  obtain ⟨N, hN⟩ : ∃ N, N = 30000 := ⟨_, rfl⟩
  refine ⟨N, ?_⟩
  unfold w_FnReadings
  simp only [w_a2Long, orO_some, Option.bind_some]
  cases hbig : (decide ((code.length : Int) > 3000) || decide ((more.length : Int) > 3000))
  · obtain ⟨W, e1, hW⟩ := Code_ok code N (by omega)
    have hwl := hW.len
    obtain ⟨L, e2, l1, l2⟩ := Ind_ok more W.length N (by omega) (by omega)
    obtain ⟨t1, t2⟩ := enc_len hW L
    have e3 := enc_eq N W hW L l2 (by omega) (by omega) (by omega)
    have hR := Rd_enc W L l2
    obtain ⟨A, B, e4, e5, hA, hB, hmin⟩ := reading_eq N W hW (enc W L) (by omega) t2 L hR (by omega)
    obtain ⟨a1, a2⟩ := enc_Rd W A _ hA.Rd
    obtain ⟨b1, b2⟩ := enc_Rd W B _ hB
    have al := Rd_len hW A _ hA.Rd
    have bl := Rd_len hW B _ hB
    have e6 := enc_eq N W hW A a2 (by omega) (by rw [a1]; omega) (by omega)
    have e7 := enc_eq N W hW B b2 (by omega) (by rw [b1]; omega) (by omega)
    rw [a1] at e6
    rw [b1] at e7
    have n1 : ¬ (((cast B).length : Int) > ((cast L).length : Int)) := by have := hmin L hR; simp [cast]; omega
    have n2 : ¬ (((cast B).length : Int) > ((cast A).length : Int)) := by have := hmin A hA.Rd; simp [cast]; omega
    simp only [cond_false, e1, e2, Option.bind_some, e3, e4, e5, e6, e7, bne_self_eq_false, orO_some, Bool.or_self, n1, n2, decide_false, withK_eq]
    rcases Fst_lex hW.ne A L _ hA hR with h | ⟨C, a, b, A', L', h1, h2, h3⟩
    · subst h
      have := Rd_same (some (((cast A).length : Int) == ((cast A).length : Int))) (cast A) (by simp [cast]; omega) 0 (cast A).length 0 N (by omega) (by simp [cast]; omega)
      rw [show ((0 : Nat) : Int) = 0 from rfl] at this
      rw [this]; simp
    · have := Rd_diff (some (((cast A).length : Int) == ((cast L).length : Int))) (cast A) (cast L) 0 C.length (by rw [h1]; simp [cast]) (by rw [h2]; simp [cast]) (by rw [h1] at al; simp at al; omega) (fun j g1 g2 g3 => by
        simp only [cast, h1, h2, List.map_append]
        rw [List.getElem_append_left (by simpa using g3), List.getElem_append_left (by simpa using g3)]) (by
        simp only [cast, h1, h2, List.map_append, List.map_cons]
        rw [List.getElem_append_right (by simp), List.getElem_append_right (by simp)]
        simp; omega) C.length 0 N (by omega) (by rw [h1] at al; simp at al; omega)
      rw [show ((0 : Nat) : Int) = 0 from rfl] at this
      exact this
  · rfl
end Go.Proofs.Ytoojddajhalimaa
