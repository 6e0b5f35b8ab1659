/-
  Plain lemmas on these functions. No conditions but those that each states.
-/
import Derived.Test.YtacdadfaialbpaaFnCodesP3
namespace Go.Proofs.Ytacdadfaialbpaa
set_option linter.unusedVariables false
set_option linter.unusedSimpArgs false
theorem mget_mset (l : List (Str × Bool)) (k s : Str) : mget (mset l k true) s = (s == k || mget l s) := by
  induction l with
  | nil => simp only [mset, mget]; cases s == k <;> rfl
  | cons p r ih =>
    obtain ⟨a, b⟩ := p
    simp only [mset]
    by_cases h : k = a
    · subst h; simp only [beq_self_eq_true, cond_true, mget]; cases s == k <;> rfl
    · have : (k == a) = false := by simpa using h
      simp only [this, cond_false, mget]
      by_cases h2 : s = a
      · subst h2
        have : (s == k) = false := by simp; exact fun e => h e.symm
        simp [this]
      · have : (s == a) = false := by simpa using h2
        simp only [this, cond_false]; exact ih
/-- the words of a drawn code -/
structure Cw (W : List Str) : Prop where
  len : W.length ≤ 5
  word : ∀ w ∈ W, 1 ≤ w.length ∧ w.length ≤ 4 ∧ ∀ c ∈ w, c = 97 ∨ c = 98
  dst : ∀ (i j : Nat) (hi : i < W.length) (hj : j < W.length), W[i] = W[j] → i = j
theorem text33_l1 (s : Str) (hl : s.length ≤ 1000) (hs : ∀ c ∈ s, c = 97 ∨ c = 98) : ∀ (n i N : Nat), i + n = s.length → n < N → ∀ K, i_isText_l1 K s 33 N (i : Int) = K := by
  intro n
  induction n with
  | zero =>
    intro i N h1 h3 K
    obtain ⟨N, rfl⟩ := pos_fuel h3
    have hi : ¬ ((i : Int) < (s.length : Int)) := by omega
    simp [i_isText_l1, hi]
  | succ n ih =>
    intro i N h1 h3 K
    obtain ⟨N, rfl⟩ := pos_fuel h3
    have hi : (i : Int) < (s.length : Int) := by omega
    have hn : i < s.length := by omega
    have hc : (decide (s[i] < 33) || decide (s[i] > 126)) = false := by
      rcases hs _ (List.getElem_mem hn) with h | h <;> rw [h] <;> decide
    simp only [i_isText_l1, hi, decide_true, cond_true, idx_lt s i hn, Option.bind_some, orO_some, hc, cond_false, w64_nat i (by omega)]
    exact ih (i + 1) N (by omega) (by omega) K
theorem text33_eq (N : Nat) (s : Str) (m : Int) (hl : s.length ≤ 1000) (hm : (s.length : Int) ≤ m) (hs : ∀ c ∈ s, c = 97 ∨ c = 98) (hN : s.length < N) : i_isText N s 33 m = some true := by
  have h : ¬ (s.length : Int) > m := by omega
  have := text33_l1 s hl hs s.length 0 N (by omega) hN (some true)
  rw [show ((0 : Nat) : Int) = 0 from rfl] at this
  unfold i_isText
  simp only [h, decide_false, cond_false, withK_eq, this]
theorem valid_l1 (W : List Str) (hW : Cw W) : ∀ (n i N : Nat) (mp : List (Str × Bool)), i + n = W.length → n + 20 < N → (∀ s, mget mp s = (W.take i).any (· == s)) → ∀ K, i_ValidCode_l1 K W N mp (i : Int) = K := by
  have hl := hW.len
  intro n
  induction n with
  | zero =>
    intro i N mp h1 h3 _ K
    obtain ⟨N, rfl⟩ := pos_fuel (by omega : 0 < N)
    have hi : ¬ ((i : Int) < (W.length : Int)) := by omega
    simp [i_ValidCode_l1, hi]
  | succ n ih =>
    intro i N mp h1 h3 hmp K
    obtain ⟨N, rfl⟩ := pos_fuel (by omega : 0 < N)
    have hi : (i : Int) < (W.length : Int) := by omega
    have hn : i < W.length := by omega
    obtain ⟨w1, w2, w3⟩ := hW.word _ (List.getElem_mem hn)
    have hmp' : ∀ s, mget (mset mp W[i] true) s = (W.take (i + 1)).any (· == s) := fun s => by
      rw [mget_mset, hmp, List.take_succ_eq_append_getElem hn, List.any_append]
      simp only [List.any_cons, List.any_nil, Bool.or_false]
      rw [Bool.or_comm]
      congr 1
      rw [Bool.eq_iff_iff, beq_iff_eq, beq_iff_eq]; exact eq_comm
    have hd : (W.take i).any (· == W[i]) = false := by
      rw [List.any_eq_false]
      intro x hx
      obtain ⟨k, hk, rfl⟩ := List.getElem_of_mem hx
      simp only [List.length_take] at hk
      rw [List.getElem_take]
      intro he
      have := hW.dst k i (by omega) hn (eq_of_beq he)
      omega
    have ht := text33_eq N W[i] 8 (by omega) (by omega) w3 (by omega)
    have hne : (W[i] == ([] : List UInt8)) = false := by
      have : W[i] ≠ [] := fun e => by rw [e] at w1; simp at w1
      simpa using this
    simp only [i_ValidCode_l1, hi, decide_true, cond_true, idx_lt W i hn, Option.bind_some, hne, ht, orO_some, Bool.not_true, Bool.or_self, hmp W[i], hd, cond_false, w64_nat i (by omega)]
    exact ih (i + 1) N _ (by omega) (by omega) hmp' K
theorem valid_eq (N : Nat) (W : List Str) (hW : Cw W) (hN : 40 < N) : i_ValidCode N W = some true := by
  have hl := hW.len
  have := valid_l1 W hW W.length 0 N [] (by omega) (by omega) (fun s => rfl) (some (decide ((W.length : Int) ≤ 10)))
  rw [show ((0 : Nat) : Int) = 0 from rfl] at this
  unfold i_ValidCode
  simp only [withK_eq, this]
  simp; omega
theorem Cw.ne {W : List Str} (hW : Cw W) : ∀ w ∈ W, w ≠ [] := fun w hw e => by
  have := (hW.word w hw).1; rw [e] at this; simp at this
theorem enc_len {W : List Str} (hW : Cw W) : ∀ (L : List Nat), (enc W L).length ≤ 4 * L.length ∧ ∀ c ∈ enc W L, c = 97 ∨ c = 98
  | [] => ⟨by simp [enc], fun c h => by simp [enc] at h⟩
  | k :: L => by
    obtain ⟨h1, h2⟩ := enc_len hW L
    by_cases hk : k < W.length
    · obtain ⟨w1, w2, w3⟩ := hW.word _ (List.getElem_mem hk)
      simp only [enc, List.getElem?_eq_getElem hk, Option.getD_some, List.length_append, List.length_cons]
      refine ⟨by omega, fun c hc => ?_⟩
      rcases List.mem_append.1 hc with hc | hc
      · exact w3 c hc
      · exact h2 c hc
    · simp only [enc, List.getElem?_eq_none (Nat.le_of_not_lt hk), Option.getD_none, List.nil_append, List.length_cons]
      exact ⟨by omega, h2⟩
theorem Rd_len {W : List Str} (hW : Cw W) : ∀ (L : List Nat) (s : Str), Rd W L s → L.length ≤ s.length
  | [], s, _ => by simp
  | k :: L, s, ⟨hk, hp, hr⟩ => by
    have h1 := Rd_len hW L _ hr
    have h2 := (hW.word _ (List.getElem_mem hk)).1
    have h3 := congrArg List.length (pre_iff hp)
    simp only [List.length_append, List.length_drop] at h1 h3
    simp only [List.length_cons]
    omega
def cast (L : List Nat) : List Int := L.map fun (k : Nat) => (k : Int)
theorem enc_l1 (W : List Str) (hW : Cw W) (L : List Nat) (hL : ∀ k ∈ L, k < W.length) (hl : L.length ≤ 60) : ∀ (n i N : Nat) (o : Str), i + n = L.length → n < N → o.length ≤ 4 * i → ∀ K, i_EncodeWords_l1 K W (cast L) N o (i : Int) = K (o ++ enc W (L.drop i)) := by
  have hcl : (cast L).length = L.length := by simp [cast]
  have hwl := hW.len
  intro n
  induction n with
  | zero =>
    intro i N o h1 h3 ho K
    obtain ⟨N, rfl⟩ := pos_fuel h3
    have hi : ¬ ((i : Int) < ((cast L).length : Int)) := by omega
    have e2 : L.drop i = [] := List.drop_of_length_le (by omega)
    simp [i_EncodeWords_l1, hi, e2, enc]
  | succ n ih =>
    intro i N o h1 h3 ho K
    obtain ⟨N, rfl⟩ := pos_fuel h3
    have hi : (i : Int) < ((cast L).length : Int) := by omega
    have hn : i < L.length := by omega
    have hk := hL _ (List.getElem_mem hn)
    have e1 : idx (cast L) (i : Int) = some (L[i] : Int) := by rw [idx_lt _ i (by omega)]; simp [cast]
    obtain ⟨w1, w2, _⟩ := hW.word _ (List.getElem_mem hk)
    have e2 : w64 ((W.length : Int) - 1) = (W.length : Int) - 1 := w64_id (by omega) (by omega)
    have e3 : i_between (L[i] : Int) 0 ((W.length : Int) - 1) = some true := by
      have a1 : (L[i] : Int) ≥ 0 := by omega
      have a2 : (L[i] : Int) ≤ (W.length : Int) - 1 := by omega
      simp [i_between, a1, a2, andO_some]
    have e4 : cat o W[L[i]] = some (o ++ W[L[i]]) := cat_some _ _ (by unfold LIM; omega)
    simp only [i_EncodeWords_l1, hi, decide_true, cond_true, e1, Option.bind_some, e2, e3, Bool.not_true, cond_false, idx_lt W L[i] hk, e4, w64_nat i (by omega)]
    rw [ih (i + 1) N _ (by omega) (by omega) (by simp; omega) K, drop_cons L i hn]
    simp only [enc, List.getElem?_eq_getElem hk, Option.getD_some, List.append_assoc]
theorem enc_eq (N : Nat) (W : List Str) (hW : Cw W) (L : List Nat) (hL : ∀ k ∈ L, k < W.length) (hl : L.length ≤ 60) (ht : (enc W L).length ≤ 60) (hN : 200 < N) : i_EncodeWords N W (cast L) = some (enc W L, 0) := by
  have h1 := enc_l1 W hW L hL hl L.length 0 N [] (by omega) (by omega) (by simp)
  rw [show ((0 : Nat) : Int) = 0 from rfl] at h1
  have n1 : ¬ ((cast L).length : Int) > 60 := by simp [cast]; omega
  have n2 : ¬ ((enc W L).length : Int) > 60 := by omega
  unfold i_EncodeWords
  simp only [valid_eq N W hW (by omega), Option.bind_some, Bool.not_true, cond_false, n1, decide_false, withK_eq, h1, List.drop_zero, List.nil_append, n2]
theorem starts_eq (w u : Str) : strings_HasPrefix w u = some (pre u w) := by
  by_cases h : (w.length : Int) ≥ (u.length : Int)
  · have hs : sub w 0 (u.length : Int) = some (w.take u.length) := by rw [sub_some _ _ _ (by omega) (by omega) (by omega)]; simp
    unfold strings_HasPrefix stringslite_HasPrefix pre
    simp only [h, decide_true, andO_true, hs, Option.bind_some, Bool.true_and]
  · unfold strings_HasPrefix stringslite_HasPrefix pre
    simp only [h, decide_false, andO_false, Option.bind_some, Bool.false_and]
theorem pre_le {u s : Str} (h : pre u s = true) : u.length ≤ s.length := by
  have := congrArg List.length (pre_iff h)
  simp at this; omega
theorem sub_drop (t : Str) (i : Nat) (h : i ≤ t.length) : sub t (i : Int) (t.length : Int) = some (t.drop i) := by
  rw [sub_some _ _ _ (by omega) (by omega) (by omega)]
  simp only [Int.toNat_natCast]
  rw [List.take_of_length_le (by simp)]
theorem index_l1 (l : List Str) (s : Str) (hl : l.length ≤ 1000) : ∀ (n i N : Nat), i + n = l.length → n < N → ∃ r : Int, s_l17Index_l1 (some (-1)) l s N (i : Int) = some r ∧ (r < 0 → ∀ x ∈ l.drop i, x ≠ s) := by
  intro n
  induction n with
  | zero =>
    intro i N h1 h3
    obtain ⟨N, rfl⟩ := pos_fuel h3
    have hi : ¬ ((i : Int) < (l.length : Int)) := by omega
    have e2 : l.drop i = [] := List.drop_of_length_le (by omega)
    exact ⟨-1, by simp [s_l17Index_l1, hi], fun _ x hx => by rw [e2] at hx; simp at hx⟩
  | succ n ih =>
    intro i N h1 h3
    obtain ⟨N, rfl⟩ := pos_fuel h3
    have hi : (i : Int) < (l.length : Int) := by omega
    have hn : i < l.length := by omega
    obtain ⟨r, g1, g2⟩ := ih (i + 1) N (by omega) (by omega)
    cases hc : (l[i] == s)
    · refine ⟨r, by simp only [s_l17Index_l1, hi, decide_true, cond_true, idx_lt l i hn, Option.bind_some, hc, cond_false, w64_nat i (by omega), g1], fun h x hx => ?_⟩
      rw [drop_cons l i hn] at hx
      rcases List.mem_cons.1 hx with rfl | hx
      · intro e; rw [e] at hc; simp at hc
      · exact g2 h x hx
    · exact ⟨(i : Int), by simp only [s_l17Index_l1, hi, decide_true, cond_true, idx_lt l i hn, Option.bind_some, hc], fun h => by omega⟩
theorem index_eq (N : Nat) (l : List Str) (s : Str) (hl : l.length ≤ 1000) (hN : l.length < N) : ∃ r : Int, s_l17Index N l s = some r ∧ (r < 0 → s ∉ l) := by
  obtain ⟨r, h1, h2⟩ := index_l1 l s hl l.length 0 N (by omega) hN
  rw [show ((0 : Nat) : Int) = 0 from rfl] at h1
  rw [List.drop_zero] at h2
  exact ⟨r, by simpa [s_l17Index] using h1, fun h hm => h2 h s hm rfl⟩
theorem CDraw_l2 (code : List UInt8) : ∀ (k N : Nat) (s1 : L00Src) (at_ seed B : Int) (o : Str), s1.code = code → 0 ≤ at_ → at_ + 2 * k ≤ B → B < BIG → o.length + k ≤ 100 → (∀ c ∈ o, c = 97 ∨ c = 98) → k < N →
    ∃ a sd o', a ≤ B ∧ 0 ≤ a ∧ o'.length = o.length + k ∧ (∀ c ∈ o', c = 97 ∨ c = 98) ∧ ∀ K, s_l17Draw_l2 K s1 N at_ seed o (k : Int) = K a sd o' := by
  intro k
  induction k with
  | zero =>
    intro N s1 at_ seed B o hs h0 h2 h3 h4 hc h5
    obtain ⟨N, rfl⟩ := pos_fuel h5
    exact ⟨at_, seed, o, by omega, h0, by omega, hc, fun K => by simp [s_l17Draw_l2]⟩
  | succ k ih =>
    intro N s1 at_ seed B o hs h0 h2 h3 h4 hc h5
    obtain ⟨N, rfl⟩ := pos_fuel h5
    subst hs
    have hk : (((k + 1 : Nat) : Int) > 0) := by omega
    have hkk : w64 (((k + 1 : Nat) : Int) - 1) = (k : Int) := by rw [w64_id (by omega) (by omega)]; omega
    obtain ⟨v1, a1, s1', e1, b1, c1, d1, f1⟩ := pick_ok s1.code at_ seed 3 h0 (by omega)
    have f1 := f1 (by omega)
    have hx := idx_int ([97, 97, 98] : List UInt8) v1 d1 (by simpa using f1)
    have ea : ∀ x : UInt8, app o [x] = some (o ++ [x]) := fun x => app_some _ _ (by simp; unfold LIM; omega)
    have hm := List.getElem_mem (l := ([97, 97, 98] : List UInt8)) (n := v1.toNat) (by simp; omega)
    obtain ⟨a', sd', o', i1, i2, i3, i4, i5⟩ := ih N s1 a1 s1' B (o ++ [([97, 97, 98] : List UInt8)[v1.toNat]'(by simp; omega)]) rfl (by omega) (by omega) h3 (by simp; omega) (fun c h => by
      rcases List.mem_append.1 h with h | h
      · exact hc c h
      · simp only [List.mem_cons, List.not_mem_nil, or_false] at h
        rw [h]
        simp only [List.mem_cons, List.not_mem_nil, or_false] at hm
        rcases hm with hm | hm | hm <;> rw [hm] <;> simp) (by omega)
    refine ⟨a', sd', o', i1, i2, by rw [i3]; simp; omega, i4, fun K => ?_⟩
    simp only [s_l17Draw_l2, hk, decide_true, cond_true, e1, Option.bind_some, hx, ea, hkk]
    exact i5 K
theorem CDraw_l1 (code : List UInt8) : ∀ (k N : Nat) (s1 : L00Src) (at_ seed B : Int) (l : List Str), s1.code = code → 0 ≤ at_ → at_ + 20 * k ≤ B → B < BIG → l.length + k ≤ 5 → Cw l → k + 100 < N →
    ∃ a sd l', a ≤ B ∧ 0 ≤ a ∧ Cw l' ∧ ∀ K, s_l17Draw_l1 K s1 N at_ seed l (k : Int) = K a sd l' := by
  intro k
  induction k with
  | zero =>
    intro N s1 at_ seed B l hs h0 h1 h2 h3 hl h4
    obtain ⟨N, rfl⟩ := pos_fuel (by omega : 0 < N)
    exact ⟨at_, seed, l, by omega, h0, hl, fun K => by simp [s_l17Draw_l1]⟩
  | succ k ih =>
    intro N s1 at_ seed B l hs h0 h1 h2 h3 hl h4
    obtain ⟨N, rfl⟩ := pos_fuel (by omega : 0 < N)
    subst hs
    have hk : (((k + 1 : Nat) : Int) > 0) := by omega
    have hkk : w64 (((k + 1 : Nat) : Int) - 1) = (k : Int) := by rw [w64_id (by omega) (by omega)]; omega
    obtain ⟨v1, a1, s1', e1, b1, c1, d1, f1⟩ := pick_ok s1.code at_ seed 4 h0 (by omega)
    have f1 := f1 (by omega)
    obtain ⟨q, hq⟩ := Int.eq_ofNat_of_zero_le (by omega : 0 ≤ 1 + v1)
    have ew : w64 (q : Int) = (q : Int) := w64_id (by omega) (by omega)
    obtain ⟨a2, s2, o, i1, i2, i3, i4, i5⟩ := CDraw_l2 s1.code q N s1 a1 s1' (a1 + 10) [] rfl (by omega) (by omega) (by omega) (by simp; omega) (by simp) (by omega)
    simp only [List.length_nil, Nat.zero_add] at i3
    obtain ⟨x, x1, x2⟩ := index_eq N l o (by omega) (by omega)
    have eb : app l [o] = some (l ++ [o]) := app_some _ _ (by simp; unfold LIM; omega)
    by_cases g : x < 0
    · have hno := x2 g
      have hl' : Cw (l ++ [o]) := by
        refine ⟨by simp; omega, fun w hw => ?_, fun i j hi hj e => ?_⟩
        · rcases List.mem_append.1 hw with hw | hw
          · exact hl.word w hw
          · simp at hw; subst hw; exact ⟨by omega, by omega, i4⟩
        · simp only [List.length_append, List.length_cons, List.length_nil] at hi hj
          rw [List.getElem_append, List.getElem_append] at e
          split at e
          · split at e
            · exact hl.dst i j _ _ e
            · simp at e
              exact absurd (e ▸ List.getElem_mem _) hno
          · split at e
            · simp at e
              exact absurd (e ▸ List.getElem_mem _) hno
            · omega
      obtain ⟨a', sd', l', j1, j2, j3, j4⟩ := ih N s1 a2 s2 B (l ++ [o]) rfl (by omega) (by omega) h2 (by simp; omega) hl' (by omega)
      refine ⟨a', sd', l', j1, j2, j3, fun K => ?_⟩
      simp only [s_l17Draw_l1, hk, decide_true, cond_true, withK_eq, e1, Option.bind_some, hq, ew]
      rw [i5]
      simp only [x1, Option.bind_some, g, decide_true, cond_true, eb, hkk]
      exact j4 K
    · obtain ⟨a', sd', l', j1, j2, j3, j4⟩ := ih N s1 a2 s2 B l rfl (by omega) (by omega) h2 (by omega) hl (by omega)
      refine ⟨a', sd', l', j1, j2, j3, fun K => ?_⟩
      simp only [s_l17Draw_l1, hk, decide_true, cond_true, withK_eq, e1, Option.bind_some, hq, ew]
      rw [i5]
      simp only [x1, Option.bind_some, g, decide_false, cond_false, hkk]
      exact j4 K
theorem Code_ok (code : List UInt8) (N : Nat) (hN : 1000 < N) : ∃ W, s_A2Code N code = some W ∧ Cw W := by
  have hb : BIG = 1152921504606846976 := rfl
  obtain ⟨v, a1, s1, e1, b1, c1, d1, f1⟩ := pick_ok code 0 0 6 (by omega) (by omega)
  have f1 := f1 (by omega)
  obtain ⟨k, rfl⟩ := Int.eq_ofNat_of_zero_le d1
  obtain ⟨a, sd, l, i1, i2, i3, i4⟩ := CDraw_l1 code k N ⟨code, 0, 0⟩ a1 s1 1000 [] rfl (by omega) (by omega) (by omega) (by simp; omega) ⟨by simp, fun w hw => by simp at hw, fun i j hi => by simp at hi⟩ (by omega)
  refine ⟨l, ?_, i3⟩
  simp only [s_A2Code, s_l00From, Option.bind_some, s_l17Draw, withK_eq, e1]
  rw [i4]; rfl
theorem Ind_l1 (code : List UInt8) (n : Nat) (hn : 0 < n) (hn2 : n ≤ 100) : ∀ (k N : Nat) (at_ seed B : Int) (L : List Nat), 0 ≤ at_ → at_ + 2 * k ≤ B → B < BIG → L.length + k ≤ 8 → (∀ x ∈ L, x < n) → k < N →
    ∃ L' : List Nat, L'.length ≤ 8 ∧ (∀ x ∈ L', x < n) ∧ ∀ K, s_A2Indices_l1 K code (n : Int) N at_ seed (cast L) (k : Int) = K (cast L') := by
  intro k
  induction k with
  | zero =>
    intro N at_ seed B L h0 h2 h3 h4 hc h5
    obtain ⟨N, rfl⟩ := pos_fuel h5
    exact ⟨L, by omega, hc, fun K => by simp [s_A2Indices_l1, andO_some]⟩
  | succ k ih =>
    intro N at_ seed B L h0 h2 h3 h4 hc h5
    obtain ⟨N, rfl⟩ := pos_fuel h5
    have hk : (((k + 1 : Nat) : Int) > 0) := by omega
    have hnn : ((n : Int) > 0) := by omega
    have hkk : w64 (((k + 1 : Nat) : Int) - 1) = (k : Int) := by rw [w64_id (by omega) (by omega)]; omega
    obtain ⟨v1, a1, s1', e1, b1, c1, d1, f1⟩ := pick_ok code at_ seed (n : Int) h0 (by omega)
    have f1 := f1 (by omega)
    obtain ⟨q, rfl⟩ := Int.eq_ofNat_of_zero_le d1
    have ea : app (cast L) [(q : Int)] = some (cast (L ++ [q])) := by
      rw [app_some _ _ (by simp [cast]; unfold LIM; omega)]; simp [cast]
    obtain ⟨L', i1, i2, i3⟩ := ih N a1 s1' B (L ++ [q]) (by omega) (by omega) h3 (by simp; omega) (fun x hx => by
      rcases List.mem_append.1 hx with hx | hx
      · exact hc x hx
      · simp at hx; omega) (by omega)
    refine ⟨L', i1, i2, fun K => ?_⟩
    simp only [s_A2Indices_l1, hk, hnn, decide_true, andO_some, Bool.and_self, Option.bind_some, cond_true, e1, ea, hkk]
    exact i3 K
theorem Ind_ok (code : List UInt8) (n N : Nat) (hn2 : n ≤ 100) (hN : 1000 < N) : ∃ L : List Nat, s_A2Indices N code (n : Int) = some (cast L) ∧ L.length ≤ 8 ∧ ∀ x ∈ L, x < n := by
  have hb : BIG = 1152921504606846976 := rfl
  obtain ⟨v, a1, s1, e1, b1, c1, d1, f1⟩ := pick_ok code 0 0 9 (by omega) (by omega)
  have f1 := f1 (by omega)
  obtain ⟨k, rfl⟩ := Int.eq_ofNat_of_zero_le d1
  by_cases h : 0 < n
  · obtain ⟨L, i1, i2, i3⟩ := Ind_l1 code n h hn2 k N a1 s1 1000 [] (by omega) (by omega) (by omega) (by simp; omega) (by simp) (by omega)
    refine ⟨L, ?_, i1, i2⟩
    simp only [s_A2Indices, s_l00From, Option.bind_some, withK_eq, e1]
    exact i3 _
  · obtain ⟨M, rfl⟩ := pos_fuel (by omega : 0 < N)
    have hnn : ¬ ((n : Int) > 0) := by omega
    refine ⟨[], ?_, by simp, fun x hx => by simp at hx⟩
    simp only [s_A2Indices, s_l00From, Option.bind_some, withK_eq, e1, s_A2Indices_l1, hnn, decide_false, andO_some, Bool.and_false, cond_false]
    rfl
end Go.Proofs.Ytacdadfaialbpaa
