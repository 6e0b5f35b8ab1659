/-
  Plain lemmas on these functions. No conditions but those that each states.
-/
import Derived.Test.YtoojddajhalimaaFnReadingsP2
namespace Go.Proofs.Ytoojddajhalimaa
set_option linter.unusedVariables false
set_option linter.unusedSimpArgs false
theorem mget_mset (l : List (Str × Bool)) (k s : Str) : mget (mset l k true) s = (s == k || mget l s) := by
  induction l with
  | nil => simp only [mset, mget]; cases s == k <;> rfl
  | cons p r ih =>
    obtain ⟨a, b⟩ := p
    simp only [mset]
    by_cases h : k = a
    · subst h; simp only [beq_self_eq_true, cond_true, mget]; cases s == k <;> rfl
    · have : (k == a) = false := by simpa using h
      simp only [this, cond_false, mget]
      by_cases h2 : s = a
      · subst h2
        have : (s == k) = false := by simp; exact fun e => h e.symm
        simp [this]
      · have : (s == a) = false := by simpa using h2
        simp only [this, cond_false]; exact ih
/-- the words of a drawn code -/
structure Cw (W : List Str) : Prop where
  len : W.length ≤ 5
  word : ∀ w ∈ W, 1 ≤ w.length ∧ w.length ≤ 4 ∧ ∀ c ∈ w, c = 97 ∨ c = 98
  dst : ∀ (i j : Nat) (hi : i < W.length) (hj : j < W.length), W[i] = W[j] → i = j
theorem text33_l1 (s : Str) (hl : s.length ≤ 1000) (hs : ∀ c ∈ s, c = 97 ∨ c = 98) : ∀ (n i N : Nat), i + n = s.length → n < N → ∀ K, i_isText_l1 K s 33 N (i : Int) = K := by
  intro n
  induction n with
  | zero =>
    intro i N h1 h3 K
    obtain ⟨N, rfl⟩ := pos_fuel h3
    have hi : ¬ ((i : Int) < (s.length : Int)) := by omega
    simp [i_isText_l1, hi]
  | succ n ih =>
    intro i N h1 h3 K
    obtain ⟨N, rfl⟩ := pos_fuel h3
    have hi : (i : Int) < (s.length : Int) := by omega
    have hn : i < s.length := by omega
    have hc : (decide (s[i] < 33) || decide (s[i] > 126)) = false := by
      rcases hs _ (List.getElem_mem hn) with h | h <;> rw [h] <;> decide
    simp only [i_isText_l1, hi, decide_true, cond_true, idx_lt s i hn, Option.bind_some, orO_some, hc, cond_false, w64_nat i (by omega)]
    exact ih (i + 1) N (by omega) (by omega) K
theorem text33_eq (N : Nat) (s : Str) (m : Int) (hl : s.length ≤ 1000) (hm : (s.length : Int) ≤ m) (hs : ∀ c ∈ s, c = 97 ∨ c = 98) (hN : s.length < N) : i_isText N s 33 m = some true := by
  have h : ¬ (s.length : Int) > m := by omega
  have := text33_l1 s hl hs s.length 0 N (by omega) hN (some true)
  rw [show ((0 : Nat) : Int) = 0 from rfl] at this
  unfold i_isText
  simp only [h, decide_false, cond_false, withK_eq, this]
theorem valid_l1 (W : List Str) (hW : Cw W) : ∀ (n i N : Nat) (mp : List (Str × Bool)), i + n = W.length → n + 20 < N → (∀ s, mget mp s = (W.take i).any (· == s)) → ∀ K, i_ValidCode_l1 K W N mp (i : Int) = K := by
  have hl := hW.len
  intro n
  induction n with
  | zero =>
    intro i N mp h1 h3 _ K
    obtain ⟨N, rfl⟩ := pos_fuel (by omega : 0 < N)
    have hi : ¬ ((i : Int) < (W.length : Int)) := by omega
    simp [i_ValidCode_l1, hi]
  | succ n ih =>
    intro i N mp h1 h3 hmp K
    obtain ⟨N, rfl⟩ := pos_fuel (by omega : 0 < N)
    have hi : (i : Int) < (W.length : Int) := by omega
    have hn : i < W.length := by omega
    obtain ⟨w1, w2, w3⟩ := hW.word _ (List.getElem_mem hn)
    have hmp' : ∀ s, mget (mset mp W[i] true) s = (W.take (i + 1)).any (· == s) := fun s => by
      rw [mget_mset, hmp, List.take_succ_eq_append_getElem hn, List.any_append]
      simp only [List.any_cons, List.any_nil, Bool.or_false]
      rw [Bool.or_comm]
      congr 1
      rw [Bool.eq_iff_iff, beq_iff_eq, beq_iff_eq]; exact eq_comm
    have hd : (W.take i).any (· == W[i]) = false := by
      rw [List.any_eq_false]
      intro x hx
      obtain ⟨k, hk, rfl⟩ := List.getElem_of_mem hx
      simp only [List.length_take] at hk
      rw [List.getElem_take]
      intro he
      have := hW.dst k i (by omega) hn (eq_of_beq he)
      omega
    have ht := text33_eq N W[i] 8 (by omega) (by omega) w3 (by omega)
    have hne : (W[i] == ([] : List UInt8)) = false := by
      have : W[i] ≠ [] := fun e => by rw [e] at w1; simp at w1
      simpa using this
    simp only [i_ValidCode_l1, hi, decide_true, cond_true, idx_lt W i hn, Option.bind_some, hne, ht, orO_some, Bool.not_true, Bool.or_self, hmp W[i], hd, cond_false, w64_nat i (by omega)]
    exact ih (i + 1) N _ (by omega) (by omega) hmp' K
theorem valid_eq (N : Nat) (W : List Str) (hW : Cw W) (hN : 40 < N) : i_ValidCode N W = some true := by
  have hl := hW.len
  have := valid_l1 W hW W.length 0 N [] (by omega) (by omega) (fun s => rfl) (some (decide ((W.length : Int) ≤ 10)))
  rw [show ((0 : Nat) : Int) = 0 from rfl] at this
  unfold i_ValidCode
  simp only [withK_eq, this]
  simp; omega
theorem Cw.ne {W : List Str} (hW : Cw W) : ∀ w ∈ W, w ≠ [] := fun w hw e => by
  have := (hW.word w hw).1; rw [e] at this; simp at this
theorem enc_len {W : List Str} (hW : Cw W) : ∀ (L : List Nat), (enc W L).length ≤ 4 * L.length ∧ ∀ c ∈ enc W L, c = 97 ∨ c = 98
  | [] => ⟨by simp [enc], fun c h => by simp [enc] at h⟩
  | k :: L => by
    obtain ⟨h1, h2⟩ := enc_len hW L
    by_cases hk : k < W.length
    · obtain ⟨w1, w2, w3⟩ := hW.word _ (List.getElem_mem hk)
      simp only [enc, List.getElem?_eq_getElem hk, Option.getD_some, List.length_append, List.length_cons]
      refine ⟨by omega, fun c hc => ?_⟩
      rcases List.mem_append.1 hc with hc | hc
      · exact w3 c hc
      · exact h2 c hc
    · simp only [enc, List.getElem?_eq_none (Nat.le_of_not_lt hk), Option.getD_none, List.nil_append, List.length_cons]
      exact ⟨by omega, h2⟩
theorem Rd_len {W : List Str} (hW : Cw W) : ∀ (L : List Nat) (s : Str), Rd W L s → L.length ≤ s.length
  | [], s, _ => by simp
  | k :: L, s, ⟨hk, hp, hr⟩ => by
    have h1 := Rd_len hW L _ hr
    have h2 := (hW.word _ (List.getElem_mem hk)).1
    have h3 := congrArg List.length (pre_iff hp)
    simp only [List.length_append, List.length_drop] at h1 h3
    simp only [List.length_cons]
    omega
def cast (L : List Nat) : List Int := L.map fun (k : Nat) => (k : Int)
theorem enc_l1 (W : List Str) (hW : Cw W) (L : List Nat) (hL : ∀ k ∈ L, k < W.length) (hl : L.length ≤ 60) : ∀ (n i N : Nat) (o : Str), i + n = L.length → n < N → o.length ≤ 4 * i → ∀ K, i_EncodeWords_l1 K W (cast L) N o (i : Int) = K (o ++ enc W (L.drop i)) := by
  have hcl : (cast L).length = L.length := by simp [cast]
  have hwl := hW.len
  intro n
  induction n with
  | zero =>
    intro i N o h1 h3 ho K
    obtain ⟨N, rfl⟩ := pos_fuel h3
    have hi : ¬ ((i : Int) < ((cast L).length : Int)) := by omega
    have e2 : L.drop i = [] := List.drop_of_length_le (by omega)
    simp [i_EncodeWords_l1, hi, e2, enc]
  | succ n ih =>
    intro i N o h1 h3 ho K
    obtain ⟨N, rfl⟩ := pos_fuel h3
    have hi : (i : Int) < ((cast L).length : Int) := by omega
    have hn : i < L.length := by omega
    have hk := hL _ (List.getElem_mem hn)
    have e1 : idx (cast L) (i : Int) = some (L[i] : Int) := by rw [idx_lt _ i (by omega)]; simp [cast]
    obtain ⟨w1, w2, _⟩ := hW.word _ (List.getElem_mem hk)
    have e2 : w64 ((W.length : Int) - 1) = (W.length : Int) - 1 := w64_id (by omega) (by omega)
    have e3 : i_between (L[i] : Int) 0 ((W.length : Int) - 1) = some true := by
      have a1 : (L[i] : Int) ≥ 0 := by omega
      have a2 : (L[i] : Int) ≤ (W.length : Int) - 1 := by omega
      simp [i_between, a1, a2, andO_some]
    have e4 : cat o W[L[i]] = some (o ++ W[L[i]]) := cat_some _ _ (by unfold LIM; omega)
    simp only [i_EncodeWords_l1, hi, decide_true, cond_true, e1, Option.bind_some, e2, e3, Bool.not_true, cond_false, idx_lt W L[i] hk, e4, w64_nat i (by omega)]
    rw [ih (i + 1) N _ (by omega) (by omega) (by simp; omega) K, drop_cons L i hn]
    simp only [enc, List.getElem?_eq_getElem hk, Option.getD_some, List.append_assoc]
theorem enc_eq (N : Nat) (W : List Str) (hW : Cw W) (L : List Nat) (hL : ∀ k ∈ L, k < W.length) (hl : L.length ≤ 60) (ht : (enc W L).length ≤ 60) (hN : 200 < N) : i_EncodeWords N W (cast L) = some (enc W L, 0) := by
  have h1 := enc_l1 W hW L hL hl L.length 0 N [] (by omega) (by omega) (by simp)
  rw [show ((0 : Nat) : Int) = 0 from rfl] at h1
  have n1 : ¬ ((cast L).length : Int) > 60 := by simp [cast]; omega
  have n2 : ¬ ((enc W L).length : Int) > 60 := by omega
  unfold i_EncodeWords
  simp only [valid_eq N W hW (by omega), Option.bind_some, Bool.not_true, cond_false, n1, decide_false, withK_eq, h1, List.drop_zero, List.nil_append, n2]
theorem starts_eq (w u : Str) : strings_HasPrefix w u = some (pre u w) := by
  by_cases h : (w.length : Int) ≥ (u.length : Int)
  · have hs : sub w 0 (u.length : Int) = some (w.take u.length) := by rw [sub_some _ _ _ (by omega) (by omega) (by omega)]; simp
    unfold strings_HasPrefix stringslite_HasPrefix pre
    simp only [h, decide_true, andO_true, hs, Option.bind_some, Bool.true_and]
  · unfold strings_HasPrefix stringslite_HasPrefix pre
    simp only [h, decide_false, andO_false, Option.bind_some, Bool.false_and]
theorem pre_le {u s : Str} (h : pre u s = true) : u.length ≤ s.length := by
  have := congrArg List.length (pre_iff h)
  simp at this; omega
theorem sub_drop (t : Str) (i : Nat) (h : i ≤ t.length) : sub t (i : Int) (t.length : Int) = some (t.drop i) := by
  rw [sub_some _ _ _ (by omega) (by omega) (by omega)]
  simp only [Int.toNat_natCast]
  rw [List.take_of_length_le (by simp)]
/-- from place i on the table tells the least numbers -/
def Tb (W : List Str) (t : Str) (l : List Int) (i : Nat) : Prop := l.length = t.length + 1 ∧ ∀ j, i ≤ j → ∀ h : j < l.length, Isf W (t.drop j) l[j]
theorem Isf_bound {W : List Str} (hW : Cw W) {s : Str} {v : Int} (h : Isf W s v) : -1 ≤ v ∧ v ≤ s.length := by
  rcases h with ⟨h, _⟩ | ⟨h, ⟨L, h1, h2⟩, _⟩
  · omega
  · have := Rd_len hW L s h1; omega
theorem few_l2 (W : List Str) (hW : Cw W) (t : Str) (ht : t.length ≤ 1000) (i : Nat) (hi : i < t.length) : ∀ (n k N : Nat) (l : List Int), k + n = W.length → n < N → l.length = t.length + 1 → (∀ j, i < j → ∀ h : j < l.length, Isf W (t.drop j) l[j]) → (∀ h : i < l.length, IsfK W k (t.drop i) l[i]) →
    ∃ l', Tb W t l' i ∧ ∀ K, i_fewest_l2 K W t (i : Int) N l (k : Int) = K l' := by
  have hwl := hW.len
  intro n
  induction n with
  | zero =>
    intro k N l h1 h3 hl hj hk
    obtain ⟨N, rfl⟩ := pos_fuel h3
    have hn : ¬ ((k : Int) < (W.length : Int)) := by omega
    refine ⟨l, ⟨hl, fun j hij h => ?_⟩, fun K => by simp [i_fewest_l2, hn]⟩
    by_cases e : j = i
    · subst e
      have := hk h
      have ek : k = W.length := by omega
      rw [ek] at this
      exact Isf_full this (fun e => by have := congrArg List.length e; simp at this; omega)
    · exact hj j (by omega) h
  | succ n ih =>
    intro k N l h1 h3 hl hj hk
    obtain ⟨N, rfl⟩ := pos_fuel h3
    have hn : (k : Int) < (W.length : Int) := by omega
    have hkn : k < W.length := by omega
    have hil : i < l.length := by omega
    obtain ⟨w1, w2, _⟩ := hW.word _ (List.getElem_mem hkn)
    have hs := sub_drop t i (by omega)
    cases hp : pre W[k] (t.drop i)
    · obtain ⟨l', g1, g2⟩ := ih (k + 1) N l (by omega) (by omega) hl hj (fun h => IsfK_skip (hk h) (fun L ⟨_, hp', _⟩ => by rw [hp] at hp'; cases hp'))
      refine ⟨l', g1, fun K => ?_⟩
      simp only [i_fewest_l2, hn, decide_true, cond_true, withK_eq, idx_lt W k hkn, Option.bind_some, hs, starts_eq, hp, Bool.not_false, orO_true, w64_nat k (by omega)]
      exact g2 K
    · have hle := pre_le hp
      simp only [List.length_drop] at hle
      have ew : w64 ((i : Int) + ((W[k]).length : Int)) = ((i + (W[k]).length : Nat) : Int) := by rw [w64_id (by omega) (by omega)]; omega
      have hjl : i + (W[k]).length < l.length := by omega
      have hf := hj (i + (W[k]).length) (by omega) hjl
      have hb := Isf_bound hW hf
      simp only [List.length_drop] at hb
      have hf' : Isf W ((t.drop i).drop (W[k]).length) (l[i + (W[k]).length]) := by rw [List.drop_drop]; exact hf
      by_cases f0 : l[i + (W[k]).length] < 0
      · obtain ⟨l', g1, g2⟩ := ih (k + 1) N l (by omega) (by omega) hl hj (fun h => IsfK_skip (hk h) (fun L ⟨_, _, hr⟩ => by
          rcases hf' with ⟨_, h2⟩ | ⟨h2, _⟩
          · exact h2 L hr
          · omega))
        refine ⟨l', g1, fun K => ?_⟩
        simp only [i_fewest_l2, hn, decide_true, cond_true, withK_eq, idx_lt W k hkn, Option.bind_some, hs, starts_eq, hp, Bool.not_true, orO_false, ew, idx_lt l _ hjl, f0, w64_nat k (by omega)]
        exact g2 K
      · have hk' := IsfK_take (hk hil) hkn hp hf' (by omega)
        have ewf : w64 (l[i + (W[k]).length] + 1) = l[i + (W[k]).length] + 1 := w64_id (by omega) (by omega)
        by_cases hc : l[i] < 0 ∨ l[i + (W[k]).length] + 1 < l[i]
        · rw [if_pos hc] at hk'
          obtain ⟨l', g1, g2⟩ := ih (k + 1) N (l.set i (l[i + (W[k]).length] + 1)) (by omega) (by omega) (by simpa using hl) (fun j hij h => by
            rw [List.getElem_set_ne (by omega)]; exact hj j hij (by simpa using h)) (fun h => by rw [List.getElem_set_self]; exact hk')
          refine ⟨l', g1, fun K => ?_⟩
          have hcb : (decide (l[i] < 0) || decide (l[i + (W[k]).length] + 1 < l[i])) = true := by simpa using hc
          simp only [i_fewest_l2, hn, decide_true, cond_true, withK_eq, idx_lt W k hkn, Option.bind_some, hs, starts_eq, hp, Bool.not_true, orO_false, ew, idx_lt l _ hjl, f0, decide_false, cond_false, idx_lt l i hil, ewf, orO_some, hcb, Int.toNat_natCast, w64_nat k (by omega)]
          exact g2 K
        · rw [if_neg hc] at hk'
          obtain ⟨l', g1, g2⟩ := ih (k + 1) N l (by omega) (by omega) hl hj (fun h => hk')
          refine ⟨l', g1, fun K => ?_⟩
          have hcb : (decide (l[i] < 0) || decide (l[i + (W[k]).length] + 1 < l[i])) = false := by
            rw [← Bool.not_eq_true]; simpa using hc
          simp only [i_fewest_l2, hn, decide_true, cond_true, withK_eq, idx_lt W k hkn, Option.bind_some, hs, starts_eq, hp, Bool.not_true, orO_false, ew, idx_lt l _ hjl, f0, decide_false, cond_false, idx_lt l i hil, ewf, orO_some, hcb, w64_nat k (by omega)]
          exact g2 K
theorem few_l1 (W : List Str) (hW : Cw W) (t : Str) (ht : t.length ≤ 1000) : ∀ (n N : Nat) (l : List Int), n ≤ t.length → n + 100 < N → Tb W t l n → ∃ l', Tb W t l' 0 ∧ ∀ K, i_fewest_l1 K W t N l ((n : Int) - 1) = K l' := by
  have hwl := hW.len
  intro n
  induction n with
  | zero =>
    intro N l _ h3 hl
    obtain ⟨N, rfl⟩ := pos_fuel (by omega : 0 < N)
    exact ⟨l, hl, fun K => by simp [i_fewest_l1]⟩
  | succ n ih =>
    intro N l h1 h3 hl
    obtain ⟨N, rfl⟩ := pos_fuel (by omega : 0 < N)
    have hll := hl.1
    have hi : ((n : Int)) ≥ 0 := by omega
    have e1 : (((n + 1 : Nat) : Int) - 1) = (n : Int) := by omega
    have hx := idx_lt l n (by omega)
    obtain ⟨l1, g1, g2⟩ := few_l2 W hW t ht n (by omega) W.length 0 N (l.set n (-1)) (by omega) (by omega) (by simpa using hll) (fun j hj h => by
      rw [List.getElem_set_ne (by omega)]; exact hl.2 j (by omega) (by simpa using h)) (fun h => by rw [List.getElem_set_self]; exact IsfK_zero _ _)
    obtain ⟨l', f1, f2⟩ := ih N l1 (by omega) (by omega) g1
    rw [show ((0 : Nat) : Int) = 0 from rfl] at g2
    refine ⟨l', f1, fun K => ?_⟩
    rw [e1]
    have ew : w64 ((n : Int) - 1) = (n : Int) - 1 := w64_id (by omega) (by omega)
    simp only [i_fewest_l1, hi, decide_true, cond_true, withK_eq, hx, Option.bind_some, Int.toNat_natCast, ew]
    rw [g2]
    exact f2 K
theorem few_eq (N : Nat) (W : List Str) (hW : Cw W) (t : Str) (ht : t.length ≤ 1000) (hN : 1200 < N) : ∃ l, Tb W t l 0 ∧ i_fewest N W t = some l := by
  have e1 : w64 ((t.length : Int) + 1) = ((t.length + 1 : Nat) : Int) := by rw [w64_id (by omega) (by omega)]; omega
  have e2 : w64 ((t.length : Int) - 1) = (t.length : Int) - 1 := w64_id (by omega) (by omega)
  have hm := mk_some (t.length + 1) (0 : Int) (by unfold LIM; omega)
  obtain ⟨l, g1, g2⟩ := few_l1 W hW t ht t.length N (List.replicate (t.length + 1) 0) (Nat.le_refl _) (by omega) ⟨by simp, fun j hj h => by
    have ej : j = t.length := by simp at h; omega
    subst ej
    rw [List.drop_of_length_le (Nat.le_refl _)]
    simp only [List.getElem_replicate]
    exact Isf_nil W hW.ne⟩
  refine ⟨l, g1, ?_⟩
  unfold i_fewest
  simp only [e1, hm, Option.bind_some, withK_eq, e2, g2]
end Go.Proofs.Ytoojddajhalimaa
