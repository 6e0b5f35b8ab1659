/-
  Plain lemmas on these functions. No conditions but those that each states.
-/
import Derived.Test.YtacdadfaialbpaaFnCodesP4
namespace Go.Proofs.Ytacdadfaialbpaa
set_option linter.unusedVariables false
set_option linter.unusedSimpArgs false
theorem nodup_sub {α : Type} [BEq α] [LawfulBEq α] : ∀ (l S : List α), l.Nodup → (∀ x ∈ l, x ∈ S) → l.length ≤ S.length
  | [], S, _, _ => Nat.zero_le _
  | a :: l, S, h, hs => by
    have h1 := List.nodup_cons.1 h
    have h2 : a ∈ S := hs a (by simp)
    have h3 := nodup_sub l (S.erase a) h1.2 (fun x hx => by
      have hne : x ≠ a := fun e => h1.1 (e ▸ hx)
      exact (List.mem_erase_of_ne hne).2 (hs x (by simp [hx])))
    rw [List.length_erase_of_mem h2] at h3
    have h4 : 0 < S.length := List.length_pos_of_mem h2
    simp only [List.length_cons]
    omega
/-- what follows where a word is put behind the shorter reading -/
def aft (a : Ambiguity) (w : Str) : Option Ambiguity :=
  if pre w a.rest = true then some ⟨a.text, a.rest.drop w.length⟩
  else if pre a.rest w = true then some ⟨a.text ++ w.drop a.rest.length, w.drop a.rest.length⟩ else none
def frK (i : Nat) (u : Str) : List Str → Nat → List Ambiguity
  | [], _ => []
  | v :: L, k => (if i ≠ k ∧ pre u v = true then [⟨v, v.drop u.length⟩] else []) ++ frK i u L (k + 1)
def frO (W : List Str) : List Str → Nat → List Ambiguity
  | [], _ => []
  | u :: L, i => frK i u W 0 ++ frO W L (i + 1)
theorem frK_mem (i : Nat) (u : Str) (a : Ambiguity) : ∀ (L : List Str) (k : Nat), a ∈ frK i u L k ↔ ∃ (j : Nat) (h : j < L.length), i ≠ k + j ∧ pre u L[j] = true ∧ a = ⟨L[j], L[j].drop u.length⟩
  | [], k => by simp [frK]
  | v :: L, k => by
    have ih := frK_mem i u a L (k + 1)
    simp only [frK, List.mem_append, ih]
    constructor
    · rintro (h | ⟨j, h, h1, h2, h3⟩)
      · split at h
        · rename_i hc
          simp only [List.mem_singleton] at h
          exact ⟨0, by simp, by simpa using hc.1, by simpa using hc.2, by simpa using h⟩
        · cases h
      · exact ⟨j + 1, by simpa using h, by omega, by simpa using h2, by simpa using h3⟩
    · rintro ⟨j, h, h1, h2, h3⟩
      cases j with
      | zero =>
        left
        simp only [List.getElem_cons_zero] at h2 h3
        rw [if_pos ⟨by simpa using h1, h2⟩, h3]
        simp
      | succ j =>
        right
        simp only [List.getElem_cons_succ] at h2 h3
        exact ⟨j, by simpa using h, by omega, h2, h3⟩
theorem frK_len (i : Nat) (u : Str) : ∀ (L : List Str) (k : Nat), (frK i u L k).length ≤ L.length
  | [], k => by simp [frK]
  | v :: L, k => by
    have ih := frK_len i u L (k + 1)
    simp only [frK, List.length_append, List.length_cons]
    split <;> simp <;> omega
theorem frO_mem (W : List Str) (a : Ambiguity) : ∀ (L : List Str) (i : Nat), a ∈ frO W L i ↔ ∃ (j : Nat) (h : j < L.length), a ∈ frK (i + j) L[j] W 0
  | [], i => by simp [frO]
  | u :: L, i => by
    have ih := frO_mem W a L (i + 1)
    simp only [frO, List.mem_append, ih]
    constructor
    · rintro (h | ⟨j, h, h1⟩)
      · exact ⟨0, by simp, by simpa using h⟩
      · exact ⟨j + 1, by simpa using h, by have : i + 1 + j = i + (j + 1) := by omega
                                           rw [this] at h1; simpa using h1⟩
    · rintro ⟨j, h, h1⟩
      cases j with
      | zero => exact .inl (by simpa using h1)
      | succ j =>
        refine .inr ⟨j, by simpa using h, ?_⟩
        have : i + (j + 1) = i + 1 + j := by omega
        rw [this] at h1; simpa using h1
theorem frO_len (W : List Str) : ∀ (L : List Str) (i : Nat), (frO W L i).length ≤ L.length * W.length
  | [], i => by simp [frO]
  | u :: L, i => by
    have ih := frO_len W L (i + 1)
    have h := frK_len i u W 0
    simp only [frO, List.length_append, List.length_cons, Nat.succ_mul]
    omega
def fR (W : List Str) : List Ambiguity := frO W W 0
theorem fR_mem (W : List Str) (a : Ambiguity) : a ∈ fR W ↔ ∃ (i k : Nat) (hi : i < W.length) (hk : k < W.length), i ≠ k ∧ pre W[i] W[k] = true ∧ a = ⟨W[k], W[k].drop W[i].length⟩ := by
  unfold fR
  rw [frO_mem]
  constructor
  · rintro ⟨i, hi, h⟩
    rw [frK_mem] at h
    obtain ⟨k, hk, h1, h2, h3⟩ := h
    exact ⟨i, k, hi, hk, by omega, h2, h3⟩
  · rintro ⟨i, k, hi, hk, h1, h2, h3⟩
    refine ⟨i, hi, ?_⟩
    rw [frK_mem]
    exact ⟨k, hk, by omega, h2, h3⟩
theorem fr_l2 (W : List Str) (hW : Cw W) (i : Nat) (hi : i < W.length) : ∀ (n k N : Nat) (o : List Ambiguity), k + n = W.length → n < N → o.length + n ≤ 1000 → ∀ K, i_firstRests_l2 K W (i : Int) W[i] N o (k : Int) = K (o ++ frK i W[i] (W.drop k) k) := by
  have hwl := hW.len
  intro n
  induction n with
  | zero =>
    intro k N o h1 h3 ho K
    obtain ⟨N, rfl⟩ := pos_fuel h3
    have hn : ¬ ((k : Int) < (W.length : Int)) := by omega
    have e2 : W.drop k = [] := List.drop_of_length_le (by omega)
    simp [i_firstRests_l2, hn, e2, frK]
  | succ n ih =>
    intro k N o h1 h3 ho K
    obtain ⟨N, rfl⟩ := pos_fuel h3
    have hn : (k : Int) < (W.length : Int) := by omega
    have hkn : k < W.length := by omega
    have hne : (((i : Int)) != (k : Int)) = decide (i ≠ k) := by
      by_cases e : i = k
      · subst e; simp
      · have : (i : Int) ≠ (k : Int) := by omega
        simp [e, this]
    rw [drop_cons W k hkn]
    simp only [frK, i_firstRests_l2, hn, decide_true, cond_true, withK_eq, idx_lt W k hkn, Option.bind_some, starts_eq, hne, andO_some]
    by_cases hc : i ≠ k ∧ pre W[i] W[k] = true
    · have hle := pre_le hc.2
      have hs := sub_drop W[k] W[i].length hle
      rw [if_pos hc]
      have ea : app o [Ambiguity.mk W[k] (W[k].drop W[i].length)] = some (o ++ [⟨W[k], W[k].drop W[i].length⟩]) := app_some _ _ (by simp; unfold LIM; omega)
      simp only [hc.1, hc.2, ne_eq, not_false_eq_true, decide_true, Bool.and_self, cond_true, hs, Option.bind_some, ea, w64_nat k (by omega)]
      rw [ih (k + 1) N _ (by omega) (by omega) (by simp; omega) K, List.append_assoc]
    · have hb : (decide (i ≠ k) && pre W[i] W[k]) = false := by
        rw [← Bool.not_eq_true]; simpa using hc
      rw [if_neg hc]
      simp only [hb, cond_false, w64_nat k (by omega), List.nil_append]
      exact ih (k + 1) N _ (by omega) (by omega) (by omega) K
theorem fr_l1 (W : List Str) (hW : Cw W) : ∀ (n i N : Nat) (o : List Ambiguity), i + n = W.length → n + 10 < N → o.length ≤ i * 5 → ∀ K, i_firstRests_l1 K W N o (i : Int) = K (o ++ frO W (W.drop i) i) := by
  have hwl := hW.len
  intro n
  induction n with
  | zero =>
    intro i N o h1 h3 ho K
    obtain ⟨N, rfl⟩ := pos_fuel (by omega : 0 < N)
    have hn : ¬ ((i : Int) < (W.length : Int)) := by omega
    have e2 : W.drop i = [] := List.drop_of_length_le (by omega)
    simp [i_firstRests_l1, hn, e2, frO]
  | succ n ih =>
    intro i N o h1 h3 ho K
    obtain ⟨N, rfl⟩ := pos_fuel (by omega : 0 < N)
    have hn : (i : Int) < (W.length : Int) := by omega
    have hin : i < W.length := by omega
    have hl2 := fun K => fr_l2 W hW i hin W.length 0 N o (by omega) (by omega) (by omega) K
    rw [show ((0 : Nat) : Int) = 0 from rfl] at hl2
    have hfl := frK_len i W[i] W 0
    rw [drop_cons W i hin]
    simp only [frO, i_firstRests_l1, hn, decide_true, cond_true, withK_eq, idx_lt W i hin, Option.bind_some, hl2, List.drop_zero, w64_nat i (by omega)]
    rw [ih (i + 1) N _ (by omega) (by omega) (by simp; omega) K, List.append_assoc]
theorem fr_eq (N : Nat) (W : List Str) (hW : Cw W) (hN : 40 < N) : i_firstRests N W = some (fR W) := by
  have hwl := hW.len
  have := fr_l1 W hW W.length 0 N [] (by omega) (by omega) (by simp)
  rw [show ((0 : Nat) : Int) = 0 from rfl] at this
  unfold i_firstRests
  simp only [withK_eq, this, List.nil_append, List.drop_zero]
  rfl
theorem less_eq (a b : Str) : ∃ r, i_isLess a b = some r ∧ (r = true → a.length ≤ b.length) ∧ (r = false → b.length ≤ a.length) := by
  unfold i_isLess
  by_cases h : a.length = b.length
  · have : ((a.length : Int) != (b.length : Int)) = false := by simp [h]
    exact ⟨ltL a b, by simp only [this, cond_false], fun _ => by omega, fun _ => by omega⟩
  · have : ((a.length : Int) != (b.length : Int)) = true := by
      have : (a.length : Int) ≠ (b.length : Int) := by omega
      simpa using this
    exact ⟨decide ((a.length : Int) < (b.length : Int)), by simp only [this, cond_true], fun h => by have := of_decide_eq_true h; omega, fun h => by have := of_decide_eq_false h; omega⟩
theorem best_l2 (O : List Ambiguity) (hO : O.length ≤ 100000) : ∀ (n x N b : Nat), x + n = O.length → n < N → (hb : b < O.length) → (∀ (j : Nat) (h : j < O.length), j < x → (O[b]).text.length ≤ (O[j]).text.length) →
    ∃ (b' : Nat) (h' : b' < O.length), (∀ (j : Nat) (h : j < O.length), (O[b']).text.length ≤ (O[j]).text.length) ∧ ∀ K, i_restTexts_l2 K O N (b : Int) (x : Int) = K (b' : Int) := by
  intro n
  induction n with
  | zero =>
    intro x N b h1 h3 hb hm
    obtain ⟨N, rfl⟩ := pos_fuel h3
    have hn : ¬ ((x : Int) < (O.length : Int)) := by omega
    exact ⟨b, hb, fun j h => hm j h (by omega), fun K => by simp [i_restTexts_l2, hn]⟩
  | succ n ih =>
    intro x N b h1 h3 hb hm
    obtain ⟨N, rfl⟩ := pos_fuel h3
    have hn : (x : Int) < (O.length : Int) := by omega
    have hx : x < O.length := by omega
    obtain ⟨r, e1, r1, r2⟩ := less_eq (O[x]).text (O[b]).text
    cases r with
    | true =>
      have r1 := r1 rfl
      obtain ⟨b', h', g1, g2⟩ := ih (x + 1) N x (by omega) (by omega) hx (fun j h hj => by
        by_cases e : j = x
        · subst e; exact Nat.le_refl _
        · exact Nat.le_trans r1 (hm j h (by omega)))
      refine ⟨b', h', g1, fun K => ?_⟩
      simp only [i_restTexts_l2, hn, decide_true, cond_true, withK_eq, idx_lt O x hx, idx_lt O b hb, Option.bind_some, e1, w64_nat x (by omega)]
      exact g2 K
    | false =>
      have r2 := r2 rfl
      obtain ⟨b', h', g1, g2⟩ := ih (x + 1) N b (by omega) (by omega) hb (fun j h hj => by
        by_cases e : j = x
        · subst e; exact r2
        · exact hm j h (by omega))
      refine ⟨b', h', g1, fun K => ?_⟩
      simp only [i_restTexts_l2, hn, decide_true, cond_true, cond_false, withK_eq, idx_lt O x hx, idx_lt O b hb, Option.bind_some, e1, w64_nat x (by omega)]
      exact g2 K
theorem after_eq (a : Ambiguity) (w : Str) (h : a.text.length + w.length ≤ 1000) : ∃ b f, i_ambiguity_after a w = some (b, f) ∧ (f = true → aft a w = some b) ∧ (f = false → aft a w = none) := by
  unfold i_ambiguity_after aft
  cases h1 : pre w a.rest
  · cases h2 : pre a.rest w
    · exact ⟨⟨[], []⟩, false, by simp [starts_eq, h1, h2], fun h => (by cases h), fun _ => by simp⟩
    · have hs := sub_drop w a.rest.length (pre_le h2)
      have hc : cat a.text (w.drop a.rest.length) = some (a.text ++ w.drop a.rest.length) := cat_some _ _ (by simp; unfold LIM; omega)
      exact ⟨⟨a.text ++ w.drop a.rest.length, w.drop a.rest.length⟩, true, by simp [starts_eq, h1, h2, hs, hc], fun _ => by simp, fun h => by cases h⟩
  · have hs := sub_drop a.rest w.length (pre_le h1)
    exact ⟨⟨a.text, a.rest.drop w.length⟩, true, by simp [starts_eq, h1, hs], fun _ => by simp, fun h => by cases h⟩
theorem push_l3 (W : List Str) (hW : Cw W) (a : Ambiguity) (ha : a.text.length ≤ 200) (mp : List (Str × Str)) : ∀ (n x N : Nat) (o : List Ambiguity), x + n = W.length → n < N → o.length + n ≤ 1000 → ∀ K, i_restTexts_l3 K W mp a N o (x : Int) = K (msetV mp a.rest a.text) (o ++ (W.drop x).filterMap (aft a)) := by
  have hwl := hW.len
  intro n
  induction n with
  | zero =>
    intro x N o h1 h3 ho K
    obtain ⟨N, rfl⟩ := pos_fuel h3
    have hn : ¬ ((x : Int) < (W.length : Int)) := by omega
    have e2 : W.drop x = [] := List.drop_of_length_le (by omega)
    simp [i_restTexts_l3, hn, e2]
  | succ n ih =>
    intro x N o h1 h3 ho K
    obtain ⟨N, rfl⟩ := pos_fuel h3
    have hn : (x : Int) < (W.length : Int) := by omega
    have hxn : x < W.length := by omega
    have hw := hW.word _ (List.getElem_mem hxn)
    obtain ⟨b, f, e1, f1, f2⟩ := after_eq a W[x] (by omega)
    rw [drop_cons W x hxn]
    cases f with
    | true =>
      have f1 := f1 rfl
      have ea : app o [b] = some (o ++ [b]) := app_some _ _ (by simp; unfold LIM; omega)
      simp only [i_restTexts_l3, hn, decide_true, cond_true, withK_eq, idx_lt W x hxn, Option.bind_some, e1, ea, w64_nat x (by omega), List.filterMap_cons, f1]
      rw [ih (x + 1) N _ (by omega) (by omega) (by simp; omega) K, List.append_assoc]
      rfl
    | false =>
      have f2 := f2 rfl
      simp only [i_restTexts_l3, hn, decide_true, cond_true, cond_false, withK_eq, idx_lt W x hxn, Option.bind_some, e1, w64_nat x (by omega), List.filterMap_cons, f2]
      exact ih (x + 1) N _ (by omega) (by omega) (by omega) K
theorem mgetO_mem : ∀ (l : List (Str × Str)) (k : Str), (∀ v, mgetO l k = some v → (k, v) ∈ l) ∧ (mgetO l k = none → ∀ p ∈ l, p.1 ≠ k)
  | [], k => ⟨fun v h => (by cases h), fun _ p hp => by cases hp⟩
  | (a, b) :: l, k => by
    obtain ⟨h1, h2⟩ := mgetO_mem l k
    by_cases e : k = a
    · subst e
      simp only [mgetO, beq_self_eq_true, cond_true]
      exact ⟨fun v h => by have := Option.some.inj h; subst this; simp, fun h => by cases h⟩
    · have eb : (k == a) = false := by simpa using e
      simp only [mgetO, eb, cond_false]
      refine ⟨fun v h => List.mem_cons_of_mem _ (h1 v h), fun h p hp => ?_⟩
      rcases List.mem_cons.1 hp with rfl | hp
      · exact fun e2 => e e2.symm
      · exact h2 h p hp
theorem msetV_new : ∀ (l : List (Str × Str)) (k v : Str), mgetO l k = none → msetV l k v = l ++ [(k, v)]
  | [], k, v, _ => rfl
  | (a, b) :: l, k, v, h => by
    simp only [mgetO] at h
    cases e : (k == a)
    · rw [e, cond_false] at h
      simp only [msetV, e, cond_false, msetV_new l k v h, List.cons_append]
    · rw [e] at h; cases h
end Go.Proofs.Ytacdadfaialbpaa
