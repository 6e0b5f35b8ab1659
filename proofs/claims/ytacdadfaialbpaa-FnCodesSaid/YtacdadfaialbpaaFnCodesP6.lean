/-
  Plain lemmas on these functions. No conditions but those that each states.
-/
import Derived.Test.YtacdadfaialbpaaFnCodesP5
namespace Go.Proofs.Ytacdadfaialbpaa
set_option linter.unusedVariables false
set_option linter.unusedSimpArgs false
def Vl (W : List Str) (L : List Nat) : Prop := ∀ k ∈ L, k < W.length
/-- two readings up to the end of a text and up to a rest of it -/
def Amb (W : List Str) (t r : Str) : Prop :=
  (∃ (i k : Nat) (U V : List Nat), i ≠ k ∧ Vl W (i :: U) ∧ Vl W (k :: V) ∧ t = enc W (i :: U) ∧ t = enc W (k :: V) ++ r) ∧ ∃ (j : Nat) (h : j < W.length) (n : Nat), n ≤ 4 ∧ r = W[j].drop n
def HasC (D : List (Str × Str)) (O : List Ambiguity) (n : Nat) (r : Str) : Prop := (∃ a ∈ O, a.rest = r ∧ a.text.length ≤ n) ∨ ∃ p ∈ D, p.1 = r ∧ p.2.length ≤ n
structure InvC (W : List Str) (D : List (Str × Str)) (O : List Ambiguity) : Prop where
  nd : (D.map (·.1)).Nodup
  sd : ∀ p ∈ D, Amb W p.2 p.1
  so : ∀ a ∈ O, Amb W a.text a.rest
  ord : ∀ p ∈ D, ∀ a ∈ O, p.2.length ≤ a.text.length
  fst : ∀ (i k : Nat) (hi : i < W.length) (hk : k < W.length), i ≠ k → pre W[i] W[k] = true → HasC D O W[k].length (W[k].drop W[i].length)
  cls : ∀ p ∈ D, p.1 ≠ [] → ∀ w ∈ W, ∀ b, aft ⟨p.2, p.1⟩ w = some b → HasC D O b.text.length b.rest
  len : ∀ a ∈ O, a.text.length ≤ 4 * (D.length + 1)
theorem enc_app (W : List Str) : ∀ A B : List Nat, enc W (A ++ B) = enc W A ++ enc W B
  | [], B => rfl
  | k :: A, B => by simp [enc, enc_app W A B]
theorem Vl_app {W : List Str} {A B : List Nat} : Vl W (A ++ B) ↔ Vl W A ∧ Vl W B := by
  unfold Vl
  constructor
  · intro h; exact ⟨fun k hk => h k (by simp [hk]), fun k hk => h k (by simp [hk])⟩
  · rintro ⟨h1, h2⟩ k hk
    rcases List.mem_append.1 hk with h | h
    · exact h1 k h
    · exact h2 k h
theorem enc_one {W : List Str} {j : Nat} (h : j < W.length) : enc W [j] = W[j] := by simp [enc, List.getElem?_eq_getElem h]
theorem aft_ge {a b : Ambiguity} {w : Str} (h : aft a w = some b) : a.text.length ≤ b.text.length ∧ b.text.length ≤ a.text.length + w.length := by
  unfold aft at h
  split at h
  · have := Option.some.inj h; subst this; exact ⟨Nat.le_refl _, by simp⟩
  · split at h
    · have := Option.some.inj h; subst this; simp
    · cases h
theorem Amb.aft {W : List Str} {a b : Ambiguity} (hW : Cw W) (h : Amb W a.text a.rest) {w : Str} (hw : w ∈ W) (e : aft a w = some b) : Amb W b.text b.rest := by
  obtain ⟨⟨i, k, U, V, h1, h2, h3, h4, h5⟩, j, hj, n, hn, h6⟩ := h
  obtain ⟨q, hq, rfl⟩ := List.getElem_of_mem hw
  have hq1 := enc_one hq
  have hv : Vl W (k :: V ++ [q]) := Vl_app.2 ⟨h3, fun x hx => by simp at hx; omega⟩
  unfold Ytacdadfaialbpaa.aft at e
  split at e
  · rename_i hp
    have := Option.some.inj e; subst this
    have hp := pre_iff hp
    refine ⟨⟨i, k, U, V ++ [q], h1, h2, hv, h4, ?_⟩, j, hj, min 4 (n + W[q].length), by omega, ?_⟩
    · show a.text = enc W (k :: V ++ [q]) ++ a.rest.drop W[q].length
      rw [enc_app, hq1, List.append_assoc, ← hp]; exact h5
    · show a.rest.drop W[q].length = W[j].drop (min 4 (n + W[q].length))
      have hl := (hW.word _ (List.getElem_mem hj)).2.1
      rw [h6, List.drop_drop]
      by_cases g : n + W[q].length ≤ 4
      · rw [Nat.min_eq_right g]
      · rw [Nat.min_eq_left (by omega), List.drop_of_length_le (by omega), List.drop_of_length_le (by omega)]
  · split at e
    · rename_i _ hp
      have := Option.some.inj e; subst this
      have hp := pre_iff hp
      have hrl : a.rest.length ≤ 4 := by
        have hl := (hW.word _ (List.getElem_mem hj)).2.1
        rw [h6, List.length_drop]; omega
      refine ⟨⟨k, i, V ++ [q], U, fun e => h1 e.symm, hv, h2, ?_, ?_⟩, q, hq, a.rest.length, hrl, rfl⟩
      · show a.text ++ W[q].drop a.rest.length = enc W (k :: V ++ [q])
        rw [enc_app, hq1, h5, List.append_assoc, ← hp]
      · show a.text ++ W[q].drop a.rest.length = enc W (i :: U) ++ W[q].drop a.rest.length
        rw [← h4]
    · cases e
theorem InvC.start {W : List Str} (hW : Cw W) : InvC W [] (fR W) := by
  refine ⟨by simp, fun p hp => (by cases hp), fun a ha => ?_, fun p hp => (by cases hp), fun i k hi hk h1 h2 => ?_, fun p hp => (by cases hp), fun a ha => ?_⟩
  · obtain ⟨i, k, hi, hk, h1, h2, rfl⟩ := (fR_mem W a).1 ha
    have hp := pre_iff h2
    refine ⟨⟨k, i, [], [], fun e => h1 e.symm, fun x hx => by simp at hx; omega, fun x hx => by simp at hx; omega, (enc_one hk).symm, ?_⟩, k, hk, W[i].length, (hW.word _ (List.getElem_mem hi)).2.1, rfl⟩
    rw [enc_one hi]; exact hp
  · exact .inl ⟨_, (fR_mem W _).2 ⟨i, k, hi, hk, h1, h2, rfl⟩, rfl, Nat.le_refl _⟩
  · obtain ⟨i, k, hi, hk, h1, h2, rfl⟩ := (fR_mem W a).1 ha
    have := (hW.word _ (List.getElem_mem hk)).2.1
    show W[k].length ≤ 4 * (0 + 1)
    omega
def sfx (W : List Str) : List Str := W.flatMap fun w => [w, w.drop 1, w.drop 2, w.drop 3, w.drop 4]
theorem sfx_len (W : List Str) : (sfx W).length = 5 * W.length := by
  unfold sfx
  induction W with
  | nil => rfl
  | cons w W ih => simp only [List.flatMap_cons, List.length_append, ih, List.length_cons, List.length_nil]; omega
theorem sfx_mem {W : List Str} {j : Nat} (h : j < W.length) {n : Nat} (hn : n ≤ 4) : W[j].drop n ∈ sfx W := by
  unfold sfx
  refine List.mem_flatMap.2 ⟨W[j], List.getElem_mem h, ?_⟩
  have : n = 0 ∨ n = 1 ∨ n = 2 ∨ n = 3 ∨ n = 4 := by omega
  rcases this with rfl | rfl | rfl | rfl | rfl <;> simp
theorem InvC.few {W : List Str} (hW : Cw W) {D : List (Str × Str)} {O : List Ambiguity} (h : InvC W D O) : D.length ≤ 25 := by
  have h1 := nodup_sub (D.map (·.1)) (sfx W) h.nd (fun r hr => by
    obtain ⟨p, hp, rfl⟩ := List.mem_map.1 hr
    obtain ⟨_, j, hj, n, hn, e⟩ := h.sd p hp
    rw [e]; exact sfx_mem hj hn)
  rw [List.length_map, sfx_len] at h1
  have := hW.len
  omega
theorem HasC.mono {D D' : List (Str × Str)} {O O' : List Ambiguity} {n : Nat} {r : Str} (h : HasC D O n r) (hD : ∀ p ∈ D, p ∈ D') (hO : ∀ a ∈ O, a ∈ O' ∨ ∃ p ∈ D', p.1 = a.rest ∧ p.2.length ≤ a.text.length) : HasC D' O' n r := by
  rcases h with ⟨a, ha, h1, h2⟩ | ⟨p, hp, h1⟩
  · rcases hO a ha with h3 | ⟨p, hp, h4, h5⟩
    · exact .inl ⟨a, h3, h1, h2⟩
    · exact .inr ⟨p, hp, by rw [h4, h1], by omega⟩
  · exact .inr ⟨p, hD p hp, h1⟩
theorem InvC.skip {W : List Str} {D : List (Str × Str)} {A B : List Ambiguity} {a : Ambiguity} (h : InvC W D (A ++ a :: B)) {t : Str} (ht : (a.rest, t) ∈ D) : InvC W D (A ++ B) := by
  have hm : ∀ x ∈ A ++ B, x ∈ A ++ a :: B := fun x hx => by
    rcases List.mem_append.1 hx with hx | hx <;> simp [hx]
  have hO : ∀ x ∈ A ++ a :: B, x ∈ A ++ B ∨ ∃ p ∈ D, p.1 = x.rest ∧ p.2.length ≤ x.text.length := fun x hx => by
    rcases List.mem_append.1 hx with hx | hx
    · exact .inl (by simp [hx])
    · rcases List.mem_cons.1 hx with rfl | hx
      · exact .inr ⟨_, ht, rfl, h.ord _ ht x (by simp)⟩
      · exact .inl (by simp [hx])
  exact ⟨h.nd, h.sd, fun x hx => h.so x (hm x hx), fun p hp x hx => h.ord p hp x (hm x hx), fun i k hi hk h1 h2 => (h.fst i k hi hk h1 h2).mono (fun _ h => h) hO, fun p hp h1 w hw b hb => (h.cls p hp h1 w hw b hb).mono (fun _ h => h) hO, fun x hx => h.len x (hm x hx)⟩
theorem InvC.take {W : List Str} (hW : Cw W) {D : List (Str × Str)} {A B : List Ambiguity} {a : Ambiguity} (h : InvC W D (A ++ a :: B)) (hmin : ∀ x ∈ A ++ a :: B, a.text.length ≤ x.text.length) (hn : ∀ p ∈ D, p.1 ≠ a.rest)
    (Z : List Ambiguity) (hZ : ∀ b ∈ Z, ∃ w ∈ W, aft a w = some b) (hZ2 : a.rest ≠ [] → ∀ w ∈ W, ∀ b, aft a w = some b → b ∈ Z) : InvC W (D ++ [(a.rest, a.text)]) (A ++ B ++ Z) := by
  have hm : ∀ x ∈ A ++ B, x ∈ A ++ a :: B := fun x hx => by
    rcases List.mem_append.1 hx with hx | hx <;> simp [hx]
  have hO : ∀ x ∈ A ++ a :: B, x ∈ A ++ B ++ Z ∨ ∃ p ∈ D ++ [(a.rest, a.text)], p.1 = x.rest ∧ p.2.length ≤ x.text.length := fun x hx => by
    rcases List.mem_append.1 hx with hx | hx
    · exact .inl (by simp [hx])
    · rcases List.mem_cons.1 hx with rfl | hx
      · exact .inr ⟨_, List.mem_append_right _ (List.mem_singleton.2 rfl), rfl, Nat.le_refl _⟩
      · exact .inl (by simp [hx])
  have hD : ∀ p ∈ D, p ∈ D ++ [(a.rest, a.text)] := fun p hp => List.mem_append_left _ hp
  have ha : a ∈ A ++ a :: B := by simp
  have hso := h.so a ha
  refine ⟨?_, fun p hp => ?_, fun x hx => ?_, fun p hp x hx => ?_, fun i k hi hk h1 h2 => (h.fst i k hi hk h1 h2).mono hD hO, fun p hp h1 w hw b hb => ?_, fun x hx => ?_⟩
  · rw [List.map_append, List.nodup_append]
    refine ⟨h.nd, by simp, fun x hx y hy => ?_⟩
    simp only [List.map_cons, List.map_nil, List.mem_singleton] at hy
    obtain ⟨p, hp, rfl⟩ := List.mem_map.1 hx
    rw [hy]; exact hn p hp
  · rcases List.mem_append.1 hp with hp | hp
    · exact h.sd p hp
    · simp only [List.mem_singleton] at hp; subst hp; exact hso
  · rcases List.mem_append.1 hx with hx | hx
    · exact h.so x (hm x hx)
    · obtain ⟨w, hw, e⟩ := hZ x hx
      exact hso.aft hW hw e
  · have hpa : p.2.length ≤ a.text.length := by
      rcases List.mem_append.1 hp with hp | hp
      · exact h.ord p hp a ha
      · simp only [List.mem_singleton] at hp; subst hp; exact Nat.le_refl _
    have hax : a.text.length ≤ x.text.length := by
      rcases List.mem_append.1 hx with hx | hx
      · exact hmin x (hm x hx)
      · obtain ⟨w, _, e⟩ := hZ x hx
        exact (aft_ge e).1
    omega
  · rcases List.mem_append.1 hp with hp | hp
    · exact (h.cls p hp h1 w hw b hb).mono hD hO
    · simp only [List.mem_singleton] at hp
      subst hp
      exact .inl ⟨b, List.mem_append_right _ (hZ2 h1 w hw b hb), rfl, Nat.le_refl _⟩
  · simp only [List.length_append, List.length_cons, List.length_nil]
    rcases List.mem_append.1 hx with hx | hx
    · have := h.len x (hm x hx); omega
    · obtain ⟨w, hw, e⟩ := hZ x hx
      have h1 := (aft_ge e).2
      have h2 := h.len a ha
      have h3 := (hW.word w hw).2.1
      omega
theorem sub_dropL {α : Type} (t : List α) (i : Nat) (h : i ≤ t.length) : sub t (i : Int) (t.length : Int) = some (t.drop i) := by
  rw [sub_some _ _ _ (by omega) (by omega) (by omega)]
  simp only [Int.toNat_natCast]
  rw [List.take_of_length_le (by simp)]
theorem rt_l1 (W : List Str) (hW : Cw W) : ∀ (n N : Nat) (D : List (Str × Str)) (O : List Ambiguity), O.length + 5 * (25 - D.length) ≤ n → n ≤ 400 → n + 500 < N → InvC W D O → ∃ D', InvC W D' [] ∧ ∀ K, i_restTexts_l1 K W N D O = K D' := by
  have hwl := hW.len
  intro n
  induction n with
  | zero =>
    intro N D O h1 h2 h3 hI
    obtain ⟨N, rfl⟩ := pos_fuel (by omega : 0 < N)
    have e : O = [] := List.eq_nil_of_length_eq_zero (by omega)
    subst e
    exact ⟨D, hI, fun K => by simp [i_restTexts_l1]⟩
  | succ n ih =>
    intro N D O h1 h2 h3 hI
    obtain ⟨N, rfl⟩ := pos_fuel (by omega : 0 < N)
    by_cases e0 : O = []
    · subst e0
      exact ⟨D, hI, fun K => by simp [i_restTexts_l1]⟩
    have hpos : 0 < O.length := List.length_pos_iff.2 e0
    have hg : ((O.length : Int) > 0) := by omega
    obtain ⟨b, hb, hmin, e1⟩ := best_l2 O (by omega) O.length 0 N 0 (by omega) (by omega) hpos (fun j h hj => by omega)
    rw [show ((0 : Nat) : Int) = 0 from rfl] at e1
    have hcut : O = O.take b ++ O[b] :: O.drop (b + 1) := by rw [← drop_cons O b hb, List.take_append_drop]
    have s1 : sub O 0 (b : Int) = some (O.take b) := by rw [sub_some _ _ _ (by omega) (by omega) (by omega)]; simp
    have s2 : sub O (w64 ((b : Int) + 1)) (O.length : Int) = some (O.drop (b + 1)) := by rw [w64_nat b (by omega)]; exact sub_dropL O (b + 1) hb
    have s3 : cutO O (O.take b) (O.drop (b + 1)) = some (O.take b ++ O.drop (b + 1)) := by unfold cutO; rw [if_pos (by simp; omega)]
    have hI' : InvC W D (O.take b ++ O[b] :: O.drop (b + 1)) := by rw [← hcut]; exact hI
    have hlen : (O.take b ++ O.drop (b + 1)).length + 1 = O.length := by simp; omega
    have hlt := hI.len _ (List.getElem_mem hb)
    have hfew := hI.few hW
    obtain ⟨m1, m2⟩ := mgetO_mem D (O[b]).rest
    cases hm : mgetO D (O[b]).rest with
    | some t =>
      have ht := m1 t hm
      obtain ⟨D', g1, g2⟩ := ih N D (O.take b ++ O.drop (b + 1)) (by omega) (by omega) (by omega) (hI'.skip ht)
      refine ⟨D', g1, fun K => ?_⟩
      simp only [i_restTexts_l1, withK_eq, hg, decide_true, cond_true, e1, idx_lt O b hb, Option.bind_some, s1, s2, s3, hm, Option.isSome_some]
      exact g2 K
    | none =>
      have hn := m2 hm
      have hmin' : ∀ x ∈ O.take b ++ O[b] :: O.drop (b + 1), (O[b]).text.length ≤ x.text.length := fun x hx => by
        rw [← hcut] at hx
        obtain ⟨j, hj, rfl⟩ := List.getElem_of_mem hx
        exact hmin j hj
      have hset := msetV_new D (O[b]).rest (O[b]).text hm
      by_cases hr : (O[b]).rest = []
      · have hI2 := hI'.take hW hmin' hn [] (fun b hb => by cases hb) (fun h => absurd hr h)
        rw [List.append_nil] at hI2
        have hf2 := hI2.few hW
        rw [List.length_append, List.length_singleton] at hf2
        obtain ⟨D', g1, g2⟩ := ih N _ (O.take b ++ O.drop (b + 1)) (by simp only [List.length_append, List.length_singleton] at hlen ⊢; omega) (by omega) (by omega) hI2
        refine ⟨D', g1, fun K => ?_⟩
        have hb2 : ((O[b]).rest == []) = true := by rw [hr]; rfl
        simp only [i_restTexts_l1, withK_eq, hg, decide_true, cond_true, cond_false, e1, idx_lt O b hb, Option.bind_some, s1, s2, s3, hm, Option.isSome_none, hb2, hset]
        exact g2 K
      · have hI2 := hI'.take hW hmin' hn (W.filterMap (aft O[b])) (fun x hx => by simpa using List.mem_filterMap.1 hx) (fun _ w hw x hx => List.mem_filterMap.2 ⟨w, hw, hx⟩)
        have hf2 := hI2.few hW
        rw [List.length_append, List.length_singleton] at hf2
        have hfl := List.length_filterMap_le (aft O[b]) W
        have hO2 : (O.take b ++ O.drop (b + 1) ++ W.filterMap (aft O[b])).length ≤ O.length + 4 := by
          rw [List.length_append]; omega
        have e3 := fun K => push_l3 W hW O[b] (by omega) D W.length 0 N (O.take b ++ O.drop (b + 1)) (by omega) (by omega) (by omega) K
        rw [show ((0 : Nat) : Int) = 0 from rfl] at e3
        obtain ⟨D', g1, g2⟩ := ih N _ (O.take b ++ O.drop (b + 1) ++ W.filterMap (aft O[b])) (by simp only [List.length_append, List.length_singleton] at hO2 hlen ⊢; omega) (by omega) (by omega) hI2
        refine ⟨D', g1, fun K => ?_⟩
        have hb2 : ((O[b]).rest == []) = false := by simpa using hr
        simp only [i_restTexts_l1, withK_eq, hg, decide_true, cond_true, cond_false, e1, idx_lt O b hb, Option.bind_some, s1, s2, s3, hm, Option.isSome_none, hb2, e3, hset, List.drop_zero]
        exact g2 K
end Go.Proofs.Ytacdadfaialbpaa
