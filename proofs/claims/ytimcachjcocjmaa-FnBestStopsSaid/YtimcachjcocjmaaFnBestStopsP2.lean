/-
  Plain lemmas on these functions. No conditions but those that each states.
-/
import Derived.Test.YtimcachjcocjmaaFnBestStopsP
namespace Go.Proofs.Ytimcachjcocjmaa
set_option linter.unusedVariables false
set_option linter.unusedSimpArgs false
/-! Columns, moves and distances. -/
def VS (stops : List Int) : Prop := stops.length ≤ 6 ∧ ∀ i, ∀ h : i < stops.length, 1 ≤ stops[i] ∧ stops[i] ≤ 30
def nxt (stops : List Int) (c : Nat) : Option Nat := (stops.find? (fun s => decide (s > (c : Int)))).map Int.toNat
def mvP (stops : List Int) (c : Nat) (m : UInt8) : Option Nat :=
  if m = 62 then (if c < 30 then some (c + 1) else none) else if m = 60 then (if 0 < c then some (c - 1) else none) else nxt stops c
theorem moved_l1 (stops : List Int) (hs : VS stops) (c : Nat) (hc : c ≤ 30) : ∀ (n k N : Nat), k + n = stops.length → n < N →
    i_moved_l1 (some (0, false)) stops (c : Int) N (k : Int) = match (stops.drop k).find? (fun s => decide (s > (c : Int))) with | some s => some (s, true) | none => some (0, false) := by
  have h6 := hs.1
  intro n
  induction n with
  | zero =>
    intro k N h1 h2
    obtain ⟨N, rfl⟩ := pos_fuel h2
    have hi : ¬ ((k : Int) < (stops.length : Int)) := by omega
    rw [List.drop_of_length_le (by omega)]
    simp only [i_moved_l1, hi, decide_false, cond_false, List.find?_nil]
  | succ n ih =>
    intro k N h1 h2
    obtain ⟨N, rfl⟩ := pos_fuel h2
    have hi : (k : Int) < (stops.length : Int) := by omega
    have hk : k < stops.length := by omega
    have := ih (k + 1) N (by omega) (by omega)
    rw [List.drop_eq_getElem_cons hk]
    simp only [i_moved_l1, hi, decide_true, cond_true, idx_lt stops k hk, Option.bind_some, w64_nat k (by omega), this, List.find?_cons]
    by_cases h : stops[k] > (c : Int)
    · simp only [h, decide_true, cond_true]
    · simp only [h, decide_false, cond_false]
theorem mvP_le (stops : List Int) (hs : VS stops) (c : Nat) (hc : c ≤ 30) (m : UInt8) (q : Nat) (h : mvP stops c m = some q) : q ≤ 30 ∧ q ≠ c := by
  unfold mvP at h
  split at h
  · split at h
    · obtain rfl := Option.some.inj h; omega
    · cases h
  · split at h
    · split at h
      · obtain rfl := Option.some.inj h; omega
      · cases h
    · unfold nxt at h
      obtain ⟨s, h1, rfl⟩ := Option.map_eq_some_iff.1 h
      have h2 := List.find?_some h1
      have h3 := List.mem_of_find?_eq_some h1
      obtain ⟨i, h4, rfl⟩ := List.getElem_of_mem h3
      have := hs.2 i h4
      simp at h2
      omega
theorem moved_ok (N : Nat) (stops : List Int) (hs : VS stops) (c : Nat) (hc : c ≤ 30) (m : UInt8) (hN : 10 ≤ N) :
    ∃ x, i_moved N stops (c : Int) m = some (x, (mvP stops c m).isSome) ∧ ∀ q, mvP stops c m = some q → x = (q : Int) := by
  have h6 := hs.1
  unfold i_moved mvP
  by_cases h1 : m = 62
  · subst h1
    simp only [beq_self_eq_true, cond_true, if_true]
    refine ⟨w64 ((c : Int) + 1), ?_, fun q hq => ?_⟩
    · by_cases h : c < 30
      · have : (c : Int) < 30 := by omega
        simp [h, this]
      · have : ¬ (c : Int) < 30 := by omega
        simp [h, this]
    · split at hq
      · obtain rfl := Option.some.inj hq
        exact w64_nat c (by omega)
      · cases hq
  · have e1 : (m == 62) = false := by simpa using h1
    simp only [e1, cond_false, h1, if_false]
    by_cases h2 : m = 60
    · subst h2
      simp only [beq_self_eq_true, cond_true, if_true]
      refine ⟨w64 ((c : Int) - 1), ?_, fun q hq => ?_⟩
      · by_cases h : 0 < c
        · have : (c : Int) > 0 := by omega
          simp [h, this]
        · have : ¬ (c : Int) > 0 := by omega
          simp [h, this]
      · split at hq
        · obtain rfl := Option.some.inj hq
          rw [w64_id (by omega) (by omega)]; omega
        · cases hq
    · have e2 : (m == 60) = false := by simpa using h2
      simp only [e2, cond_false, h2, if_false, withK_eq]
      have := moved_l1 stops hs c hc stops.length 0 N (by omega) (by omega)
      rw [show ((0 : Nat) : Int) = 0 from rfl, List.drop_zero] at this
      rw [this]
      unfold nxt
      cases e : stops.find? (fun s => decide (s > (c : Int))) with
      | none => exact ⟨0, rfl, fun q hq => by simp at hq⟩
      | some s =>
        refine ⟨s, rfl, fun q hq => ?_⟩
        have h3 := List.mem_of_find?_eq_some e
        obtain ⟨i, h4, rfl⟩ := List.getElem_of_mem h3
        have := hs.2 i h4
        simp at hq
        omega
/-- a move that leads to a column of a distance -/
def hit (stops : List Int) (D : List Int) (c : Nat) (f : Int) (m : UInt8) : Bool := match mvP stops c m with | some q => D[q]? == some f | none => false
theorem hit_iff {stops D : List Int} {c : Nat} {f : Int} {m : UInt8} : hit stops D c f m = true ↔ ∃ q, mvP stops c m = some q ∧ D[q]? = some f := by
  unfold hit
  split <;> simp_all
def three : List UInt8 := [35, 60, 62]
/-- one test -/
theorem l4_step (stops : List Int) (hs : VS stops) (kj : List Int → Option (List Int)) (f : Int) (hf0 : 0 ≤ f) (hf : f ≤ 100) (c : Nat) (hc : c ≤ 30) (D : List Int) (hD : D.length = 31) (N j : Nat) (hj : j < 3) (hN : 10 ≤ N) :
    i_distances_l4 kj stops f (c : Int) (N + 1) D (j : Int) = i_distances_l4 kj stops f (c : Int) N (if hit stops D c f (three[j]'hj) then D.set c (f + 1) else D) ((j + 1 : Nat) : Int) := by
  have hl : (j : Int) < ((List.length ([35, 60, 62] : List Nat)) : Int) := by show (j : Int) < 3; omega
  have hx : idx ([35, 60, 62] : List UInt8) (j : Int) = some (three[j]'hj) := idx_lt three j hj
  obtain ⟨x, e1, e2⟩ := moved_ok N stops hs c hc (three[j]'hj) hN
  have ec : idx D (c : Int) = some D[c] := idx_lt D c (by omega)
  have ew : w64 (f + 1) = f + 1 := w64_id (by omega) (by omega)
  simp only [i_distances_l4, hl, decide_true, cond_true, withK_eq, hx, Option.bind_some, e1, w64_nat j (by omega)]
  cases e : mvP stops c (three[j]'hj) with
  | none =>
    have : hit stops D c f (three[j]'hj) = false := by unfold hit; rw [e]
    simp [this]
  | some q =>
    obtain ⟨hq, _⟩ := mvP_le stops hs c hc _ q e
    have hx : idx D x = some D[q] := by rw [e2 q e]; exact idx_lt D q (by omega)
    have : hit stops D c f (three[j]'hj) = (D[q] == f) := by
      unfold hit; rw [e]; simp only [List.getElem?_eq_getElem (show q < D.length by omega)]
      rw [Bool.eq_iff_iff]; simp
    rw [this]
    simp only [Option.isSome_some, andO_true, hx, Option.bind_some, ec, ew, Int.toNat_natCast]
    cases D[q] == f <;> rfl
theorem hit_set (stops : List Int) (hs : VS stops) (D : List Int) (c : Nat) (hc : c ≤ 30) (f v : Int) (m : UInt8) : hit stops (D.set c v) c f m = hit stops D c f m := by
  unfold hit
  split
  · rename_i q e
    obtain ⟨_, hq⟩ := mvP_le stops hs c hc _ q e
    rw [List.getElem?_set_ne (Ne.symm hq)]
  · rfl
def anyhit (stops : List Int) (D : List Int) (c : Nat) (f : Int) : Bool := hit stops D c f 35 || hit stops D c f 60 || hit stops D c f 62
theorem l4_ok (stops : List Int) (hs : VS stops) (kj : List Int → Option (List Int)) (f : Int) (hf0 : 0 ≤ f) (hf : f ≤ 100) (c : Nat) (hc : c ≤ 30) (D : List Int) (hD : D.length = 31) (N : Nat) (hN : 20 ≤ N) :
    i_distances_l4 kj stops f (c : Int) N D 0 = kj (if anyhit stops D c f then D.set c (f + 1) else D) := by
  obtain ⟨M, rfl⟩ : ∃ M, N = M + 1 + 1 + 1 + 1 := ⟨N - 4, by omega⟩
  have s0 := l4_step stops hs kj f hf0 hf c hc D hD (M + 1 + 1 + 1) 0 (by omega) (by omega)
  rw [show ((0 : Nat) : Int) = 0 from rfl] at s0
  have hend : ∀ D', i_distances_l4 kj stops f (c : Int) (M + 1) D' ((2 + 1 : Nat) : Int) = kj D' := fun D' => by
    have : ¬ (((2 + 1 : Nat) : Int) < ((List.length ([35, 60, 62] : List Nat)) : Int)) := by decide
    simp only [i_distances_l4, this, decide_false, cond_false]
  have t0 : three[0] = 35 := rfl
  have t1 : three[1] = 60 := rfl
  have t2 : three[2] = 62 := rfl
  rw [s0]
  have hl : ∀ b : Bool, (if b = true then D.set c (f + 1) else D).length = 31 := fun b => by cases b <;> simp [hD]
  rw [l4_step stops hs kj f hf0 hf c hc _ (hl _) (M + 1 + 1) (0 + 1) (by omega) (by omega)]
  have hset : ∀ D0 : List Int, D0.length = 31 → ∀ b : Bool, ∀ m, hit stops (if b = true then D0.set c (f + 1) else D0) c f m = hit stops D0 c f m := fun D0 _ b m => by cases b <;> simp [hit_set stops hs _ c hc]
  simp only [Nat.zero_add, t0, t1]
  rw [hset D hD]
  have hl2 : ∀ b b' : Bool, (if b' = true then (if b = true then D.set c (f + 1) else D).set c (f + 1) else if b = true then D.set c (f + 1) else D) = if (b || b') = true then D.set c (f + 1) else D := fun b b' => by cases b <;> cases b' <;> simp
  rw [hl2, l4_step stops hs kj f hf0 hf c hc _ (hl _) (M + 1) (1 + 1) (by omega) (by omega)]
  simp only [show 1 + 1 = 2 from rfl, t2]
  rw [hset D hD, hend]
  have hl3 : ∀ b b' : Bool, (if b' = true then (if b = true then D.set c (f + 1) else D).set c (f + 1) else if b = true then D.set c (f + 1) else D) = if (b || b') = true then D.set c (f + 1) else D := hl2
  rw [hl3]
  rfl
/-! a round -/
def near (stops : List Int) (D : List Int) (c : Nat) (f : Int) : Prop := ∃ m ∈ three, ∃ q, mvP stops c m = some q ∧ D[q]? = some f
theorem anyhit_iff {stops D : List Int} {c : Nat} {f : Int} : anyhit stops D c f = true ↔ near stops D c f := by
  unfold anyhit near three
  simp only [Bool.or_eq_true, hit_iff, List.mem_cons, List.not_mem_nil, or_false, exists_eq_or_imp, exists_eq_left]
  rw [or_assoc]
structure Rnd (stops : List Int) (D0 : List Int) (f : Int) (k : Nat) (D : List Int) (ch : Bool) : Prop where
  len : D.length = 31
  old : ∀ c, c < 31 → D[c]? = D0[c]? ∨ (c < k ∧ D0[c]? = some (-1) ∧ D[c]? = some (f + 1) ∧ near stops D0 c f)
  new : ∀ c, c < k → D0[c]? = some (-1) → near stops D0 c f → D[c]? = some (f + 1)
  chg : ch = true → ∃ c, c < k ∧ D0[c]? = some (-1) ∧ D[c]? = some (f + 1)
  chn : ch = false → ∀ c, c < k → D0[c]? = some (-1) → D[c]? = some (-1)
theorem Rnd.near {stops D0 D : List Int} {f : Int} {k : Nat} {ch : Bool} (h : Rnd stops D0 f k D ch) (hs : VS stops) (hf : 0 ≤ f) (c : Nat) (hc : c ≤ 30) : Ytimcachjcocjmaa.near stops D c f ↔ Ytimcachjcocjmaa.near stops D0 c f := by
  unfold Ytimcachjcocjmaa.near
  refine exists_congr fun m => and_congr_right fun _ => exists_congr fun q => and_congr_right fun hq => ?_
  obtain ⟨h1, _⟩ := mvP_le stops hs c hc m q hq
  rcases h.old q (by omega) with e | ⟨_, e1, e2, _⟩
  · rw [e]
  · rw [e1, e2]
    constructor
    · intro e; have := Option.some.inj e; omega
    · intro e; have := Option.some.inj e; omega
theorem l3_ok (stops : List Int) (hs : VS stops) (f : Int) (hf0 : 0 ≤ f) (hf : f ≤ 100) (D0 : List Int) (hneg : ∀ (c : Nat) (v : Int), D0[c]? = some v → v < 0 → v = -1) : ∀ (n k : Nat) (D : List Int) (ch : Bool), k + n = 31 → Rnd stops D0 f k D ch →
    ∃ D' ch', (∀ (N : Nat) (kj : List Int → Bool → Option (List Int)), n + 30 ≤ N → i_distances_l3 kj stops f N D ch (k : Int) = kj D' ch') ∧ Rnd stops D0 f 31 D' ch' := by
  intro n
  induction n with
  | zero =>
    intro k D ch h1 h3
    obtain rfl : k = 31 := by omega
    refine ⟨D, ch, fun N kj h2 => ?_, h3⟩
    obtain ⟨N, rfl⟩ := pos_fuel (show 0 < N by omega)
    simp [i_distances_l3]
  | succ n ih =>
    intro k D ch h1 h3
    have hl := h3.len
    have hk : (k : Int) < 31 := by omega
    have hkk : k < D.length := by omega
    have hDk : D[k]? = D0[k]? := by
      rcases h3.old k (by omega) with e | ⟨e, _⟩
      · exact e
      · omega
    have eD : D[k]? = some D[k] := List.getElem?_eq_getElem hkk
    by_cases h0 : D[k] ≥ 0
    · obtain ⟨D', ch', e, hr⟩ := ih (k + 1) D ch (by omega) ⟨hl, fun c hc => by
        rcases h3.old c hc with e | ⟨e1, e2⟩
        · exact .inl e
        · exact .inr ⟨by omega, e2⟩, fun c hc h4 h5 => by
        by_cases e : c = k
        · subst e; rw [← hDk, eD] at h4; have := Option.some.inj h4; omega
        · exact h3.new c (by omega) h4 h5, fun h => by
        obtain ⟨c, e1, e2⟩ := h3.chg h; exact ⟨c, by omega, e2⟩, fun h c hc h4 => by
        by_cases e : c = k
        · subst e; rw [hDk]; exact h4
        · exact h3.chn h c (by omega) h4⟩
      refine ⟨D', ch', fun N kj h2 => ?_, hr⟩
      obtain ⟨N, rfl⟩ := pos_fuel (show 0 < N by omega)
      simp only [i_distances_l3, hk, decide_true, cond_true, withK_eq, idx_lt D k hkk, Option.bind_some, w64_nat k (by omega), h0]
      exact e N kj (by omega)
    · have hn := h3.near hs hf0 k (by omega)
      by_cases ha : anyhit stops D k f = true
      · have hnr := hn.1 (anyhit_iff.1 ha)
        have hix : idx (D.set k (f + 1)) (k : Int) = some (f + 1) := by
          rw [idx_lt _ k (by simpa using hkk)]; simp
        have hge : f + 1 ≥ 0 := by omega
        have hDm : D0[k]? = some (-1) := by rw [← hDk, eD, hneg k D[k] (by rw [← hDk, eD]) (by omega)]
        obtain ⟨D', ch', e, hr⟩ := ih (k + 1) (D.set k (f + 1)) true (by omega) ⟨by simp [hl], fun c hc => by
          by_cases e : c = k
          · subst e; exact .inr ⟨by omega, hDm, by simp [hkk], hnr⟩
          · rw [List.getElem?_set_ne (Ne.symm e)]
            rcases h3.old c hc with e | ⟨e1, e2⟩
            · exact .inl e
            · exact .inr ⟨by omega, e2⟩, fun c hc h4 h5 => by
          by_cases e : c = k
          · subst e; simp [hkk]
          · rw [List.getElem?_set_ne (Ne.symm e)]; exact h3.new c (by omega) h4 h5, fun _ => ⟨k, by omega, hDm, by simp [hkk]⟩, fun h => by cases h⟩
        refine ⟨D', ch', fun N kj h2 => ?_, hr⟩
        obtain ⟨N, rfl⟩ := pos_fuel (show 0 < N by omega)
        simp only [i_distances_l3, hk, decide_true, cond_true, withK_eq, idx_lt D k hkk, Option.bind_some, w64_nat k (by omega), h0, decide_false, cond_false, l4_ok stops hs _ f hf0 hf k (by omega) D hl N (by omega)]
        simp only [ha, if_true, hix, Option.bind_some, hge, decide_true, orO_some, Bool.or_true]
        exact e N kj (by omega)
      · have ha' : anyhit stops D k f = false := by simpa using ha
        have hng : ¬ Ytimcachjcocjmaa.near stops D0 k f := fun h => ha (anyhit_iff.2 (hn.2 h))
        obtain ⟨D', ch', e, hr⟩ := ih (k + 1) D ch (by omega) ⟨hl, fun c hc => by
          rcases h3.old c hc with e | ⟨e1, e2⟩
          · exact .inl e
          · exact .inr ⟨by omega, e2⟩, fun c hc h4 h5 => by
          by_cases e : c = k
          · subst e; exact (hng h5).elim
          · exact h3.new c (by omega) h4 h5, fun h => by
          obtain ⟨c, e1, e2⟩ := h3.chg h; exact ⟨c, by omega, e2⟩, fun h c hc h4 => by
          by_cases e : c = k
          · subst e; rw [hDk]; exact h4
          · exact h3.chn h c (by omega) h4⟩
        refine ⟨D', ch', fun N kj h2 => ?_, hr⟩
        obtain ⟨N, rfl⟩ := pos_fuel (show 0 < N by omega)
        simp only [i_distances_l3, hk, decide_true, cond_true, withK_eq, idx_lt D k hkk, Option.bind_some, w64_nat k (by omega), h0, decide_false, cond_false, l4_ok stops hs _ f hf0 hf k (by omega) D hl N (by omega)]
        simp only [ha', Bool.false_eq_true, if_false, idx_lt D k hkk, Option.bind_some, h0, decide_false, orO_some, Bool.or_false]
        exact e N kj (by omega)
end Go.Proofs.Ytimcachjcocjmaa
