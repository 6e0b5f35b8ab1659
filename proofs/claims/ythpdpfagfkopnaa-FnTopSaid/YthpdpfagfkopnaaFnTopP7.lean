/-
  Plain lemmas on these functions. No conditions but those that each states.
-/
import Derived.Test.YthpdpfagfkopnaaFnTopP6
namespace Go.Proofs.Ythpdpfagfkopnaa
set_option linter.unusedVariables false
set_option linter.unusedSimpArgs false
/-! Columns, moves and distances. -/
def VS (stops : List Int) : Prop := stops.length ≤ 6 ∧ ∀ i, ∀ h : i < stops.length, 1 ≤ stops[i] ∧ stops[i] ≤ 30
def nxt (stops : List Int) (c : Nat) : Option Nat := (stops.find? (fun s => decide (s > (c : Int)))).map Int.toNat
def mvP (stops : List Int) (c : Nat) (m : UInt8) : Option Nat :=
  if m = 62 then (if c < 30 then some (c + 1) else none) else if m = 60 then (if 0 < c then some (c - 1) else none) else nxt stops c
theorem moved_l1 (stops : List Int) (hs : VS stops) (c : Nat) (hc : c ≤ 30) : ∀ (n k N : Nat), k + n = stops.length → n < N →
    i_moved_l1 (some (0, false)) stops (c : Int) N (k : Int) = match (stops.drop k).find? (fun s => decide (s > (c : Int))) with | some s => some (s, true) | none => some (0, false) := by
  have h6 := hs.1
  intro n
  induction n with
  | zero =>
    intro k N h1 h2
    obtain ⟨N, rfl⟩ := pos_fuel h2
    have hi : ¬ ((k : Int) < (stops.length : Int)) := by omega
    rw [List.drop_of_length_le (by omega)]
    simp only [i_moved_l1, hi, decide_false, cond_false, List.find?_nil]
  | succ n ih =>
    intro k N h1 h2
    obtain ⟨N, rfl⟩ := pos_fuel h2
    have hi : (k : Int) < (stops.length : Int) := by omega
    have hk : k < stops.length := by omega
    have := ih (k + 1) N (by omega) (by omega)
    rw [List.drop_eq_getElem_cons hk]
    simp only [i_moved_l1, hi, decide_true, cond_true, idx_lt stops k hk, Option.bind_some, w64_nat k (by omega), this, List.find?_cons]
    by_cases h : stops[k] > (c : Int)
    · simp only [h, decide_true, cond_true]
    · simp only [h, decide_false, cond_false]
theorem mvP_le (stops : List Int) (hs : VS stops) (c : Nat) (hc : c ≤ 30) (m : UInt8) (q : Nat) (h : mvP stops c m = some q) : q ≤ 30 ∧ q ≠ c := by
  unfold mvP at h
  split at h
  · split at h
    · obtain rfl := Option.some.inj h; omega
    · cases h
  · split at h
    · split at h
      · obtain rfl := Option.some.inj h; omega
      · cases h
    · unfold nxt at h
      obtain ⟨s, h1, rfl⟩ := Option.map_eq_some_iff.1 h
      have h2 := List.find?_some h1
      have h3 := List.mem_of_find?_eq_some h1
      obtain ⟨i, h4, rfl⟩ := List.getElem_of_mem h3
      have := hs.2 i h4
      simp at h2
      omega
theorem moved_ok (N : Nat) (stops : List Int) (hs : VS stops) (c : Nat) (hc : c ≤ 30) (m : UInt8) (hN : 10 ≤ N) :
    ∃ x, i_moved N stops (c : Int) m = some (x, (mvP stops c m).isSome) ∧ ∀ q, mvP stops c m = some q → x = (q : Int) := by
  have h6 := hs.1
  unfold i_moved mvP
  by_cases h1 : m = 62
  · subst h1
    simp only [beq_self_eq_true, cond_true, if_true]
    refine ⟨w64 ((c : Int) + 1), ?_, fun q hq => ?_⟩
    · by_cases h : c < 30
      · have : (c : Int) < 30 := by omega
        simp [h, this]
      · have : ¬ (c : Int) < 30 := by omega
        simp [h, this]
    · split at hq
      · obtain rfl := Option.some.inj hq
        exact w64_nat c (by omega)
      · cases hq
  · have e1 : (m == 62) = false := by simpa using h1
    simp only [e1, cond_false, h1, if_false]
    by_cases h2 : m = 60
    · subst h2
      simp only [beq_self_eq_true, cond_true, if_true]
      refine ⟨w64 ((c : Int) - 1), ?_, fun q hq => ?_⟩
      · by_cases h : 0 < c
        · have : (c : Int) > 0 := by omega
          simp [h, this]
        · have : ¬ (c : Int) > 0 := by omega
          simp [h, this]
      · split at hq
        · obtain rfl := Option.some.inj hq
          rw [w64_id (by omega) (by omega)]; omega
        · cases hq
    · have e2 : (m == 60) = false := by simpa using h2
      simp only [e2, cond_false, h2, if_false, withK_eq]
      have := moved_l1 stops hs c hc stops.length 0 N (by omega) (by omega)
      rw [show ((0 : Nat) : Int) = 0 from rfl, List.drop_zero] at this
      rw [this]
      unfold nxt
      cases e : stops.find? (fun s => decide (s > (c : Int))) with
      | none => exact ⟨0, rfl, fun q hq => by simp at hq⟩
      | some s =>
        refine ⟨s, rfl, fun q hq => ?_⟩
        have h3 := List.mem_of_find?_eq_some e
        obtain ⟨i, h4, rfl⟩ := List.getElem_of_mem h3
        have := hs.2 i h4
        simp at hq
        omega
/-- a move that leads to a column of a distance -/
def hit (stops : List Int) (D : List Int) (c : Nat) (f : Int) (m : UInt8) : Bool := match mvP stops c m with | some q => D[q]? == some f | none => false
theorem hit_iff {stops D : List Int} {c : Nat} {f : Int} {m : UInt8} : hit stops D c f m = true ↔ ∃ q, mvP stops c m = some q ∧ D[q]? = some f := by
  unfold hit
  split <;> simp_all
def three : List UInt8 := [35, 60, 62]
/-- one test -/
theorem l4_step (stops : List Int) (hs : VS stops) (kj : List Int → Option (List Int)) (f : Int) (hf0 : 0 ≤ f) (hf : f ≤ 100) (c : Nat) (hc : c ≤ 30) (D : List Int) (hD : D.length = 31) (N j : Nat) (hj : j < 3) (hN : 10 ≤ N) :
    i_distances_l4 kj stops f (c : Int) (N + 1) D (j : Int) = i_distances_l4 kj stops f (c : Int) N (if hit stops D c f (three[j]'hj) then D.set c (f + 1) else D) ((j + 1 : Nat) : Int) := by
  have hl : (j : Int) < ((List.length ([35, 60, 62] : List Nat)) : Int) := by show (j : Int) < 3; omega
  have hx : idx ([35, 60, 62] : List UInt8) (j : Int) = some (three[j]'hj) := idx_lt three j hj
  obtain ⟨x, e1, e2⟩ := moved_ok N stops hs c hc (three[j]'hj) hN
  have ec : idx D (c : Int) = some D[c] := idx_lt D c (by omega)
  have ew : w64 (f + 1) = f + 1 := w64_id (by omega) (by omega)
  simp only [i_distances_l4, hl, decide_true, cond_true, withK_eq, hx, Option.bind_some, e1, w64_nat j (by omega)]
  cases e : mvP stops c (three[j]'hj) with
  | none =>
    have : hit stops D c f (three[j]'hj) = false := by unfold hit; rw [e]
    simp [this]
  | some q =>
    obtain ⟨hq, _⟩ := mvP_le stops hs c hc _ q e
    have hx : idx D x = some D[q] := by rw [e2 q e]; exact idx_lt D q (by omega)
    have : hit stops D c f (three[j]'hj) = (D[q] == f) := by
      unfold hit; rw [e]; simp only [List.getElem?_eq_getElem (show q < D.length by omega)]
      rw [Bool.eq_iff_iff]; simp
    rw [this]
    simp only [Option.isSome_some, andO_true, hx, Option.bind_some, ec, ew, Int.toNat_natCast]
    cases D[q] == f <;> rfl
theorem hit_set (stops : List Int) (hs : VS stops) (D : List Int) (c : Nat) (hc : c ≤ 30) (f v : Int) (m : UInt8) : hit stops (D.set c v) c f m = hit stops D c f m := by
  unfold hit
  split
  · rename_i q e
    obtain ⟨_, hq⟩ := mvP_le stops hs c hc _ q e
    rw [List.getElem?_set_ne (Ne.symm hq)]
  · rfl
def anyhit (stops : List Int) (D : List Int) (c : Nat) (f : Int) : Bool := hit stops D c f 35 || hit stops D c f 60 || hit stops D c f 62
theorem l4_ok (stops : List Int) (hs : VS stops) (kj : List Int → Option (List Int)) (f : Int) (hf0 : 0 ≤ f) (hf : f ≤ 100) (c : Nat) (hc : c ≤ 30) (D : List Int) (hD : D.length = 31) (N : Nat) (hN : 20 ≤ N) :
    i_distances_l4 kj stops f (c : Int) N D 0 = kj (if anyhit stops D c f then D.set c (f + 1) else D) := by
  obtain ⟨M, rfl⟩ : ∃ M, N = M + 1 + 1 + 1 + 1 := ⟨N - 4, by omega⟩
  have s0 := l4_step stops hs kj f hf0 hf c hc D hD (M + 1 + 1 + 1) 0 (by omega) (by omega)
  rw [show ((0 : Nat) : Int) = 0 from rfl] at s0
  have hend : ∀ D', i_distances_l4 kj stops f (c : Int) (M + 1) D' ((2 + 1 : Nat) : Int) = kj D' := fun D' => by
    have : ¬ (((2 + 1 : Nat) : Int) < ((List.length ([35, 60, 62] : List Nat)) : Int)) := by decide
    simp only [i_distances_l4, this, decide_false, cond_false]
  have t0 : three[0] = 35 := rfl
  have t1 : three[1] = 60 := rfl
  have t2 : three[2] = 62 := rfl
  rw [s0]
  have hl : ∀ b : Bool, (if b = true then D.set c (f + 1) else D).length = 31 := fun b => by cases b <;> simp [hD]
  rw [l4_step stops hs kj f hf0 hf c hc _ (hl _) (M + 1 + 1) (0 + 1) (by omega) (by omega)]
  have hset : ∀ D0 : List Int, D0.length = 31 → ∀ b : Bool, ∀ m, hit stops (if b = true then D0.set c (f + 1) else D0) c f m = hit stops D0 c f m := fun D0 _ b m => by cases b <;> simp [hit_set stops hs _ c hc]
  simp only [Nat.zero_add, t0, t1]
  rw [hset D hD]
  have hl2 : ∀ b b' : Bool, (if b' = true then (if b = true then D.set c (f + 1) else D).set c (f + 1) else if b = true then D.set c (f + 1) else D) = if (b || b') = true then D.set c (f + 1) else D := fun b b' => by cases b <;> cases b' <;> simp
  rw [hl2, l4_step stops hs kj f hf0 hf c hc _ (hl _) (M + 1) (1 + 1) (by omega) (by omega)]
  simp only [show 1 + 1 = 2 from rfl, t2]
  rw [hset D hD, hend]
  have hl3 : ∀ b b' : Bool, (if b' = true then (if b = true then D.set c (f + 1) else D).set c (f + 1) else if b = true then D.set c (f + 1) else D) = if (b || b') = true then D.set c (f + 1) else D := hl2
  rw [hl3]
  rfl
/-! a round -/
def near (stops : List Int) (D : List Int) (c : Nat) (f : Int) : Prop := ∃ m ∈ three, ∃ q, mvP stops c m = some q ∧ D[q]? = some f
theorem anyhit_iff {stops D : List Int} {c : Nat} {f : Int} : anyhit stops D c f = true ↔ near stops D c f := by
  unfold anyhit near three
  simp only [Bool.or_eq_true, hit_iff, List.mem_cons, List.not_mem_nil, or_false, exists_eq_or_imp, exists_eq_left]
  rw [or_assoc]
structure Rnd (stops : List Int) (D0 : List Int) (f : Int) (k : Nat) (D : List Int) (ch : Bool) : Prop where
  len : D.length = 31
  old : ∀ c, c < 31 → D[c]? = D0[c]? ∨ (c < k ∧ D0[c]? = some (-1) ∧ D[c]? = some (f + 1) ∧ near stops D0 c f)
  new : ∀ c, c < k → D0[c]? = some (-1) → near stops D0 c f → D[c]? = some (f + 1)
  chg : ch = true → ∃ c, c < k ∧ D0[c]? = some (-1) ∧ D[c]? = some (f + 1)
  chn : ch = false → ∀ c, c < k → D0[c]? = some (-1) → D[c]? = some (-1)
theorem Rnd.near {stops D0 D : List Int} {f : Int} {k : Nat} {ch : Bool} (h : Rnd stops D0 f k D ch) (hs : VS stops) (hf : 0 ≤ f) (c : Nat) (hc : c ≤ 30) : Ythpdpfagfkopnaa.near stops D c f ↔ Ythpdpfagfkopnaa.near stops D0 c f := by
  unfold Ythpdpfagfkopnaa.near
  refine exists_congr fun m => and_congr_right fun _ => exists_congr fun q => and_congr_right fun hq => ?_
  obtain ⟨h1, _⟩ := mvP_le stops hs c hc m q hq
  rcases h.old q (by omega) with e | ⟨_, e1, e2, _⟩
  · rw [e]
  · rw [e1, e2]
    constructor
    · intro e; have := Option.some.inj e; omega
    · intro e; have := Option.some.inj e; omega
theorem l3_ok (stops : List Int) (hs : VS stops) (f : Int) (hf0 : 0 ≤ f) (hf : f ≤ 100) (D0 : List Int) (hneg : ∀ (c : Nat) (v : Int), D0[c]? = some v → v < 0 → v = -1) : ∀ (n k : Nat) (D : List Int) (ch : Bool), k + n = 31 → Rnd stops D0 f k D ch →
    ∃ D' ch', (∀ (N : Nat) (kj : List Int → Bool → Option (List Int)), n + 30 ≤ N → i_distances_l3 kj stops f N D ch (k : Int) = kj D' ch') ∧ Rnd stops D0 f 31 D' ch' := by
  intro n
  induction n with
  | zero =>
    intro k D ch h1 h3
    obtain rfl : k = 31 := by omega
    refine ⟨D, ch, fun N kj h2 => ?_, h3⟩
    obtain ⟨N, rfl⟩ := pos_fuel (show 0 < N by omega)
    simp [i_distances_l3]
  | succ n ih =>
    intro k D ch h1 h3
    have hl := h3.len
    have hk : (k : Int) < 31 := by omega
    have hkk : k < D.length := by omega
    have hDk : D[k]? = D0[k]? := by
      rcases h3.old k (by omega) with e | ⟨e, _⟩
      · exact e
      · omega
    have eD : D[k]? = some D[k] := List.getElem?_eq_getElem hkk
    by_cases h0 : D[k] ≥ 0
    · obtain ⟨D', ch', e, hr⟩ := ih (k + 1) D ch (by omega) ⟨hl, fun c hc => by
        rcases h3.old c hc with e | ⟨e1, e2⟩
        · exact .inl e
        · exact .inr ⟨by omega, e2⟩, fun c hc h4 h5 => by
        by_cases e : c = k
        · subst e; rw [← hDk, eD] at h4; have := Option.some.inj h4; omega
        · exact h3.new c (by omega) h4 h5, fun h => by
        obtain ⟨c, e1, e2⟩ := h3.chg h; exact ⟨c, by omega, e2⟩, fun h c hc h4 => by
        by_cases e : c = k
        · subst e; rw [hDk]; exact h4
        · exact h3.chn h c (by omega) h4⟩
      refine ⟨D', ch', fun N kj h2 => ?_, hr⟩
      obtain ⟨N, rfl⟩ := pos_fuel (show 0 < N by omega)
      simp only [i_distances_l3, hk, decide_true, cond_true, withK_eq, idx_lt D k hkk, Option.bind_some, w64_nat k (by omega), h0]
      exact e N kj (by omega)
    · have hn := h3.near hs hf0 k (by omega)
      by_cases ha : anyhit stops D k f = true
      · have hnr := hn.1 (anyhit_iff.1 ha)
        have hix : idx (D.set k (f + 1)) (k : Int) = some (f + 1) := by
          rw [idx_lt _ k (by simpa using hkk)]; simp
        have hge : f + 1 ≥ 0 := by omega
        have hDm : D0[k]? = some (-1) := by rw [← hDk, eD, hneg k D[k] (by rw [← hDk, eD]) (by omega)]
        obtain ⟨D', ch', e, hr⟩ := ih (k + 1) (D.set k (f + 1)) true (by omega) ⟨by simp [hl], fun c hc => by
          by_cases e : c = k
          · subst e; exact .inr ⟨by omega, hDm, by simp [hkk], hnr⟩
          · rw [List.getElem?_set_ne (Ne.symm e)]
            rcases h3.old c hc with e | ⟨e1, e2⟩
            · exact .inl e
            · exact .inr ⟨by omega, e2⟩, fun c hc h4 h5 => by
          by_cases e : c = k
          · subst e; simp [hkk]
          · rw [List.getElem?_set_ne (Ne.symm e)]; exact h3.new c (by omega) h4 h5, fun _ => ⟨k, by omega, hDm, by simp [hkk]⟩, fun h => by cases h⟩
        refine ⟨D', ch', fun N kj h2 => ?_, hr⟩
        obtain ⟨N, rfl⟩ := pos_fuel (show 0 < N by omega)
        simp only [i_distances_l3, hk, decide_true, cond_true, withK_eq, idx_lt D k hkk, Option.bind_some, w64_nat k (by omega), h0, decide_false, cond_false, l4_ok stops hs _ f hf0 hf k (by omega) D hl N (by omega)]
        simp only [ha, if_true, hix, Option.bind_some, hge, decide_true, orO_some, Bool.or_true]
        exact e N kj (by omega)
      · have ha' : anyhit stops D k f = false := by simpa using ha
        have hng : ¬ Ythpdpfagfkopnaa.near stops D0 k f := fun h => ha (anyhit_iff.2 (hn.2 h))
        obtain ⟨D', ch', e, hr⟩ := ih (k + 1) D ch (by omega) ⟨hl, fun c hc => by
          rcases h3.old c hc with e | ⟨e1, e2⟩
          · exact .inl e
          · exact .inr ⟨by omega, e2⟩, fun c hc h4 h5 => by
          by_cases e : c = k
          · subst e; exact (hng h5).elim
          · exact h3.new c (by omega) h4 h5, fun h => by
          obtain ⟨c, e1, e2⟩ := h3.chg h; exact ⟨c, by omega, e2⟩, fun h c hc h4 => by
          by_cases e : c = k
          · subst e; rw [hDk]; exact h4
          · exact h3.chn h c (by omega) h4⟩
        refine ⟨D', ch', fun N kj h2 => ?_, hr⟩
        obtain ⟨N, rfl⟩ := pos_fuel (show 0 < N by omega)
        simp only [i_distances_l3, hk, decide_true, cond_true, withK_eq, idx_lt D k hkk, Option.bind_some, w64_nat k (by omega), h0, decide_false, cond_false, l4_ok stops hs _ f hf0 hf k (by omega) D hl N (by omega)]
        simp only [ha', Bool.false_eq_true, if_false, idx_lt D k hkk, Option.bind_some, h0, decide_false, orO_some, Bool.or_false]
        exact e N kj (by omega)
/-! All distances; a way. -/
structure Jn (stops : List Int) (t : Nat) (f : Int) (D : List Int) : Prop where
  len : D.length = 31
  rng : ∀ (c : Nat) (v : Int), D[c]? = some v → v = -1 ∨ (0 ≤ v ∧ v ≤ f)
  zero : ∀ (c : Nat), D[c]? = some 0 → c = t
  start : D[t]? = some 0
  step : ∀ (c : Nat) (v : Int), D[c]? = some (v + 1) → 0 ≤ v → near stops D c v
  far : ∀ (c q : Nat) (m : UInt8), c < 31 → m ∈ three → D[c]? = some (-1) → mvP stops c m = some q → D[q]? = some (-1) ∨ D[q]? = some f
  wide : ∀ (c : Nat), c < 31 → ((c : Int) - t ≤ f ∧ (t : Int) - c ≤ f) → D[c]? ≠ some (-1)
  opt : ∀ (c q : Nat) (m : UInt8) (g : Int), c < 31 → m ∈ three → mvP stops c m = some q → D[q]? = some g → 0 ≤ g → g < f → ∃ u, D[c]? = some u ∧ 0 ≤ u ∧ u ≤ g + 1
theorem mv_up (stops : List Int) (c : Nat) (h : c < 30) : mvP stops c 62 = some (c + 1) := by simp [mvP, h]
theorem mv_down (stops : List Int) (c : Nat) : mvP stops (c + 1) 60 = some c := by simp [mvP]
theorem Jn.next {stops : List Int} {t : Nat} {f : Int} {D0 D : List Int} {ch : Bool} (h : Jn stops t f D0) (hs : VS stops) (hf : 0 ≤ f) (ht : t < 31) (r : Rnd stops D0 f 31 D ch) : Jn stops t (f + 1) D where
  len := r.len
  rng c v hv := by
    have hc := lt_of_some hv; rw [r.len] at hc
    rcases r.old c hc with e | ⟨_, _, e, _⟩
    · rw [e] at hv; rcases h.rng c v hv with h | h <;> omega
    · rw [e] at hv; have := Option.some.inj hv; omega
  zero c hv := by
    have hc := lt_of_some hv; rw [r.len] at hc
    rcases r.old c hc with e | ⟨_, _, e, _⟩
    · rw [e] at hv; exact h.zero c hv
    · rw [e] at hv; have := Option.some.inj hv; omega
  start := by
    rcases r.old t ht with e | ⟨_, e, _⟩
    · rw [e]; exact h.start
    · rw [h.start] at e; have := Option.some.inj e; omega
  step c v hv h0 := by
    have hc := lt_of_some hv; rw [r.len] at hc
    have key : ∀ u : Int, 0 ≤ u → near stops D0 c u → near stops D c u := fun u hu ⟨m, hm, q, hq, hD⟩ => by
      refine ⟨m, hm, q, hq, ?_⟩
      obtain ⟨hq30, _⟩ := mvP_le stops hs c (by omega) m q hq
      rcases r.old q (by omega) with e | ⟨_, e, _⟩
      · rw [e]; exact hD
      · rw [e] at hD; have := Option.some.inj hD; omega
    rcases r.old c hc with e | ⟨_, _, e, hn⟩
    · rw [e] at hv; exact key v h0 (h.step c v hv h0)
    · rw [e] at hv
      have := Option.some.inj hv
      obtain rfl : v = f := by omega
      exact key v h0 hn
  far c q m hc hm hD hq := by
    obtain ⟨hq30, _⟩ := mvP_le stops hs c (by omega) m q hq
    have hD0 : D0[c]? = some (-1) := by
      rcases r.old c hc with e | ⟨_, e, _⟩
      · rw [← e]; exact hD
      · exact e
    have hq0 : D0[q]? = some (-1) := by
      rcases h.far c q m hc hm hD0 hq with e | e
      · exact e
      · have := r.new c hc hD0 ⟨m, hm, q, hq, e⟩
        rw [hD] at this; have := Option.some.inj this; omega
    rcases r.old q (by omega) with e | ⟨_, _, e, _⟩
    · exact .inl (e.trans hq0)
    · exact .inr e
  wide c hc hw hD := by
    have hD0 : D0[c]? = some (-1) := by
      rcases r.old c hc with e | ⟨_, e, _⟩
      · rw [← e]; exact hD
      · exact e
    have hne : c ≠ t := fun e => by
      subst e
      rw [h.start] at hD0; have := Option.some.inj hD0; omega
    by_cases hlt : c < t
    · have h1 := h.wide (c + 1) (by omega) (by omega)
      rcases h.far c (c + 1) 62 hc (by simp [three]) hD0 (mv_up stops c (by omega)) with e | e
      · exact h1 e
      · have := r.new c hc hD0 ⟨62, by simp [three], c + 1, mv_up stops c (by omega), e⟩
        rw [hD] at this; have := Option.some.inj this; omega
    · obtain ⟨d, rfl⟩ : ∃ d, c = d + 1 := ⟨c - 1, by omega⟩
      have h1 := h.wide d (by omega) (by omega)
      rcases h.far (d + 1) d 60 hc (by simp [three]) hD0 (mv_down stops d) with e | e
      · exact h1 e
      · have := r.new (d + 1) hc hD0 ⟨60, by simp [three], d, mv_down stops d, e⟩
        rw [hD] at this; have := Option.some.inj this; omega
  opt c q m g hc hm hq hg h0 hlt := by
    obtain ⟨hq30, _⟩ := mvP_le stops hs c (by omega) m q hq
    have hgq : D0[q]? = some g := by
      rcases r.old q (by omega) with e | ⟨_, _, e, _⟩
      · rw [← e]; exact hg
      · rw [hg] at e; have := Option.some.inj e; omega
    obtain ⟨v, hv⟩ : ∃ v, D0[c]? = some v := ⟨_, List.getElem?_eq_getElem (by rw [h.len]; exact hc)⟩
    have keep : 0 ≤ v → D[c]? = some v := fun hv0 => by
      rcases r.old c hc with e | ⟨_, e, _⟩
      · rw [e]; exact hv
      · rw [hv] at e; have := Option.some.inj e; omega
    by_cases hgf : g < f
    · obtain ⟨u, h1, h2, h3⟩ := h.opt c q m g hc hm hq hgq h0 hgf
      rw [hv] at h1
      obtain rfl := Option.some.inj h1
      exact ⟨v, keep h2, h2, h3⟩
    · obtain rfl : g = f := by omega
      rcases h.rng c v hv with e | ⟨e1, e2⟩
      · subst e
        exact ⟨g + 1, r.new c hc hv ⟨m, hm, q, hq, hgq⟩, by omega, by omega⟩
      · exact ⟨v, keep e1, e1, by omega⟩
/-- what all distances are -/
structure Dst (stops : List Int) (t : Nat) (D : List Int) : Prop where
  len : D.length = 31
  rng : ∀ (c : Nat) (v : Int), D[c]? = some v → 0 ≤ v ∧ v ≤ 31
  zero : ∀ (c : Nat), D[c]? = some 0 → c = t
  start : D[t]? = some 0
  step : ∀ (c : Nat) (v : Int), D[c]? = some (v + 1) → 0 ≤ v → near stops D c v
  opt : ∀ (c q : Nat) (m : UInt8) (g : Int), c < 31 → m ∈ three → mvP stops c m = some q → D[q]? = some g → ∃ u, D[c]? = some u ∧ u ≤ g + 1
theorem Jn.full {stops : List Int} {t : Nat} {f : Int} {D0 D : List Int} (h : Jn stops t f D0) (hs : VS stops) (ht : t < 31) (r : Rnd stops D0 f 31 D false) : D = D0 ∧ ∀ c : Nat, c < 31 → D0[c]? ≠ some (-1) := by
  have he : ∀ c : Nat, c < 31 → D[c]? = D0[c]? := fun c hc => by
    rcases r.old c hc with e | ⟨_, e, e2, _⟩
    · exact e
    · rw [r.chn rfl c hc e, e]
  have hnn : ∀ c : Nat, c < 31 → D0[c]? = some (-1) → ¬ near stops D0 c f := fun c hc h1 h2 => by
    have h3 := r.new c hc h1 h2
    have h4 := r.chn rfl c hc h1
    rw [h3] at h4
    have h5 := Option.some.inj h4
    obtain ⟨m, hm, q, hq, hD⟩ := h2
    have := h.rng q f hD
    have h0 : ¬ (f = -1) ∨ f = -1 := by omega
    rcases this with e | e
    · -- f = -1 : then the start is out of range
      have := h.rng t 0 h.start
      omega
    · omega
  refine ⟨List.ext_getElem? fun c => ?_, ?_⟩
  · by_cases hc : c < 31
    · exact he c hc
    · rw [List.getElem?_eq_none (by rw [r.len]; omega), List.getElem?_eq_none (by rw [h.len]; omega)]
  · have hnb : ∀ (c q : Nat) (m : UInt8), c < 31 → m ∈ three → D0[c]? = some (-1) → mvP stops c m = some q → D0[q]? = some (-1) := fun c q m hc hm h1 hq => by
      rcases h.far c q m hc hm h1 hq with e | e
      · exact e
      · exact (hnn c hc h1 ⟨m, hm, q, hq, e⟩).elim
    have up : ∀ d : Nat, t + d < 31 → D0[t + d]? ≠ some (-1) := by
      intro d
      induction d with
      | zero => intro _ e; rw [Nat.add_zero, h.start] at e; have := Option.some.inj e; omega
      | succ d ih =>
        intro hd e
        exact ih (by omega) (hnb (t + d + 1) (t + d) 60 hd (by simp [three]) e (mv_down stops (t + d)))
    have dn : ∀ d : Nat, d ≤ t → D0[t - d]? ≠ some (-1) := by
      intro d
      induction d with
      | zero => intro _ e; rw [Nat.sub_zero, h.start] at e; have := Option.some.inj e; omega
      | succ d ih =>
        intro hd e
        have hu := mv_up stops (t - (d + 1)) (by omega)
        rw [show t - (d + 1) + 1 = t - d by omega] at hu
        exact ih (by omega) (hnb (t - (d + 1)) (t - d) 62 (by omega) (by simp [three]) e hu)
    intro c hc
    by_cases hct : t ≤ c
    · have := up (c - t) (by omega)
      rwa [show t + (c - t) = c by omega] at this
    · have := dn (t - c) (by omega)
      rwa [show t - (t - c) = c by omega] at this
theorem l2_ok (stops : List Int) (hs : VS stops) (t : Nat) (ht : t < 31) : ∀ (n : Nat) (f : Int) (D : List Int), 0 ≤ f → f + n = 31 → Jn stops t f D → ∃ D', (∀ (N : Nat) (kj : List Int → Option (List Int)), n + 100 ≤ N → i_distances_l2 kj stops N D true f = kj D') ∧ Dst stops t D' := by
  have fin : ∀ (f : Int) (D : List Int), Jn stops t f D → f ≤ 31 → (∀ c : Nat, c < 31 → D[c]? ≠ some (-1)) → Dst stops t D := fun f D hJ hf hfull => ⟨hJ.len, fun c v hv => by
    rcases hJ.rng c v hv with h | h
    · subst h
      exact (hfull c (by have := lt_of_some hv; rw [hJ.len] at this; exact this) hv).elim
    · omega, hJ.zero, hJ.start, hJ.step, fun c q m g hc hm hq hg => by
    obtain ⟨v, hv⟩ : ∃ v, D[c]? = some v := ⟨_, List.getElem?_eq_getElem (by rw [hJ.len]; exact hc)⟩
    have hf0 : 0 ≤ f := by rcases hJ.rng t 0 hJ.start with h | h <;> omega
    have hv' : v ≤ f := by rcases hJ.rng c v hv with h | h <;> omega
    have hg0 : 0 ≤ g := by
      rcases hJ.rng q g hg with h | h
      · subst h
        exact (hfull q (by have := lt_of_some hg; rw [hJ.len] at this; exact this) hg).elim
      · omega
    by_cases hgf : g < f
    · obtain ⟨u, h1, _, h3⟩ := hJ.opt c q m g hc hm hq hg hg0 hgf
      exact ⟨u, h1, h3⟩
    · exact ⟨v, hv, by omega⟩⟩
  intro n
  induction n with
  | zero =>
    intro f D h0 h1 hJ
    obtain ⟨D', ch, e, r⟩ := l3_ok stops hs f h0 (by omega) D (fun c v h1 h2 => by rcases hJ.rng c v h1 with h | h <;> omega) 31 0 D false rfl ⟨hJ.len, fun c _ => .inl rfl, fun c hc => by omega, fun h => by (cases h), fun _ c hc => by omega⟩
    rw [show ((0 : Nat) : Int) = 0 from rfl] at e
    cases ch with
    | true =>
      obtain ⟨c, hc, hD, _⟩ := r.chg rfl
      exact (hJ.wide c hc (by omega) hD).elim
    | false =>
      obtain ⟨rfl, hfull⟩ := hJ.full hs ht r
      refine ⟨D', fun N kj h2 => ?_, fin f D' hJ (by omega) hfull⟩
      obtain ⟨N, rfl⟩ := pos_fuel (show 0 < N by omega)
      obtain ⟨N, rfl⟩ := pos_fuel (show 0 < N by omega)
      rw [i_distances_l2]
      simp only [cond_true, withK_eq, e (N + 1) _ (by omega)]
      simp only [i_distances_l2, cond_false]
  | succ n ih =>
    intro f D h0 h1 hJ
    obtain ⟨D', ch, e, r⟩ := l3_ok stops hs f h0 (by omega) D (fun c v h1 h2 => by rcases hJ.rng c v h1 with h | h <;> omega) 31 0 D false rfl ⟨hJ.len, fun c _ => .inl rfl, fun c hc => by omega, fun h => by (cases h), fun _ c hc => by omega⟩
    rw [show ((0 : Nat) : Int) = 0 from rfl] at e
    cases ch with
    | true =>
      obtain ⟨D2, e2, h3⟩ := ih (f + 1) D' (by omega) (by omega) (hJ.next hs h0 ht r)
      refine ⟨D2, fun N kj h2 => ?_, h3⟩
      obtain ⟨N, rfl⟩ := pos_fuel (show 0 < N by omega)
      rw [i_distances_l2]
      simp only [cond_true, withK_eq, w64_id (x := f + 1) (by omega) (by omega), e N _ (by omega)]
      exact e2 N kj (by omega)
    | false =>
      obtain ⟨rfl, hfull⟩ := hJ.full hs ht r
      refine ⟨D', fun N kj h2 => ?_, fin f D' hJ (by omega) hfull⟩
      obtain ⟨N, rfl⟩ := pos_fuel (show 0 < N by omega)
      obtain ⟨N, rfl⟩ := pos_fuel (show 0 < N by omega)
      rw [i_distances_l2]
      simp only [cond_true, withK_eq, w64_id (x := f + 1) (by omega) (by omega), e (N + 1) _ (by omega)]
      simp only [i_distances_l2, cond_false]
theorem l1_ok : ∀ (n k : Nat) (D : List Int), k + n = 31 → D.length = 31 → (∀ c, c < k → D[c]? = some (-1)) → ∃ D', (∀ (N : Nat) (kj : List Int → Option (List Int)), n < N → i_distances_l1 kj N D (k : Int) = kj D') ∧ D'.length = 31 ∧ ∀ c, c < 31 → D'[c]? = some (-1) := by
  intro n
  induction n with
  | zero =>
    intro k D h1 h3 h4
    obtain rfl : k = 31 := by omega
    refine ⟨D, fun N kj h2 => ?_, h3, h4⟩
    obtain ⟨N, rfl⟩ := pos_fuel h2
    simp [i_distances_l1]
  | succ n ih =>
    intro k D h1 h3 h4
    have hk : (k : Int) < 31 := by omega
    obtain ⟨D', e, h⟩ := ih (k + 1) (D.set k (-1)) (by omega) (by simp [h3]) (fun c hc => by
      by_cases hck : c = k
      · subst hck; rw [List.getElem?_set_self (by omega)]
      · rw [List.getElem?_set_ne (Ne.symm hck)]; exact h4 c (by omega))
    refine ⟨D', fun N kj h2 => ?_, h⟩
    obtain ⟨N, rfl⟩ := pos_fuel (show 0 < N by omega)
    simp only [i_distances_l1, hk, decide_true, cond_true, idx_lt D k (by omega), Option.bind_some, w64_nat k (by omega), Int.toNat_natCast, e N kj (by omega)]
theorem dist_ok (stops : List Int) (hs : VS stops) (t : Nat) (ht : t < 31) : ∃ D, (∀ N : Nat, 200 ≤ N → i_distances N stops (t : Int) = some D) ∧ Dst stops t D := by
  obtain ⟨D1, e1, h1, h2⟩ := l1_ok 31 0 (List.replicate 31 (0 : Int)) rfl (by simp) (fun c hc => by omega)
  rw [show ((0 : Nat) : Int) = 0 from rfl] at e1
  have hJ : Jn stops t 0 (D1.set t 0) := by
    have hget : ∀ c : Nat, c < 31 → c ≠ t → (D1.set t 0)[c]? = some (-1) := fun c hc hne => by rw [List.getElem?_set_ne (Ne.symm hne)]; exact h2 c hc
    have hself : (D1.set t 0)[t]? = some 0 := List.getElem?_set_self (by omega)
    have hlt : ∀ (c : Nat) (v : Int), (D1.set t 0)[c]? = some v → c < 31 := fun c v hv => by have := lt_of_some hv; simp at this; omega
    refine ⟨by simp [h1], fun c v hv => ?_, fun c hv => ?_, hself, fun c v hv h0 => ?_, fun c q m hc hm hD hq => ?_, fun c hc hw => ?_, fun c q m g _ _ _ _ h0 hlt => by omega⟩
    · by_cases hct : c = t
      · subst hct; rw [hself] at hv; have := Option.some.inj hv; omega
      · rw [hget c (hlt c v hv) hct] at hv; have := Option.some.inj hv; omega
    · by_cases hct : c = t
      · exact hct
      · rw [hget c (hlt c 0 hv) hct] at hv; have := Option.some.inj hv; omega
    · by_cases hct : c = t
      · subst hct; rw [hself] at hv; have := Option.some.inj hv; omega
      · rw [hget c (hlt c _ hv) hct] at hv; have := Option.some.inj hv; omega
    · obtain ⟨hq30, _⟩ := mvP_le stops hs c (by omega) m q hq
      by_cases hqt : q = t
      · subst hqt; exact .inr hself
      · exact .inl (hget q (by omega) hqt)
    · obtain rfl : c = t := by omega
      rw [hself]
      intro e
      have := Option.some.inj e
      omega
  obtain ⟨D, e, h⟩ := l2_ok stops hs t ht 31 0 _ (by omega) (by omega) hJ
  refine ⟨D, fun N hN => ?_, h⟩
  unfold i_distances
  simp only [withK_eq]
  rw [e1 N _ (by omega), idx_lt D1 t (by omega), Option.bind_some, Int.toNat_natCast, e N _ (by omega)]
  unfold chkA
  rw [if_pos h.len, Option.bind_some]
/-! ways -/
def go (stops : List Int) : Nat → Str → Option Nat
  | c, [] => some c
  | c, m :: r => (mvP stops c m).bind fun q => go stops q r
theorem go_append (stops : List Int) : ∀ (p r : Str) (c : Nat), go stops c (p ++ r) = (go stops c p).bind fun q => go stops q r
  | [], r, c => rfl
  | m :: p, r, c => by
    simp only [List.cons_append, go]
    cases mvP stops c m with
    | none => rfl
    | some q => simp only [Option.bind_some]; exact go_append stops p r q
theorem pl2_ok (stops : List Int) (hs : VS stops) (D : List Int) (c : Nat) (hc : c ≤ 30) (hD : D.length = 31) (v : Int) (hv : D[c]? = some (v + 1)) (h0 : 0 ≤ v) (h1 : v ≤ 100) : ∀ (n j : Nat), j + n = 3 → (∃ i, ∃ h : i < 3, j ≤ i ∧ hit stops D c v (three[i]'h) = true) →
    ∃ m q, m ∈ three ∧ mvP stops c m = some q ∧ D[q]? = some v ∧ ∀ (N : Nat) (kj : Str → Int → Option Str) (l : Str), n + 20 ≤ N → i_planBetween_l2 kj stops D N l (c : Int) (j : Int) = (app l [m]).bind fun l' => kj l' (q : Int) := by
  intro n
  induction n with
  | zero => intro j hj ⟨i, h, hi, _⟩; omega
  | succ n ih =>
    intro j hj hex
    have hj3 : j < 3 := by omega
    have hl : (j : Int) < ((List.length ([35, 60, 62] : List Nat)) : Int) := by show (j : Int) < 3; omega
    have hx : idx ([35, 60, 62] : List UInt8) (j : Int) = some (three[j]'hj3) := idx_lt three j hj3
    have ec : idx D (c : Int) = some (v + 1) := by rw [idx_nat]; exact hv
    have ew : w64 (v + 1 - 1) = v := by rw [w64_id (by omega) (by omega)]; omega
    by_cases hh : hit stops D c v (three[j]'hj3) = true
    · obtain ⟨q, hq, hDq⟩ := hit_iff.1 hh
      refine ⟨three[j]'hj3, q, List.getElem_mem _, hq, hDq, fun N kj l hN => ?_⟩
      obtain ⟨N, rfl⟩ := pos_fuel (show 0 < N by omega)
      obtain ⟨x, e1, e2⟩ := moved_ok N stops hs c hc (three[j]'hj3) (by omega)
      have hxq : idx D (q : Int) = some v := by rw [idx_nat]; exact hDq
      simp only [i_planBetween_l2, hl, decide_true, cond_true, hx, Option.bind_some, e1, hq, Option.isSome_some, andO_true, hxq, ec, ew, beq_self_eq_true, e2 q hq]
    · have hh' : hit stops D c v (three[j]'hj3) = false := by simpa using hh
      obtain ⟨m, q, h3, h4, h5, h6⟩ := ih (j + 1) (by omega) (by
        obtain ⟨i, h, hi, hit⟩ := hex
        refine ⟨i, h, ?_, hit⟩
        rcases Nat.lt_or_eq_of_le hi with h' | h'
        · exact h'
        · subst h'; exact (hh hit).elim)
      refine ⟨m, q, h3, h4, h5, fun N kj l hN => ?_⟩
      obtain ⟨N, rfl⟩ := pos_fuel (show 0 < N by omega)
      obtain ⟨x, e1, e2⟩ := moved_ok N stops hs c hc (three[j]'hj3) (by omega)
      rw [← h6 N kj l (by omega)]
      simp only [i_planBetween_l2, hl, decide_true, cond_true, hx, Option.bind_some, e1, w64_nat j (by omega)]
      cases e : mvP stops c (three[j]'hj3) with
      | none => simp
      | some q' =>
        obtain ⟨hq, _⟩ := mvP_le stops hs c hc _ q' e
        have hxq : idx D x = some (D[q']'(by omega)) := by rw [e2 q' e]; exact idx_lt D q' (by omega)
        have hne : (D[q']'(by omega) == v) = false := by
          unfold hit at hh'
          rw [e] at hh'
          simp only [List.getElem?_eq_getElem (show q' < D.length by omega)] at hh'
          rw [beq_eq_false_iff_ne] at hh' ⊢
          exact fun e => hh' (by rw [e])
        simp only [Option.isSome_some, andO_true, hxq, ec, Option.bind_some, ew, hne, cond_false]
theorem near_hit {stops D : List Int} {c : Nat} {v : Int} (h : near stops D c v) : ∃ i, ∃ h : i < 3, 0 ≤ i ∧ hit stops D c v (three[i]'h) = true := by
  obtain ⟨m, hm, q, hq, hD⟩ := h
  obtain ⟨i, hi, rfl⟩ := List.getElem_of_mem hm
  exact ⟨i, hi, Nat.zero_le _, hit_iff.2 ⟨q, hq, hD⟩⟩
theorem pl1_ok (stops : List Int) (hs : VS stops) (t : Nat) (D : List Int) (hd : Dst stops t D) : ∀ (k c : Nat), c ≤ 30 → D[c]? = some (k : Int) →
    ∃ p, (∀ (N : Nat) (kj : Str → Option Str) (l : Str), k + 60 ≤ N → l.length + k ≤ 1000 → i_planBetween_l1 kj stops (t : Int) D N l (c : Int) = kj (l ++ p)) ∧ p.length = k ∧ (∀ m ∈ p, m ∈ three) ∧ go stops c p = some t := by
  intro k
  induction k with
  | zero =>
    intro c hc hD
    have := hd.zero c hD
    subst this
    refine ⟨[], fun N kj l hN hl => ?_, rfl, by simp, rfl⟩
    obtain ⟨N, rfl⟩ := pos_fuel (show 0 < N by omega)
    simp only [i_planBetween_l1, withK_eq, bne_self_eq_false, cond_false, List.append_nil]
  | succ k ih =>
    intro c hc hD
    have hne : c ≠ t := fun e => by subst e; rw [hd.start] at hD; have := Option.some.inj hD; omega
    have hb : ((c : Int) != (t : Int)) = true := by simp; omega
    have hD' : D[c]? = some ((k : Int) + 1) := by rw [hD]; rfl
    have hr := hd.rng c _ hD'
    obtain ⟨m, q, h1, h2, h3, h4⟩ := pl2_ok stops hs D c hc hd.len k hD' (by omega) (by omega) 3 0 rfl (near_hit (hd.step c k hD' (by omega)))
    obtain ⟨hq, _⟩ := mvP_le stops hs c hc m q h2
    obtain ⟨p, e, h5, h6, h7⟩ := ih q hq h3
    refine ⟨m :: p, fun N kj l hN hl => ?_, by simp [h5], fun x hx => (List.mem_cons.1 hx).elim (fun e => e ▸ h1) (h6 x), by simp [go, h2, h7]⟩
    obtain ⟨N, rfl⟩ := pos_fuel (show 0 < N by omega)
    rw [show ((0 : Nat) : Int) = 0 from rfl] at h4
    simp only [i_planBetween_l1, withK_eq, hb, cond_true, h4 N _ l (by omega)]
    rw [app_some _ _ (by unfold LIM; simp; omega), Option.bind_some, e N kj _ (by omega) (by simp; omega), List.append_assoc, List.singleton_append]
theorem dst_short (stops : List Int) (hs : VS stops) (t : Nat) (D : List Int) (hd : Dst stops t D) : ∀ (p : Str) (c : Nat) (u : Int), c ≤ 30 → (∀ m ∈ p, m ∈ three) → go stops c p = some t → D[c]? = some u → u ≤ p.length
  | [], c, u, _, _, hg, hu => by
    obtain rfl : c = t := Option.some.inj hg
    rw [hd.start] at hu
    have := Option.some.inj hu
    simp; omega
  | m :: r, c, u, hc, hm, hg, hu => by
    simp only [go] at hg
    cases hq : mvP stops c m with
    | none => rw [hq] at hg; cases hg
    | some q =>
      rw [hq] at hg
      obtain ⟨hq30, _⟩ := mvP_le stops hs c hc m q hq
      obtain ⟨g, hgq⟩ : ∃ g, D[q]? = some g := ⟨_, List.getElem?_eq_getElem (by rw [hd.len]; omega)⟩
      have h1 := dst_short stops hs t D hd r q g hq30 (fun x hx => hm x (List.mem_cons_of_mem _ hx)) hg hgq
      obtain ⟨u', h2, h3⟩ := hd.opt c q m g (by omega) (hm m List.mem_cons_self) hq hgq
      rw [hu] at h2
      obtain rfl := Option.some.inj h2
      simp; omega
theorem between_way (stops : List Int) (hs : VS stops) (c t : Nat) (hc : c ≤ 30) (ht : t ≤ 30) : ∃ p, (∀ N : Nat, 300 ≤ N → i_planBetween N stops (c : Int) (t : Int) = some p) ∧ p.length ≤ 31 ∧ (∀ m ∈ p, m ∈ three) ∧ go stops c p = some t ∧ ∀ p' : Str, (∀ m ∈ p', m ∈ three) → go stops c p' = some t → p.length ≤ p'.length := by
  obtain ⟨D, e, hd⟩ := dist_ok stops hs t (by omega)
  have hck : chkA 31 D = some D := by unfold chkA; rw [if_pos hd.len]
  obtain ⟨v, hv⟩ : ∃ v, D[c]? = some v := ⟨_, List.getElem?_eq_getElem (by rw [hd.len]; omega)⟩
  have hr := hd.rng c v hv
  obtain ⟨p, e1, h1, h2, h3⟩ := pl1_ok stops hs t D hd v.toNat c hc (by rw [hv]; congr 1; omega)
  refine ⟨p, fun N hN => ?_, by omega, h2, h3, fun p' hp' hg' => by have := dst_short stops hs t D hd p' c v hc hp' hg' hv; omega⟩
  unfold i_planBetween
  simp only [e N (by omega), Option.bind_some, hck, withK_eq, e1 N _ [] (by omega) (by simp; omega), List.nil_append]
/-! Rows and their plans. -/
/-- a row -/
def Row (row : Str) : Prop := row.length ≤ 30 ∧ (∀ c ∈ row, c = 32 ∨ (33 ≤ c ∧ c ≤ 126)) ∧ (∀ h : 0 < row.length, row[row.length - 1] ≠ 32)
inductive Segs (stops : List Int) (row : Str) : Nat → Nat → List (Str × UInt8) → Prop
  | done {at_ : Nat} : Segs stops row row.length at_ []
  | blank {x at_ : Nat} {l : List (Str × UInt8)} (h : x < row.length) : row[x] = 32 → Segs stops row (x + 1) at_ l → Segs stops row x at_ l
  | letter {x at_ : Nat} {p : Str} {l : List (Str × UInt8)} (h : x < row.length) : row[x] ≠ 32 → p.length ≤ 31 → (∀ m ∈ p, m ∈ three) → go stops at_ p = some x → (∀ p' : Str, (∀ m ∈ p', m ∈ three) → go stops at_ p' = some x → p.length ≤ p'.length) → Segs stops row (x + 1) (x + 1) l → Segs stops row x at_ ((p, row[x]) :: l)
def flat (l : List (Str × UInt8)) : Str := l.flatMap fun s => s.1 ++ [39, s.2]
def total : List (Str × UInt8) → Nat
  | [] => 0
  | s :: l => s.1.length + total l
theorem flat_cons (s : Str × UInt8) (l : List (Str × UInt8)) : flat (s :: l) = s.1 ++ [39, s.2] ++ flat l := rfl
theorem flat_length : ∀ l : List (Str × UInt8), (flat l).length = total l + 2 * l.length
  | [] => rfl
  | s :: l => by rw [flat_cons]; simp only [List.length_append, List.length_cons, List.length_nil, flat_length l, total]; omega
theorem sub1 (s : Str) (k : Nat) (h : k < s.length) : sub s (k : Int) ((k + 1 : Nat) : Int) = some [s[k]] := by
  rw [sub_some s _ _ (by omega) (by omega) (by omega)]
  simp only [Int.toNat_natCast, Nat.add_sub_cancel_left]
  rw [List.drop_eq_getElem_cons h]
  rfl
/-- letters that a row still has -/
def more_ (row : Str) (x : Nat) : Nat := ((row.drop x).filter (fun c => c != 32)).length
theorem more_succ (row : Str) (x : Nat) (h : x < row.length) : more_ row x = (if row[x] = 32 then 0 else 1) + more_ row (x + 1) := by
  unfold more_
  rw [List.drop_eq_getElem_cons h, List.filter_cons]
  by_cases e : row[x] = 32
  · simp [e]
  · have : (row[x] != 32) = true := by simpa using e
    simp [this, e]; omega
theorem rp_l1 (stops : List Int) (hs : VS stops) (row : Str) (hr : Row row) : ∀ (n x at_ : Nat), x + n = row.length → at_ ≤ x →
    ∃ l, (∀ (N : Nat) (kj : Str → Int → Option (Str × Int)) (plan : Str) (mv : Nat), n + 400 ≤ N → plan.length + 40 * n ≤ 10000 → mv + 40 * n ≤ 10000 → i_rowPlan_l1 kj stops row N plan (mv : Int) (at_ : Int) (x : Int) = kj (plan ++ flat l) ((mv + total l : Nat) : Int)) ∧ Segs stops row x at_ l ∧ l.length = more_ row x ∧ total l ≤ 31 * l.length := by
  have h30 := hr.1
  intro n
  induction n with
  | zero =>
    intro x at_ h1 h3
    obtain rfl : x = row.length := by omega
    have hi : ¬ ((row.length : Int) < (row.length : Int)) := by omega
    refine ⟨[], fun N kj plan mv h2 h4 h5 => ?_, .done, by simp [more_], by simp [total]⟩
    obtain ⟨N, rfl⟩ := pos_fuel (show 0 < N by omega)
    simp only [i_rowPlan_l1, hi, decide_false, cond_false]; simp [flat, total]
  | succ n ih =>
    intro x at_ h1 h3
    have hi : (x : Int) < (row.length : Int) := by omega
    have hx : x < row.length := by omega
    by_cases hc : row[x] = 32
    · obtain ⟨l, e, f1, f2, f3⟩ := ih (x + 1) at_ (by omega) (by omega)
      have hb : (row[x] == 32) = true := by simpa using hc
      refine ⟨l, fun N kj plan mv h2 h4 h5 => ?_, .blank hx hc f1, by rw [more_succ row x hx]; simp [hc, f2], f3⟩
      obtain ⟨N, rfl⟩ := pos_fuel (show 0 < N by omega)
      simp only [i_rowPlan_l1, hi, decide_true, cond_true, withK_eq, idx_lt row x hx, Option.bind_some, hb, w64_nat x (by omega)]
      exact e N kj plan mv (by omega) (by omega) (by omega)
    · have hb : (row[x] == 32) = false := by simpa using hc
      obtain ⟨p, g1, g2, g3, g4, g5⟩ := between_way stops hs at_ x (by omega) (by omega)
      obtain ⟨l, e, f1, f2, f3⟩ := ih (x + 1) (x + 1) (by omega) (by omega)
      refine ⟨(p, row[x]) :: l, fun N kj plan mv h2 h4 h5 => ?_, .letter hx hc g2 g3 g4 g5 f1, by rw [more_succ row x hx]; simp [hc, f2]; omega, by simp only [total, List.length_cons]; omega⟩
      obtain ⟨N, rfl⟩ := pos_fuel (show 0 < N by omega)
      have ew : w64 ((mv : Int) + (p.length : Int)) = ((mv + p.length : Nat) : Int) := by rw [w64_id (by omega) (by omega)]; omega
      simp only [i_rowPlan_l1, hi, decide_true, cond_true, withK_eq, idx_lt row x hx, Option.bind_some, hb, cond_false, g1 N (by omega), w64_nat x (by omega), sub1 row x hx, ew]
      rw [cat_some p [39] (by unfold LIM; simp; omega), Option.bind_some, cat_some _ _ (by unfold LIM; simp; omega), Option.bind_some, cat_some _ _ (by unfold LIM; simp; omega), Option.bind_some]
      simp only [total]
      rw [e N kj _ (mv + p.length) (by omega) (by simp; omega) (by omega), flat_cons]
      simp [Nat.add_assoc]
theorem rowPlan_ok (stops : List Int) (hs : VS stops) (row : Str) (hr : Row row) :
    ∃ l, (∀ N : Nat, 500 ≤ N → i_rowPlan N stops row = some (flat l, (total l : Int))) ∧ Segs stops row 0 0 l ∧ l.length = more_ row 0 ∧ total l ≤ 31 * l.length := by
  have h30 := hr.1
  obtain ⟨l, e, h⟩ := rp_l1 stops hs row hr row.length 0 0 (by omega) (by omega)
  refine ⟨l, fun N hN => ?_, h⟩
  have e := e N (fun plan5 moves6 => some (plan5, moves6)) [] 0 (by omega) (by simp; omega) (by omega)
  unfold i_rowPlan
  simp only [withK_eq]
  rw [show ((0 : Nat) : Int) = 0 from rfl] at e
  rw [e]
  simp
/-! a row is valid -/
theorem isText_ok (N : Nat) (s : Str) (low : UInt8) (most : Int) (hm : (s.length : Int) ≤ most) (hs : s.length ≤ 1000) (hc : ∀ c ∈ s, ¬ c < low ∧ ¬ c > 126) (hN : s.length + 10 < N) : i_isText N s low most = some true := by
  have loop : ∀ (K : Option Bool) (n i N : Nat), i + n = s.length → n < N → i_isText_l1 K s low N (i : Int) = K := by
    intro K n
    induction n with
    | zero =>
      intro i N h1 h2
      obtain ⟨N, rfl⟩ := pos_fuel h2
      have hi : ¬ ((i : Int) < (s.length : Int)) := by omega
      simp only [i_isText_l1, hi, decide_false, cond_false]
    | succ n ih =>
      intro i N h1 h2
      obtain ⟨N, rfl⟩ := pos_fuel h2
      have hi : (i : Int) < (s.length : Int) := by omega
      have hil : i < s.length := by omega
      obtain ⟨c1, c2⟩ := hc s[i] (List.getElem_mem hil)
      have := ih (i + 1) N (by omega) (by omega)
      simp only [i_isText_l1, hi, decide_true, cond_true, idx_lt s i hil, Option.bind_some, c1, c2, decide_false, orO_some, Bool.or_self, cond_false, w64_nat i (by omega), this]
  have := fun K => loop K s.length 0 N (by omega) (by omega)
  rw [show ((0 : Nat) : Int) = 0 from rfl] at this
  have hg : ¬ (s.length : Int) > most := by omega
  unfold i_isText
  simp only [hg, decide_false, cond_false, withK_eq, this]
theorem isRow_ok (N : Nat) (row : Str) (hr : Row row) (hN : 100 ≤ N) : i_isRow N row = some true := by
  obtain ⟨h30, hc, hlast⟩ := hr
  unfold i_isRow
  have e1 := isText_ok N row 32 30 (by omega) (by omega) (fun c h => by
    rcases hc c h with rfl | ⟨a, b⟩
    · decide
    · simp only [UInt8.lt_iff_toNat_lt, UInt8.le_iff_toNat_le, gt_iff_lt] at *
      have q1 : (33 : UInt8).toNat = 33 := rfl
      have q2 : (126 : UInt8).toNat = 126 := rfl
      have q3 : (32 : UInt8).toNat = 32 := rfl
      omega) (by omega)
  rw [e1, Option.bind_some]
  by_cases h0 : row = []
  · subst h0; rfl
  · have hpos : 0 < row.length := List.length_pos_iff.2 h0
    have hb : (row == []) = false := by simpa using h0
    have hx : idx row (w64 ((row.length : Int) - 1)) = some row[row.length - 1] := by
      rw [w64_id (by omega) (by omega), show (row.length : Int) - 1 = ((row.length - 1 : Nat) : Int) by omega, idx_lt row _ (by omega)]
    have hl : (row[row.length - 1] != 32) = true := by simpa using hlast hpos
    simp only [hb, hx, Option.bind_some, hl, orO_false, andO_true]
theorem validStops_ok (N : Nat) (stops : List Int) (hs : VS stops) (hr : ∀ i, ∀ h : i + 1 < stops.length, stops[i] < stops[i + 1]) (hN : 20 ≤ N) : i_ValidStops N stops = some true := by
  have h6 := hs.1
  have loop : ∀ (K : Option Bool) (n i N : Nat), i + n = stops.length → n < N → i_ValidStops_l1 K stops N (i : Int) = K := by
    intro K n
    induction n with
    | zero =>
      intro i N h1 h2
      obtain ⟨N, rfl⟩ := pos_fuel h2
      have hi : ¬ ((i : Int) < (stops.length : Int)) := by omega
      simp only [i_ValidStops_l1, hi, decide_false, cond_false]
    | succ n ih =>
      intro i N h1 h2
      obtain ⟨N, rfl⟩ := pos_fuel h2
      have hi : (i : Int) < (stops.length : Int) := by omega
      have hil : i < stops.length := by omega
      obtain ⟨b1, b2⟩ := hs.2 i hil
      have eb : i_between stops[i] 1 30 = some true := by
        unfold i_between
        have a1 : stops[i] ≥ 1 := b1
        simp only [a1, b2, decide_true, andO_some, Bool.and_self, Option.bind_some]
      have := ih (i + 1) N (by omega) (by omega)
      simp only [i_ValidStops_l1, hi, decide_true, cond_true, idx_lt stops i hil, Option.bind_some, eb, Bool.not_true, orO_false, w64_nat i (by omega), this]
      by_cases h0 : i = 0
      · subst h0; simp
      · obtain ⟨j, rfl⟩ : ∃ j, i = j + 1 := ⟨i - 1, by omega⟩
        have hp : ((j + 1 : Nat) : Int) > 0 := by omega
        have hx : idx stops (w64 (((j + 1 : Nat) : Int) - 1)) = some stops[j] := by
          rw [w64_id (by omega) (by omega), show ((j + 1 : Nat) : Int) - 1 = (j : Int) by omega, idx_lt stops j (by omega)]
        have hlt : ¬ stops[j + 1] ≤ stops[j] := by have := hr j hil; omega
        simp only [hp, decide_true, andO_true, hx, Option.bind_some, hlt, decide_false, cond_false]
  have := fun K => loop K stops.length 0 N (by omega) (by omega)
  rw [show ((0 : Nat) : Int) = 0 from rfl] at this
  have hg : ¬ (stops.length : Int) > 6 := by omega
  unfold i_ValidStops
  simp only [hg, decide_false, cond_false, withK_eq, this]
/-! Drawn rows; the moves of a page. -/
theorem rowsCode_ok (N : Nat) (a b : Str) (ha : Row a) (hb : Row b) (hN : 200 ≤ N) : i_rowsCode N [a, b] = some 0 := by
  obtain ⟨N, rfl⟩ : ∃ M, N = M + 1 + 1 + 1 := ⟨N - 3, by omega⟩
  have e1 := isRow_ok (N + 1 + 1) a ha (by omega)
  have e2 := isRow_ok (N + 1) b hb (by omega)
  have i0 : idx [a, b] 0 = some a := rfl
  have i1 : idx [a, b] 1 = some b := rfl
  have w1 : w64 (0 + 1) = 1 := rfl
  have w2 : w64 (1 + 1) = 2 := rfl
  have d0 : decide ((0 : Int) < (([a, b] : List Str).length : Int)) = true := rfl
  have d1 : decide ((1 : Int) < (([a, b] : List Str).length : Int)) = true := rfl
  have d2 : decide ((2 : Int) < (([a, b] : List Str).length : Int)) = false := rfl
  have d3 : decide ((([a, b] : List Str).length : Int) > 12) = false := rfl
  unfold i_rowsCode
  simp only [d3, cond_false, withK_eq, i_rowsCode_l1, d0, cond_true, i0, Option.bind_some, e1, Bool.not_true, w1, d1, i1, e2, w2, d2]
/-- a row with so many letters -/
def RowD (row : Str) (k : Nat) : Prop := row.length ≤ 7 * k ∧ Row row ∧ more_ row 0 ≤ k
theorem blanks_l2 (kj : Int → Int → Str → Option Str) (r : Int × L00Src) : ∀ (n N : Nat) (l : Str), n < N → l.length + n ≤ 1000 → s_A2Row_l2 kj r N l (n : Int) = kj r.2.at_ r.2.seed (l ++ List.replicate n 32) := by
  intro n
  induction n with
  | zero =>
    intro N l hN _
    obtain ⟨N, rfl⟩ := pos_fuel hN
    simp [s_A2Row_l2]
  | succ n ih =>
    intro N l hN hl
    obtain ⟨N, rfl⟩ := pos_fuel hN
    have hi : ((n + 1 : Nat) : Int) > 0 := by omega
    have e2 : w64 (((n + 1 : Nat) : Int) - 1) = (n : Int) := by rw [w64_id (by omega) (by omega)]; omega
    simp only [s_A2Row_l2, hi, decide_true, cond_true, e2]
    rw [app_some _ _ (by unfold LIM; simp; omega), Option.bind_some, ih N _ (by omega) (by simp; omega), List.append_assoc]
    rfl
theorem rowD_more (l : Str) (k q : Nat) (c : UInt8) (h : RowD l k) (hk : k < 3) (hq : q ≤ 6) (hc : 33 ≤ c ∧ c ≤ 126) : RowD (l ++ List.replicate q 32 ++ [c]) (k + 1) := by
  obtain ⟨h1, ⟨h2, h3, h4⟩, h5⟩ := h
  have hc32 : c ≠ 32 := by rintro rfl; exact absurd hc.1 (by decide)
  refine ⟨by simp; omega, ⟨by simp; omega, fun x hx => ?_, fun hp => ?_⟩, ?_⟩
  · simp only [List.mem_append, List.mem_replicate, List.mem_singleton] at hx
    rcases hx with (hx | ⟨_, rfl⟩) | rfl
    · exact h3 x hx
    · exact .inl rfl
    · exact .inr hc
  · rw [List.getElem_append_right (by simp)]
    simp [hc32]
  · unfold more_ at h5 ⊢
    have hb : (c != 32) = true := by simpa using hc32
    have hz : (List.replicate q (32 : UInt8)).filter (fun c => c != 32) = [] := by simp
    rw [List.drop_zero] at h5 ⊢
    rw [List.filter_append, List.filter_append, hz, List.append_nil, List.length_append]
    simp [hb]
    exact h5
theorem row_l1 (code : List UInt8) (kj : Str → Option Str) : ∀ (n k N : Nat) (a sd : Int) (l : Str), n + 20 < N → 0 ≤ a → a + 10 * n ≤ 10000 → k + n ≤ 3 → RowD l k →
    ∃ l', s_A2Row_l1 kj code N a sd l (n : Int) = kj l' ∧ RowD l' 3 := by
  have hb : BIG = 1152921504606846976 := rfl
  intro n
  induction n with
  | zero =>
    intro k N a sd l hN h0 h1 h2 h3
    obtain ⟨N, rfl⟩ := pos_fuel (show 0 < N by omega)
    exact ⟨l, by simp [s_A2Row_l1], by have := h3.1; omega, h3.2.1, by have := h3.2.2; omega⟩
  | succ n ih =>
    intro k N a sd l hN h0 h1 h2 h3
    obtain ⟨N, rfl⟩ := pos_fuel (show 0 < N by omega)
    have hi : ((n + 1 : Nat) : Int) > 0 := by omega
    obtain ⟨v, a1, s1, e1, b1, c1, d1, d2⟩ := pick_ok code a sd 7 h0 (by omega)
    have d2 := d2 (by omega)
    obtain ⟨u, a2, s2, e2, b2, c2, f1, f2⟩ := pick_ok code a1 s1 6 (by omega) (by omega)
    have f2 := f2 (by omega)
    have e3 : w64 (((n + 1 : Nat) : Int) - 1) = (n : Int) := by rw [w64_id (by omega) (by omega)]; omega
    have hl7 := h3.1
    obtain ⟨c, hc1, hc2⟩ : ∃ c, idx ([97, 98, 99, 39, 35, 62] : Str) u = some c ∧ 33 ≤ c ∧ c ≤ 126 := by
      refine ⟨_, idx_int _ u f1 (by simpa using f2), ?_⟩
      have : ∀ c ∈ ([97, 98, 99, 39, 35, 62] : Str), 33 ≤ c ∧ c ≤ 126 := by decide
      exact this _ (List.getElem_mem _)
    obtain ⟨l', g1, g2⟩ := ih (k + 1) N a2 s2 (l ++ List.replicate v.toNat 32 ++ [c]) (by omega) (by omega) (by omega) (by omega) (rowD_more l k v.toNat c h3 (by omega) (by omega) hc2)
    refine ⟨l', ?_, g2⟩
    have hbl := fun kj => blanks_l2 kj (v, ⟨code, a1, s1⟩) v.toNat N l (by omega) (by omega)
    rw [show ((v.toNat : Nat) : Int) = v by omega] at hbl
    simp only [s_A2Row_l1, hi, decide_true, cond_true, withK_eq, e1, Option.bind_some, hbl, e2, hc1, e3]
    rw [app_some _ _ (by unfold LIM; simp; omega), Option.bind_some, g1]
theorem A2Row_ok (N : Nat) (code : List UInt8) (hN : 30 ≤ N) : ∃ l, s_A2Row N code = some l ∧ RowD l 3 := by
  have hb : BIG = 1152921504606846976 := rfl
  have e0 : s_l00From code = some ⟨code, 0, 0⟩ := rfl
  obtain ⟨v, a1, s1, e1, b1, c1, d1, d2⟩ := pick_ok code 0 0 4 (by omega) (by omega)
  have d2 := d2 (by omega)
  obtain ⟨l, g1, g2⟩ := row_l1 code some v.toNat 0 N a1 s1 [] (by omega) (by omega) (by omega) (by omega) ⟨by simp, ⟨by simp, by simp, fun h => by simp at h⟩, by simp [more_]⟩
  rw [show ((v.toNat : Nat) : Int) = v by omega] at g1
  refine ⟨l, ?_, g2⟩
  simp only [s_A2Row, e0, Option.bind_some, withK_eq, e1, g1]

/-- the moves of two rows -/
def Mv (a b : Str) (stops : List Int) (v : Nat) : Prop := (∃ la lb, Segs stops a 0 0 la ∧ Segs stops b 0 0 lb ∧ v = total la + total lb) ∧ v ≤ 1000 ∧ ∀ N : Nat, 700 ≤ N → i_pageMoves N stops [a, b] = some (v : Int)
theorem Mv.uniq {a b : Str} {stops : List Int} {v w : Nat} (h1 : Mv a b stops v) (h2 : Mv a b stops w) : v = w := by
  have e1 := h1.2.2 700 (Nat.le_refl _)
  have e2 := h2.2.2 700 (Nat.le_refl _)
  rw [e1] at e2
  have := Option.some.inj e2
  omega
theorem mv_ex (stops : List Int) (hs : VS stops) (a b : Str) (ha : RowD a 3) (hb : RowD b 3) : ∃ v, Mv a b stops v := by
  obtain ⟨la, ea, sa, na, ta⟩ := rowPlan_ok stops hs a ha.2.1
  obtain ⟨lb, eb, sb, nb, tb⟩ := rowPlan_ok stops hs b hb.2.1
  have h3 := ha.2.2
  have h4 := hb.2.2
  have h5 : total la + total lb ≤ 1000 := by omega
  refine ⟨total la + total lb, ⟨la, lb, sa, sb, rfl⟩, h5, fun N hN => ?_⟩
  obtain ⟨M, rfl⟩ : ∃ M, N = M + 1 + 1 + 1 := ⟨N - 3, by omega⟩
  have i0 : idx [a, b] 0 = some a := rfl
  have i1 : idx [a, b] 1 = some b := rfl
  have w1 : w64 (0 + 1) = 1 := rfl
  have w2 : w64 (1 + 1) = 2 := rfl
  have d0 : decide ((0 : Int) < (([a, b] : List Str).length : Int)) = true := rfl
  have d1 : decide ((1 : Int) < (([a, b] : List Str).length : Int)) = true := rfl
  have d2 : decide ((2 : Int) < (([a, b] : List Str).length : Int)) = false := rfl
  have s1 : w64 (0 + (total la : Int)) = (total la : Int) := by rw [w64_id (by omega) (by omega)]; omega
  have s2 : w64 ((total la : Int) + (total lb : Int)) = ((total la + total lb : Nat) : Int) := by rw [w64_id (by omega) (by omega)]; omega
  unfold i_pageMoves
  simp only [withK_eq, i_pageMoves_l1, d0, cond_true, i0, ea (M + 1 + 1) (by omega), Option.bind_some, s1, w1, d1, i1, eb (M + 1) (by omega), s2, w2, d2, cond_false]
/-- what can be reached as shortly -/
def Better (S S' : List Int) : Prop := ∀ (p : Str) (c t : Nat), c ≤ 29 → t ≤ 29 → (∀ m ∈ p, m ∈ three) → go S c p = some t → ∃ p' : Str, (∀ m ∈ p', m ∈ three) ∧ go S' c p' = some t ∧ p'.length ≤ p.length
theorem segs_cmp {S S' : List Int} (hB : Better S S') {row : Str} (hr : row.length ≤ 28) {x at_ : Nat} {l : List (Str × UInt8)} (h : Segs S row x at_ l) : ∀ l', at_ ≤ 29 → Segs S' row x at_ l' → total l' ≤ total l := by
  induction h with
  | done =>
    intro l' _ h'
    generalize hx : row.length = x at h'
    cases h' with
    | done => exact Nat.le_refl _
    | blank h1 _ _ => omega
    | letter h1 _ _ _ _ _ _ => omega
  | blank hx hc _ ih =>
    intro l' ha h'
    cases h' with
    | done => omega
    | blank _ _ h2 => exact ih _ ha h2
    | letter _ h1 _ _ _ _ _ => exact absurd hc h1
  | letter hx hc _ h3 hg _ _ ih =>
    intro l' ha h'
    cases h' with
    | done => omega
    | blank _ h1 _ => exact absurd h1 hc
    | letter _ _ _ _ _ hmin h2 =>
      obtain ⟨p', q1, q2, q3⟩ := hB _ _ _ ha (by omega) h3 hg
      have h4 := hmin p' q1 q2
      have h5 := ih _ (by omega) h2
      simp only [total]
      omega
theorem mv_cmp {S S' : List Int} (hB : Better S S') {a b : Str} (ha : RowD a 3) (hb : RowD b 3) {v w : Nat} (h1 : Mv a b S v) (h2 : Mv a b S' w) : w ≤ v := by
  obtain ⟨⟨la, lb, sa, sb, e⟩, _⟩ := h1
  obtain ⟨⟨la', lb', sa', sb', e'⟩, _⟩ := h2
  have g1 := segs_cmp hB (by have := ha.1; omega) sa la' (by omega) sa'
  have g2 := segs_cmp hB (by have := hb.1; omega) sb lb' (by omega) sb'
  omega
/-! a stop more -/
theorem nxt_nil (c : Nat) : nxt [] c = none := rfl
theorem mv_split (S : List Int) (c : Nat) (m : UInt8) (h : m ∈ three) : (m = 35 ∧ mvP S c m = nxt S c) ∨ (m ≠ 35 ∧ ∀ S', mvP S' c m = mvP S c m) := by
  simp only [three, List.mem_cons, List.not_mem_nil, or_false] at h
  rcases h with rfl | rfl | rfl
  · exact .inl ⟨rfl, by simp [mvP]⟩
  · exact .inr ⟨by decide, fun S' => by simp [mvP]⟩
  · exact .inr ⟨by decide, fun S' => by simp [mvP]⟩
/-- all jumps stay -/
theorem better_of (S S' : List Int) (h : ∀ (c q : Nat), nxt S c = some q → nxt S' c = some q) : Better S S' := by
  have key : ∀ (p : Str) (c t : Nat), (∀ m ∈ p, m ∈ three) → go S c p = some t → go S' c p = some t := by
    intro p
    induction p with
    | nil => intro c t _ hg; exact hg
    | cons m r ih =>
      intro c t hm hg
      simp only [go] at hg ⊢
      cases hq : mvP S c m with
      | none => rw [hq] at hg; cases hg
      | some q =>
        rw [hq] at hg
        have : mvP S' c m = some q := by
          rcases mv_split S c m (hm m List.mem_cons_self) with ⟨e1, e2⟩ | ⟨_, e2⟩
          · rw [e2] at hq
            have h3 := h c q hq
            rcases mv_split S' c m (hm m List.mem_cons_self) with ⟨_, e4⟩ | ⟨e4, _⟩
            · rw [e4]; exact h3
            · exact absurd e1 e4
          · rw [e2 S']; exact hq
        rw [this]
        exact ih q t (fun x hx => hm x (List.mem_cons_of_mem _ hx)) hg
  exact fun p c t _ _ hm hg => ⟨p, hm, key p c t hm hg, Nat.le_refl _⟩
theorem better_one (s : Int) : Better [] [s] := better_of _ _ fun c q h => by rw [nxt_nil] at h; cases h
theorem better_two (s : Int) : Better [s] [s, 30] := better_of _ _ fun c q h => by
  unfold nxt at h ⊢
  simp only [List.find?_cons] at h ⊢
  cases hd : decide (s > (c : Int))
  · rw [hd] at h; simp at h
  · rw [hd] at h; exact h
theorem go30 (m : UInt8) (r : Str) (hm : m ∈ three) (t : Nat) (hg : go [30] 30 (m :: r) = some t) : m = 60 ∧ go [30] 29 r = some t := by
  simp only [three, List.mem_cons, List.not_mem_nil, or_false] at hm
  rcases hm with rfl | rfl | rfl
  · simp [go, mvP, nxt] at hg
  · exact ⟨rfl, by simpa [go, mvP] using hg⟩
  · simp [go, mvP] at hg
theorem better_last : Better [30] [29, 30] := by
  have key : ∀ (n : Nat) (p : Str) (c t : Nat), p.length ≤ n → t ≤ 29 → (∀ m ∈ p, m ∈ three) → go [30] c p = some t →
      (c ≤ 29 → ∃ p' : Str, (∀ m ∈ p', m ∈ three) ∧ go [29, 30] c p' = some t ∧ p'.length ≤ p.length) ∧ (c = 30 → ∃ p' : Str, (∀ m ∈ p', m ∈ three) ∧ go [29, 30] 29 p' = some t ∧ p'.length + 1 ≤ p.length) := by
    intro n
    induction n with
    | zero =>
      intro p c t hp ht hm hg
      obtain rfl : p = [] := List.eq_nil_of_length_eq_zero (by omega)
      obtain rfl : c = t := Option.some.inj hg
      exact ⟨fun _ => ⟨[], by simp, rfl, Nat.le_refl _⟩, fun e => by omega⟩
    | succ n ih =>
      intro p c t hp ht hm hg
      match p, hp, hm, hg with
      | [], _, _, hg =>
        obtain rfl : c = t := Option.some.inj hg
        exact ⟨fun _ => ⟨[], by simp, rfl, Nat.le_refl _⟩, fun e => by omega⟩
      | m :: r, hp, hm, hg =>
        have hmr : ∀ x ∈ r, x ∈ three := fun x hx => hm x (List.mem_cons_of_mem _ hx)
        have hm0 := hm m List.mem_cons_self
        have hlr : r.length ≤ n := by simp at hp; omega
        refine ⟨fun hc => ?_, fun hc => ?_⟩
        · have hg0 := hg
          simp only [go] at hg
          cases hq : mvP [30] c m with
          | none => rw [hq] at hg; cases hg
          | some q =>
            rw [hq] at hg
            have hg : go [30] q r = some t := hg
            by_cases h35 : m = 35
            · subst h35
              have hq30 : q = 30 := by
                have : mvP [30] c 35 = some 30 := by
                  have : decide ((30 : Int) > (c : Int)) = true := decide_eq_true (by omega)
                  simp [mvP, nxt, List.find?_cons, this]
                rw [this] at hq; exact (Option.some.inj hq).symm
              subst hq30
              obtain ⟨p', e1, e2, e3⟩ := (ih r 30 t hlr ht hmr hg).2 rfl
              by_cases hc29 : c = 29
              · subst hc29
                exact ⟨p', e1, e2, by simp; omega⟩
              · refine ⟨35 :: p', fun x hx => (List.mem_cons.1 hx).elim (fun e => e ▸ hm0) (e1 x), ?_, by simp; omega⟩
                have : mvP [29, 30] c 35 = some 29 := by
                  have : decide ((29 : Int) > (c : Int)) = true := decide_eq_true (by omega)
                  simp [mvP, nxt, List.find?_cons, this]
                simp only [go, this]
                exact e2
            · have hsame : mvP [29, 30] c m = some q := by
                rcases mv_split [30] c m hm0 with ⟨e, _⟩ | ⟨_, e⟩
                · exact absurd e h35
                · rw [e]; exact hq
              by_cases hq30 : q = 30
              · subst hq30
                obtain ⟨p', e1, e2, e3⟩ := (ih r 30 t hlr ht hmr hg).2 rfl
                have hc29 : c = 29 := by
                  simp only [three, List.mem_cons, List.not_mem_nil, or_false] at hm0
                  rcases hm0 with rfl | rfl | rfl
                  · exact absurd rfl h35
                  · simp [mvP] at hq; omega
                  · simp [mvP] at hq; omega
                subst hc29
                exact ⟨p', e1, e2, by simp; omega⟩
              · have hq29 : q ≤ 29 := by
                  simp only [three, List.mem_cons, List.not_mem_nil, or_false] at hm0
                  rcases hm0 with rfl | rfl | rfl
                  · exact absurd rfl h35
                  · simp [mvP] at hq; omega
                  · simp [mvP] at hq; omega
                obtain ⟨p', e1, e2, e3⟩ := (ih r q t hlr ht hmr hg).1 hq29
                refine ⟨m :: p', fun x hx => (List.mem_cons.1 hx).elim (fun e => e ▸ hm0) (e1 x), ?_, by simp; omega⟩
                simp only [go, hsame]
                exact e2
        · subst hc
          obtain ⟨rfl, hg2⟩ := go30 m r hm0 t hg
          obtain ⟨p', e1, e2, e3⟩ := (ih r 29 t hlr ht hmr hg2).1 (by omega)
          exact ⟨p', e1, e2, by simp; omega⟩
  exact fun p c t hc ht hm hg => (key p.length p c t (Nat.le_refl _) ht hm hg).1 hc
end Go.Proofs.Ythpdpfagfkopnaa
