/-
  Plain lemmas on these functions. No conditions but those that each states.
-/
import Derived.Test.YtimcachjcocjmaaFnBestStopsP2
namespace Go.Proofs.Ytimcachjcocjmaa
set_option linter.unusedVariables false
set_option linter.unusedSimpArgs false
/-! All distances; a way. -/
structure Jn (stops : List Int) (t : Nat) (f : Int) (D : List Int) : Prop where
  len : D.length = 31
  rng : ∀ (c : Nat) (v : Int), D[c]? = some v → v = -1 ∨ (0 ≤ v ∧ v ≤ f)
  zero : ∀ (c : Nat), D[c]? = some 0 → c = t
  start : D[t]? = some 0
  step : ∀ (c : Nat) (v : Int), D[c]? = some (v + 1) → 0 ≤ v → near stops D c v
  far : ∀ (c q : Nat) (m : UInt8), c < 31 → m ∈ three → D[c]? = some (-1) → mvP stops c m = some q → D[q]? = some (-1) ∨ D[q]? = some f
  wide : ∀ (c : Nat), c < 31 → ((c : Int) - t ≤ f ∧ (t : Int) - c ≤ f) → D[c]? ≠ some (-1)
  opt : ∀ (c q : Nat) (m : UInt8) (g : Int), c < 31 → m ∈ three → mvP stops c m = some q → D[q]? = some g → 0 ≤ g → g < f → ∃ u, D[c]? = some u ∧ 0 ≤ u ∧ u ≤ g + 1
theorem mv_up (stops : List Int) (c : Nat) (h : c < 30) : mvP stops c 62 = some (c + 1) := by simp [mvP, h]
theorem mv_down (stops : List Int) (c : Nat) : mvP stops (c + 1) 60 = some c := by simp [mvP]
theorem Jn.next {stops : List Int} {t : Nat} {f : Int} {D0 D : List Int} {ch : Bool} (h : Jn stops t f D0) (hs : VS stops) (hf : 0 ≤ f) (ht : t < 31) (r : Rnd stops D0 f 31 D ch) : Jn stops t (f + 1) D where
  len := r.len
  rng c v hv := by
    have hc := lt_of_some hv; rw [r.len] at hc
    rcases r.old c hc with e | ⟨_, _, e, _⟩
    · rw [e] at hv; rcases h.rng c v hv with h | h <;> omega
    · rw [e] at hv; have := Option.some.inj hv; omega
  zero c hv := by
    have hc := lt_of_some hv; rw [r.len] at hc
    rcases r.old c hc with e | ⟨_, _, e, _⟩
    · rw [e] at hv; exact h.zero c hv
    · rw [e] at hv; have := Option.some.inj hv; omega
  start := by
    rcases r.old t ht with e | ⟨_, e, _⟩
    · rw [e]; exact h.start
    · rw [h.start] at e; have := Option.some.inj e; omega
  step c v hv h0 := by
    have hc := lt_of_some hv; rw [r.len] at hc
    have key : ∀ u : Int, 0 ≤ u → near stops D0 c u → near stops D c u := fun u hu ⟨m, hm, q, hq, hD⟩ => by
      refine ⟨m, hm, q, hq, ?_⟩
      obtain ⟨hq30, _⟩ := mvP_le stops hs c (by omega) m q hq
      rcases r.old q (by omega) with e | ⟨_, e, _⟩
      · rw [e]; exact hD
      · rw [e] at hD; have := Option.some.inj hD; omega
    rcases r.old c hc with e | ⟨_, _, e, hn⟩
    · rw [e] at hv; exact key v h0 (h.step c v hv h0)
    · rw [e] at hv
      have := Option.some.inj hv
      obtain rfl : v = f := by omega
      exact key v h0 hn
  far c q m hc hm hD hq := by
    obtain ⟨hq30, _⟩ := mvP_le stops hs c (by omega) m q hq
    have hD0 : D0[c]? = some (-1) := by
      rcases r.old c hc with e | ⟨_, e, _⟩
      · rw [← e]; exact hD
      · exact e
    have hq0 : D0[q]? = some (-1) := by
      rcases h.far c q m hc hm hD0 hq with e | e
      · exact e
      · have := r.new c hc hD0 ⟨m, hm, q, hq, e⟩
        rw [hD] at this; have := Option.some.inj this; omega
    rcases r.old q (by omega) with e | ⟨_, _, e, _⟩
    · exact .inl (e.trans hq0)
    · exact .inr e
  wide c hc hw hD := by
    have hD0 : D0[c]? = some (-1) := by
      rcases r.old c hc with e | ⟨_, e, _⟩
      · rw [← e]; exact hD
      · exact e
    have hne : c ≠ t := fun e => by
      subst e
      rw [h.start] at hD0; have := Option.some.inj hD0; omega
    by_cases hlt : c < t
    · have h1 := h.wide (c + 1) (by omega) (by omega)
      rcases h.far c (c + 1) 62 hc (by simp [three]) hD0 (mv_up stops c (by omega)) with e | e
      · exact h1 e
      · have := r.new c hc hD0 ⟨62, by simp [three], c + 1, mv_up stops c (by omega), e⟩
        rw [hD] at this; have := Option.some.inj this; omega
    · obtain ⟨d, rfl⟩ : ∃ d, c = d + 1 := ⟨c - 1, by omega⟩
      have h1 := h.wide d (by omega) (by omega)
      rcases h.far (d + 1) d 60 hc (by simp [three]) hD0 (mv_down stops d) with e | e
      · exact h1 e
      · have := r.new (d + 1) hc hD0 ⟨60, by simp [three], d, mv_down stops d, e⟩
        rw [hD] at this; have := Option.some.inj this; omega
  opt c q m g hc hm hq hg h0 hlt := by
    obtain ⟨hq30, _⟩ := mvP_le stops hs c (by omega) m q hq
    have hgq : D0[q]? = some g := by
      rcases r.old q (by omega) with e | ⟨_, _, e, _⟩
      · rw [← e]; exact hg
      · rw [hg] at e; have := Option.some.inj e; omega
    obtain ⟨v, hv⟩ : ∃ v, D0[c]? = some v := ⟨_, List.getElem?_eq_getElem (by rw [h.len]; exact hc)⟩
    have keep : 0 ≤ v → D[c]? = some v := fun hv0 => by
      rcases r.old c hc with e | ⟨_, e, _⟩
      · rw [e]; exact hv
      · rw [hv] at e; have := Option.some.inj e; omega
    by_cases hgf : g < f
    · obtain ⟨u, h1, h2, h3⟩ := h.opt c q m g hc hm hq hgq h0 hgf
      rw [hv] at h1
      obtain rfl := Option.some.inj h1
      exact ⟨v, keep h2, h2, h3⟩
    · obtain rfl : g = f := by omega
      rcases h.rng c v hv with e | ⟨e1, e2⟩
      · subst e
        exact ⟨g + 1, r.new c hc hv ⟨m, hm, q, hq, hgq⟩, by omega, by omega⟩
      · exact ⟨v, keep e1, e1, by omega⟩
/-- what all distances are -/
structure Dst (stops : List Int) (t : Nat) (D : List Int) : Prop where
  len : D.length = 31
  rng : ∀ (c : Nat) (v : Int), D[c]? = some v → 0 ≤ v ∧ v ≤ 31
  zero : ∀ (c : Nat), D[c]? = some 0 → c = t
  start : D[t]? = some 0
  step : ∀ (c : Nat) (v : Int), D[c]? = some (v + 1) → 0 ≤ v → near stops D c v
  opt : ∀ (c q : Nat) (m : UInt8) (g : Int), c < 31 → m ∈ three → mvP stops c m = some q → D[q]? = some g → ∃ u, D[c]? = some u ∧ u ≤ g + 1
theorem Jn.full {stops : List Int} {t : Nat} {f : Int} {D0 D : List Int} (h : Jn stops t f D0) (hs : VS stops) (ht : t < 31) (r : Rnd stops D0 f 31 D false) : D = D0 ∧ ∀ c : Nat, c < 31 → D0[c]? ≠ some (-1) := by
  have he : ∀ c : Nat, c < 31 → D[c]? = D0[c]? := fun c hc => by
    rcases r.old c hc with e | ⟨_, e, e2, _⟩
    · exact e
    · rw [r.chn rfl c hc e, e]
  have hnn : ∀ c : Nat, c < 31 → D0[c]? = some (-1) → ¬ near stops D0 c f := fun c hc h1 h2 => by
    have h3 := r.new c hc h1 h2
    have h4 := r.chn rfl c hc h1
    rw [h3] at h4
    have h5 := Option.some.inj h4
    obtain ⟨m, hm, q, hq, hD⟩ := h2
    have := h.rng q f hD
    have h0 : ¬ (f = -1) ∨ f = -1 := by omega
    rcases this with e | e
    · -- f = -1 : then the start is out of range
      have := h.rng t 0 h.start
      omega
    · omega
  refine ⟨List.ext_getElem? fun c => ?_, ?_⟩
  · by_cases hc : c < 31
    · exact he c hc
    · rw [List.getElem?_eq_none (by rw [r.len]; omega), List.getElem?_eq_none (by rw [h.len]; omega)]
  · have hnb : ∀ (c q : Nat) (m : UInt8), c < 31 → m ∈ three → D0[c]? = some (-1) → mvP stops c m = some q → D0[q]? = some (-1) := fun c q m hc hm h1 hq => by
      rcases h.far c q m hc hm h1 hq with e | e
      · exact e
      · exact (hnn c hc h1 ⟨m, hm, q, hq, e⟩).elim
    have up : ∀ d : Nat, t + d < 31 → D0[t + d]? ≠ some (-1) := by
      intro d
      induction d with
      | zero => intro _ e; rw [Nat.add_zero, h.start] at e; have := Option.some.inj e; omega
      | succ d ih =>
        intro hd e
        exact ih (by omega) (hnb (t + d + 1) (t + d) 60 hd (by simp [three]) e (mv_down stops (t + d)))
    have dn : ∀ d : Nat, d ≤ t → D0[t - d]? ≠ some (-1) := by
      intro d
      induction d with
      | zero => intro _ e; rw [Nat.sub_zero, h.start] at e; have := Option.some.inj e; omega
      | succ d ih =>
        intro hd e
        have hu := mv_up stops (t - (d + 1)) (by omega)
        rw [show t - (d + 1) + 1 = t - d by omega] at hu
        exact ih (by omega) (hnb (t - (d + 1)) (t - d) 62 (by omega) (by simp [three]) e hu)
    intro c hc
    by_cases hct : t ≤ c
    · have := up (c - t) (by omega)
      rwa [show t + (c - t) = c by omega] at this
    · have := dn (t - c) (by omega)
      rwa [show t - (t - c) = c by omega] at this
theorem l2_ok (stops : List Int) (hs : VS stops) (t : Nat) (ht : t < 31) : ∀ (n : Nat) (f : Int) (D : List Int), 0 ≤ f → f + n = 31 → Jn stops t f D → ∃ D', (∀ (N : Nat) (kj : List Int → Option (List Int)), n + 100 ≤ N → i_distances_l2 kj stops N D true f = kj D') ∧ Dst stops t D' := by
  have fin : ∀ (f : Int) (D : List Int), Jn stops t f D → f ≤ 31 → (∀ c : Nat, c < 31 → D[c]? ≠ some (-1)) → Dst stops t D := fun f D hJ hf hfull => ⟨hJ.len, fun c v hv => by
    rcases hJ.rng c v hv with h | h
    · subst h
      exact (hfull c (by have := lt_of_some hv; rw [hJ.len] at this; exact this) hv).elim
    · omega, hJ.zero, hJ.start, hJ.step, fun c q m g hc hm hq hg => by
    obtain ⟨v, hv⟩ : ∃ v, D[c]? = some v := ⟨_, List.getElem?_eq_getElem (by rw [hJ.len]; exact hc)⟩
    have hf0 : 0 ≤ f := by rcases hJ.rng t 0 hJ.start with h | h <;> omega
    have hv' : v ≤ f := by rcases hJ.rng c v hv with h | h <;> omega
    have hg0 : 0 ≤ g := by
      rcases hJ.rng q g hg with h | h
      · subst h
        exact (hfull q (by have := lt_of_some hg; rw [hJ.len] at this; exact this) hg).elim
      · omega
    by_cases hgf : g < f
    · obtain ⟨u, h1, _, h3⟩ := hJ.opt c q m g hc hm hq hg hg0 hgf
      exact ⟨u, h1, h3⟩
    · exact ⟨v, hv, by omega⟩⟩
  intro n
  induction n with
  | zero =>
    intro f D h0 h1 hJ
    obtain ⟨D', ch, e, r⟩ := l3_ok stops hs f h0 (by omega) D (fun c v h1 h2 => by rcases hJ.rng c v h1 with h | h <;> omega) 31 0 D false rfl ⟨hJ.len, fun c _ => .inl rfl, fun c hc => by omega, fun h => by (cases h), fun _ c hc => by omega⟩
    rw [show ((0 : Nat) : Int) = 0 from rfl] at e
    cases ch with
    | true =>
      obtain ⟨c, hc, hD, _⟩ := r.chg rfl
      exact (hJ.wide c hc (by omega) hD).elim
    | false =>
      obtain ⟨rfl, hfull⟩ := hJ.full hs ht r
      refine ⟨D', fun N kj h2 => ?_, fin f D' hJ (by omega) hfull⟩
      obtain ⟨N, rfl⟩ := pos_fuel (show 0 < N by omega)
      obtain ⟨N, rfl⟩ := pos_fuel (show 0 < N by omega)
      rw [i_distances_l2]
      simp only [cond_true, withK_eq, e (N + 1) _ (by omega)]
      simp only [i_distances_l2, cond_false]
  | succ n ih =>
    intro f D h0 h1 hJ
    obtain ⟨D', ch, e, r⟩ := l3_ok stops hs f h0 (by omega) D (fun c v h1 h2 => by rcases hJ.rng c v h1 with h | h <;> omega) 31 0 D false rfl ⟨hJ.len, fun c _ => .inl rfl, fun c hc => by omega, fun h => by (cases h), fun _ c hc => by omega⟩
    rw [show ((0 : Nat) : Int) = 0 from rfl] at e
    cases ch with
    | true =>
      obtain ⟨D2, e2, h3⟩ := ih (f + 1) D' (by omega) (by omega) (hJ.next hs h0 ht r)
      refine ⟨D2, fun N kj h2 => ?_, h3⟩
      obtain ⟨N, rfl⟩ := pos_fuel (show 0 < N by omega)
      rw [i_distances_l2]
      simp only [cond_true, withK_eq, w64_id (x := f + 1) (by omega) (by omega), e N _ (by omega)]
      exact e2 N kj (by omega)
    | false =>
      obtain ⟨rfl, hfull⟩ := hJ.full hs ht r
      refine ⟨D', fun N kj h2 => ?_, fin f D' hJ (by omega) hfull⟩
      obtain ⟨N, rfl⟩ := pos_fuel (show 0 < N by omega)
      obtain ⟨N, rfl⟩ := pos_fuel (show 0 < N by omega)
      rw [i_distances_l2]
      simp only [cond_true, withK_eq, w64_id (x := f + 1) (by omega) (by omega), e (N + 1) _ (by omega)]
      simp only [i_distances_l2, cond_false]
theorem l1_ok : ∀ (n k : Nat) (D : List Int), k + n = 31 → D.length = 31 → (∀ c, c < k → D[c]? = some (-1)) → ∃ D', (∀ (N : Nat) (kj : List Int → Option (List Int)), n < N → i_distances_l1 kj N D (k : Int) = kj D') ∧ D'.length = 31 ∧ ∀ c, c < 31 → D'[c]? = some (-1) := by
  intro n
  induction n with
  | zero =>
    intro k D h1 h3 h4
    obtain rfl : k = 31 := by omega
    refine ⟨D, fun N kj h2 => ?_, h3, h4⟩
    obtain ⟨N, rfl⟩ := pos_fuel h2
    simp [i_distances_l1]
  | succ n ih =>
    intro k D h1 h3 h4
    have hk : (k : Int) < 31 := by omega
    obtain ⟨D', e, h⟩ := ih (k + 1) (D.set k (-1)) (by omega) (by simp [h3]) (fun c hc => by
      by_cases hck : c = k
      · subst hck; rw [List.getElem?_set_self (by omega)]
      · rw [List.getElem?_set_ne (Ne.symm hck)]; exact h4 c (by omega))
    refine ⟨D', fun N kj h2 => ?_, h⟩
    obtain ⟨N, rfl⟩ := pos_fuel (show 0 < N by omega)
    simp only [i_distances_l1, hk, decide_true, cond_true, idx_lt D k (by omega), Option.bind_some, w64_nat k (by omega), Int.toNat_natCast, e N kj (by omega)]
theorem dist_ok (stops : List Int) (hs : VS stops) (t : Nat) (ht : t < 31) : ∃ D, (∀ N : Nat, 200 ≤ N → i_distances N stops (t : Int) = some D) ∧ Dst stops t D := by
  obtain ⟨D1, e1, h1, h2⟩ := l1_ok 31 0 (List.replicate 31 (0 : Int)) rfl (by simp) (fun c hc => by omega)
  rw [show ((0 : Nat) : Int) = 0 from rfl] at e1
  have hJ : Jn stops t 0 (D1.set t 0) := by
    have hget : ∀ c : Nat, c < 31 → c ≠ t → (D1.set t 0)[c]? = some (-1) := fun c hc hne => by rw [List.getElem?_set_ne (Ne.symm hne)]; exact h2 c hc
    have hself : (D1.set t 0)[t]? = some 0 := List.getElem?_set_self (by omega)
    have hlt : ∀ (c : Nat) (v : Int), (D1.set t 0)[c]? = some v → c < 31 := fun c v hv => by have := lt_of_some hv; simp at this; omega
    refine ⟨by simp [h1], fun c v hv => ?_, fun c hv => ?_, hself, fun c v hv h0 => ?_, fun c q m hc hm hD hq => ?_, fun c hc hw => ?_, fun c q m g _ _ _ _ h0 hlt => by omega⟩
    · by_cases hct : c = t
      · subst hct; rw [hself] at hv; have := Option.some.inj hv; omega
      · rw [hget c (hlt c v hv) hct] at hv; have := Option.some.inj hv; omega
    · by_cases hct : c = t
      · exact hct
      · rw [hget c (hlt c 0 hv) hct] at hv; have := Option.some.inj hv; omega
    · by_cases hct : c = t
      · subst hct; rw [hself] at hv; have := Option.some.inj hv; omega
      · rw [hget c (hlt c _ hv) hct] at hv; have := Option.some.inj hv; omega
    · obtain ⟨hq30, _⟩ := mvP_le stops hs c (by omega) m q hq
      by_cases hqt : q = t
      · subst hqt; exact .inr hself
      · exact .inl (hget q (by omega) hqt)
    · obtain rfl : c = t := by omega
      rw [hself]
      intro e
      have := Option.some.inj e
      omega
  obtain ⟨D, e, h⟩ := l2_ok stops hs t ht 31 0 _ (by omega) (by omega) hJ
  refine ⟨D, fun N hN => ?_, h⟩
  unfold i_distances
  simp only [withK_eq]
  rw [e1 N _ (by omega), idx_lt D1 t (by omega), Option.bind_some, Int.toNat_natCast, e N _ (by omega)]
  unfold chkA
  rw [if_pos h.len, Option.bind_some]
/-! ways -/
def go (stops : List Int) : Nat → Str → Option Nat
  | c, [] => some c
  | c, m :: r => (mvP stops c m).bind fun q => go stops q r
theorem go_append (stops : List Int) : ∀ (p r : Str) (c : Nat), go stops c (p ++ r) = (go stops c p).bind fun q => go stops q r
  | [], r, c => rfl
  | m :: p, r, c => by
    simp only [List.cons_append, go]
    cases mvP stops c m with
    | none => rfl
    | some q => simp only [Option.bind_some]; exact go_append stops p r q
theorem pl2_ok (stops : List Int) (hs : VS stops) (D : List Int) (c : Nat) (hc : c ≤ 30) (hD : D.length = 31) (v : Int) (hv : D[c]? = some (v + 1)) (h0 : 0 ≤ v) (h1 : v ≤ 100) : ∀ (n j : Nat), j + n = 3 → (∃ i, ∃ h : i < 3, j ≤ i ∧ hit stops D c v (three[i]'h) = true) →
    ∃ m q, m ∈ three ∧ mvP stops c m = some q ∧ D[q]? = some v ∧ ∀ (N : Nat) (kj : Str → Int → Option Str) (l : Str), n + 20 ≤ N → i_planBetween_l2 kj stops D N l (c : Int) (j : Int) = (app l [m]).bind fun l' => kj l' (q : Int) := by
  intro n
  induction n with
  | zero => intro j hj ⟨i, h, hi, _⟩; omega
  | succ n ih =>
    intro j hj hex
    have hj3 : j < 3 := by omega
    have hl : (j : Int) < ((List.length ([35, 60, 62] : List Nat)) : Int) := by show (j : Int) < 3; omega
    have hx : idx ([35, 60, 62] : List UInt8) (j : Int) = some (three[j]'hj3) := idx_lt three j hj3
    have ec : idx D (c : Int) = some (v + 1) := by rw [idx_nat]; exact hv
    have ew : w64 (v + 1 - 1) = v := by rw [w64_id (by omega) (by omega)]; omega
    by_cases hh : hit stops D c v (three[j]'hj3) = true
    · obtain ⟨q, hq, hDq⟩ := hit_iff.1 hh
      refine ⟨three[j]'hj3, q, List.getElem_mem _, hq, hDq, fun N kj l hN => ?_⟩
      obtain ⟨N, rfl⟩ := pos_fuel (show 0 < N by omega)
      obtain ⟨x, e1, e2⟩ := moved_ok N stops hs c hc (three[j]'hj3) (by omega)
      have hxq : idx D (q : Int) = some v := by rw [idx_nat]; exact hDq
      simp only [i_planBetween_l2, hl, decide_true, cond_true, hx, Option.bind_some, e1, hq, Option.isSome_some, andO_true, hxq, ec, ew, beq_self_eq_true, e2 q hq]
    · have hh' : hit stops D c v (three[j]'hj3) = false := by simpa using hh
      obtain ⟨m, q, h3, h4, h5, h6⟩ := ih (j + 1) (by omega) (by
        obtain ⟨i, h, hi, hit⟩ := hex
        refine ⟨i, h, ?_, hit⟩
        rcases Nat.lt_or_eq_of_le hi with h' | h'
        · exact h'
        · subst h'; exact (hh hit).elim)
      refine ⟨m, q, h3, h4, h5, fun N kj l hN => ?_⟩
      obtain ⟨N, rfl⟩ := pos_fuel (show 0 < N by omega)
      obtain ⟨x, e1, e2⟩ := moved_ok N stops hs c hc (three[j]'hj3) (by omega)
      rw [← h6 N kj l (by omega)]
      simp only [i_planBetween_l2, hl, decide_true, cond_true, hx, Option.bind_some, e1, w64_nat j (by omega)]
      cases e : mvP stops c (three[j]'hj3) with
      | none => simp
      | some q' =>
        obtain ⟨hq, _⟩ := mvP_le stops hs c hc _ q' e
        have hxq : idx D x = some (D[q']'(by omega)) := by rw [e2 q' e]; exact idx_lt D q' (by omega)
        have hne : (D[q']'(by omega) == v) = false := by
          unfold hit at hh'
          rw [e] at hh'
          simp only [List.getElem?_eq_getElem (show q' < D.length by omega)] at hh'
          rw [beq_eq_false_iff_ne] at hh' ⊢
          exact fun e => hh' (by rw [e])
        simp only [Option.isSome_some, andO_true, hxq, ec, Option.bind_some, ew, hne, cond_false]
theorem near_hit {stops D : List Int} {c : Nat} {v : Int} (h : near stops D c v) : ∃ i, ∃ h : i < 3, 0 ≤ i ∧ hit stops D c v (three[i]'h) = true := by
  obtain ⟨m, hm, q, hq, hD⟩ := h
  obtain ⟨i, hi, rfl⟩ := List.getElem_of_mem hm
  exact ⟨i, hi, Nat.zero_le _, hit_iff.2 ⟨q, hq, hD⟩⟩
theorem pl1_ok (stops : List Int) (hs : VS stops) (t : Nat) (D : List Int) (hd : Dst stops t D) : ∀ (k c : Nat), c ≤ 30 → D[c]? = some (k : Int) →
    ∃ p, (∀ (N : Nat) (kj : Str → Option Str) (l : Str), k + 60 ≤ N → l.length + k ≤ 1000 → i_planBetween_l1 kj stops (t : Int) D N l (c : Int) = kj (l ++ p)) ∧ p.length = k ∧ (∀ m ∈ p, m ∈ three) ∧ go stops c p = some t := by
  intro k
  induction k with
  | zero =>
    intro c hc hD
    have := hd.zero c hD
    subst this
    refine ⟨[], fun N kj l hN hl => ?_, rfl, by simp, rfl⟩
    obtain ⟨N, rfl⟩ := pos_fuel (show 0 < N by omega)
    simp only [i_planBetween_l1, withK_eq, bne_self_eq_false, cond_false, List.append_nil]
  | succ k ih =>
    intro c hc hD
    have hne : c ≠ t := fun e => by subst e; rw [hd.start] at hD; have := Option.some.inj hD; omega
    have hb : ((c : Int) != (t : Int)) = true := by simp; omega
    have hD' : D[c]? = some ((k : Int) + 1) := by rw [hD]; rfl
    have hr := hd.rng c _ hD'
    obtain ⟨m, q, h1, h2, h3, h4⟩ := pl2_ok stops hs D c hc hd.len k hD' (by omega) (by omega) 3 0 rfl (near_hit (hd.step c k hD' (by omega)))
    obtain ⟨hq, _⟩ := mvP_le stops hs c hc m q h2
    obtain ⟨p, e, h5, h6, h7⟩ := ih q hq h3
    refine ⟨m :: p, fun N kj l hN hl => ?_, by simp [h5], fun x hx => (List.mem_cons.1 hx).elim (fun e => e ▸ h1) (h6 x), by simp [go, h2, h7]⟩
    obtain ⟨N, rfl⟩ := pos_fuel (show 0 < N by omega)
    rw [show ((0 : Nat) : Int) = 0 from rfl] at h4
    simp only [i_planBetween_l1, withK_eq, hb, cond_true, h4 N _ l (by omega)]
    rw [app_some _ _ (by unfold LIM; simp; omega), Option.bind_some, e N kj _ (by omega) (by simp; omega), List.append_assoc, List.singleton_append]
theorem dst_short (stops : List Int) (hs : VS stops) (t : Nat) (D : List Int) (hd : Dst stops t D) : ∀ (p : Str) (c : Nat) (u : Int), c ≤ 30 → (∀ m ∈ p, m ∈ three) → go stops c p = some t → D[c]? = some u → u ≤ p.length
  | [], c, u, _, _, hg, hu => by
    obtain rfl : c = t := Option.some.inj hg
    rw [hd.start] at hu
    have := Option.some.inj hu
    simp; omega
  | m :: r, c, u, hc, hm, hg, hu => by
    simp only [go] at hg
    cases hq : mvP stops c m with
    | none => rw [hq] at hg; cases hg
    | some q =>
      rw [hq] at hg
      obtain ⟨hq30, _⟩ := mvP_le stops hs c hc m q hq
      obtain ⟨g, hgq⟩ : ∃ g, D[q]? = some g := ⟨_, List.getElem?_eq_getElem (by rw [hd.len]; omega)⟩
      have h1 := dst_short stops hs t D hd r q g hq30 (fun x hx => hm x (List.mem_cons_of_mem _ hx)) hg hgq
      obtain ⟨u', h2, h3⟩ := hd.opt c q m g (by omega) (hm m List.mem_cons_self) hq hgq
      rw [hu] at h2
      obtain rfl := Option.some.inj h2
      simp; omega
theorem between_way (stops : List Int) (hs : VS stops) (c t : Nat) (hc : c ≤ 30) (ht : t ≤ 30) : ∃ p, (∀ N : Nat, 300 ≤ N → i_planBetween N stops (c : Int) (t : Int) = some p) ∧ p.length ≤ 31 ∧ (∀ m ∈ p, m ∈ three) ∧ go stops c p = some t ∧ ∀ p' : Str, (∀ m ∈ p', m ∈ three) → go stops c p' = some t → p.length ≤ p'.length := by
  obtain ⟨D, e, hd⟩ := dist_ok stops hs t (by omega)
  have hck : chkA 31 D = some D := by unfold chkA; rw [if_pos hd.len]
  obtain ⟨v, hv⟩ : ∃ v, D[c]? = some v := ⟨_, List.getElem?_eq_getElem (by rw [hd.len]; omega)⟩
  have hr := hd.rng c v hv
  obtain ⟨p, e1, h1, h2, h3⟩ := pl1_ok stops hs t D hd v.toNat c hc (by rw [hv]; congr 1; omega)
  refine ⟨p, fun N hN => ?_, by omega, h2, h3, fun p' hp' hg' => by have := dst_short stops hs t D hd p' c v hc hp' hg' hv; omega⟩
  unfold i_planBetween
  simp only [e N (by omega), Option.bind_some, hck, withK_eq, e1 N _ [] (by omega) (by simp; omega), List.nil_append]
end Go.Proofs.Ytimcachjcocjmaa
