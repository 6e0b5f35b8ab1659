/-
  Plain lemmas on these functions. No conditions but those that each states.
-/
import Derived.Test.YtbgngihmpdneaaaDoorFnLessonOrdersP6
namespace Go.Proofs.YtbgngihmpdneaaaDoor
set_option linter.unusedVariables false
set_option linter.unusedSimpArgs false
/-! The order in which lessons are taken. -/
theorem circ2 (L : List Lesson) (hL : GL L) : ∀ (q i N : Nat), i + q = L.length → q + 3000 < N → ∃ v : Int, i_lessonCircle_l1 (some (-1)) L N (i : Int) = some v ∧ s_l18Circle_l1 (some (-1)) L N (i : Int) = some v ∧
    (0 ≤ v ∨ ∀ j x, i ≤ j → L[j]? = some x → ¬ Rch L x.needs (j : Int)) := by
  intro q
  induction q with
  | zero =>
    intro i N h1 h2
    obtain ⟨v, v1, v2⟩ := circ_both L hL 0 i N h1 h2
    refine ⟨v, v1, v2, .inr fun j x hj hx => ?_⟩
    have := lt_of_some hx
    omega
  | succ q ih =>
    intro i N h1 h2
    obtain ⟨N', rfl⟩ := pos_fuel h2
    obtain ⟨v, v1, v2⟩ := circ_both L hL (q + 1) i (N' + 1) h1 h2
    obtain ⟨u, u1, u2, u3⟩ := ih (i + 1) N' (by omega) (by omega)
    refine ⟨v, v1, v2, ?_⟩
    have hL12 := hL.len
    have hz : (i : Int) < (L.length : Int) := by omega
    have hi : i < L.length := by omega
    have hx : L[i]? = some L[i] := List.getElem?_eq_getElem hi
    obtain ⟨n1, n2⟩ := hL.at hx
    obtain ⟨o, o1, o2, o3, o4⟩ := all_ok L hL L[i].needs n1 n2 N' (by omega)
    have ol := sorted_le o1 o2 (by omega)
    simp only [s_l18Circle_l1, hz, decide_true, cond_true, idx_lt L i hi, Option.bind_some, o4, (Has_eq N' o (i : Int) (by unfold LIM; omega) (by omega)).1, w64_nat i (by omega), u2] at v2
    cases hb : o.any (· == (i : Int)) with
    | true =>
      rw [hb, cond_true] at v2
      have := Option.some.inj v2
      exact .inl (by omega)
    | false =>
      rw [hb, cond_false] at v2
      have := Option.some.inj v2
      subst this
      rcases u3 with u3 | u3
      · exact .inl u3
      · refine .inr fun j x hj hx' => ?_
        by_cases e : j = i
        · subst e
          rw [hx] at hx'
          obtain rfl := Option.some.inj hx'
          intro hR
          have := List.any_eq_false.1 hb _ ((o3 _).2 hR)
          simp at this
        · exact u3 j x (by omega) hx'
theorem circle2 (L : List Lesson) (hL : GL L) (N : Nat) (hN : 4000 < N) : ∃ v : Int, i_lessonCircle N L = some v ∧ s_l18Circle N L = some v ∧ (0 ≤ v ∨ ∀ (j : Nat) x, L[j]? = some x → ¬ Rch L x.needs (j : Int)) := by
  have := hL.len
  obtain ⟨v, h1, h2, h3⟩ := circ2 L hL L.length 0 N (by omega) (by omega)
  exact ⟨v, by unfold i_lessonCircle; rw [withK_n]; exact h1, by unfold s_l18Circle; rw [withK_n]; exact h2, h3.imp (fun h => h) fun h j x hx => h j x (by omega) hx⟩
/-- a lesson can be taken -/
def canB (L : List Lesson) (o : List Int) (k : Int) : Bool := !(o.contains k) && (match L[k.toNat]? with | some x => x.needs.all fun v => o.contains v | none => true)
theorem any_cont (o : List Int) (k : Int) : o.any (· == k) = o.contains k := by
  rw [Bool.eq_iff_iff, List.any_eq_true, List.contains_iff_mem]
  constructor
  · rintro ⟨x, h1, h2⟩
    rw [beq_iff_eq] at h2
    exact h2 ▸ h1
  · exact fun h => ⟨k, h, by simp⟩
theorem can_l1 (L : List Lesson) (hL : GL L) (o : List Int) (ho : o.length ≤ 100) (k : Nat) (hk : k < L.length) : ∀ (q i N : Nat), i + q = L[k].needs.length → q + 100 < N → s_l18Can_l1 (some true) L o (k : Int) N (i : Int) = some ((L[k].needs.drop i).all fun v => o.contains v) := by
  have hn := hL.nlen (List.getElem_mem hk)
  intro q
  induction q with
  | zero =>
    intro i N h1 h2
    obtain ⟨N, rfl⟩ := pos_fuel h2
    have hz : ¬ (i : Int) < (L[k].needs.length : Int) := by omega
    rw [List.drop_of_length_le (by omega)]
    simp only [s_l18Can_l1, idx_lt L k hk, Option.bind_some, hz, decide_false, cond_false, List.all_nil]
  | succ q ih =>
    intro i N h1 h2
    obtain ⟨N, rfl⟩ := pos_fuel h2
    have hz : (i : Int) < (L[k].needs.length : Int) := by omega
    have hi : i < L[k].needs.length := by omega
    rw [drop_cons _ i hi, List.all_cons]
    simp only [s_l18Can_l1, idx_lt L k hk, Option.bind_some, hz, decide_true, cond_true, idx_lt _ i hi, (Has_eq N o _ (by unfold LIM; omega) (by omega)).1, any_cont, w64_nat i (by omega), ih (i + 1) N (by omega) (by omega)]
    cases o.contains L[k].needs[i] <;> rfl
theorem can_ok (L : List Lesson) (hL : GL L) (o : List Int) (ho : o.length ≤ 100) (k : Nat) (hk : k < L.length) (N : Nat) (hN : 300 < N) : s_l18Can N L o (k : Int) = some (canB L o (k : Int)) := by
  have hn := hL.nlen (List.getElem_mem hk)
  have h := can_l1 L hL o ho k hk L[k].needs.length 0 N (by omega) (by omega)
  unfold s_l18Can canB
  rw [(Has_eq N o _ (by unfold LIM; omega) (by omega)).1, Option.bind_some, any_cont, Int.toNat_natCast, List.getElem?_eq_getElem hk, withK_n]
  cases o.contains (k : Int) with
  | true => rfl
  | false =>
    simp only [cond_false, Bool.not_false, Bool.true_and]
    exact h
theorem mk_cont {L : List Lesson} {o : List Int} {t : List Bool} (ht : MkT L o t) (k : Nat) (hk : k < L.length) : idx t (k : Int) = some (o.contains (k : Int)) := by
  have hkt : k < t.length := by rw [ht.1]; exact hk
  rw [idx_lt t k hkt]
  have := ht.2 (k : Int) (by omega)
  unfold Mk at this
  rw [Int.toNat_natCast, List.getElem?_eq_getElem hkt] at this
  refine congrArg some ?_
  rw [Bool.eq_iff_iff, List.contains_iff_mem, ← this]
  exact ⟨fun h => by rw [h], fun h => Option.some.inj h⟩
theorem best_l2 (L : List Lesson) (hL : GL L) (o : List Int) (ho : o.length ≤ 100) (t : List Bool) (ht : MkT L o t) (Ki Ks : Int → Option (List Int × Int)) : ∀ (q i N : Nat) (b : Int), i + q = L.length → q + 400 < N → (b = -1 ∨ ∃ p : Nat, b = p ∧ p < L.length ∧ canB L o b = true) →
    ∃ b' : Int, (b' = -1 ∧ b = -1 ∧ (∀ j : Nat, i ≤ j → j < L.length → canB L o (j : Int) = false) ∨ ∃ p : Nat, b' = p ∧ p < L.length ∧ canB L o b' = true) ∧ i_LessonOrder_l2 Ki L t N b (i : Int) = Ki b' ∧ s_LessonOrder_l2 Ks L o N b (i : Int) = Ks b' := by
  have hL12 := hL.len
  intro q
  induction q with
  | zero =>
    intro i N b h1 h2 hb
    obtain ⟨N, rfl⟩ := pos_fuel h2
    have hz : ¬ (i : Int) < (L.length : Int) := by omega
    refine ⟨b, ?_, by simp [i_LessonOrder_l2, hz], by simp [s_LessonOrder_l2, hz]⟩
    rcases hb with hb | hb
    · exact .inl ⟨hb, hb, fun j h3 h4 => by omega⟩
    · exact .inr hb
  | succ q ih =>
    intro i N b h1 h2 hb
    obtain ⟨N, rfl⟩ := pos_fuel h2
    have hz : (i : Int) < (L.length : Int) := by omega
    have hi : i < L.length := by omega
    have hx : L[i]? = some L[i] := List.getElem?_eq_getElem hi
    obtain ⟨n1, n2⟩ := hL.at hx
    have e1 := mk_cont ht i hi
    have e2 := allIn_ok L hL o t ht L[i].needs ⟨n1, n2⟩ N (by omega)
    have e3 := can_ok L hL o ho i hi N (by omega)
    have e4 : (!o.contains (i : Int) && L[i].needs.all fun v => o.contains v) = canB L o (i : Int) := by unfold canB; rw [Int.toNat_natCast, hx]
    simp only [i_LessonOrder_l2, s_LessonOrder_l2, hz, decide_true, cond_true, withK_n, idx_lt L i hi, Option.bind_some, e1, e2, e3, andO_some, e4, w64_nat i (by omega)]
    cases hc : canB L o (i : Int) with
    | false =>
      simp only [andO_false, Option.bind_some, cond_false]
      obtain ⟨b', g1, g2, g3⟩ := ih (i + 1) N b (by omega) (by omega) hb
      refine ⟨b', ?_, g2, g3⟩
      rcases g1 with ⟨g1, g4, g5⟩ | g1
      · refine .inl ⟨g1, g4, fun j h3 h4 => ?_⟩
        by_cases e : j = i
        · rw [e]; exact hc
        · exact g5 j (by omega) h4
      · exact .inr g1
    | true =>
      simp only [andO_true]
      have hnew : ∃ b' : Int, (b' = -1 ∧ b = -1 ∧ (∀ j : Nat, i ≤ j → j < L.length → canB L o (j : Int) = false) ∨ ∃ p : Nat, b' = p ∧ p < L.length ∧ canB L o b' = true) ∧ i_LessonOrder_l2 Ki L t N (i : Int) ((i + 1 : Nat) : Int) = Ki b' ∧ s_LessonOrder_l2 Ks L o N (i : Int) ((i + 1 : Nat) : Int) = Ks b' := by
        obtain ⟨b', g1, g2, g3⟩ := ih (i + 1) N (i : Int) (by omega) (by omega) (.inr ⟨i, rfl, hi, hc⟩)
        refine ⟨b', ?_, g2, g3⟩
        rcases g1 with ⟨g1, g4, g5⟩ | g1
        · omega
        · exact .inr g1
      rcases hb with rfl | ⟨p, rfl, hp, hcp⟩
      · have z1 : decide ((-1 : Int) < 0) = true := rfl
        simp only [z1, orO_true, Option.bind_some, cond_true]
        obtain ⟨b', g1, g2, g3⟩ := hnew
        exact ⟨b', g1.imp (fun h => ⟨h.1, trivial, h.2.2⟩) id, g2, g3⟩
      · have z1 : decide ((p : Int) < 0) = false := decide_eq_false (by omega)
        simp only [z1, orO_false, idx_lt L p hp, Option.bind_some]
        cases decide (L[i].hours < L[p].hours) with
        | true => exact hnew
        | false =>
          obtain ⟨b', g1, g2, g3⟩ := ih (i + 1) N (p : Int) (by omega) (by omega) (.inr ⟨p, rfl, hp, hcp⟩)
          refine ⟨b', ?_, g2, g3⟩
          rcases g1 with ⟨g1, g4, g5⟩ | g1
          · omega
          · exact .inr g1
/-- where nothing needs itself, something can be taken -/
theorem can_ex (L : List Lesson) (hL : GL L) (hc : ∀ (j : Nat) x, L[j]? = some x → ¬ Rch L x.needs (j : Int)) (o : List Int) : ∀ (m k : Nat) (hk : k < L.length) (C : List Int), C.length ≤ m → C.Nodup → (∀ v, v ∈ C ↔ Rch L L[k].needs v) → o.contains (k : Int) = false → ∃ j : Nat, j < L.length ∧ canB L o (j : Int) = true := by
  intro m
  induction m with
  | zero =>
    intro k hk C h1 h2 h3 h4
    refine ⟨k, hk, ?_⟩
    have hC : C = [] := List.eq_nil_of_length_eq_zero (by omega)
    unfold canB
    rw [h4, Int.toNat_natCast, List.getElem?_eq_getElem hk]
    simp only [Bool.not_false, Bool.true_and]
    refine List.all_eq_true.2 fun v hv => ?_
    have := (h3 v).2 (.base hv)
    rw [hC] at this
    cases this
  | succ m ih =>
    intro k hk C h1 h2 h3 h4
    cases hcan : canB L o (k : Int) with
    | true => exact ⟨k, hk, hcan⟩
    | false =>
      unfold canB at hcan
      rw [h4, Int.toNat_natCast, List.getElem?_eq_getElem hk] at hcan
      simp only [Bool.not_false, Bool.true_and] at hcan
      obtain ⟨v, hv, hvn⟩ := List.all_eq_false.1 hcan
      have hx : L[k]? = some L[k] := List.getElem?_eq_getElem hk
      obtain ⟨n1, n2⟩ := hL.at hx
      obtain ⟨v0, v1⟩ := n2 v hv
      obtain ⟨p, hp⟩ := Int.eq_ofNat_of_zero_le v0
      subst hp
      have hpl : p < L.length := by omega
      have hxp : L[p]? = some L[p] := List.getElem?_eq_getElem hpl
      obtain ⟨p1, p2⟩ := hL.at hxp
      obtain ⟨D, d1, d2, d3, _⟩ := all_ok L hL L[p].needs p1 p2 3000 (by omega)
      have hsub : ∀ z ∈ ((p : Int) :: D), z ∈ C := fun z hz => by
        rcases List.mem_cons.1 hz with rfl | hz
        · exact (h3 _).2 (.base hv)
        · refine (h3 z).2 (Rch.sub (T := fun k' => Rch L L[k].needs k') (fun w hw => .step (.base hv) (by rw [Int.toNat_natCast]; exact hxp) hw) (fun j x hj hx w hw => .step hj hx hw) ((d3 z).1 hz))
      have hnd : ((p : Int) :: D).Nodup := List.nodup_cons.2 ⟨fun h => hc p _ hxp ((d3 _).1 h), d1.imp (fun h => by omega)⟩
      have hlen := hnd.length_le_of_subset hsub
      rw [List.length_cons] at hlen
      have hcont : o.contains ((p : Nat) : Int) = false := by simpa using hvn
      exact ih p hpl D (by omega) (d1.imp (fun h => by omega)) d3 hcont
/-- an order that can be taken -/
structure Ord_ (L : List Lesson) (o : List Int) : Prop where
  bnd : ∀ k ∈ o, 0 ≤ k ∧ k < (L.length : Int)
  at_ : ∀ (i : Nat) (h : i < o.length), canB L (o.take i) o[i] = true
theorem Ord_.nodup {L : List Lesson} {o : List Int} (h : Ord_ L o) : o.Nodup := by
  rw [List.nodup_iff_pairwise_ne, List.pairwise_iff_getElem]
  intro i j hi hj hij e
  have := h.at_ j hj
  unfold canB at this
  rw [Bool.and_eq_true] at this
  have h2 : (o.take j).contains o[j] = true := List.contains_iff_mem.2 (by
    rw [← e]
    have : i < (o.take j).length := by rw [List.length_take]; omega
    have h3 := List.getElem_mem this
    rwa [List.getElem_take] at h3)
  rw [h2] at this
  cases this.1
theorem Ord_.len {L : List Lesson} {o : List Int} (h : Ord_ L o) : o.length ≤ L.length := by
  have h1 : (o.map Int.toNat).Nodup := by
    rw [List.nodup_iff_pairwise_ne, List.pairwise_map]
    refine (List.nodup_iff_pairwise_ne.1 h.nodup).imp_of_mem fun {a b} ha hb hab e => hab ?_
    have := h.bnd a ha
    have := h.bnd b hb
    omega
  have := pigeon L.length (o.map Int.toNat) h1 (fun x hx => by
    obtain ⟨k, hk, rfl⟩ := List.mem_map.1 hx
    have := h.bnd k hk
    omega)
  rwa [List.length_map] at this
theorem ord_l1 (L : List Lesson) (hL : GL L) (hc : ∀ (j : Nat) x, L[j]? = some x → ¬ Rch L x.needs (j : Int)) : ∀ (q N : Nat) (o : List Int) (t : List Bool), o.length + q = L.length → q + 1000 < N → MkT L o t → Ord_ L o →
    ∃ o', Ord_ L o' ∧ o'.length = L.length ∧ i_LessonOrder_l1 (fun l14 => some (l14, 0)) L N o t = some (o', 0) ∧ s_LessonOrder_l1 (fun l11 => some (l11, 0)) L N o = some (o', 0) := by
  have hL12 := hL.len
  intro q
  induction q with
  | zero =>
    intro N o t h1 h2 ht ho
    obtain ⟨N, rfl⟩ := pos_fuel h2
    have hz : ¬ (o.length : Int) < (L.length : Int) := by omega
    exact ⟨o, ho, by omega, by simp [i_LessonOrder_l1, hz], by simp [s_LessonOrder_l1, hz]⟩
  | succ q ih =>
    intro N o t h1 h2 ht ho
    obtain ⟨N, rfl⟩ := pos_fuel h2
    have hz : (o.length : Int) < (L.length : Int) := by omega
    -- one that is not there yet
    have hex : ∃ k : Nat, k < L.length ∧ o.contains (k : Int) = false := by
      by_cases h : ∃ k : Nat, k < L.length ∧ o.contains (k : Int) = false
      · exact h
      · have hall : ∀ k : Nat, k < L.length → (k : Int) ∈ o := fun k hk => by
          cases hcc : o.contains (k : Int) with
          | false => exact (h ⟨k, hk, hcc⟩).elim
          | true => exact List.contains_iff_mem.1 hcc
        have hnd : ((List.range L.length).map fun (i : Nat) => (i : Int)).Nodup := by
          rw [List.nodup_iff_pairwise_ne, List.pairwise_map]
          exact List.pairwise_lt_range.imp (fun h => by omega)
        have := hnd.length_le_of_subset (l₂ := o) (fun z hz => by
          obtain ⟨i, hi, rfl⟩ := List.mem_map.1 hz
          exact hall i (List.mem_range.1 hi))
        rw [List.length_map, List.length_range] at this
        omega
    obtain ⟨k, hk, hkn⟩ := hex
    have hx : L[k]? = some L[k] := List.getElem?_eq_getElem hk
    obtain ⟨n1, n2⟩ := hL.at hx
    obtain ⟨C, c1, c2, c3, _⟩ := all_ok L hL L[k].needs n1 n2 3000 (by omega)
    obtain ⟨j, hj, hcan⟩ := can_ex L hL hc o C.length k hk C (Nat.le_refl _) (c1.imp (fun h => by omega)) c3 hkn
    obtain ⟨b, g1, g2, g3⟩ := best_l2 L hL o (by omega) t ht (fun best22 => (idx t best22).bind fun e61 => (app o [best22]).bind fun l64 => i_LessonOrder_l1 (fun l14 => some (l14, 0)) L N l64 (List.set t (Int.toNat best22) true)) (fun best18 => (app o [best18]).bind fun l51 => s_LessonOrder_l1 (fun l11 => some (l11, 0)) L N l51) L.length 0 N (-1) (by omega) (by omega) (.inl rfl)
    rcases g1 with ⟨_, _, g5⟩ | ⟨p, rfl, hp, hcp⟩
    · have := g5 j (by omega) hj
      rw [hcan] at this
      cases this
    · rw [show ((0 : Nat) : Int) = 0 from rfl] at g2 g3
      have ea : app o [(p : Int)] = some (o ++ [(p : Int)]) := app_some _ _ (by unfold LIM; simp; omega)
      have hpt : p < t.length := by rw [ht.1]; exact hp
      simp only [i_LessonOrder_l1, s_LessonOrder_l1, hz, decide_true, cond_true, withK_n]
      rw [g2, g3, mk_cont ht p hp]
      simp only [Option.bind_some, ea, Int.toNat_natCast]
      refine ih N (o ++ [(p : Int)]) (t.set p true) (by simp; omega) (by omega) ⟨by rw [List.length_set]; exact ht.1, fun z hz => ?_⟩ ⟨fun z hz => ?_, fun i hi => ?_⟩
      · have := mk_set (t := t) (i := (p : Int)) (k := z) (by simpa using hpt) hz (by omega)
        rw [Int.toNat_natCast] at this
        rw [this, ht.2 z hz, List.mem_append, List.mem_singleton]
        exact Or.comm
      · rcases List.mem_append.1 hz with hz | hz
        · exact ho.bnd z hz
        · rw [List.mem_singleton.1 hz]; omega
      · by_cases hi2 : i < o.length
        · rw [List.getElem_append_left hi2, List.take_append_of_le_length (by omega)]
          exact ho.at_ i hi2
        · have hi3 : i = o.length := by simp at hi; omega
          subst hi3
          rw [List.getElem_append_right (Nat.le_refl _), List.take_left]
          simpa using hcp
theorem order_ok (L : List Lesson) (h : SzL L) (N : Nat) (hN : 5000 < N) : ∃ v : List Int × Int, i_LessonOrder N L = some v ∧ s_LessonOrder N L = some v ∧ v.1.length ≤ 100 ∧ (v.2 = 0 → vlL L = true ∧ Ord_ L v.1 ∧ v.1.length = L.length) ∧
    ∃ c : Int × Int, i_LessonCircle N L = some c ∧ s_LessonCircle N L = some c ∧ (c.2 = 0 → (decide (c.1 ≥ 0)) = (v.2 == 9)) := by
  obtain ⟨v1, v2⟩ := valid_ok L h N (by omega)
  unfold i_LessonOrder s_LessonOrder i_LessonCircle s_LessonCircle
  simp only [v1, v2, Option.bind_some]
  cases hv : vlL L with
  | false => exact ⟨([], 1), rfl, rfl, by simp, by simp, (0, 1), rfl, rfl, by simp⟩
  | true =>
    have hL := gl_of hv
    have hL12 := hL.len
    obtain ⟨z, z1, z2, z3⟩ := circle2 L hL N (by omega)
    simp only [z1, z2, Option.bind_some, Bool.not_true, cond_false]
    by_cases hz : z ≥ 0
    · simp only [hz, decide_true, cond_true]
      exact ⟨([], 9), rfl, rfl, by simp, by simp, (z, 0), rfl, rfl, fun _ => by simp [hz]⟩
    · have hc := z3.resolve_left (by omega)
      simp only [hz, decide_false, cond_false, withK_n, mk_some _ _ (by unfold LIM; omega : L.length ≤ LIM), Option.bind_some]
      obtain ⟨o, o1, o2, o3, o4⟩ := ord_l1 L hL hc L.length N [] (List.replicate L.length false) (by simp) (by omega) ⟨List.length_replicate, fun k hk => by
        unfold Mk
        rw [List.getElem?_replicate]
        constructor
        · intro h; split at h <;> cases h
        · intro h; cases h⟩ ⟨fun k hk => (by cases hk), fun i hi => (by simp at hi)⟩
      refine ⟨(o, 0), o3, o4, by show o.length ≤ 100; omega, fun _ => ⟨by first | exact hv | trivial, o1, o2⟩, (z, 0), rfl, rfl, fun _ => ?_⟩
      have e : decide (z ≥ 0) = false := decide_eq_false hz
      simp only [e]
      rfl
end Go.Proofs.YtbgngihmpdneaaaDoor
