/-
  Plain lemmas on these functions. No conditions but those that each states.
-/
import Derived.Test.YtbgngihmpdneaaaFnLessonSetsP11
namespace Go.Proofs.Ytbgngihmpdneaaa
set_option linter.unusedVariables false
set_option linter.unusedSimpArgs false
/-! The law. -/
theorem taken_ok (L : List Lesson) (h : SzL L) (l : List Int) (hl : l.length ≤ 100) (N : Nat) (hN : 3000 < N) : ∃ c : Int, i_takenCode N L l = some c ∧ s_l18Taken N L l = some c ∧ (c = 0 ↔ vlL L = true ∧ risB L.length l = true) ∧ (vlL L = true → risB L.length l = true → c = 0) ∧ (vlL L = false → c = 1) := by
  obtain ⟨v1, v2⟩ := valid_ok L h N (by omega)
  obtain ⟨r1, r2⟩ := ris_ok l L.length (by have := h.1; omega) (by omega) N (by omega)
  unfold i_takenCode s_l18Taken
  simp only [v1, v2, r1, r2, Option.bind_some]
  cases vlL L with
  | false => exact ⟨1, rfl, rfl, by simp, by simp, by simp⟩
  | true =>
    cases risB L.length l with
    | false => exact ⟨2, rfl, rfl, by simp, by simp, by simp⟩
    | true => exact ⟨0, rfl, rfl, by simp, by simp, by simp⟩
theorem can_ok (L : List Lesson) (h : SzL L) (l : List Int) (hl : l.length ≤ 100) (s : Str) (hs : s.length ≤ 200) (N : Nat) (hN : 3000 < N) : ∃ v : Bool × Int, i_CanType N L l s = some v ∧ s_CanType N L l s = some v ∧ (vlL L = true → risB L.length l = true → okT s = true → v = (s.all (tyB (kno L [] l)), 0)) := by
  obtain ⟨c, c1, c2, c3, c4, c5⟩ := taken_ok L h l hl N hN
  obtain ⟨t1, t2⟩ := Text_eq N s (by unfold LIM; omega) (by omega)
  unfold i_CanType s_CanType
  simp only [c1, c2, t1, t2, Option.bind_some, withK_n, andO_some]
  by_cases h0 : c = 0
  · obtain ⟨g1, g2⟩ := c3.1 h0
    subst h0
    obtain ⟨m, m1, m2, m3⟩ := known_ok L (gl_of g1) l (rs_of g2) N (by omega)
    have hty := typ_ok m _ m1 s (by omega) N (by omega)
    have hms := miss_ok m _ m1 s (by omega) N (by omega)
    cases hT : okT s with
    | false => exact ⟨(false, 2), rfl, rfl, by simp⟩
    | true =>
      simp only [m2, m3, hty, hms, Option.bind_some, misV_nil]
      exact ⟨(s.all (tyB (kno L [] l)), 0), rfl, rfl, fun _ _ _ => rfl⟩
  · have e1 : (c != 0) = true := by simp [h0]
    have e2 : (c == 0) = false := by simp [h0]
    simp only [e1, e2, Bool.false_and, cond_true, cond_false]
    exact ⟨(false, c), rfl, rfl, fun g1 g2 _ => (h0 (c4 g1 g2)).elim⟩
theorem hrsO_ok (L : List Lesson) (h : SzL L) (l : List Int) (hl : l.length ≤ 100) (hv : vlL L = true) (hr : risB L.length l = true) (N : Nat) (hN : 3000 < N) : i_HoursOfLessons N L l = some (hsum L l, 0) := by
  obtain ⟨c, c1, c2, c3, c4, c5⟩ := taken_ok L h l hl N hN
  have := c4 hv hr
  subst this
  unfold i_HoursOfLessons
  simp only [c1, Option.bind_some, (hours_ok L (gl_of hv) l (rs_of hr) N (by omega)).1]
  rfl
theorem ris_nil (n : Nat) : risB n [] = true := rfl
theorem lft_ok (L : List Lesson) (h : SzL L) (s : Str) (hs : s.length ≤ 200) (N : Nat) (hN : 9000 < N) : ∃ v : List Int × Int, i_LessonsForText N L s = some v ∧ s_LessonsForText N L s = some v ∧ v.1.length ≤ 100 ∧
    ((v.2 ≠ 0 ∧ v.2 ≠ 3) ∨ (v.2 = 3 ∧ vlL L = true ∧ okT s = true ∧ ∀ j, j < 2 ^ L.length → okSel L s (ints (bits j L.length)) = false) ∨ (v.2 = 0 ∧ vlL L = true ∧ okT s = true ∧ RS L v.1 ∧ okSel L s v.1 = true)) := by
  obtain ⟨v1, v2⟩ := valid_ok L h N (by omega)
  obtain ⟨c, c1, c2, c3, c4, c5⟩ := taken_ok L h [] (by simp) N (by omega)
  obtain ⟨t1, t2⟩ := Text_eq N s (by unfold LIM; omega) (by omega)
  unfold i_LessonsForText s_LessonsForText
  simp only [v1, c2, t1, t2, Option.bind_some, withK_n, andO_some]
  cases hv : vlL L with
  | false =>
    rw [c5 hv]
    exact ⟨([], 1), rfl, rfl, by simp, .inl (by simp)⟩
  | true =>
    have hc := c4 hv (ris_nil _)
    subst hc
    have hL := gl_of hv
    have hL12 := hL.len
    cases hT : okT s with
    | false => exact ⟨([], 2), rfl, rfl, by simp, .inl (by simp)⟩
    | true =>
      obtain ⟨z, z1, z2⟩ := circle_ok L hL N (by omega)
      have e0 : ((0 : Int) == 0) = true := rfl
      have e00 : ((0 : Int) != 0) = false := rfl
      have e9 : ((9 : Int) != 0) = true := rfl
      simp only [e0, z1, z2, Option.bind_some, Bool.not_true, Bool.and_false, cond_false, andO_true]
      by_cases hz : z ≥ 0
      · simp only [hz, decide_true, cond_true, e9]
        exact ⟨([], 9), rfl, rfl, by simp, .inl (by simp)⟩
      · simp only [hz, decide_false, cond_false, e00, shl12 L.length (by omega), Option.bind_some]
        have hp : 2 ^ L.length ≤ 4096 := Nat.le_trans (Nat.pow_le_pow_right (by decide) hL12) (by decide)
        obtain ⟨l', f', li', ls', g1, g2, g3⟩ := best_l1 L hL s (by omega) (fun l15 found17 => bif !found17 then some ([], 3) else some (l15, 0)) (fun l28 least30 => bif decide (least30 < 0) then some ([], 3) else some (l28, 0)) (2 ^ L.length) 0 N [] false 0 (-1) (by omega) (by omega) ⟨fun h => (by cases h), fun _ => ⟨rfl, rfl, fun j hj => by omega⟩⟩
        rw [show ((0 : Nat) : Int) = 0 from rfl] at g2 g3
        rw [g2, g3]
        cases f' with
        | false =>
          obtain ⟨k1, k2, k3⟩ := g1.2 rfl
          subst k2
          exact ⟨([], 3), rfl, rfl, by simp, .inr (.inl ⟨rfl, by first | exact hv | trivial, by first | exact hT | trivial, k3⟩)⟩
        | true =>
          obtain ⟨k1, k2, k3, k4⟩ := g1.1 rfl
          have hb := hsum_bd L hL l'
          have e : decide (ls' < 0) = false := decide_eq_false (by omega)
          have := k1.len hL
          refine ⟨(l', 0), rfl, by simp only [e, cond_false], by show l'.length ≤ 100; omega, .inr (.inr ⟨rfl, by first | exact hv | trivial, by first | exact hT | trivial, k1, k2⟩)⟩
/-- all of them -/
def alls (L : List Lesson) : List Int := ints (List.range L.length)
theorem bits_full (n : Nat) : bits (2 ^ n - 1) n = List.range n := by
  unfold bits
  rw [List.filter_eq_self]
  intro i hi
  have := List.mem_range.1 hi
  simp [this]
theorem rs_all (L : List Lesson) : RS L (alls L) := by
  have := rs_bits L (2 ^ L.length - 1)
  rw [bits_full] at this
  exact this
theorem unt_l1 (L : List Lesson) (hL : L.length ≤ 20) (kj : List Int → Option (Str × Int)) : ∀ (q i N : Nat), i + q = L.length → q < N → s_UntaughtLetters_l1 kj L N (ints (List.range i)) (i : Int) = kj (alls L) := by
  intro q
  induction q with
  | zero =>
    intro i N h1 h2
    obtain ⟨N, rfl⟩ := pos_fuel h2
    have hz : ¬ (i : Int) < (L.length : Int) := by omega
    simp only [s_UntaughtLetters_l1, hz, decide_false, cond_false]
    have : i = L.length := by omega
    rw [this]; rfl
  | succ q ih =>
    intro i N h1 h2
    obtain ⟨N, rfl⟩ := pos_fuel h2
    have hz : (i : Int) < (L.length : Int) := by omega
    simp only [s_UntaughtLetters_l1, hz, decide_true, cond_true]
    rw [app_some _ _ (by unfold LIM; rw [ints_len]; simp; omega), Option.bind_some, w64_nat i (by omega)]
    have e : ints (List.range i) ++ [(i : Int)] = ints (List.range (i + 1)) := by rw [List.range_succ]; simp [ints]
    rw [e]
    exact ih (i + 1) N (by omega) (by omega)
theorem unt_ok (L : List Lesson) (h : SzL L) (s : Str) (hs : s.length ≤ 200) (N : Nat) (hN : 9000 < N) : ∃ v : Str × Int, i_UntaughtLetters N L s = some v ∧ s_UntaughtLetters N L s = some v ∧ (vlL L = true → okT s = true → v.1 = misV (kno L [] (alls L)) s) := by
  obtain ⟨v1, v2⟩ := valid_ok L h N (by omega)
  obtain ⟨c, c1, c2, c3, c4, c5⟩ := taken_ok L h [] (by simp) N (by omega)
  obtain ⟨t1, t2⟩ := Text_eq N s (by unfold LIM; omega) (by omega)
  unfold i_UntaughtLetters s_UntaughtLetters
  simp only [v1, c2, t1, t2, Option.bind_some, withK_n, andO_some]
  cases hv : vlL L with
  | false =>
    rw [c5 hv]
    exact ⟨([], 1), rfl, rfl, by simp⟩
  | true =>
    have hc := c4 hv (ris_nil _)
    subst hc
    have hL := gl_of hv
    have hL12 := hL.len
    cases hT : okT s with
    | false => exact ⟨([], 2), rfl, rfl, by simp⟩
    | true =>
      have hp : 2 ^ L.length ≤ 4096 := Nat.le_trans (Nat.pow_le_pow_right (by decide) hL12) (by decide)
      have hp0 : 1 ≤ 2 ^ L.length := Nat.one_le_two_pow
      have e1 : w64 (((2 ^ L.length : Nat) : Int) - 1) = ((2 ^ L.length - 1 : Nat) : Int) := by rw [w64_id (by omega) (by omega)]; omega
      obtain ⟨m, m1, m2, m3⟩ := known_ok L hL _ (rs_all L) N (by omega)
      have hms := miss_ok m _ m1 s (by omega) N (by omega)
      obtain ⟨b', g1, g2, g3⟩ := mis_l1 m _ m1 s (by omega) (fun l20 => (i_ascending N l20).bind fun r43 => some (r43, 0)) (fun o => some o) s.length 0 N (List.replicate 256 false) [] (by omega) (by omega) Mrk.nil
      rw [show ((0 : Nat) : Int) = 0 from rfl] at g2
      rw [List.drop_zero] at g1
      have e0 : ((0 : Int) == 0) = true := rfl
      have e00 : ((0 : Int) != 0) = false := rfl
      have hu := fun kj => unt_l1 L (by omega) kj L.length 0 N (by omega) (by omega)
      have hch := chos_ok (2 ^ L.length - 1) L.length (by omega) (by omega) N (by omega)
      rw [bits_full] at hch
      have hch' : i_chosen N ((2 ^ L.length - 1 : Nat) : Int) (L.length : Int) = some (alls L) := hch
      simp only [e0, e00, Bool.not_true, Bool.and_false, cond_false, shl12 L.length (by omega), Option.bind_some, e1, hch', m2, g2, g1.asc N (by omega)]
      refine ⟨(misV (kno L [] (alls L)) s, 0), rfl, ?_, fun _ _ => rfl⟩
      have hu0 := fun kj => hu kj
      rw [show ints (List.range 0) = [] from rfl, show ((0 : Nat) : Int) = 0 from rfl] at hu0
      rw [hu0]
      simp only [m3, hms, Option.bind_some]
/-- letters of fewer lessons are letters of all -/
theorem putL_mem (o s : Str) (c : UInt8) : c ∈ putL_ o s ↔ c ∈ o ∨ c ∈ s := by
  unfold putL_
  induction s generalizing o with
  | nil => simp
  | cons x s ih =>
    rw [List.foldl_cons, ih, putC_mem, List.mem_cons]
    constructor
    · rintro ((h | h) | h)
      · exact .inr (.inl h)
      · exact .inl h
      · exact .inr (.inr h)
    · rintro (h | h | h)
      · exact .inl (.inr h)
      · exact .inl (.inl h)
      · exact .inr h
theorem kno_mem (L : List Lesson) (c : UInt8) : ∀ (l : List Int) (o : Str), c ∈ kno L o l ↔ c ∈ o ∨ ∃ k ∈ l, ∃ x, L[k.toNat]? = some x ∧ c ∈ x.letters
  | [], o => by simp [kno]
  | k :: l, o => by
    have e : kno L o (k :: l) = kno L (match L[k.toNat]? with | some x => putL_ o x.letters | none => o) l := rfl
    rw [e, kno_mem L c l]
    cases hx : L[k.toNat]? with
    | none =>
      constructor
      · rintro (h | ⟨j, hj, h⟩)
        · exact .inl h
        · exact .inr ⟨j, List.mem_cons_of_mem _ hj, h⟩
      · rintro (h | ⟨j, hj, x, h1, h2⟩)
        · exact .inl h
        · rcases List.mem_cons.1 hj with rfl | hj
          · rw [hx] at h1; cases h1
          · exact .inr ⟨j, hj, x, h1, h2⟩
    | some x =>
      rw [putL_mem]
      constructor
      · rintro ((h | h) | ⟨j, hj, h⟩)
        · exact .inl h
        · exact .inr ⟨k, List.mem_cons_self .., x, hx, h⟩
        · exact .inr ⟨j, List.mem_cons_of_mem _ hj, h⟩
      · rintro (h | ⟨j, hj, y, h1, h2⟩)
        · exact .inl (.inl h)
        · rcases List.mem_cons.1 hj with rfl | hj
          · rw [hx] at h1
            obtain rfl := Option.some.inj h1
            exact .inl (.inr h2)
          · exact .inr ⟨j, hj, y, h1, h2⟩
theorem mem_alls {L : List Lesson} {k : Int} : k ∈ alls L ↔ 0 ≤ k ∧ k < (L.length : Int) := by
  unfold alls ints
  rw [List.mem_map]
  constructor
  · rintro ⟨i, hi, rfl⟩
    have := List.mem_range.1 hi
    omega
  · rintro ⟨h1, h2⟩
    exact ⟨k.toNat, List.mem_range.2 (by omega), by omega⟩
theorem sel_misV {L : List Lesson} {s : Str} {l : List Int} (hr : RS L l) (h : okSel L s l = true) : misV (kno L [] (alls L)) s = [] := by
  unfold okSel at h
  rw [Bool.and_eq_true] at h
  have h2 := h.2
  have := misV_nil (kno L [] (alls L)) s
  rw [← beq_iff_eq, this]
  refine List.all_eq_true.2 fun c hc => ?_
  have h3 := List.all_eq_true.1 h2 c hc
  unfold tyB at h3 ⊢
  rw [Bool.or_eq_true] at h3 ⊢
  rcases h3 with h3 | h3
  · exact .inl h3
  · refine .inr (List.contains_iff_mem.2 ((kno_mem L c _ _).2 ?_))
    rcases (kno_mem L c _ _).1 (List.contains_iff_mem.1 h3) with h4 | ⟨k, hk, h4⟩
    · exact .inl h4
    · exact .inr ⟨k, mem_alls.2 (hr.bnd k hk), h4⟩
theorem all_sel {L : List Lesson} (hL : GL L) {s : Str} (h : okSel L s (alls L) = false) : misV (kno L [] (alls L)) s ≠ [] := by
  intro he
  rw [← beq_iff_eq, misV_nil] at he
  unfold okSel at h
  rw [he, Bool.and_true] at h
  obtain ⟨k, hk, hb⟩ := List.all_eq_false.1 h
  cases hx : L[k.toNat]? with
  | none => rw [hx] at hb; simp at hb
  | some x =>
    rw [hx] at hb
    refine hb (List.all_eq_true.2 fun v hv => List.contains_iff_mem.2 (mem_alls.2 ((hL.at hx).2 v hv)))
/-- the sum of all hours -/
def tot (L : List Lesson) (i : Nat) : Int := ((L.drop i).map (·.hours)).sum
theorem tot_step (L : List Lesson) (i : Nat) (h : i < L.length) : tot L i = L[i].hours + tot L (i + 1) := by
  unfold tot; rw [drop_cons L i h, List.map_cons, List.sum_cons]
theorem tot_nn (L : List Lesson) (hL : GL L) : ∀ (q i : Nat), i + q = L.length → 0 ≤ tot L i ∧ tot L i ≤ 100 * q := by
  intro q
  induction q with
  | zero => intro i h; unfold tot; rw [List.drop_of_length_le (by omega)]; simp
  | succ q ih =>
    intro i h
    have := ih (i + 1) (by omega)
    have h2 := hL.hrs _ (List.getElem_mem (show i < L.length by omega))
    rw [tot_step L i (by omega)]
    omega
theorem tot_mono (L : List Lesson) (hL : GL L) (a : Nat) : ∀ (q : Nat), a + q ≤ L.length → tot L (a + q) ≤ tot L a := by
  intro q
  induction q with
  | zero => intro _; exact Int.le_refl _
  | succ q ih =>
    intro h
    have h1 := ih (by omega)
    have h2 := hL.hrs _ (List.getElem_mem (show a + q < L.length by omega))
    have h3 := tot_step L (a + q) (by omega)
    rw [show a + (q + 1) = a + q + 1 by omega]
    omega
theorem hsum_tot (L : List Lesson) (hL : GL L) : ∀ (l : List Int) (a : Nat), l.Pairwise (· < ·) → (∀ k ∈ l, (a : Int) ≤ k ∧ k < (L.length : Int)) → a ≤ L.length → hsum L l ≤ tot L a
  | [], a, _, _, h => by have := tot_nn L hL (L.length - a) a (by omega); simp [hsum]; omega
  | x :: r, a, h1, h2, h3 => by
    rw [List.pairwise_cons] at h1
    have hx := h2 x (List.mem_cons_self ..)
    obtain ⟨p, hp⟩ := Int.eq_ofNat_of_zero_le (show 0 ≤ x by omega)
    subst hp
    have hpl : p < L.length := by omega
    have ih := hsum_tot L hL r (p + 1) h1.2 (fun k hk => ⟨by have := h1.1 k hk; omega, (h2 k (List.mem_cons_of_mem _ hk)).2⟩) (by omega)
    rw [hsum_cons, Int.toNat_natCast, List.getElem?_eq_getElem hpl]
    simp only
    have h4 := tot_step L p hpl
    have h5 := tot_mono L hL a (p - a) (by omega)
    rw [show a + (p - a) = p by omega] at h5
    omega
theorem l3_ok (r7 : List Lesson × Str) (hL : GL r7.1) (kj : Int → Option Bool) : ∀ (q i N : Nat) (sm : Int), i + q = r7.1.length → q < N → 0 ≤ sm → sm ≤ 100 * i → w_FnLessonSets_l3 kj r7 N sm (i : Int) = kj (sm + tot r7.1 i) := by
  have h12 := hL.len
  intro q
  induction q with
  | zero =>
    intro i N sm h1 h2 _ _
    obtain ⟨N, rfl⟩ := pos_fuel h2
    have hz : ¬ (i : Int) < (r7.1.length : Int) := by omega
    simp only [w_FnLessonSets_l3, hz, decide_false, cond_false]
    unfold tot; rw [List.drop_of_length_le (by omega)]; simp
  | succ q ih =>
    intro i N sm h1 h2 h3 h4
    obtain ⟨N, rfl⟩ := pos_fuel h2
    have hz : (i : Int) < (r7.1.length : Int) := by omega
    have hi : i < r7.1.length := by omega
    have hh := hL.hrs _ (List.getElem_mem hi)
    simp only [w_FnLessonSets_l3, hz, decide_true, cond_true, idx_lt r7.1 i hi, Option.bind_some]
    rw [w64_id (x := sm + r7.1[i].hours) (by omega) (by omega), w64_nat i (by omega), ih (i + 1) N _ (by omega) (by omega) (by omega) (by omega), tot_step r7.1 i hi, Int.add_assoc]
theorem l2_ok (r7 : List Lesson × Str) (hL : GL r7.1) (r14 : List Int × Int) (hr : RS r7.1 r14.1) (hc : cmpl r7.1 r14.1 r14.1 = true) (i : Nat) (hi : i < r14.1.length) (kj : Option Bool) : ∀ (q j N : Nat), j + q = (r7.1[r14.1[i].toNat]'(hr.at hi).2.1).needs.length → q + 100 < N → w_FnLessonSets_l2 kj r7 r14 (i : Int) N (j : Int) = kj := by
  obtain ⟨h3, h4, h5⟩ := hr.at hi
  have hx : r7.1[r14.1[i].toNat]? = some r7.1[r14.1[i].toNat] := List.getElem?_eq_getElem h4
  have hn := hL.nlen (List.getElem_mem h4)
  have hl := hr.len hL
  intro q
  induction q with
  | zero =>
    intro j N h1 h2
    obtain ⟨N, rfl⟩ := pos_fuel h2
    have hz : ¬ (j : Int) < ((r7.1[r14.1[i].toNat]).needs.length : Int) := by omega
    simp only [w_FnLessonSets_l2, idx_lt r14.1 i hi, Option.bind_some, h5, hx, hz, decide_false, cond_false]
  | succ q ih =>
    intro j N h1 h2
    obtain ⟨N, rfl⟩ := pos_fuel h2
    have hz : (j : Int) < ((r7.1[r14.1[i].toNat]).needs.length : Int) := by omega
    have hj : j < (r7.1[r14.1[i].toNat]).needs.length := by omega
    have hm : r14.1.any (· == (r7.1[r14.1[i].toNat]).needs[j]) = true := by
      have := List.all_eq_true.1 hc _ (List.getElem_mem hi)
      rw [hx] at this
      have := List.contains_iff_mem.1 (List.all_eq_true.1 this _ (List.getElem_mem hj))
      exact List.any_eq_true.2 ⟨_, this, by simp⟩
    simp only [w_FnLessonSets_l2, idx_lt r14.1 i hi, Option.bind_some, h5, hx, hz, decide_true, cond_true, idx_lt _ j hj, (Has_eq N r14.1 _ (by unfold LIM; omega) (by omega)).2, hm, Bool.not_true, cond_false, w64_nat j (by omega)]
    exact ih (j + 1) N (by omega) (by omega)
theorem l1_ok (r7 : List Lesson × Str) (hL : GL r7.1) (r14 : List Int × Int) (hr : RS r7.1 r14.1) (hc : cmpl r7.1 r14.1 r14.1 = true) (kj : Option Bool) : ∀ (q i N : Nat), i + q = r14.1.length → q + 200 < N → w_FnLessonSets_l1 kj r7 r14 N (i : Int) = kj := by
  have hl := hr.len hL
  intro q
  induction q with
  | zero =>
    intro i N h1 h2
    obtain ⟨N, rfl⟩ := pos_fuel h2
    have hz : ¬ (i : Int) < (r14.1.length : Int) := by omega
    simp only [w_FnLessonSets_l1, hz, decide_false, cond_false]
  | succ q ih =>
    intro i N h1 h2
    obtain ⟨N, rfl⟩ := pos_fuel h2
    have hz : (i : Int) < (r14.1.length : Int) := by omega
    have hi : i < r14.1.length := by omega
    have hn := hL.nlen (List.getElem_mem (hr.at hi).2.1)
    simp only [w_FnLessonSets_l1, hz, decide_true, cond_true, withK_n]
    rw [show (0 : Int) = ((0 : Nat) : Int) from rfl, l2_ok r7 hL r14 hr hc i hi _ _ 0 N (by rw [Nat.zero_add]) (by omega), w64_nat i (by omega)]
    exact ih (i + 1) N (by omega) (by omega)
theorem law_FnLessonSets (code : List UInt8) (hlen : wfL wfByte code) : ∃ N, w_FnLessonSets N code = some true := by
  have _ := hlen
  refine ⟨20000, ?_⟩
  suffices h : ∀ N, 19000 < N → w_FnLessonSets N code = some true from h 20000 (by omega)
  intro N hN
  unfold w_FnLessonSets w_f6big
  rw [Option.bind_some]
  cases decide ((code.length : Int) > 4096) with
  | true => rfl
  | false =>
    rw [cond_false]
    obtain ⟨L, s, d1, d2, d3⟩ := dLessons code N (by omega)
    obtain ⟨L2, l2, s2, e1, e2, e3, e4⟩ := dCanType code N (by omega)
    obtain ⟨v, a1, a2, a3, a4⟩ := lft_ok L d2 s d3 N (by omega)
    obtain ⟨u, b1, b2, b3⟩ := unt_ok L d2 s d3 N (by omega)
    obtain ⟨w, c1, c2, c3⟩ := can_ok L2 e2 l2 (by omega) s2 e4 N (by omega)
    have f1 := ints_ok v.1 a3 N (by omega)
    have bn : ∀ x : Int, (x != x) = false := fun x => by simp
    have bs : ∀ x : Str, (x != x) = false := fun x => by simp
    have bb : ∀ x : Bool, (x != x) = false := fun x => by simp
    rw [d1, Option.bind_some]
    simp only [a1, a2, b1, b2, e1, c1, c2, Option.bind_some, f1, bn, bs, bb, orO_some, Bool.not_true, Bool.or_self, cond_false, andO_some, withK_n]
    rcases a4 with ⟨n0, n3⟩ | ⟨g1, g2, g3, g4⟩ | ⟨g1, g2, g3, g4, g5⟩
    · have z0 : (v.2 == 0) = false := by simp [n0]
      have z3 : (v.2 == 3) = false := by simp [n3]
      have z1 : (v.2 != 0) = true := by simp [n0]
      simp only [z0, z3, z1, Bool.false_and, Bool.or_self, cond_false, cond_true]
    · have hne := all_sel (gl_of g2) (s := s) (by
        have := g4 (2 ^ L.length - 1) (by have : 1 ≤ 2 ^ L.length := Nat.one_le_two_pow; omega)
        rw [bits_full] at this
        exact this)
      have z0 : (v.2 == 0) = false := by rw [g1]; rfl
      have z1 : (v.2 != 0) = true := by rw [g1]; rfl
      have z4 : (u.1 == []) = false := by rw [b3 g2 g3]; simpa using hne
      simp only [z0, z1, z4, Bool.false_and, Bool.and_false, Bool.or_self, cond_false, cond_true]
    · have hL := gl_of g2
      have hc : cmpl L v.1 v.1 = true := by
        have h := g5
        unfold okSel at h
        rw [Bool.and_eq_true] at h
        exact h.1
      have hty : s.all (tyB (kno L [] v.1)) = true := by
        have h := g5
        unfold okSel at h
        rw [Bool.and_eq_true] at h
        exact h.2
      have z0 : (v.2 == 0) = true := by rw [g1]; rfl
      have z3 : (v.2 == 3) = false := by rw [g1]; rfl
      have z1 : (v.2 != 0) = false := by rw [g1]; rfl
      have z4 : (u.1 != []) = false := by rw [b3 g2 g3, sel_misV g4 g5]; rfl
      have hl := g4.len hL
      have h12 := hL.len
      simp only [z0, z3, z1, z4, Bool.false_and, Bool.and_false, Bool.or_self, cond_false]
      have k1 := l1_ok (L, s) hL v g4 hc
      obtain ⟨q, q1, q2, q3⟩ := can_ok L d2 v.1 a3 s d3 N (by omega)
      have q4 := q3 g2 g4.ris_ g3
      subst q4
      have k2 := hrsO_ok L d2 v.1 a3 g2 g4.ris_ N (by omega)
      have k3 := l3_ok (L, s) hL
      rw [show (0 : Int) = ((0 : Nat) : Int) from rfl, k1 _ v.1.length 0 N (by omega) (by omega), q1, Option.bind_some, k2, Option.bind_some, k3 _ L.length 0 N _ (by show 0 + L.length = L.length; omega) (by omega) (by omega) (by omega)]
      have k4 := hsum_tot L hL v.1 0 g4.ris (fun k hk => g4.bnd k hk) (by omega)
      have z5 : decide (hsum L v.1 ≤ ((0 : Nat) : Int) + tot L 0) = true := decide_eq_true (by omega)
      simp only [hty]
      rw [z5]
      rfl
end Go.Proofs.Ytbgngihmpdneaaa
