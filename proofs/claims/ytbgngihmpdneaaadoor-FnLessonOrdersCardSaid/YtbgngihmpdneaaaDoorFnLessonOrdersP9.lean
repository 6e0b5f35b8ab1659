/-
  Plain lemmas on these functions. No conditions but those that each states.
-/
import Derived.Test.YtbgngihmpdneaaaDoorFnLessonOrdersP8
namespace Go.Proofs.YtbgngihmpdneaaaDoor
set_option linter.unusedVariables false
set_option linter.unusedSimpArgs false
/-! The draws and the law. -/
theorem dOrder (code : List UInt8) (N : Nat) (hN : 1300 < N) : ∃ L, s_DrawLessonOrder N code = some L ∧ SzL L := by
  unfold s_DrawLessonOrder
  rw [fromA, Option.bind_some]
  exact bindE (dBent (code := code) (hi := 0) ⟨rfl, Int.le_refl _, Int.le_refl _⟩ (by omega) N hN) fun v g => ⟨_, rfl, g.2.2.sz (by decide) g.2.1⟩
theorem dNext (code : List UInt8) (N : Nat) (hN : 1300 < N) : ∃ v : List Lesson × List Int, s_DrawNextLessons N code = some v ∧ SzL v.1 ∧ v.2.length ≤ 20 := by
  unfold s_DrawNextLessons s_l18Only
  rw [fromA, Option.bind_some]
  refine bindE (P := fun v => SzL v.1 ∧ v.2.length ≤ 20) ?_ fun v g => ⟨_, rfl, g⟩
  exact bindE (dSome (code := code) ⟨rfl, Int.le_refl _, Int.le_refl _⟩ N hN) fun v g => ⟨_, rfl, g.1, g.2.1⟩
theorem dLText (code : List UInt8) (N : Nat) (hN : 1300 < N) : ∃ v : List Lesson × Int, s_DrawLessonText N code = some v ∧ SzL v.1 := by
  unfold s_DrawLessonText
  rw [fromA, Option.bind_some]
  refine bindE (dBent (code := code) (hi := 0) ⟨rfl, Int.le_refl _, Int.le_refl _⟩ (by omega) N hN) fun v g => ?_
  refine bindE (pickA (code := code) (hi := 0 + 3000) _ ⟨rfl, g.1.2.1, g.1.2.2⟩ (by omega)) fun v2 g2 => ?_
  exact bindE (pickA (code := code) (hi := 0 + 3000 + 2) _ ⟨rfl, g2.1.2.1, g2.1.2.2⟩ (by omega)) fun v3 g3 => ⟨_, rfl, g.2.2.sz (by decide) g.2.1⟩
theorem copy_l1 (r7 : List Lesson × L00Src) (hl : r7.1.length ≤ 7) (hX : AllX 100 r7.1) (kj : List Lesson → Option (List Lesson × List Lesson)) (Q : List Lesson × List Lesson → Prop) (hk : ∀ l, l.length ≤ 7 → AllX 100 l → ∃ r, kj l = some r ∧ Q r) : ∀ (n i N : Nat) (l : List Lesson), i + n = r7.1.length → n < N → l.length ≤ i → AllX 100 l → ∃ r, s_DrawSameLessons_l1 kj r7 N l (i : Int) = some r ∧ Q r := by
  intro n
  induction n with
  | zero =>
    intro i N l h1 h2 h3 h4
    obtain ⟨N, rfl⟩ := pos_fuel h2
    have hz : ¬ (i : Int) < (r7.1.length : Int) := by omega
    simp only [s_DrawSameLessons_l1, hz, decide_false, cond_false]
    exact hk l (by omega) h4
  | succ n ih =>
    intro i N l h1 h2 h3 h4
    obtain ⟨N, rfl⟩ := pos_fuel h2
    have hz : (i : Int) < (r7.1.length : Int) := by omega
    have hx := hX r7.1[i] (List.getElem_mem (by omega))
    have h7 := hx.2.1
    have eo : s_l00Own r7.1[i].needs = some r7.1[i].needs := by
      unfold s_l00Own
      rw [app_some _ _ (by unfold LIM; simp; omega)]; rfl
    simp only [s_DrawSameLessons_l1, hz, decide_true, cond_true, idx_lt r7.1 i (by omega), Option.bind_some, eo, w64_nat i (by omega)]
    refine appE (by unfold LIM; simp; omega) ?_
    exact ih (i + 1) N _ (by omega) (by omega) (by simp; omega) (h4.snoc hx)
theorem dSame (code : List UInt8) (N : Nat) (hN : 1400 < N) : ∃ v : List Lesson × List Lesson, s_DrawSameLessons N code = some v ∧ SzL v.1 := by
  unfold s_DrawSameLessons
  rw [fromA, Option.bind_some]
  simp only [withK_n]
  refine bindE (dDraw (code := code) (hi := 0) ⟨rfl, Int.le_refl _, Int.le_refl _⟩ (by omega) N (by omega)) fun v g => ?_
  have hsz : SzL v.1 := g.2.2.sz (by decide) (by omega)
  refine copy_l1 v g.2.1 g.2.2 _ _ (fun l hl hX => ?_) v.1.length 0 N [] (by omega) (by omega) (by simp) (fun x hx => by cases hx)
  have rest : ∀ (l55 : List Lesson) (a sd : Int), l55.length ≤ 7 → 0 ≤ a → a ≤ 2010 → ∃ r, ((s_l00Src_one (L00Src.mk code a sd) 5).bind fun r102 =>
      bif r102.1 then (app l55 ([(Lesson.mk [] [] ([] : List Int) 0)] : List Lesson)).bind fun l109 => some (v.1, l109) else some (v.1, l55)) = some r ∧ SzL r.1 := by
    intro l55 a sd h1 h2 h3
    refine bindE (oneA (code := code) (hi := 2010) 5 ⟨rfl, h2, h3⟩ (by omega)) fun v2 g2 => ?_
    exact condE (fun _ => appE (by unfold LIM; simp; omega) ⟨_, rfl, hsz⟩) (fun _ => ⟨_, rfl, hsz⟩)
  refine condE (fun hp => ?_) (fun _ => rest l _ _ hl g.1.2.1 (by have := g.1.2.2; omega))
  have hpos : 0 < l.length := by have := of_decide_eq_true hp; omega
  have h0 : idx l 0 = some l[0] := idx_lt l 0 hpos
  have hx := hX l[0] (List.getElem_mem hpos)
  have h7 := hx.2.1
  have h8 := hx.1
  refine bindE (pickA (code := code) (hi := 0 + 2000) 4 ⟨rfl, g.1.2.1, g.1.2.2⟩ (by omega)) fun v2 g2 => ?_
  rw [h0]
  simp only [Option.bind_some]
  refine condE (fun _ => appE (by unfold LIM; simp; omega) (rest _ _ _ (by simp; omega) g2.1.2.1 (by have := g2.1.2.2; omega))) (fun _ => condE (fun _ => ?_) (fun _ => rest _ _ _ hl g2.1.2.1 (by have := g2.1.2.2; omega)))
  rw [cat_some _ _ (by unfold LIM; simp; omega), Option.bind_some]
  exact rest _ _ _ (by simp; omega) g2.1.2.1 (by have := g2.1.2.2; omega)
theorem canB_and {L : List Lesson} {o : List Int} {k : Int} (h : canB L o k = true) : o.contains k = false ∧ ∀ x, L[k.toNat]? = some x → ∀ v ∈ x.needs, o.any (· == v) = true := by
  unfold canB at h
  rw [Bool.and_eq_true, Bool.not_eq_true'] at h
  refine ⟨h.1, fun x hx v hv => ?_⟩
  have h2 := h.2
  rw [hx] at h2
  rw [any_cont]
  exact List.all_eq_true.1 h2 v hv
theorem w_l2 (r21 : List Lesson × List Int) (r29 : List Int × Int) (hL : GL r21.1) (ht : r21.2.length ≤ 100) (i p : Nat) (hi : i < r29.1.length) (hp : r29.1[i] = (p : Int)) (hpl : p < r21.1.length) (hc : canB r21.1 r21.2 (p : Int) = true) (kj : Option Bool) : ∀ (q j N : Nat), j + q = r21.1[p].needs.length → q + 150 < N → w_FnLessonOrders_l2 kj r21 r29 (i : Int) N (j : Int) = kj := by
  have hn := hL.nlen (List.getElem_mem hpl)
  intro q
  induction q with
  | zero =>
    intro j N h1 h2
    obtain ⟨N, rfl⟩ := pos_fuel h2
    have hz : ¬ (j : Int) < (r21.1[p].needs.length : Int) := by omega
    simp only [w_FnLessonOrders_l2, idx_lt r29.1 i hi, hp, Option.bind_some, idx_lt r21.1 p hpl, hz, decide_false, cond_false]
  | succ q ih =>
    intro j N h1 h2
    obtain ⟨N, rfl⟩ := pos_fuel h2
    have hz : (j : Int) < (r21.1[p].needs.length : Int) := by omega
    have hj : j < r21.1[p].needs.length := by omega
    have hm := (canB_and hc).2 r21.1[p] (by rw [Int.toNat_natCast, List.getElem?_eq_getElem hpl]) _ (List.getElem_mem hj)
    simp only [w_FnLessonOrders_l2, idx_lt r29.1 i hi, hp, Option.bind_some, idx_lt r21.1 p hpl, hz, decide_true, cond_true, idx_lt _ j hj, (Has_eq N r21.2 _ (by unfold LIM; omega) (by omega)).2, hm, Bool.not_true, cond_false, w64_nat j (by omega)]
    exact ih (j + 1) N (by omega) (by omega)
theorem w_l1 (r21 : List Lesson × List Int) (r29 : List Int × Int) (hL : GL r21.1) (ht : r21.2.length ≤ 100) (hr : r29.1.length ≤ 100) (hc : ∀ k ∈ r29.1, ∃ p : Nat, k = p ∧ p < r21.1.length ∧ canB r21.1 r21.2 k = true) (kj : Option Bool) : ∀ (q i N : Nat), i + q = r29.1.length → q + 300 < N → w_FnLessonOrders_l1 kj r21 r29 N (i : Int) = kj := by
  intro q
  induction q with
  | zero =>
    intro i N h1 h2
    obtain ⟨N, rfl⟩ := pos_fuel h2
    have hz : ¬ (i : Int) < (r29.1.length : Int) := by omega
    simp only [w_FnLessonOrders_l1, hz, decide_false, cond_false]
  | succ q ih =>
    intro i N h1 h2
    obtain ⟨N, rfl⟩ := pos_fuel h2
    have hz : (i : Int) < (r29.1.length : Int) := by omega
    have hi : i < r29.1.length := by omega
    obtain ⟨p, hp, hpl, hcp⟩ := hc _ (List.getElem_mem hi)
    rw [hp] at hcp
    have hn := hL.nlen (List.getElem_mem hpl)
    have h9 := (Has_eq N r21.2 (p : Int) (by unfold LIM; omega) (by omega)).2
    rw [any_cont, (canB_and hcp).1] at h9
    simp only [w_FnLessonOrders_l1, hz, decide_true, cond_true, withK_n, idx_lt r29.1 i hi, hp, Option.bind_some, h9, cond_false]
    rw [show (0 : Int) = ((0 : Nat) : Int) from rfl, w_l2 r21 r29 hL ht i p hi hp hpl hcp _ r21.1[p].needs.length 0 N (by omega) (by omega), w64_nat i (by omega)]
    exact ih (i + 1) N (by omega) (by omega)
theorem w_l4 (L : List Lesson) (r14 : List Int × Int) (hL : GL L) (hr : r14.1.length ≤ 100) (i p : Nat) (hi : i < r14.1.length) (hp : r14.1[i] = (p : Int)) (hpl : p < L.length) (hc : canB L (r14.1.take i) (p : Int) = true) (kj : Option Bool) : ∀ (q j N : Nat), j + q = L[p].needs.length → q + 150 < N → w_FnLessonOrders_l4 kj L r14 (i : Int) N (j : Int) = kj := by
  have hn := hL.nlen (List.getElem_mem hpl)
  have hs : sub r14.1 0 (i : Int) = some (r14.1.take i) := by rw [sub_some _ 0 i (by omega) (by omega) (by omega)]; simp
  have htl : (r14.1.take i).length ≤ 100 := by rw [List.length_take]; omega
  intro q
  induction q with
  | zero =>
    intro j N h1 h2
    obtain ⟨N, rfl⟩ := pos_fuel h2
    have hz : ¬ (j : Int) < (L[p].needs.length : Int) := by omega
    simp only [w_FnLessonOrders_l4, idx_lt r14.1 i hi, hp, Option.bind_some, idx_lt L p hpl, hz, decide_false, cond_false]
  | succ q ih =>
    intro j N h1 h2
    obtain ⟨N, rfl⟩ := pos_fuel h2
    have hz : (j : Int) < (L[p].needs.length : Int) := by omega
    have hj : j < L[p].needs.length := by omega
    have hm := (canB_and hc).2 L[p] (by rw [Int.toNat_natCast, List.getElem?_eq_getElem hpl]) _ (List.getElem_mem hj)
    simp only [w_FnLessonOrders_l4, idx_lt r14.1 i hi, hp, hs, Option.bind_some, idx_lt L p hpl, hz, decide_true, cond_true, idx_lt _ j hj, (Has_eq N (r14.1.take i) _ (by unfold LIM; omega) (by omega)).2, hm, Bool.not_true, cond_false, w64_nat j (by omega)]
    exact ih (j + 1) N (by omega) (by omega)
theorem w_l3 (L : List Lesson) (r14 : List Int × Int) (hL : GL L) (hr : r14.1.length ≤ 100) (ho : Ord_ L r14.1) (kj : Option Bool) : ∀ (q i N : Nat), i + q = r14.1.length → q + 300 < N → w_FnLessonOrders_l3 kj L r14 N (i : Int) = kj := by
  intro q
  induction q with
  | zero =>
    intro i N h1 h2
    obtain ⟨N, rfl⟩ := pos_fuel h2
    have hz : ¬ (i : Int) < (r14.1.length : Int) := by omega
    simp only [w_FnLessonOrders_l3, hz, decide_false, cond_false]
  | succ q ih =>
    intro i N h1 h2
    obtain ⟨N, rfl⟩ := pos_fuel h2
    have hz : (i : Int) < (r14.1.length : Int) := by omega
    have hi : i < r14.1.length := by omega
    have hb := ho.bnd _ (List.getElem_mem hi)
    obtain ⟨p, hp⟩ := Int.eq_ofNat_of_zero_le hb.1
    have hpl : p < L.length := by omega
    have hcp := ho.at_ i hi
    rw [hp] at hcp
    have hn := hL.nlen (List.getElem_mem hpl)
    have hs : sub r14.1 0 (i : Int) = some (r14.1.take i) := by rw [sub_some _ 0 i (by omega) (by omega) (by omega)]; simp
    have htl : (r14.1.take i).length ≤ 100 := by rw [List.length_take]; omega
    have h9 := (Has_eq N (r14.1.take i) (p : Int) (by unfold LIM; omega) (by omega)).2
    rw [any_cont, (canB_and hcp).1] at h9
    simp only [w_FnLessonOrders_l3, hz, decide_true, cond_true, withK_n, hs, idx_lt r14.1 i hi, hp, Option.bind_some, h9, cond_false]
    rw [show (0 : Int) = ((0 : Nat) : Int) from rfl, w_l4 L r14 hL hr i p hi hp hpl hcp _ L[p].needs.length 0 N (by omega) (by omega), w64_nat i (by omega)]
    exact ih (i + 1) N (by omega) (by omega)
theorem law_FnLessonOrders (code : List UInt8) (hlen : wfL wfByte code) : ∃ N, w_FnLessonOrders N code = some true := by
  have _ := hlen
  refine ⟨20000, ?_⟩
  suffices h : ∀ N, 19000 < N → w_FnLessonOrders N code = some true from h 20000 (by omega)
  intro N hN
  unfold w_FnLessonOrders w_f6big
  rw [Option.bind_some]
  cases decide ((code.length : Int) > 4096) with
  | true => rfl
  | false =>
    rw [cond_false]
    obtain ⟨L, d1, d2⟩ := dOrder code N (by omega)
    obtain ⟨r21, e1, e2, e3⟩ := dNext code N (by omega)
    obtain ⟨r40, f1, f2⟩ := dSame code N (by omega)
    obtain ⟨r46, g1, g2⟩ := dLText code N (by omega)
    obtain ⟨v, a1, a2, a3, a4, c, b1, b2, b3⟩ := order_ok L d2 N (by omega)
    obtain ⟨⟨n, n1, n2, n3, n4⟩, ⟨k, k1, k2⟩, ⟨hh, h1, h2⟩⟩ := nexts_ok r21.1 e2 r21.2 (by omega) N (by omega)
    obtain ⟨w, w1, w2⟩ := sameL_ok r40.1 r40.2 f2 N (by omega)
    obtain ⟨x, x1, x2⟩ := text_ok r46.1 g2 r46.2 N (by omega)
    obtain ⟨v1, v2⟩ := valid_ok L d2 N (by omega)
    have i1 := ints_ok v.1 a3 N (by omega)
    have i2 := ints_ok n.1 n3 N (by omega)
    have bn : ∀ x : Int, (x != x) = false := fun x => by simp
    have bs : ∀ x : Str, (x != x) = false := fun x => by simp
    have bb : ∀ x : Bool, (x != x) = false := fun x => by simp
    unfold s_ValidLessons
    simp only [d1, a1, a2, b1, b2, e1, n1, n2, k1, k2, h1, h2, f1, g1, w1, w2, x1, x2, v1, v2, i1, i2, Option.bind_some, bn, bs, bb, orO_some, Bool.not_true, Bool.or_self, cond_false, andO_some, withK_n]
    have fin : (bif c.2 == 0 && decide (c.1 ≥ 0) != (v.2 == 9) then some false else bif v.2 != 0 then some true else w_FnLessonOrders_l3 (some ((v.1.length : Int) == (L.length : Int))) L v N 0) = some true := by
      have z : (c.2 == 0 && decide (c.1 ≥ 0) != (v.2 == 9)) = false := by
        cases hc : (c.2 == 0) with
        | false => rfl
        | true => rw [b3 (by simpa using hc)]; simp
      rw [z, cond_false]
      cases hv : (v.2 != 0) with
      | true => rfl
      | false =>
        have hv0 : v.2 = 0 := by simpa using hv
        obtain ⟨p1, p2, p3⟩ := a4 hv0
        rw [cond_false, show (0 : Int) = ((0 : Nat) : Int) from rfl, w_l3 L v (gl_of p1) a3 p2 _ v.1.length 0 N (by omega) (by omega), p3]
        simp
    cases hn : (n.2 == 0) with
    | false => rw [cond_false]; exact fin
    | true =>
      obtain ⟨q1, q2, q3⟩ := n4 (by simpa using hn)
      rw [cond_true, show (0 : Int) = ((0 : Nat) : Int) from rfl, w_l1 r21 n q1 q2 n3 q3 _ n.1.length 0 N (by omega) (by omega)]
      exact fin
end Go.Proofs.YtbgngihmpdneaaaDoor
