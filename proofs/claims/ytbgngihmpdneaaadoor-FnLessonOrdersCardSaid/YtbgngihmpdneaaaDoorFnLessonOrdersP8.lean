/-
  Plain lemmas on these functions. No conditions but those that each states.
-/
import Derived.Test.YtbgngihmpdneaaaDoorFnLessonOrdersP7
namespace Go.Proofs.YtbgngihmpdneaaaDoor
set_option linter.unusedVariables false
set_option linter.unusedSimpArgs false
/-! What can be taken next; letters and hours. -/
theorem taken_ok (L : List Lesson) (h : SzL L) (l : List Int) (hl : l.length ≤ 100) (N : Nat) (hN : 3000 < N) : ∃ c : Int, i_takenCode N L l = some c ∧ s_l18Taken N L l = some c ∧ (c = 0 → vlL L = true ∧ risB L.length l = true) := by
  obtain ⟨v1, v2⟩ := valid_ok L h N (by omega)
  obtain ⟨r1, r2⟩ := ris_ok l L.length (by have := h.1; omega) (by omega) N (by omega)
  unfold i_takenCode s_l18Taken
  simp only [v1, v2, r1, r2, Option.bind_some]
  cases vlL L with
  | false => exact ⟨1, rfl, rfl, by simp⟩
  | true =>
    cases risB L.length l with
    | false => exact ⟨2, rfl, rfl, by simp⟩
    | true => exact ⟨0, rfl, rfl, by simp⟩
theorem next_l1 (L : List Lesson) (hL : GL L) (l : List Int) (hl : l.length ≤ 100) (t : List Bool) (ht : MkT L l t) (Ki Ks : List Int → Option (List Int × Int)) : ∀ (q i N : Nat) (o : List Int), i + q = L.length → q + 400 < N → o.length ≤ i → (∀ k ∈ o, ∃ p : Nat, k = p ∧ p < L.length ∧ canB L l k = true) →
    ∃ o' : List Int, o'.length ≤ L.length ∧ (∀ k ∈ o', ∃ p : Nat, k = p ∧ p < L.length ∧ canB L l k = true) ∧ i_NextLessons_l1 Ki L t N o (i : Int) = Ki o' ∧ s_NextLessons_l1 Ks L l N o (i : Int) = Ks o' := by
  have hL12 := hL.len
  intro q
  induction q with
  | zero =>
    intro i N o h1 h2 h3 h4
    obtain ⟨N, rfl⟩ := pos_fuel h2
    have hz : ¬ (i : Int) < (L.length : Int) := by omega
    exact ⟨o, by omega, h4, by simp [i_NextLessons_l1, hz], by simp [s_NextLessons_l1, hz]⟩
  | succ q ih =>
    intro i N o h1 h2 h3 h4
    obtain ⟨N, rfl⟩ := pos_fuel h2
    have hz : (i : Int) < (L.length : Int) := by omega
    have hi : i < L.length := by omega
    have hx : L[i]? = some L[i] := List.getElem?_eq_getElem hi
    obtain ⟨n1, n2⟩ := hL.at hx
    have e1 := mk_cont ht i hi
    have e2 := allIn_ok L hL l t ht L[i].needs ⟨n1, n2⟩ N (by omega)
    have e3 := can_ok L hL l hl i hi N (by omega)
    have e4 : (!l.contains (i : Int) && L[i].needs.all fun v => l.contains v) = canB L l (i : Int) := by unfold canB; rw [Int.toNat_natCast, hx]
    have ea : app o [(i : Int)] = some (o ++ [(i : Int)]) := app_some _ _ (by unfold LIM; simp; omega)
    simp only [i_NextLessons_l1, s_NextLessons_l1, hz, decide_true, cond_true, withK_n, idx_lt L i hi, Option.bind_some, e1, e2, e3, andO_some, e4, w64_nat i (by omega), ea]
    cases hc : canB L l (i : Int) with
    | false => exact ih (i + 1) N o (by omega) (by omega) (by omega) h4
    | true =>
      refine ih (i + 1) N _ (by omega) (by omega) (by simp; omega) fun k hk => ?_
      rcases List.mem_append.1 hk with hk | hk
      · exact h4 k hk
      · rw [List.mem_singleton.1 hk]; exact ⟨i, rfl, hi, hc⟩
theorem nexts_ok (L : List Lesson) (h : SzL L) (l : List Int) (hl : l.length ≤ 100) (N : Nat) (hN : 5000 < N) :
    (∃ v : List Int × Int, i_NextLessons N L l = some v ∧ s_NextLessons N L l = some v ∧ v.1.length ≤ 100 ∧ (v.2 = 0 → GL L ∧ l.length ≤ 100 ∧ ∀ k ∈ v.1, ∃ p : Nat, k = p ∧ p < L.length ∧ canB L l k = true)) ∧
    (∃ v : Str × Int, i_KnownAfter N L l = some v ∧ s_KnownAfter N L l = some v) ∧ ∃ v : Int × Int, i_HoursOfLessons N L l = some v ∧ s_HoursOfLessons N L l = some v := by
  obtain ⟨c, c1, c2, c3⟩ := taken_ok L h l hl N (by omega)
  unfold i_NextLessons s_NextLessons i_KnownAfter s_KnownAfter i_HoursOfLessons s_HoursOfLessons
  simp only [c1, c2, Option.bind_some, withK_n]
  by_cases h0 : c = 0
  · subst h0
    obtain ⟨g1, g2⟩ := c3 rfl
    have hL := gl_of g1
    have hL12 := hL.len
    have hr := rs_of g2
    obtain ⟨t, t1, t2⟩ := marks_ok L hL l hr N (by omega)
    obtain ⟨m, m1, m2, m3⟩ := known_ok L hL l hr N (by omega)
    obtain ⟨a1, a2⟩ := hours_ok L hL l hr N (by omega)
    obtain ⟨o', o1, o2, o3, o4⟩ := next_l1 L hL l hl t t1 (fun l14 => some (l14, 0)) (fun l11 => some (l11, 0)) L.length 0 N [] (by omega) (by omega) (by simp) (fun k hk => by cases hk)
    rw [show ((0 : Nat) : Int) = 0 from rfl] at o3 o4
    have e00 : ((0 : Int) != 0) = false := rfl
    simp only [e00, cond_false, t2, m2, m3, a1, a2, Option.bind_some, o3, o4, m1.asc N (by omega)]
    exact ⟨⟨(o', 0), rfl, rfl, by show o'.length ≤ 100; omega, fun _ => ⟨hL, hl, o2⟩⟩, ⟨_, rfl, rfl⟩, ⟨_, rfl, rfl⟩⟩
  · have e1 : (c != 0) = true := by simp [h0]
    simp only [e1, cond_true]
    exact ⟨⟨([], c), rfl, rfl, by simp, fun h => (h0 h).elim⟩, ⟨_, rfl, rfl⟩, ⟨_, rfl, rfl⟩⟩
/-! equal lists -/
theorem sameN_l1 (a b : List Int) (hab : a.length = b.length) (hl : a.length ≤ 1000) : ∀ (q i N : Nat), i + q = a.length → q < N → ∃ v, i_sameNumbers_l1 (some true) a b N (i : Int) = some v ∧ s_l00Same_l1 (some true) a b N (i : Int) = some v := by
  intro q
  induction q with
  | zero =>
    intro i N h1 h2
    obtain ⟨N, rfl⟩ := pos_fuel h2
    have hz : ¬ (i : Int) < (a.length : Int) := by omega
    exact ⟨true, by simp [i_sameNumbers_l1, hz], by simp [s_l00Same_l1, hz]⟩
  | succ q ih =>
    intro i N h1 h2
    obtain ⟨N, rfl⟩ := pos_fuel h2
    have hz : (i : Int) < (a.length : Int) := by omega
    simp only [i_sameNumbers_l1, s_l00Same_l1, hz, decide_true, cond_true, idx_lt a i (by omega), idx_lt b i (by omega), Option.bind_some, w64_nat i (by omega)]
    cases (a[i]'(by omega) != b[i]'(by omega)) with
    | true => exact ⟨false, rfl, rfl⟩
    | false => exact ih (i + 1) N (by omega) (by omega)
theorem sameN_ok (a b : List Int) (hl : a.length ≤ 1000) (N : Nat) (hN : 1000 < N) : ∃ v, i_sameNumbers N a b = some v ∧ s_l00Same N a b = some v := by
  unfold i_sameNumbers s_l00Same
  by_cases h : a.length = b.length
  · have e : ((a.length : Int) != (b.length : Int)) = false := by simp [h]
    simp only [e, cond_false, withK_n]
    exact sameN_l1 a b h hl a.length 0 N (by omega) (by omega)
  · have e : ((a.length : Int) != (b.length : Int)) = true := by simp; omega
    simp only [e, cond_true]
    exact ⟨false, rfl, rfl⟩
theorem sameL_l1 (a b : List Lesson) (hab : a.length = b.length) (ha : SzL a) : ∀ (q i N : Nat), i + q = a.length → q + 1001 < N → ∃ v, i_SameLessons_l1 (some true) a b N (i : Int) = some v ∧ s_SameLessons_l1 (some true) a b N (i : Int) = some v := by
  have hl := ha.1
  intro q
  induction q with
  | zero =>
    intro i N h1 h2
    obtain ⟨N, rfl⟩ := pos_fuel h2
    have hz : ¬ (i : Int) < (a.length : Int) := by omega
    exact ⟨true, by simp [i_SameLessons_l1, hz], by simp [s_SameLessons_l1, hz]⟩
  | succ q ih =>
    intro i N h1 h2
    obtain ⟨N, rfl⟩ := pos_fuel h2
    have hz : (i : Int) < (a.length : Int) := by omega
    have hx := ha.2 a[i] (List.getElem_mem (by omega))
    obtain ⟨v, v1, v2⟩ := sameN_ok a[i].needs (b[i]'(by omega)).needs (by omega) N (by omega)
    simp only [i_SameLessons_l1, s_SameLessons_l1, hz, decide_true, cond_true, idx_lt a i (by omega), idx_lt b i (by omega), Option.bind_some, w64_nat i (by omega), orO_some, v1, v2]
    have e : ∀ p q r s : Bool, (p || q || r || s) = (p || q || s || r) := by decide
    rw [e]
    cases ((a[i]'(by omega)).name != (b[i]'(by omega)).name || (a[i]'(by omega)).letters != (b[i]'(by omega)).letters || !v || (a[i]'(by omega)).hours != (b[i]'(by omega)).hours) with
    | true => exact ⟨false, rfl, rfl⟩
    | false => exact ih (i + 1) N (by omega) (by omega)
theorem sameL_ok (a b : List Lesson) (ha : SzL a) (N : Nat) (hN : 2000 < N) : ∃ v, i_SameLessons N a b = some v ∧ s_SameLessons N a b = some v := by
  have hl := ha.1
  unfold i_SameLessons s_SameLessons
  by_cases h : a.length = b.length
  · have e : ((a.length : Int) != (b.length : Int)) = false := by simp [h]
    simp only [e, cond_false, withK_n]
    exact sameL_l1 a b h ha a.length 0 N (by omega) (by omega)
  · have e : ((a.length : Int) != (b.length : Int)) = true := by simp; omega
    simp only [e, cond_true]
    exact ⟨false, rfl, rfl⟩
/-! the text of a lesson -/
def nmsOf (L : List Lesson) (l : List Int) : List Str := l.map fun k => match L[k.toNat]? with | some x => x.name | none => []
theorem nms_len (L : List Lesson) (h : SzL L) (l : List Int) : ∀ w ∈ nmsOf L l, w.length ≤ 200 := fun w hw => by
  obtain ⟨k, _, rfl⟩ := List.mem_map.1 hw
  cases hx : L[k.toNat]? with
  | none => simp
  | some x => exact (h.2 x (List.mem_of_getElem? hx)).2.2
theorem joinTail_cons (sep x : Str) (r : List Str) : Lib.joinTail sep (x :: r) = sep ++ x ++ Lib.joinTail sep r := by simp [Lib.joinTail]
theorem join_le : ∀ (r : List Str) (sep : Str), (∀ w ∈ r, w.length ≤ 200) → (Lib.joinTail sep r).length ≤ (200 + sep.length) * r.length
  | [], _, _ => by simp [Lib.joinTail]
  | x :: r, sep, h => by
    have h1 := h x List.mem_cons_self
    have h2 := join_le r sep fun w hw => h w (List.mem_cons_of_mem _ hw)
    rw [joinTail_cons, List.length_append, List.length_append, List.length_cons, Nat.mul_add]
    omega
theorem ltI_l1 (L : List Lesson) (hL : GL L) (x : Lesson) (hr : RS L x.needs) (kj : List Str → Option Str) : ∀ (q i N : Nat) (o : List Str), i + q = x.needs.length → q < N → o.length ≤ i → i_LessonText_l1 kj L x N o (i : Int) = kj (o ++ nmsOf L (x.needs.drop i)) := by
  have hn := hr.len hL
  intro q
  induction q with
  | zero =>
    intro i N o h1 h2 h3
    obtain ⟨N, rfl⟩ := pos_fuel h2
    have hz : ¬ (i : Int) < (x.needs.length : Int) := by omega
    rw [List.drop_of_length_le (by omega)]
    simp [i_LessonText_l1, hz, nmsOf]
  | succ q ih =>
    intro i N o h1 h2 h3
    obtain ⟨N, rfl⟩ := pos_fuel h2
    have hz : (i : Int) < (x.needs.length : Int) := by omega
    have hi : i < x.needs.length := by omega
    obtain ⟨h4, h5, h6⟩ := hr.at hi
    have hx : L[x.needs[i].toNat]? = some L[x.needs[i].toNat] := List.getElem?_eq_getElem h5
    have ea : app o [L[x.needs[i].toNat].name] = some (o ++ [L[x.needs[i].toNat].name]) := app_some _ _ (by unfold LIM; simp; omega)
    simp only [i_LessonText_l1, hz, decide_true, cond_true, idx_lt x.needs i hi, Option.bind_some, h6, hx, ea, w64_nat i (by omega)]
    rw [ih (i + 1) N _ (by omega) (by omega) (by simp; omega), drop_cons x.needs i hi]
    simp only [nmsOf, List.map_cons, hx, List.append_assoc, List.singleton_append]
theorem ltS_l1 (L : List Lesson) (hL : GL L) (hS : SzL L) (x : Lesson) (hr : RS L x.needs) (kj : Str → Option Str) : ∀ (q i N : Nat) (o : Str), i + q = x.needs.length → q < N → 0 < i → o.length ≤ 1000 + 300 * i → s_LessonText_l1 kj L x N o (i : Int) = kj (o ++ Lib.joinTail [44] (nmsOf L (x.needs.drop i))) := by
  have hn := hr.len hL
  intro q
  induction q with
  | zero =>
    intro i N o h1 h2 h0 h3
    obtain ⟨N, rfl⟩ := pos_fuel h2
    have hz : ¬ (i : Int) < (x.needs.length : Int) := by omega
    rw [List.drop_of_length_le (by omega)]
    simp [s_LessonText_l1, hz, nmsOf, Lib.joinTail]
  | succ q ih =>
    intro i N o h1 h2 h0 h3
    obtain ⟨N, rfl⟩ := pos_fuel h2
    have hz : (i : Int) < (x.needs.length : Int) := by omega
    have hi : i < x.needs.length := by omega
    obtain ⟨h4, h5, h6⟩ := hr.at hi
    have hx : L[x.needs[i].toNat]? = some L[x.needs[i].toNat] := List.getElem?_eq_getElem h5
    have hw := (hS.2 _ (List.getElem_mem h5)).2.2
    have e0 : ((i : Int) == 0) = false := by simp; omega
    simp only [s_LessonText_l1, hz, decide_true, cond_true, withK_n, e0, cond_false]
    rw [cat_some o [44] (by unfold LIM; simp; omega), Option.bind_some, idx_lt x.needs i hi, Option.bind_some, h6, hx, Option.bind_some, cat_some _ _ (by unfold LIM; simp; omega), Option.bind_some, w64_nat i (by omega), ih (i + 1) N _ (by omega) (by omega) (by omega) (by simp; omega), drop_cons x.needs i hi]
    simp only [nmsOf, List.map_cons, hx, joinTail_cons, List.append_assoc]
def needT (w : List Str) : Str := match w with | [] => [] | y :: r => [32, 97, 102, 116, 101, 114, 32] ++ Lib.join (y :: r) [44]
theorem text_ok (L : List Lesson) (hS : SzL L) (k : Int) (N : Nat) (hN : 3000 < N) : ∃ v, i_LessonText N L k = some v ∧ s_LessonText N L k = some v := by
  obtain ⟨v1, v2⟩ := valid_ok L hS N (by omega)
  have hlen := hS.1
  unfold i_LessonText s_LessonText
  rw [v1, v2]
  simp only [Option.bind_some, i_between_eq, s_l00In_eq, orO_some]
  cases hv : vlL L with
  | false => exact ⟨[], rfl, rfl⟩
  | true =>
    have hL := gl_of hv
    have hL12 := hL.len
    rw [w64_id (x := (L.length : Int) - 1) (by omega) (by omega)]
    cases hk : inr k 0 ((L.length : Int) - 1) with
    | false => exact ⟨[], rfl, rfl⟩
    | true =>
      obtain ⟨k0, k1⟩ := inr_iff.1 hk
      obtain ⟨p, rfl⟩ := Int.eq_ofNat_of_zero_le k0
      have hp : p < L.length := by omega
      have hx : L[p]? = some L[p] := List.getElem?_eq_getElem hp
      obtain ⟨n1, n2⟩ := hL.at hx
      obtain ⟨z1, z2, z3⟩ := hS.2 L[p] (List.getElem_mem hp)
      have hh := hL.hrs _ (List.getElem_mem hp)
      obtain ⟨d1, d2, d3, d4⟩ := Dec_eq N L[p].hours (by omega) (by omega) (by omega)
      have hr : RS L L[p].needs := ⟨n1, n2⟩
      have hnl := hr.len hL
      have hwl := nms_len L hS L[p].needs
      simp only [Bool.not_true, Bool.or_self, cond_false, withK_n]
      rw [idx_lt L p hp, Option.bind_some, Option.bind_some, cat_some _ _ (by unfold LIM; simp; omega), Option.bind_some, Option.bind_some, d1, d2, Option.bind_some, Option.bind_some, cat_some _ _ (by unfold LIM; simp; omega), Option.bind_some, Option.bind_some, cat_some _ _ (by unfold LIM; simp; omega), Option.bind_some, Option.bind_some, cat_some _ _ (by unfold LIM; simp; omega), Option.bind_some, Option.bind_some, cat_some _ _ (by unfold LIM; simp; omega), Option.bind_some, Option.bind_some]
      have hI := fun kj => ltI_l1 L hL L[p] hr kj L[p].needs.length 0 N [] (by omega) (by omega) (by simp)
      rw [show ((0 : Nat) : Int) = 0 from rfl, List.drop_zero] at hI
      rw [hI, List.nil_append]
      generalize hb : L[p].name ++ [32] ++ Lib.itoa L[p].hours ++ [104, 32, 91] ++ L[p].letters ++ [93] = base
      have hbl : base.length ≤ 600 := by rw [← hb]; simp only [List.length_append, List.length_cons, List.length_nil]; omega
      obtain ⟨N', rfl⟩ := pos_fuel hN
      cases hns : L[p].needs with
      | nil =>
        have e1 : decide ((List.length (nmsOf L []) : Int) > 0) = false := rfl
        have e2 : ¬ (0 : Int) < (L[p].needs.length : Int) := by rw [hns]; simp
        simp only [e1, cond_false, s_LessonText_l1, e2, decide_false]
        exact ⟨_, rfl, rfl⟩
      | cons y r =>
        have hx0 : idx L[p].needs 0 = some y := by rw [hns]; rfl
        have h0 : 0 < L[p].needs.length := by rw [hns]; simp
        obtain ⟨g4, g5, g6⟩ := hr.at h0
        have hy : L[p].needs[0] = y := by simp [hns]
        rw [hy] at g4 g5 g6
        have hyx : L[y.toNat]? = some L[y.toNat] := List.getElem?_eq_getElem g5
        have hyw := (hS.2 _ (List.getElem_mem g5)).2.2
        have e1 : decide ((List.length (nmsOf L (y :: r)) : Int) > 0) = true := by simp [nmsOf]
        have e2 : (0 : Int) < (L[p].needs.length : Int) := by omega
        have ej : nmsOf L (y :: r) = L[y.toNat].name :: nmsOf L r := by simp only [nmsOf, List.map_cons, hyx]
        have hwr : ∀ w ∈ nmsOf L r, w.length ≤ 200 := fun w hw => hwl w (by rw [hns, ej]; exact List.mem_cons_of_mem _ hw)
        have hjl := join_le (nmsOf L r) [44] hwr
        have hrl : (nmsOf L r).length ≤ 12 := by
          have : (y :: r).length ≤ 12 := by rw [← hns]; exact hnl
          simp only [nmsOf, List.length_map]; simp at this; omega
        have hjl2 : (Lib.joinTail [44] (nmsOf L r)).length ≤ 3000 := by simp only [List.length_cons, List.length_nil] at hjl; omega
        have hJ : joinO (nmsOf L (y :: r)) [44] = some (L[y.toNat].name ++ Lib.joinTail [44] (nmsOf L r)) := by
          unfold joinO
          rw [ej, Lib.join_cons, if_pos ⟨by unfold LIM; simp; omega, by unfold LIM; simp; omega⟩]
        have ez : ((0 : Int) == 0) = true := rfl
        have hs1 := ltS_l1 L hL hS L[p] hr (fun o => some o) (L[p].needs.length - 1) 1 N' (base ++ [32, 97, 102, 116, 101, 114, 32] ++ L[y.toNat].name) (by omega) (by omega) (by omega) (by simp; omega)
        simp only [e1, cond_true, hJ, Option.bind_some, s_LessonText_l1, e2, decide_true, withK_n, ez, hx0, g6, hyx]
        rw [cat_some _ _ (by unfold LIM; simp; omega), Option.bind_some, cat_some _ _ (by unfold LIM; simp; omega), Option.bind_some, cat_some _ _ (by unfold LIM; simp; omega), Option.bind_some, cat_some _ _ (by unfold LIM; simp; omega), Option.bind_some, show w64 ((0 : Int) + 1) = ((1 : Nat) : Int) from rfl, hs1]
        refine ⟨_, rfl, congrArg some ?_⟩
        rw [hns, List.drop_one, List.tail_cons]
        simp only [List.append_assoc]
end Go.Proofs.YtbgngihmpdneaaaDoor
