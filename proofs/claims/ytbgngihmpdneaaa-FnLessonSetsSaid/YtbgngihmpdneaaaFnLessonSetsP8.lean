/-
  Plain lemmas on these functions. No conditions but those that each states.
-/
import Derived.Test.YtbgngihmpdneaaaFnLessonSetsP7
namespace Go.Proofs.Ytbgngihmpdneaaa
set_option linter.unusedVariables false
set_option linter.unusedSimpArgs false
/-! Chosen lessons. -/
theorem bit1 (k i : Nat) (hk : k < 4611686018427387904) (hi : i < 60) : ∃ q : Int, shrO (k : Int) (i : Int) = some q ∧ (iand q 1 == 1) = k.testBit i := by
  refine ⟨((k / 2 ^ i : Nat) : Int), ?_, ?_⟩
  · unfold shrO
    rw [if_neg (by omega)]
    have e : min ((i : Int).toNat) 64 = i := by omega
    rw [e, Int.fdiv_eq_ediv_of_nonneg _ (by exact Int.le_of_lt (Int.pow_pos (by decide)))]
    norm_cast
  · have h1 : k / 2 ^ i ≤ k := Nat.div_le_self _ _
    unfold iand
    have e1 : (BitVec.ofInt 64 ((k / 2 ^ i : Nat) : Int)).toNat = k / 2 ^ i := by
      rw [BitVec.ofInt_natCast, BitVec.toNat_ofNat]
      exact Nat.mod_eq_of_lt (by omega)
    rw [BitVec.toNat_and, e1]
    have e2 : (BitVec.ofInt 64 1).toNat = 1 := by decide
    rw [e2, Nat.and_one_is_mod, Nat.testBit_eq_decide_div_mod_eq]
    have h2 : k / 2 ^ i % 2 = 0 ∨ k / 2 ^ i % 2 = 1 := by omega
    rcases h2 with h | h <;> rw [h] <;> rfl
def K12 : Nat := 4096
theorem chos_l1 (k m : Nat) (hk : k < 5000) (hm : m ≤ 12) (kj : List Int → Option (List Int)) : ∀ (n i N : Nat) (l : List Int), i + n = m → n < N → l.length ≤ i → i_chosen_l1 kj (k : Int) (m : Int) N l (i : Int) = kj (l ++ ints ((List.range' i n).filter fun j => k.testBit j)) := by
  intro n
  induction n with
  | zero =>
    intro i N l hi hN h0
    obtain ⟨N, rfl⟩ := pos_fuel hN
    have hz : ¬ (i : Int) < (m : Int) := by omega
    simp only [i_chosen_l1, hz, decide_false, cond_false]
    simp [ints]
  | succ n ih =>
    intro i N l hi hN h0
    obtain ⟨N, rfl⟩ := pos_fuel hN
    have hz : (i : Int) < (m : Int) := by omega
    obtain ⟨q, hq, hb⟩ := bit1 k i (by omega) (by omega)
    simp only [i_chosen_l1, hz, decide_true, cond_true, withK_n, hq, Option.bind_some, hb]
    rw [w64_nat i (by omega), List.range'_succ]
    cases hbit : k.testBit i
    · simp only [cond_false]
      rw [ih (i + 1) N l (by omega) (by omega) (by omega), List.filter_cons_of_neg (by simp [hbit])]
    · simp only [cond_true]
      rw [app_some _ _ (by unfold LIM; simp; omega), Option.bind_some, ih (i + 1) N _ (by omega) (by omega) (by simp; omega), List.filter_cons_of_pos hbit]
      simp [ints]
theorem chos_ok (k m : Nat) (hk : k < 5000) (hm : m ≤ 12) (N : Nat) (hN : 20 < N) : i_chosen N (k : Int) (m : Int) = some (ints (bits k m)) := by
  unfold i_chosen
  simp only [withK_n]
  have e := chos_l1 k m hk hm (fun l => some l) m 0 N [] (by omega) (by omega) (by simp)
  rw [show ((0 : Nat) : Int) = 0 from rfl] at e
  rw [e, List.nil_append, bits, List.range_eq_range']
theorem chosS_l2 (L : List Lesson) (hL : L.length ≤ 12) (k : Nat) (hk : k < 5000) (kj : List Int → Option ((List Int) × Int)) : ∀ (n i N : Nat) (l : List Int), i + n = L.length → n < N → l.length ≤ i → s_LessonsForText_l2 kj L (k : Int) N l (i : Int) = kj (l ++ ints ((List.range' i n).filter fun j => k.testBit j)) := by
  intro n
  induction n with
  | zero =>
    intro i N l hi hN h0
    obtain ⟨N, rfl⟩ := pos_fuel hN
    have hz : ¬ (i : Int) < (L.length : Int) := by omega
    simp only [s_LessonsForText_l2, hz, decide_false, cond_false]
    simp [ints]
  | succ n ih =>
    intro i N l hi hN h0
    obtain ⟨N, rfl⟩ := pos_fuel hN
    have hz : (i : Int) < (L.length : Int) := by omega
    obtain ⟨q, hq, hb⟩ := bit1 k i (by omega) (by omega)
    have ew : IntKind.u64.wrap (i : Int) = (i : Int) := wrapu_id (by omega) (by omega)
    simp only [s_LessonsForText_l2, hz, decide_true, cond_true, withK_n, ew, hq, Option.bind_some, hb]
    rw [w64_nat i (by omega), List.range'_succ]
    cases hbit : k.testBit i
    · simp only [cond_false]
      rw [ih (i + 1) N l (by omega) (by omega) (by omega), List.filter_cons_of_neg (by simp [hbit])]
    · simp only [cond_true]
      rw [app_some _ _ (by unfold LIM; simp; omega), Option.bind_some, ih (i + 1) N _ (by omega) (by omega) (by simp; omega), List.filter_cons_of_pos hbit]
      simp [ints]
theorem chosS_ok (L : List Lesson) (hL : L.length ≤ 12) (k : Nat) (hk : k < 5000) (kj : List Int → Option ((List Int) × Int)) (N : Nat) (hN : 20 < N) : s_LessonsForText_l2 kj L (k : Int) N [] 0 = kj (ints (bits k L.length)) := by
  have e := chosS_l2 L hL k hk kj L.length 0 N [] (by omega) (by omega) (by simp)
  rw [show ((0 : Nat) : Int) = 0 from rfl] at e
  rw [e, List.nil_append, bits, List.range_eq_range']
theorem shl12 : ∀ n : Nat, n < 13 → shlO 1 (n : Int) = some ((2 ^ n : Nat) : Int) := by decide +kernel
/-- rising indices -/
structure RS (L : List Lesson) (l : List Int) : Prop where
  ris : l.Pairwise (· < ·)
  bnd : ∀ k ∈ l, 0 ≤ k ∧ k < (L.length : Int)
theorem RS.len {L : List Lesson} {l : List Int} (h : RS L l) (hL : GL L) : l.length ≤ 12 := by
  have := sorted_le h.ris h.bnd (by omega)
  have := hL.len
  omega
theorem RS.at {L : List Lesson} {l : List Int} (h : RS L l) {i : Nat} (hi : i < l.length) : 0 ≤ l[i] ∧ l[i].toNat < L.length ∧ idx L l[i] = L[l[i].toNat]? := by
  obtain ⟨h1, h2⟩ := h.bnd l[i] (List.getElem_mem hi)
  have h3 : l[i].toNat < L.length := by omega
  exact ⟨h1, h3, by rw [idx_int L _ h1 (by omega), List.getElem?_eq_getElem h3]⟩
theorem rs_bits (L : List Lesson) (k : Nat) : RS L (ints (bits k L.length)) := by
  have hs : (bits k L.length).Pairwise (· < ·) := List.Pairwise.filter _ List.pairwise_lt_range
  refine ⟨?_, fun x hx => ?_⟩
  · unfold ints
    rw [List.pairwise_map]
    exact hs.imp (fun h => by omega)
  · obtain ⟨i, hi, rfl⟩ := List.mem_map.1 hx
    have := List.mem_range.1 (List.mem_filter.1 hi).1
    omega
theorem rs_of {L : List Lesson} {l : List Int} (h : risB L.length l = true) : RS L l := by
  obtain ⟨h1, h2, _⟩ := risF_mem _ _ _ h
  exact ⟨h1, h2⟩
theorem risF_of (n : Int) : ∀ (l : List Int) (p : Option Int), l.Pairwise (· < ·) → (∀ k ∈ l, 0 ≤ k ∧ k < n) → (∀ y, p = some y → ∀ k ∈ l, y < k) → risF n p l = true
  | [], _, _, _, _ => rfl
  | x :: r, p, h1, h2, h3 => by
    rw [List.pairwise_cons] at h1
    have hx := h2 x (List.mem_cons_self ..)
    simp only [risF, Bool.and_eq_true]
    refine ⟨inr_iff.2 (by omega), ?_, risF_of n r (some x) h1.2 (fun k hk => h2 k (List.mem_cons_of_mem _ hk)) (fun y hy k hk => by obtain rfl := Option.some.inj hy; exact h1.1 k hk)⟩
    cases p with
    | none => rfl
    | some y => exact decide_eq_true (h3 y rfl x (List.mem_cons_self ..))
theorem RS.ris_ {L : List Lesson} {l : List Int} (h : RS L l) : risB L.length l = true := risF_of _ _ _ h.ris h.bnd (fun y hy => by cases hy)
/-- marks of a choice -/
def MkT (L : List Lesson) (l : List Int) (t : List Bool) : Prop := t.length = L.length ∧ ∀ k : Int, 0 ≤ k → (Mk t k ↔ k ∈ l)
theorem marks_l1 (L : List Lesson) (hL : GL L) (l : List Int) (h : RS L l) (kj : List Bool → Option (List Bool)) : ∀ (q i N : Nat) (t : List Bool), i + q = l.length → q < N → MkT L (l.take i) t → ∃ t', MkT L l t' ∧ i_marks_l1 kj l N t (i : Int) = kj t' := by
  intro q
  induction q with
  | zero =>
    intro i N t h1 h2 ht
    obtain ⟨N, rfl⟩ := pos_fuel h2
    have hz : ¬ ((i : Int) < (l.length : Int)) := by omega
    rw [List.take_of_length_le (by omega)] at ht
    exact ⟨t, ht, by simp [i_marks_l1, hz]⟩
  | succ q ih =>
    intro i N t h1 h2 ht
    obtain ⟨N, rfl⟩ := pos_fuel h2
    have hl := h.len hL
    have hz : (i : Int) < (l.length : Int) := by omega
    have hi : i < l.length := by omega
    obtain ⟨h3, h4, _⟩ := h.at hi
    have h5 : l[i].toNat < t.length := by rw [ht.1]; exact h4
    simp only [i_marks_l1, hz, decide_true, cond_true, idx_lt l i hi, Option.bind_some, idx_int t l[i] h3 (by omega), w64_nat i (by omega)]
    refine ih (i + 1) N _ (by omega) (by omega) ⟨by rw [List.length_set]; exact ht.1, fun k hk => ?_⟩
    rw [mk_set h5 hk h3, ht.2 k hk, List.take_succ_eq_append_getElem hi, List.mem_append, List.mem_singleton]
    exact Or.comm
theorem marks_ok (L : List Lesson) (hL : GL L) (l : List Int) (h : RS L l) (N : Nat) (hN : 20 < N) : ∃ t, MkT L l t ∧ i_marks N l (L.length : Int) = some t := by
  have := hL.len
  have hl := h.len hL
  unfold i_marks
  rw [mk_some _ _ (by unfold LIM; omega), Option.bind_some, withK_n]
  obtain ⟨t', h1, h2⟩ := marks_l1 L hL l h (fun l8 => some l8) l.length 0 N (List.replicate L.length false) (by omega) (by omega) ⟨List.length_replicate, fun k hk => by
    rw [List.take_zero]
    unfold Mk
    rw [List.getElem?_replicate]
    constructor
    · intro h; split at h <;> cases h
    · intro h; cases h⟩
  exact ⟨t', h1, h2⟩
theorem allIn_l1 (L : List Lesson) (hL : GL L) (l : List Int) (t : List Bool) (ht : MkT L l t) (s : List Int) (h : RS L s) : ∀ (q i N : Nat), i + q = s.length → q < N → i_allIn_l1 (some true) s t N (i : Int) = some ((s.drop i).all fun k => l.contains k) := by
  intro q
  induction q with
  | zero =>
    intro i N h1 h2
    obtain ⟨N, rfl⟩ := pos_fuel h2
    have hz : ¬ ((i : Int) < (s.length : Int)) := by omega
    rw [List.drop_of_length_le (by omega)]
    simp [i_allIn_l1, hz]
  | succ q ih =>
    intro i N h1 h2
    obtain ⟨N, rfl⟩ := pos_fuel h2
    have hl := h.len hL
    have hz : (i : Int) < (s.length : Int) := by omega
    have hi : i < s.length := by omega
    obtain ⟨h3, h4, _⟩ := h.at hi
    have h5 : s[i].toNat < t.length := by rw [ht.1]; exact h4
    have h6 : t[s[i].toNat] = l.contains s[i] := by
      have := ht.2 s[i] h3
      unfold Mk at this
      rw [List.getElem?_eq_getElem h5] at this
      rw [Bool.eq_iff_iff, List.contains_iff_mem, ← this]
      exact ⟨fun h => by rw [h], fun h => Option.some.inj h⟩
    rw [drop_cons s i hi, List.all_cons]
    simp only [i_allIn_l1, hz, decide_true, cond_true, idx_lt s i hi, Option.bind_some, idx_int t s[i] h3 (by omega), w64_nat i (by omega), ih (i + 1) N (by omega) (by omega), h6]
    cases l.contains s[i] <;> rfl
theorem allIn_ok (L : List Lesson) (hL : GL L) (l : List Int) (t : List Bool) (ht : MkT L l t) (s : List Int) (h : RS L s) (N : Nat) (hN : 20 < N) : i_allIn N s t = some (s.all fun k => l.contains k) := by
  have hl := h.len hL
  have := allIn_l1 L hL l t ht s h s.length 0 N (by omega) (by omega)
  unfold i_allIn
  rw [withK_n]
  exact this
/-- lessons that have what they need -/
def cmpl (L : List Lesson) (l s : List Int) : Bool := s.all fun k => match L[k.toNat]? with | some x => x.needs.all fun v => l.contains v | none => true
theorem compl_l2 (L : List Lesson) (hL : GL L) (l : List Int) (h : RS L l) (t : List Bool) (ht : MkT L l t) (kj : Bool → Option ((List Int) × Int)) : ∀ (q i N : Nat) (b : Bool), i + q = l.length → q + 30 < N → i_LessonsForText_l2 kj L l t N b (i : Int) = kj (b && cmpl L l (l.drop i)) := by
  intro q
  induction q with
  | zero =>
    intro i N b h1 h2
    obtain ⟨N, rfl⟩ := pos_fuel h2
    have hz : ¬ ((i : Int) < (l.length : Int)) := by omega
    rw [List.drop_of_length_le (by omega)]
    simp [i_LessonsForText_l2, hz, cmpl]
  | succ q ih =>
    intro i N b h1 h2
    obtain ⟨N, rfl⟩ := pos_fuel h2
    have hl := h.len hL
    have hz : (i : Int) < (l.length : Int) := by omega
    have hi : i < l.length := by omega
    obtain ⟨h3, h4, h5⟩ := h.at hi
    have hx : L[l[i].toNat]? = some L[l[i].toNat] := List.getElem?_eq_getElem h4
    obtain ⟨n1, n2⟩ := hL.at hx
    rw [drop_cons l i hi]
    simp only [i_LessonsForText_l2, hz, decide_true, cond_true, idx_lt l i hi, Option.bind_some, h5, hx, allIn_ok L hL l t ht _ ⟨n1, n2⟩ N (by omega), andO_some, w64_nat i (by omega), ih (i + 1) N _ (by omega) (by omega)]
    simp only [cmpl, List.all_cons, hx, Bool.and_assoc]
theorem cmpl_all (L : List Lesson) (hL : GL L) (l : List Int) (h : RS L l) (o : List Int) (o1 : o.Pairwise (· < ·)) (o3 : ∀ k, k ∈ o ↔ Rch L l k) : ((o.length : Int) != (l.length : Int)) = !(cmpl L l l) := by
  have hsub : ∀ k ∈ l, k ∈ o := fun k hk => (o3 k).2 (.base hk)
  cases hc : cmpl L l l with
  | true =>
    have : o = l := sorted_ext _ _ o1 h.ris fun x => ⟨fun hx => by
      refine Rch.sub (T := fun k => k ∈ l) (fun k hk => hk) (fun j x hj hx k hk => ?_) ((o3 x).1 hx)
      have := List.all_eq_true.1 hc j hj
      rw [hx] at this
      exact List.contains_iff_mem.1 (List.all_eq_true.1 this k hk), hsub x⟩
    rw [this]; simp
  | false =>
    obtain ⟨j, hj, hb⟩ := List.all_eq_false.1 hc
    cases hx : L[j.toNat]? with
    | none => rw [hx] at hb; simp at hb
    | some x =>
      rw [hx] at hb
      simp only [Bool.not_eq_true] at hb
      obtain ⟨v, hv, hvn⟩ := List.all_eq_false.1 hb
      have hvo : v ∈ o := (o3 v).2 (.step (.base hj) hx hv)
      have hvl : v ∉ l := fun hm => hvn (List.contains_iff_mem.2 hm)
      have hnd : (v :: l).Nodup := List.nodup_cons.2 ⟨hvl, h.ris.imp (fun h => by omega)⟩
      have := hnd.length_le_of_subset (fun z hz => by
        rcases List.mem_cons.1 hz with rfl | hz
        · exact hvo
        · exact hsub z hz)
      rw [List.length_cons] at this
      simp; omega
end Go.Proofs.Ytbgngihmpdneaaa
