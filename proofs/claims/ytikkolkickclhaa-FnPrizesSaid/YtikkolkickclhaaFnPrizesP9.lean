/-
  Plain lemmas on these functions. No conditions but those that each states.
-/
import Derived.Test.YtikkolkickclhaaFnPrizesP8
namespace Go.Proofs.Ytikkolkickclhaa
set_option linter.unusedVariables false
set_option linter.unusedSimpArgs false
/-! Tables, their sums, and places filled one after another. -/
def isum : List Int → Int
  | [] => 0
  | x :: r => x + isum r
theorem isum_app : ∀ a b : List Int, isum (a ++ b) = isum a + isum b
  | [], b => by simp [isum]
  | x :: a, b => by simp only [List.cons_append, isum, isum_app a b]; omega
def tv (t : List Int) : Bool := (t.all fun v => inR v 0 100000) && decide (t.length ≤ 20)
theorem tv_facts {t : List Int} (h : tv t = true) : t.length ≤ 20 ∧ ∀ v ∈ t, 0 ≤ v ∧ v ≤ 100000 := by
  unfold tv at h
  rw [Bool.and_eq_true] at h
  refine ⟨by simpa using h.2, fun v hv => ?_⟩
  have := List.all_eq_true.1 h.1 v hv
  unfold inR at this
  simpa using this
theorem tab_l1 (t : List Int) (hl : t.length ≤ 1000) (kj : Option Bool) : ∀ (q i N : Nat), i + q = t.length → q < N → i_isPointTable_l1 kj t N (i : Int) = (bif (t.drop i).all (fun v => inR v 0 100000) then kj else some false) ∧ s_l22Table_l1 kj t N (i : Int) = (bif (t.drop i).all (fun v => inR v 0 100000) then kj else some false) := by
  intro q
  induction q with
  | zero =>
    intro i N h1 h2
    obtain ⟨N, rfl⟩ := pos_fuel h2
    have hz : ¬ (i : Int) < (t.length : Int) := by omega
    rw [List.drop_eq_nil_of_le (by omega)]
    simp only [i_isPointTable_l1, s_l22Table_l1, hz, decide_false, cond_false, List.all_nil, cond_true, and_self]
  | succ q ih =>
    intro i N h1 h2
    obtain ⟨N, rfl⟩ := pos_fuel h2
    have hi : i < t.length := by omega
    have hz : (i : Int) < (t.length : Int) := by omega
    obtain ⟨i1, i2⟩ := ih (i + 1) N (by omega) (by omega)
    rw [drop_cons t i hi]
    simp only [i_isPointTable_l1, s_l22Table_l1, hz, decide_true, cond_true, idx_lt t i hi, Option.bind_some, bw_i, bw_s, w64_nat i (by omega), i1, i2, List.all_cons]
    cases inR t[i] 0 100000
    · exact ⟨rfl, rfl⟩
    · simp only [Bool.not_true, cond_false, Bool.true_and, and_self]
theorem tab_ok (t : List Int) (hl : t.length ≤ 1000) (N : Nat) (hN : t.length < N) : i_isPointTable N t = some (tv t) ∧ s_l22Table N t = some (tv t) := by
  have e : decide ((t.length : Int) ≤ 20) = decide (t.length ≤ 20) := decide_eq_decide.2 (by omega)
  obtain ⟨h1, h2⟩ := tab_l1 t hl (some (decide ((t.length : Int) ≤ 20))) t.length 0 N (by omega) (by omega)
  rw [show ((0 : Nat) : Int) = 0 from rfl, List.drop_zero, e] at h1 h2
  unfold i_isPointTable s_l22Table tv
  rw [withK_n, withK_n, e, h1, h2]
  cases t.all fun v => inR v 0 100000 <;> exact ⟨rfl, rfl⟩
/-- the sum of so many from a place on -/
def tsm (t : List Int) (a n : Nat) : Int := isum ((t.drop a).take n)
theorem tsm_succ (t : List Int) (a n : Nat) (h : a < t.length) : tsm t a (n + 1) = t[a] + tsm t (a + 1) n := by
  unfold tsm
  rw [drop_cons t a h, List.take_succ_cons]; rfl
theorem tsm_out (t : List Int) (a n : Nat) (h : t.length ≤ a) : tsm t a n = 0 := by
  unfold tsm
  rw [List.drop_eq_nil_of_le h, List.take_nil]; rfl
theorem tsm_zero (t : List Int) (a : Nat) : tsm t a 0 = 0 := by unfold tsm; rw [List.take_zero]; rfl
theorem tsm_add (t : List Int) (a n m : Nat) : tsm t a (n + m) = tsm t a n + tsm t (a + n) m := by
  unfold tsm
  rw [List.take_add, isum_app, List.drop_drop]
theorem tsm_bd (t : List Int) (ht : ∀ v ∈ t, 0 ≤ v ∧ v ≤ 100000) : ∀ n a : Nat, 0 ≤ tsm t a n ∧ tsm t a n ≤ 100000 * n
  | 0, a => by rw [tsm_zero]; omega
  | n + 1, a => by
    by_cases h : a < t.length
    · have := tsm_bd t ht n (a + 1)
      have h1 := ht _ (List.getElem_mem h)
      rw [tsm_succ t a n h]; omega
    · rw [tsm_out t a _ (by omega)]; omega
section
variable {t : List Int} (ht : ∀ v ∈ t, 0 ≤ v ∧ v ≤ 100000)
include ht
theorem tot_l1 (g : List Int) (a : Nat) (ha : a ≤ 1000) (hg : g.length ≤ 1000) (kj : Int → Option Int) : ∀ (q x N : Nat) (s : Int), x + q = g.length → q < N → 0 ≤ s → s ≤ 100000 * x → i_tied_total_l1 kj ⟨(a : Int) + 1, g⟩ t N s (x : Int) = kj (s + tsm t (a + x) q) := by
  intro q
  induction q with
  | zero =>
    intro x N s h1 h2 _ _
    obtain ⟨N, rfl⟩ := pos_fuel h2
    have hz : ¬ (x : Int) < (g.length : Int) := by omega
    rw [tsm_zero]
    simp only [i_tied_total_l1, hz, decide_false, cond_false, Int.add_zero]
  | succ q ih =>
    intro x N s h1 h2 h3 h4
    obtain ⟨N, rfl⟩ := pos_fuel h2
    have hz : (x : Int) < (g.length : Int) := by omega
    have e1 : w64 (w64 ((a : Int) + 1 - 1) + (x : Int)) = ((a + x : Nat) : Int) := by rw [w64_id (x := (a : Int) + 1 - 1) (by omega) (by omega), w64_id (by omega) (by omega)]; omega
    simp only [i_tied_total_l1, hz, decide_true, cond_true, withK_n, e1, w64_nat x (by omega)]
    by_cases h : a + x < t.length
    · have hz2 : ((a + x : Nat) : Int) < (t.length : Int) := by omega
      have hv := ht _ (List.getElem_mem h)
      simp only [hz2, decide_true, cond_true, idx_lt t (a + x) h, Option.bind_some]
      rw [w64_id (by omega) (by omega), ih (x + 1) N _ (by omega) (by omega) (by omega) (by omega), tsm_succ t (a + x) q h, Int.add_assoc]; rfl
    · have hz2 : ¬ ((a + x : Nat) : Int) < (t.length : Int) := by omega
      simp only [hz2, decide_false, cond_false]
      rw [ih (x + 1) N s (by omega) (by omega) h3 (by omega), tsm_out t (a + x) _ (by omega), tsm_out t (a + (x + 1)) _ (by omega)]
theorem tot_ok (g : List Int) (a : Nat) (ha : a ≤ 1000) (hg : g.length ≤ 1000) (N : Nat) (hN : g.length < N) : i_tied_total N ⟨(a : Int) + 1, g⟩ t = some (tsm t a g.length) := by
  unfold i_tied_total
  rw [withK_n]
  have := tot_l1 ht g a ha hg (fun s => some s) g.length 0 N 0 (by omega) hN (by omega) (by omega)
  rw [show ((0 : Nat) : Int) = 0 from rfl, Int.zero_add] at this
  exact this
theorem sum_l1 (b : Nat) (hb : b ≤ 1000) (kj : Int → Option Int) : ∀ (q x N : Nat) (s : Int), x + q = b → q < N → 0 ≤ s → s ≤ 100000 * x → s_l22Sum_l1 kj t (b : Int) N s (x : Int) = kj (s + tsm t x q) := by
  intro q
  induction q with
  | zero =>
    intro x N s h1 h2 _ _
    obtain ⟨N, rfl⟩ := pos_fuel h2
    have hz : ¬ (x : Int) < (b : Int) := by omega
    rw [tsm_zero]
    simp only [s_l22Sum_l1, hz, decide_false, andO_false, Option.bind_some, cond_false, Int.add_zero]
  | succ q ih =>
    intro x N s h1 h2 h3 h4
    obtain ⟨N, rfl⟩ := pos_fuel h2
    have hz : (x : Int) < (b : Int) := by omega
    by_cases h : x < t.length
    · have hz2 : (x : Int) < (t.length : Int) := by omega
      have hv := ht _ (List.getElem_mem h)
      simp only [s_l22Sum_l1, hz, hz2, decide_true, andO_true, Option.bind_some, cond_true, idx_lt t x h, w64_nat x (by omega)]
      rw [w64_id (by omega) (by omega), ih (x + 1) N _ (by omega) (by omega) (by omega) (by omega), tsm_succ t x q h, Int.add_assoc]
    · have hz2 : ¬ (x : Int) < (t.length : Int) := by omega
      simp only [s_l22Sum_l1, hz, hz2, decide_true, decide_false, andO_true, Option.bind_some, cond_false]
      rw [tsm_out t x _ (by omega), Int.add_zero]
theorem sum_ok (a n : Nat) (h : a + n ≤ 1000) (N : Nat) (hN : n < N) : s_l22Sum N t (a : Int) ((a + n : Nat) : Int) = some (tsm t a n) := by
  unfold s_l22Sum
  rw [withK_n]
  have := sum_l1 ht (a + n) h (fun s => some s) n a N 0 rfl hN (by omega) (by omega)
  rw [Int.zero_add] at this
  exact this
end
/-! places filled -/
def setAll {α : Type} : List α → List (Int × α) → List α
  | l, [] => l
  | l, (i, v) :: r => setAll (l.set i.toNat v) r
theorem setAll_app {α : Type} : ∀ (P Q : List (Int × α)) (l : List α), setAll l (P ++ Q) = setAll (setAll l P) Q
  | [], _, _ => rfl
  | (i, v) :: P, Q, l => by simp only [List.cons_append, setAll]; exact setAll_app P Q _
theorem setAll_len {α : Type} : ∀ (P : List (Int × α)) (l : List α), (setAll l P).length = l.length
  | [], _ => rfl
  | (i, v) :: P, l => by simp only [setAll]; rw [setAll_len P, List.length_set]
theorem setAll_not {α : Type} (k : Nat) : ∀ (P : List (Int × α)) (l : List α), (∀ x ∈ P, 0 ≤ x.1) → (k : Int) ∉ P.map (·.1) → (setAll l P)[k]? = l[k]?
  | [], _, _, _ => rfl
  | (i, v) :: P, l, h0, hk => by
    simp only [List.map_cons, List.mem_cons, not_or] at hk
    have h1 := h0 (i, v) List.mem_cons_self
    simp only at h1
    simp only [setAll]
    rw [setAll_not k P _ (fun x hx => h0 x (List.mem_cons_of_mem _ hx)) hk.2, List.getElem?_set_ne (by omega)]
theorem setAll_at {α : Type} (k : Nat) (u : α) : ∀ (P : List (Int × α)) (l : List α), (∀ x ∈ P, 0 ≤ x.1) → (P.map (·.1)).Nodup → k < l.length → ((k : Int), u) ∈ P → (setAll l P)[k]? = some u
  | (i, v) :: P, l, h0, hn, hl, hm => by
    simp only [List.map_cons, List.nodup_cons] at hn
    have h1 := h0 (i, v) List.mem_cons_self
    simp only at h1
    simp only [setAll]
    rcases List.mem_cons.1 hm with h | h
    · obtain ⟨rfl, rfl⟩ := Prod.mk.inj h
      rw [setAll_not k P _ (fun x hx => h0 x (List.mem_cons_of_mem _ hx)) hn.1, Int.toNat_natCast, List.getElem?_set_self hl]
    · exact setAll_at k u P _ (fun x hx => h0 x (List.mem_cons_of_mem _ hx)) hn.2 (by rw [List.length_set]; exact hl) h
theorem isum_set : ∀ (l : List Int) (k : Nat) (v : Int), l[k]? = some 0 → isum (l.set k v) = isum l + v
  | x :: l, 0, v, h => by
    simp only [List.getElem?_cons_zero, Option.some.injEq] at h
    subst h
    simp only [List.set_cons_zero, isum]; omega
  | x :: l, k + 1, v, h => by
    simp only [List.getElem?_cons_succ] at h
    simp only [List.set_cons_succ, isum, isum_set l k v h]; omega
theorem setAll_sum : ∀ (P : List (Int × Int)) (l : List Int), (∀ x ∈ P, 0 ≤ x.1) → (P.map (·.1)).Nodup → (∀ x ∈ P, l[x.1.toNat]? = some 0) → isum (setAll l P) = isum l + isum (P.map (·.2))
  | [], l, _, _, _ => by simp [setAll, isum]
  | (i, v) :: P, l, h0, hn, hz => by
    simp only [List.map_cons, List.nodup_cons] at hn
    have h1 := h0 (i, v) List.mem_cons_self
    simp only at h1
    have h2 := hz (i, v) List.mem_cons_self
    simp only at h2
    simp only [setAll, List.map_cons, isum]
    rw [setAll_sum P _ (fun x hx => h0 x (List.mem_cons_of_mem _ hx)) hn.2 (fun x hx => ?_), isum_set l _ v h2]
    · omega
    · have hx0 := h0 x (List.mem_cons_of_mem _ hx)
      rw [List.getElem?_set_ne (fun e => hn.1 ?_)]
      · exact hz x (List.mem_cons_of_mem _ hx)
      · have : i = x.1 := by omega
        rw [this]; exact List.mem_map.2 ⟨x, hx, rfl⟩
end Go.Proofs.Ytikkolkickclhaa
