/-
  Plain lemmas on these functions. No conditions but those that each states.
-/
import Derived.Test.YtikkolkickclhaaDoorFnRankingsP9
namespace Go.Proofs.YtikkolkickclhaaDoor
set_option linter.unusedVariables false
set_option linter.unusedSimpArgs false
/-! Heats: there and back. -/
def ht (h k : Nat) : Nat := if k % (2 * h) < h then k % (2 * h) else 2 * h - 1 - k % (2 * h)
theorem ht_lt {h : Nat} (h0 : 0 < h) (k : Nat) : ht h k < h := by
  have := Nat.mod_lt k (show 0 < 2 * h by omega)
  unfold ht
  split <;> omega
def htP (h : Nat) : Nat → List Int → List (Int × Int)
  | _, [] => []
  | k, i :: r => (i, (ht h k : Int)) :: htP h (k + 1) r
theorem htP_keys (h : Nat) : ∀ (r : List Int) (k : Nat), (htP h k r).map (·.1) = r
  | [], _ => rfl
  | i :: r, k => by simp only [htP, List.map_cons, htP_keys h r]
/-- how often a heat comes among the first ones -/
def hc (h c : Nat) : Nat → Nat
  | 0 => 0
  | n + 1 => hc h c n + (if ht h n = c then 1 else 0)
theorem hc_eq {h : Nat} (h0 : 0 < h) (c : Nat) (hcl : c < h) : ∀ (n a b : Nat), n = 2 * h * a + b → b < 2 * h → hc h c n = 2 * a + (if c < b then 1 else 0) + (if 2 * h - 1 - c < b then 1 else 0)
  | 0, a, b, he, hb => by
    have ha : a = 0 := by
      rcases Nat.eq_zero_or_pos a with e | e
      · exact e
      · have := Nat.mul_le_mul_left (2 * h) e
        omega
    subst ha
    have hb0 : b = 0 := by omega
    subst hb0
    simp [hc]
  | n + 1, a, b, he, hb => by
    simp only [hc]
    rcases Nat.eq_zero_or_pos b with e | e
    · subst e
      have ha : 0 < a := by
        rcases Nat.eq_zero_or_pos a with e | e
        · subst e; simp at he
        · exact e
      obtain ⟨a, rfl⟩ : ∃ a', a = a' + 1 := ⟨a - 1, by omega⟩
      have e1 : n = 2 * h * a + (2 * h - 1) := by rw [Nat.mul_add] at he; omega
      rw [hc_eq h0 c hcl n a (2 * h - 1) e1 (by omega)]
      have hm : n % (2 * h) = 2 * h - 1 := by rw [e1, Nat.mul_add_mod, Nat.mod_eq_of_lt (by omega)]
      unfold ht
      rw [hm]
      simp only [Nat.not_lt_zero, if_false]
      repeat' split
      all_goals omega
    · obtain ⟨b, rfl⟩ : ∃ b', b = b' + 1 := ⟨b - 1, by omega⟩
      have e1 : n = 2 * h * a + b := by omega
      rw [hc_eq h0 c hcl n a b e1 (by omega)]
      have hm : n % (2 * h) = b := by rw [e1, Nat.mul_add_mod, Nat.mod_eq_of_lt (by omega)]
      unfold ht
      rw [hm]
      repeat' split
      all_goals omega
theorem hc_even {h : Nat} (h0 : 0 < h) {c d : Nat} (hcl : c < h) (hdl : d < h) (n : Nat) : hc h c n ≤ hc h d n + 1 := by
  have e : n = 2 * h * (n / (2 * h)) + n % (2 * h) := (Nat.div_add_mod n (2 * h)).symm
  have hb := Nat.mod_lt n (show 0 < 2 * h by omega)
  rw [hc_eq h0 c hcl n _ _ e hb, hc_eq h0 d hdl n _ _ e hb]
  repeat' split
  all_goals omega
theorem htP_cnt (h c : Nat) : ∀ (r : List Int) (k : Nat), ((htP h k r).map (·.2)).countP (fun v => v == (c : Int)) + hc h c k = hc h c (k + r.length)
  | [], k => by simp [htP]
  | i :: r, k => by
    have := htP_cnt h c r (k + 1)
    simp only [htP, List.map_cons, List.countP_cons, List.length_cons]
    rw [show k + (r.length + 1) = k + 1 + r.length by omega, ← this]
    simp only [hc]
    by_cases e : ht h k = c
    · have eb : ((ht h k : Int) == (c : Int)) = true := by rw [e]; simp
      rw [if_pos e, eb]; simp only [if_true]; omega
    · have eb : ((ht h k : Int) == (c : Int)) = false := by rw [beq_eq_false_iff_ne]; omega
      rw [if_neg e, eb]; simp only [Bool.false_eq_true, if_false]; omega
def htL (l : List Result) (h : Nat) : List Int := setAll (List.replicate l.length 0) (htP h 0 (ord l))
theorem htL_len (l : List Result) (h : Nat) : (htL l h).length = l.length := by unfold htL; rw [setAll_len, List.length_replicate]
theorem htL_perm (l : List Result) (h : Nat) : (htL l h).Perm ((htP h 0 (ord l)).map (·.2)) := by
  let f : Int → Int := fun i => ((htL l h)[i.toNat]?).getD 0
  have h0 : ∀ x ∈ htP h 0 (ord l), 0 ≤ x.1 ∧ x.1 < l.length := fun x hx => by
    have : x.1 ∈ (htP h 0 (ord l)).map (·.1) := List.mem_map.2 ⟨x, hx, rfl⟩
    rw [htP_keys] at this
    exact ord_mem l this
  have e1 : (htP h 0 (ord l)).map (·.2) = (ord l).map f := by
    conv => rhs; rw [← htP_keys h (ord l) 0, List.map_map]
    refine List.map_congr_left fun x hx => ?_
    obtain ⟨b1, b2⟩ := h0 x hx
    have := setAll_at x.1.toNat x.2 (htP h 0 (ord l)) (List.replicate l.length 0) (fun y hy => (h0 y hy).1) (by rw [htP_keys]; exact ord_nodup l) (by rw [List.length_replicate]; omega) (by rw [show ((x.1.toNat : Nat) : Int) = x.1 by omega]; exact hx)
    show x.2 = ((htL l h)[x.1.toNat]?).getD 0
    unfold htL
    rw [this]; rfl
  have e2 : htL l h = (rng l.length).map f := by
    refine List.ext_getElem? fun i => ?_
    by_cases hi : i < l.length
    · rw [List.getElem?_map, rng_at _ _ hi]
      show _ = some (((htL l h)[((i : Int)).toNat]?).getD 0)
      rw [Int.toNat_natCast, List.getElem?_eq_getElem (by rw [htL_len]; exact hi)]; rfl
    · rw [List.getElem?_eq_none (by rw [htL_len]; omega), List.getElem?_eq_none (by rw [List.length_map, rng_len]; omega)]
  rw [e1, e2]
  exact ((ord_perm l).symm).map f
theorem htL_cnt (l : List Result) (h c : Nat) : (htL l h).countP (fun v => v == (c : Int)) = hc h c l.length := by
  have := htP_cnt h c (ord l) 0
  rw [Nat.zero_add, ord_len] at this
  rw [(htL_perm l h).countP_eq, ← this]; simp [hc]
theorem htL_bd (l : List Result) {h : Nat} (h0 : 0 < h) : ∀ v ∈ htL l h, ∃ c : Nat, v = c ∧ c < h := by
  have key : ∀ (r : List Int) (k : Nat) (v : Int), v ∈ (htP h k r).map (·.2) → ∃ c : Nat, v = c ∧ c < h := by
    intro r
    induction r with
    | nil => intro k v hv; cases hv
    | cons i r ih =>
      intro k v hv
      simp only [htP, List.map_cons, List.mem_cons] at hv
      rcases hv with rfl | hv
      · exact ⟨ht h k, rfl, ht_lt h0 k⟩
      · exact ih (k + 1) v hv
  intro v hv
  exact key _ _ v ((htL_perm l h).mem_iff.1 hv)
theorem heat_l1 (kj : List Int → Option (List Int × Int)) (o : List Int) (ho : o.length ≤ 100) (h : Nat) (h0 : 0 < h) (h10 : h ≤ 10) : ∀ (q x N : Nat) (L : List Int), x + q = o.length → q < N → (∀ i ∈ o, 0 ≤ i ∧ i < L.length) →
    i_HeatsOf_l1 kj (h : Int) o N L (x : Int) = kj (setAll L (htP h x (o.drop x))) ∧ s_HeatsOf_l1 kj (h : Int) o N L (x : Int) = kj (setAll L (htP h x (o.drop x))) := by
  intro q
  induction q with
  | zero =>
    intro x N L h1 h2 h3
    obtain ⟨N, rfl⟩ := pos_fuel h2
    have hz : ¬ (x : Int) < (o.length : Int) := by omega
    rw [List.drop_eq_nil_of_le (by omega)]
    simp only [i_HeatsOf_l1, s_HeatsOf_l1, hz, decide_false, cond_false, htP, setAll, and_self]
  | succ q ih =>
    intro x N L h1 h2 h3
    obtain ⟨N, rfl⟩ := pos_fuel h2
    have hx : x < o.length := by omega
    have hz : (x : Int) < (o.length : Int) := by omega
    obtain ⟨b1, b2⟩ := h3 _ (List.getElem_mem hx)
    have hm := Nat.mod_lt x (show 0 < 2 * h by omega)
    have e1 : w64 (2 * (h : Int)) = ((2 * h : Nat) : Int) := by rw [w64_id (by omega) (by omega)]; omega
    have e2 : remO (x : Int) ((2 * h : Nat) : Int) = some ((x % (2 * h) : Nat) : Int) := by
      unfold remO
      rw [if_neg (by omega), Int.tmod_eq_emod_of_nonneg (by omega)]
      rfl
    obtain ⟨i1, i2⟩ := ih (x + 1) N (L.set (o[x]).toNat (ht h x : Int)) (by omega) (by omega) (fun i hi => by rw [List.length_set]; exact h3 i hi)
    rw [drop_cons _ x hx]
    simp only [i_HeatsOf_l1, s_HeatsOf_l1, hz, decide_true, cond_true, withK_n, idx_lt _ x hx, Option.bind_some, e1, e2, idx_int L _ b1 b2, w64_nat x (by omega), htP, setAll]
    by_cases hc : x % (2 * h) < h
    · have hd : ¬ ((x % (2 * h) : Nat) : Int) ≥ (h : Int) := by omega
      have eh : ht h x = x % (2 * h) := by unfold ht; rw [if_pos hc]
      simp only [hd, decide_false, cond_false]
      rw [eh] at i1 i2
      rw [eh]
      exact ⟨i1, i2⟩
    · have hd : ((x % (2 * h) : Nat) : Int) ≥ (h : Int) := by omega
      have eh : ht h x = 2 * h - 1 - x % (2 * h) := by unfold ht; rw [if_neg hc]
      have e4 : w64 (w64 (((2 * h : Nat) : Int) - 1) - ((x % (2 * h) : Nat) : Int)) = ((2 * h - 1 - x % (2 * h) : Nat) : Int) := by
        generalize x % (2 * h) = m at *
        rw [w64_id (x := ((2 * h : Nat) : Int) - 1) (by omega) (by omega), w64_id (by omega) (by omega)]; omega
      simp only [hd, decide_true, cond_true, e4]
      rw [eh] at i1 i2
      rw [eh]
      exact ⟨i1, i2⟩
theorem heats_ok (l : List Result) (hl : l.length ≤ 50) (h : Int) (N : Nat) (hN : 1000 < N) : ∃ (o : List Int) (c : Int), i_HeatsOf N l h = some (o, c) ∧ s_HeatsOf N l h = some (o, c) ∧ o.length ≤ 50 ∧ (c = 0 → vR l = true ∧ ∃ h' : Nat, h = h' ∧ 0 < h' ∧ h' ≤ 10 ∧ o = htL l h') := by
  obtain ⟨v1, v2⟩ := valid_ok l (by omega) N (by omega)
  unfold i_HeatsOf s_HeatsOf
  rw [v1, v2]
  simp only [Option.bind_some, bw_i, bw_s]
  cases hv : vR l with
  | false => exact ⟨[], 1, rfl, rfl, by simp, fun h => by cases h⟩
  | true =>
    cases hb : inR h 1 10 with
    | false => exact ⟨[], 2, rfl, rfl, by simp, fun h => by cases h⟩
    | true =>
      have hn := vR_len hv
      have hb2 : 1 ≤ h ∧ h ≤ 10 := by unfold inR at hb; simpa using hb
      obtain ⟨h', rfl⟩ : ∃ h' : Nat, h = h' := ⟨h.toNat, by omega⟩
      have hlp := fun kj => heat_l1 kj (ord l) (by rw [ord_len]; omega) h' (by omega) (by omega) (ord l).length 0 N (List.replicate l.length 0) (by omega) (by rw [ord_len]; omega) (fun i hi => by rw [List.length_replicate]; exact ord_mem l hi)
      rw [show ((0 : Nat) : Int) = 0 from rfl, List.drop_zero] at hlp
      refine ⟨htL l h', 0, ?_, ?_, by rw [htL_len]; omega, fun _ => ⟨rfl, h', rfl, by omega, by omega, rfl⟩⟩
      · simp only [Bool.not_true, cond_false]
        rw [mk_some _ _ (by unfold LIM; omega), Option.bind_some, withK_n, rank_i hn N (by omega), Option.bind_some]
        exact (hlp _).1
      · simp only [Bool.not_true, cond_false]
        rw [mk_some _ _ (by unfold LIM; omega), Option.bind_some, rank_s hn N (by omega), Option.bind_some, withK_n]
        exact (hlp _).2
/-! The ranking as a result. -/
theorem ranks_ok (l : List Result) (hl : l.length ≤ 50) (N : Nat) (hN : 1000 < N) : ∃ (o : List Int) (c : Int), i_RankResults N l = some (o, c) ∧ s_RankResults N l = some (o, c) ∧ o.length ≤ 50 ∧ (c = 0 → vR l = true ∧ o = ord l) := by
  obtain ⟨v1, v2⟩ := valid_ok l (by omega) N (by omega)
  unfold i_RankResults s_RankResults
  rw [v1, v2]
  simp only [Option.bind_some]
  cases hv : vR l with
  | false => exact ⟨[], 1, rfl, rfl, by simp, fun h => by cases h⟩
  | true =>
    have hn := vR_len hv
    refine ⟨ord l, 0, ?_, ?_, by rw [ord_len]; omega, fun _ => ⟨rfl, rfl⟩⟩
    · simp only [Bool.not_true, cond_false]
      rw [rank_i hn N (by omega)]; rfl
    · simp only [Bool.not_true, cond_false]
      rw [rank_s hn N (by omega)]; rfl
/-! Who goes on. -/
def tr : Nat → List Bool → List Int
  | _, [] => []
  | i, b :: r => bif b then (i : Int) :: tr (i + 1) r else tr (i + 1) r
theorem tr_len : ∀ (r : List Bool) (i : Nat), (tr i r).length ≤ r.length
  | [], _ => Nat.le_refl _
  | b :: r, i => by
    have := tr_len r (i + 1)
    simp only [tr]
    cases b <;> simp <;> omega
theorem tr_ge : ∀ (r : List Bool) (i : Nat), ∀ x ∈ tr i r, (i : Int) ≤ x
  | b :: r, i, x, h => by
    simp only [tr] at h
    cases b with
    | false => have := tr_ge r (i + 1) x h; omega
    | true =>
      rw [cond_true] at h
      rcases List.mem_cons.1 h with rfl | h
      · exact Int.le_refl _
      · have := tr_ge r (i + 1) x h; omega
/-- a number put among rising ones -/
def ip (n : Int) : List Int → List Int
  | [] => [n]
  | x :: r => if x ≥ n then (if x > n then n :: x :: r else x :: r) else x :: ip n r
theorem ip_lt (n : Int) : ∀ l : List Int, (∀ x ∈ l, n < x) → ip n l = n :: l
  | [], _ => rfl
  | x :: r, h => by
    have := h x List.mem_cons_self
    simp only [ip]
    rw [if_pos (by omega), if_pos (by omega)]
theorem ip_tr : ∀ (r : List Bool) (i k : Nat), i ≤ k → k < i + r.length → ip (k : Int) (tr i r) = tr i (r.set (k - i) true)
  | [], i, k, h1, h2 => by simp at h2; omega
  | b :: r, i, k, h1, h2 => by
    simp only [List.length_cons] at h2
    by_cases e : k = i
    · subst e
      rw [Nat.sub_self, List.set_cons_zero]
      cases b with
      | false =>
        show ip (k : Int) (tr (k + 1) r) = (k : Int) :: tr (k + 1) r
        exact ip_lt _ _ fun x hx => by have := tr_ge r (k + 1) x hx; omega
      | true =>
        show ip (k : Int) ((k : Int) :: tr (k + 1) r) = (k : Int) :: tr (k + 1) r
        simp only [ip]
        rw [if_pos (Int.le_refl _), if_neg (Int.lt_irrefl _)]
    · obtain ⟨d, hd⟩ : ∃ d, k - i = d + 1 := ⟨k - i - 1, by omega⟩
      rw [hd, List.set_cons_succ]
      have ih := ip_tr r (i + 1) k (by omega) (by omega)
      rw [show k - (i + 1) = d by omega] at ih
      cases b with
      | false => exact ih
      | true =>
        show ip (k : Int) ((i : Int) :: tr (i + 1) r) = (i : Int) :: tr (i + 1) (r.set d true)
        simp only [ip]
        rw [if_neg (by omega), ih]
theorem put_l1 (l : List Int) (hl : l.length ≤ 100) (n : Int) (kj : List Int → Bool → Option (List Int)) (h1 : ∀ o : List Int, kj o true = some o) (h2 : ∀ o : List Int, o.length ≤ 300 → kj o false = some (o ++ [n])) : ∀ (q i N : Nat) (o : List Int), i + q = l.length → q < N → o.length + 2 * q ≤ 300 → s_l00Put_l1 kj l n N o false (i : Int) = some (o ++ ip n (l.drop i)) ∧ s_l00Put_l1 kj l n N o true (i : Int) = some (o ++ l.drop i) := by
  intro q
  induction q with
  | zero =>
    intro i N o g1 g2 g3
    obtain ⟨N, rfl⟩ := pos_fuel g2
    have hz : ¬ (i : Int) < (l.length : Int) := by omega
    rw [List.drop_eq_nil_of_le (by omega)]
    simp only [s_l00Put_l1, hz, decide_false, cond_false, ip, h1, h2 o (by omega), List.append_nil, and_self]
  | succ q ih =>
    intro i N o g1 g2 g3
    obtain ⟨N, rfl⟩ := pos_fuel g2
    have hi : i < l.length := by omega
    have hz : (i : Int) < (l.length : Int) := by omega
    have w := w64_nat i (by omega)
    have a1 : app o [l[i]] = some (o ++ [l[i]]) := app_some _ _ (by simp; unfold LIM; omega)
    obtain ⟨i1, i2⟩ := ih (i + 1) N (o ++ [l[i]]) (by omega) (by omega) (by simp; omega)
    rw [drop_cons _ i hi]
    constructor
    · simp only [s_l00Put_l1, hz, decide_true, cond_true, withK_n, idx_lt _ i hi, Option.bind_some, w, Bool.not_false, andO_true, a1, ip]
      by_cases c1 : l[i] ≥ n
      · rw [if_pos c1, decide_eq_true c1, cond_true]
        by_cases c2 : l[i] > n
        · obtain ⟨_, i3⟩ := ih (i + 1) N (o ++ [n] ++ [l[i]]) (by omega) (by omega) (by simp; omega)
          rw [if_pos c2, decide_eq_true c2, cond_true, app_some o [n] (by simp; unfold LIM; omega), Option.bind_some, app_some (o ++ [n]) [l[i]] (by simp; unfold LIM; omega), Option.bind_some, i3]
          simp
        · rw [if_neg c2, decide_eq_false c2, cond_false, i2]
          simp
      · rw [if_neg c1, decide_eq_false c1, cond_false, i1]
        simp
    · simp only [s_l00Put_l1, hz, decide_true, cond_true, withK_n, idx_lt _ i hi, Option.bind_some, w, Bool.not_true, andO_false, cond_false, a1, i2]
      simp
theorem put_ok (l : List Int) (hl : l.length ≤ 100) (n : Int) (N : Nat) (hN : 200 < N) : s_l00Put N l n = some (ip n l) := by
  unfold s_l00Put
  simp only [withK_n]
  have := (put_l1 l hl n (fun l6 done8 => bif !done8 then (app l6 [n]).bind fun l55 => some l55 else some l6) (fun o => rfl) (fun o ho => by
    show (app o [n]).bind (fun l55 => some l55) = _
    rw [app_some _ _ (by simp; unfold LIM; omega)]; rfl) l.length 0 N [] (by omega) (by omega) (by simp; omega)).1
  rw [show ((0 : Nat) : Int) = 0 from rfl, List.drop_zero, List.nil_append] at this
  exact this
theorem q_l2 (kj : List Int → Option (List Int × Int)) (on : List Bool) (hl : on.length ≤ 100) : ∀ (q i N : Nat) (o : List Int), i + q = on.length → q < N → o.length ≤ i → i_QualifyFrom_l2 kj on N o (i : Int) = kj (o ++ tr i (on.drop i)) := by
  intro q
  induction q with
  | zero =>
    intro i N o g1 g2 g3
    obtain ⟨N, rfl⟩ := pos_fuel g2
    have hz : ¬ (i : Int) < (on.length : Int) := by omega
    rw [List.drop_eq_nil_of_le (by omega)]
    simp only [i_QualifyFrom_l2, hz, decide_false, cond_false, tr, List.append_nil]
  | succ q ih =>
    intro i N o g1 g2 g3
    obtain ⟨N, rfl⟩ := pos_fuel g2
    have hi : i < on.length := by omega
    have hz : (i : Int) < (on.length : Int) := by omega
    rw [drop_cons _ i hi]
    simp only [i_QualifyFrom_l2, hz, decide_true, cond_true, withK_n, idx_lt _ i hi, Option.bind_some, w64_nat i (by omega), tr]
    cases on[i] with
    | false => rw [cond_false, cond_false, ih (i + 1) N o (by omega) (by omega) (by omega)]
    | true =>
      rw [cond_true, cond_true, app_some _ _ (by simp; unfold LIM; omega), Option.bind_some, ih (i + 1) N _ (by omega) (by omega) (by simp; omega)]
      simp
theorem q_l1 (kI : List Bool → Option (List Int × Int)) (kS : List Int → Option (List Int × Int)) (tm : List Int) (each : Int) (o : List Int) (ho : o.length ≤ 100) (hta : ∀ v ∈ tm, 0 ≤ v ∧ v ≤ 9) : ∀ (q x N : Nat) (on : List Bool) (gone : List Int) (rest : Int), x + q = o.length → q + 300 < N → (∀ i ∈ o, 0 ≤ i ∧ i < tm.length ∧ i < on.length) → gone.length = 10 → on.length ≤ 100 →
    ∃ on' : List Bool, i_QualifyFrom_l1 kI tm each o N on gone rest (x : Int) = kI on' ∧ s_QualifyFrom_l2 kS tm each o N gone (tr 0 on) rest (x : Int) = kS (tr 0 on') ∧ on'.length = on.length := by
  intro q
  induction q with
  | zero =>
    intro x N on gone rest h1 h2 _ _ _
    obtain ⟨N, rfl⟩ := pos_fuel h2
    have hz : ¬ (x : Int) < (o.length : Int) := by omega
    exact ⟨on, by simp only [i_QualifyFrom_l1, hz, decide_false, cond_false], by simp only [s_QualifyFrom_l2, hz, decide_false, cond_false], rfl⟩
  | succ q ih =>
    intro x N on gone rest h1 h2 h3 h4 h5
    obtain ⟨N, rfl⟩ := pos_fuel h2
    have hx : x < o.length := by omega
    have hz : (x : Int) < (o.length : Int) := by omega
    obtain ⟨b1, b2, b3⟩ := h3 _ (List.getElem_mem hx)
    obtain ⟨k, hk⟩ : ∃ k : Nat, o[x] = k := ⟨(o[x]).toNat, by omega⟩
    rw [hk] at b1 b2 b3
    have hkt : k < tm.length := by omega
    have hko : k < on.length := by omega
    obtain ⟨c1, c2⟩ := hta _ (List.getElem_mem hkt)
    have hg := idx_int gone _ c1 (by rw [h4]; omega)
    have htl := tr_len on 0
    have hp := put_ok (tr 0 on) (by omega) (k : Int) N (by omega)
    have hit := ip_tr on 0 k (Nat.zero_le _) (by omega)
    rw [Nat.sub_zero] at hit
    simp only [i_QualifyFrom_l1, s_QualifyFrom_l2, hz, decide_true, cond_true, withK_n, idx_lt _ x hx, hk, Option.bind_some, idx_lt tm k hkt, hg, idx_lt on k hko, hp, hit, w64_nat x (by omega), Int.toNat_natCast]
    cases decide (gone[(tm[k]).toNat]'(by omega) < each) with
    | true =>
      simp only [cond_true]
      obtain ⟨on', i1, i2, i3⟩ := ih (x + 1) N (on.set k true) (gone.set (tm[k]).toNat (w64 (gone[(tm[k]).toNat]'(by omega) + 1))) rest (by omega) (by omega) (fun i hi => by rw [List.length_set]; exact h3 i hi) (by rw [List.length_set]; exact h4) (by rw [List.length_set]; exact h5)
      exact ⟨on', i1, i2, by rw [i3, List.length_set]⟩
    | false =>
      simp only [cond_false]
      cases decide (rest > 0) with
      | true =>
        simp only [cond_true]
        obtain ⟨on', i1, i2, i3⟩ := ih (x + 1) N (on.set k true) gone (w64 (rest - 1)) (by omega) (by omega) (fun i hi => by rw [List.length_set]; exact h3 i hi) h4 (by rw [List.length_set]; exact h5)
        exact ⟨on', i1, i2, by rw [i3, List.length_set]⟩
      | false =>
        simp only [cond_false]
        exact ih (x + 1) N on gone rest (by omega) (by omega) h3 h4 h5
def ah (h : List Int) : Bool := h.all fun v => inR v 0 9
theorem ah_i1 (h : List Int) (hl : h.length ≤ 1000) (kj : Option Bool) (kj2 : Option (List Int × Int)) : ∀ (q i N : Nat), i + q = h.length → q < N → i_areHeats_l1 kj h N (i : Int) = (bif ah (h.drop i) then kj else some false) ∧ s_QualifyFrom_l1 kj2 h N (i : Int) = (bif ah (h.drop i) then kj2 else some ([], 2)) := by
  intro q
  induction q with
  | zero =>
    intro i N h1 h2
    obtain ⟨N, rfl⟩ := pos_fuel h2
    have hz : ¬ (i : Int) < (h.length : Int) := by omega
    rw [List.drop_eq_nil_of_le (by omega)]
    simp only [i_areHeats_l1, s_QualifyFrom_l1, hz, decide_false, cond_false, ah, List.all_nil, cond_true, and_self]
  | succ q ih =>
    intro i N h1 h2
    obtain ⟨N, rfl⟩ := pos_fuel h2
    have hi : i < h.length := by omega
    have hz : (i : Int) < (h.length : Int) := by omega
    obtain ⟨i1, i2⟩ := ih (i + 1) N (by omega) (by omega)
    rw [drop_cons h i hi]
    simp only [i_areHeats_l1, s_QualifyFrom_l1, hz, decide_true, cond_true, idx_lt h i hi, Option.bind_some, bw_i, bw_s, w64_nat i (by omega), i1, i2, ah, List.all_cons]
    cases inR h[i] 0 9
    · exact ⟨rfl, rfl⟩
    · simp only [Bool.not_true, cond_false, Bool.true_and, and_self]
theorem qual_ok (l : List Result) (hl : l.length ≤ 50) (tm : List Int) (hm : tm.length ≤ 50) (each rest : Int) (N : Nat) (hN : 1000 < N) : ∃ (o : List Int) (c : Int), i_QualifyFrom N l tm each rest = some (o, c) ∧ s_QualifyFrom N l tm each rest = some (o, c) ∧ o.length ≤ l.length ∧ o.length ≤ 50 := by
  obtain ⟨v1, v2⟩ := valid_ok l (by omega) N (by omega)
  unfold i_QualifyFrom s_QualifyFrom i_areHeats
  rw [v1, v2]
  simp only [Option.bind_some, withK_n, bw_i, bw_s]
  have hh := fun kj kj2 => ah_i1 tm (by omega) kj kj2 tm.length 0 N (by omega) (by omega)
  simp only [List.drop_zero, show ((0 : Nat) : Int) = 0 from rfl] at hh
  cases hv : vR l with
  | false => exact ⟨[], 1, rfl, rfl, by simp, by simp⟩
  | true =>
    simp only [Bool.not_true, cond_false]
    rw [(hh _ none).1, (hh none _).2]
    cases ha : ah tm with
    | false => exact ⟨[], 2, rfl, rfl, by simp, by simp⟩
    | true =>
      simp only [cond_true, Option.bind_some]
      by_cases hq : tm.length = l.length
      · have z1 : ((tm.length : Int) == (l.length : Int)) = true := by rw [hq]; simp
        have z2 : ((tm.length : Int) != (l.length : Int)) = false := by rw [hq]; simp
        rw [z1, z2]
        simp only [Bool.not_true, orO_false, orO_some, Option.bind_some, Bool.false_or]
        cases hb : (!(inR each 0 40) || !(inR rest 0 40)) with
        | true => exact ⟨[], 2, rfl, rfl, by simp, by simp⟩
        | false =>
          have hn := vR_len hv
          have hta : ∀ v ∈ tm, 0 ≤ v ∧ v ≤ 9 := fun v hv => by
            have := List.all_eq_true.1 ha v hv
            unfold inR at this
            simpa using this
          have tr0 : ∀ n i : Nat, tr i (List.replicate n false) = [] := fun n => by
            induction n with
            | zero => intro i; rfl
            | succ n ih => intro i; exact ih (i + 1)
          obtain ⟨on', i1, i2, i3⟩ := q_l1 (fun l29 => i_QualifyFrom_l2 (fun l70 => some (l70, 0)) l29 N [] 0) (fun l42 => some (l42, 0)) tm each (ord l) (by rw [ord_len]; omega) hta (ord l).length 0 N (List.replicate l.length false) (List.replicate 10 0) rest (by omega) (by rw [ord_len]; omega) (fun i hi => by
            obtain ⟨a, b⟩ := ord_mem l hi
            rw [List.length_replicate]
            exact ⟨a, by omega, by omega⟩) (by simp) (by rw [List.length_replicate]; omega)
          rw [List.length_replicate] at i3
          have htl := tr_len on' 0
          have q2 := q_l2 (fun l70 => some (l70, 0)) on' (by omega) on'.length 0 N [] (by omega) (by omega) (by simp)
          rw [show ((0 : Nat) : Int) = 0 from rfl, List.drop_zero, List.nil_append] at q2
          rw [tr0] at i2
          refine ⟨tr 0 on', 0, ?_, ?_, by omega, by omega⟩
          · simp only [cond_false]
            rw [mk_some _ _ (by unfold LIM; omega), Option.bind_some, rank_i hn N (by omega), Option.bind_some]
            rw [show ((0 : Nat) : Int) = 0 from rfl] at i1
            rw [i1, q2]
          · simp only [cond_false]
            rw [show mk 10 (0 : Int) = some (List.replicate 10 0) from mk_some 10 _ (by unfold LIM; omega), Option.bind_some, rank_s hn N (by omega), Option.bind_some]
            exact i2
      · have z1 : ((tm.length : Int) == (l.length : Int)) = false := by rw [beq_eq_false_iff_ne]; omega
        have z2 : ((tm.length : Int) != (l.length : Int)) = true := by rw [bne_iff_ne]; omega
        rw [z1, z2]
        simp only [Bool.not_false, orO_true, orO_some, Option.bind_some, Bool.true_or, cond_true]
        exact ⟨[], 2, rfl, rfl, by simp, by simp⟩
end Go.Proofs.YtikkolkickclhaaDoor
