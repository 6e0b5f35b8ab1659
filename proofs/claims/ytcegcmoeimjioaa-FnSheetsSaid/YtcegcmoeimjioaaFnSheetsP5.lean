/-
  Plain lemmas on these functions. No conditions but those that each states.
-/
import Derived.Test.YtcegcmoeimjioaaFnSheetsP4
namespace Go.Proofs.Ytcegcmoeimjioaa
set_option linter.unusedVariables false
set_option linter.unusedSimpArgs false
/-! Sheets: the order, one typing. -/
def ky (w : List Int) (x : Int) : Int := (idx w x).getD 0
def lessE (w : List Int) : Int → Int → List Int → Option Bool := fun i j dk => i_evenly_c1 i j w dk
def evn (w : List Int) : List Int := isort (ltOf (lessE w)) (rng w.length)
theorem idx_in {α : Type} (l : List α) (x : Int) (h : x ∈ rng l.length) : ∃ y, idx l x = some y ∧ l[x.toNat]? = some y := by
  rw [rng_mem] at h
  exact ⟨_, idx_int l x h.1 h.2, by rw [List.getElem?_eq_getElem]⟩
theorem ky_in (w : List Int) (x : Int) (h : x ∈ rng w.length) : idx w x = some (ky w x) := by
  obtain ⟨y, e, _⟩ := idx_in w x h
  unfold ky; rw [e]; rfl
theorem less_ok (w : List Int) (x y : Int) (hx : x ∈ rng w.length) (hy : y ∈ rng w.length) : lessE w 0 1 [x, y] = some (decide (ky w x < ky w y)) := by
  unfold lessE i_evenly_c1
  rw [idx2_0, Option.bind_some, ky_in w x hx, Option.bind_some, idx2_1, Option.bind_some, ky_in w y hy, Option.bind_some]
theorem ltOf_ok (w : List Int) (x y : Int) (hx : x ∈ rng w.length) (hy : y ∈ rng w.length) : ltOf (lessE w) x y = decide (ky w x < ky w y) := by
  unfold ltOf; rw [less_ok w x y hx hy]; rfl
theorem ev_l1 (w : List Int) (hw : w.length ≤ 12) (kj : List Int → Option (List Int)) : ∀ (q i N : Nat), i + q = w.length → q < N → i_evenly_l1 kj w N (rng i) (i : Int) = kj (rng w.length) := by
  intro q
  induction q with
  | zero =>
    intro i N hi hN
    obtain ⟨N, rfl⟩ := pos_fuel hN
    have : i = w.length := by omega
    subst this
    simp [i_evenly_l1]
  | succ q ih =>
    intro i N hi hN
    obtain ⟨N, rfl⟩ := pos_fuel hN
    have hz : (i : Int) < (w.length : Int) := by omega
    simp only [i_evenly_l1, hz, decide_true, cond_true]
    rw [app_some _ _ (by rw [rng_len]; unfold LIM; simp; omega), Option.bind_some, w64_nat i (by omega), ← rng_succ]
    exact ih (i + 1) N (by omega) (by omega)
theorem ev_ok (w : List Int) (hw : w.length ≤ 12) (N : Nat) (hN : 20 < N) : i_evenly N w = some (evn w) := by
  unfold i_evenly
  simp only [withK_eq]
  have h1 := ev_l1 w hw (fun l8 => (srtO (fun i j dk => i_evenly_c1 i j w dk) l8).bind fun l21 => some l21) w.length 0 N (by omega) (by omega)
  rw [show ((0 : Nat) : Int) = 0 from rfl, show rng 0 = [] from rfl] at h1
  rw [h1]
  have h2 := srtO_some (lessE w) (rng w.length) (by rw [rng_len]; exact hw) fun x hx y hy => by rw [less_ok w x y hx hy]; rfl
  show (srtO (lessE w) (rng w.length)).bind _ = _
  rw [h2]
  rfl
theorem evn_perm (w : List Int) : (evn w).Perm (rng w.length) := isort_perm _ _
theorem evn_len (w : List Int) : (evn w).length = w.length := by rw [(evn_perm w).length_eq, rng_len]
theorem evn_mem (w : List Int) (x : Int) : x ∈ evn w ↔ 0 ≤ x ∧ x < w.length := by rw [(evn_perm w).mem_iff, rng_mem]
theorem evn_nodup (w : List Int) : (evn w).Nodup := (evn_perm w).nodup_iff.2 (rng_nodup _)
theorem evn_pw (w : List Int) : (evn w).Pairwise (fun a b => ky w a < ky w b ∨ ky w a = ky w b ∧ a < b) := by
  refine isort_pw _ _ (fun a b c h k => by omega) _ ?_
  refine List.Pairwise.imp_of_mem ?_ (rng_pw w.length)
  intro a b ha hb hab
  rw [ltOf_ok w b a hb ha]
  exact ⟨fun h => by have := of_decide_eq_true h; omega, fun h => by have := of_decide_eq_false h; omega⟩

/-- what a typing adds -/
def addR : List Int → Int → List Int → List Int
  | [], _, l => l
  | e :: es, k, l => addR es (k - 1) (l.set e.toNat (ky l e + k))
def wr (w : List Int) : List Int := addR (evn w) w.length w
def wrN : Nat → List Int → List Int
  | 0, w => w
  | n + 1, w => wrN n (wr w)
theorem addR_len : ∀ (es : List Int) (k : Int) (l : List Int), (addR es k l).length = l.length
  | [], _, _ => rfl
  | e :: es, k, l => by simp only [addR]; rw [addR_len es]; simp
def tri : Nat → Int → Int
  | 0, _ => 0
  | m + 1, k => k + tri m (k - 1)
theorem sum_set : ∀ (l : List Int) (i : Nat) (v : Int), i < l.length → (l.set i v).sum = l.sum - (l[i]?).getD 0 + v
  | [], _, _, h => by simp at h
  | x :: l, 0, v, _ => by simp; omega
  | x :: l, i + 1, v, h => by
    have := sum_set l i v (by simpa using h)
    simp only [List.set_cons_succ, List.sum_cons, this, List.getElem?_cons_succ]; omega
theorem ky_get (l : List Int) (x : Int) (h : 0 ≤ x) : ky l x = (l[x.toNat]?).getD 0 := by unfold ky idx; rw [if_pos h]
theorem addR_sum : ∀ (es : List Int) (k : Int) (l : List Int), (∀ e ∈ es, 0 ≤ e ∧ e < l.length) → (addR es k l).sum = l.sum + tri es.length k
  | [], _, _, _ => by simp [addR, tri]
  | e :: es, k, l, h => by
    have he := h e List.mem_cons_self
    simp only [addR, List.length_cons, tri]
    rw [addR_sum es (k - 1) _ (fun x hx => by have := h x (List.mem_cons_of_mem _ hx); simpa using this), sum_set l _ _ (by omega), ky_get l e he.1]
    omega
theorem set_ge (l : List Int) (e : Nat) (v : Int) (hv : (l[e]?).getD 0 ≤ v) (j : Nat) : (l[j]?).getD 0 ≤ ((l.set e v)[j]?).getD 0 := by
  by_cases h : e = j
  · subst h
    by_cases hl : e < l.length
    · rw [List.getElem?_set_self hl]; exact hv
    · rw [List.getElem?_eq_none (by simpa using Nat.le_of_not_lt hl), List.getElem?_eq_none (by simpa using Nat.le_of_not_lt hl)]; simp
  · rw [List.getElem?_set_ne h]; omega
theorem addR_ge : ∀ (es : List Int) (k : Int) (l : List Int), (es.length : Int) ≤ k → (∀ e ∈ es, 0 ≤ e ∧ e < l.length) → ∀ j : Nat, (l[j]?).getD 0 ≤ ((addR es k l)[j]?).getD 0 ∧ ((j : Int) ∈ es → (l[j]?).getD 0 + 1 ≤ ((addR es k l)[j]?).getD 0)
  | [], _, _, _, _, j => ⟨Int.le_refl _, fun h => by cases h⟩
  | e :: es, k, l, hk, h, j => by
    have he := h e List.mem_cons_self
    simp only [List.length_cons] at hk
    have ih := addR_ge es (k - 1) (l.set e.toNat (ky l e + k)) (by omega) (fun x hx => by have := h x (List.mem_cons_of_mem _ hx); simpa using this) j
    have hs := set_ge l e.toNat (ky l e + k) (by rw [ky_get l e he.1]; omega) j
    simp only [addR]
    refine ⟨Int.le_trans hs ih.1, fun hj => ?_⟩
    rcases List.mem_cons.1 hj with hj | hj
    · have hje : e.toNat = j := by omega
      subst hje
      have h1 := ih.1
      rw [List.getElem?_set_self (by omega)] at h1
      simp only [Option.getD_some] at h1
      rw [ky_get l e he.1] at h1
      have : (k : Int) ≥ 1 := by omega
      rw [ky_get l e he.1]
      omega
    · have := ih.2 hj; omega
theorem tri_self : ∀ n : Nat, 2 * tri n n = n * (n + 1)
  | 0 => rfl
  | n + 1 => by
    have := tri_self n
    simp only [tri]
    rw [show ((n + 1 : Nat) : Int) - 1 = (n : Int) by omega]
    have e : (((n + 1 : Nat) : Int)) * (((n + 1 : Nat) : Int) + 1) = (n : Int) * (n + 1) + 2 * (n + 1) := by
      rw [show (((n + 1 : Nat) : Int)) = (n : Int) + 1 by omega, Int.add_mul, Int.mul_add, Int.mul_add, Int.mul_add]; omega
    rw [e]; omega
theorem wr_len (w : List Int) : (wr w).length = w.length := addR_len _ _ _
theorem wr_sum (w : List Int) : (wr w).sum = w.sum + tri w.length w.length := by
  unfold wr
  rw [addR_sum _ _ _ (fun e he => (evn_mem w e).1 he), evn_len]
theorem wr_ge (w : List Int) (j : Nat) (hj : j < w.length) : (w[j]?).getD 0 + 1 ≤ ((wr w)[j]?).getD 0 :=
  (addR_ge _ _ _ (by rw [evn_len]; omega) (fun e he => (evn_mem w e).1 he) j).2 ((evn_mem w _).2 ⟨by omega, by omega⟩)
theorem wrN_len : ∀ (t : Nat) (w : List Int), (wrN t w).length = w.length
  | 0, _ => rfl
  | t + 1, w => by simp only [wrN]; rw [wrN_len t, wr_len]
theorem wrN_sum : ∀ (t : Nat) (w : List Int), (wrN t w).sum = w.sum + t * tri w.length w.length
  | 0, w => by simp [wrN]
  | t + 1, w => by
    simp only [wrN]
    rw [wrN_sum t, wr_sum, wr_len, show ((t + 1 : Nat) : Int) = (t : Int) + 1 by omega, Int.add_mul]; omega
theorem wrN_ge : ∀ (t : Nat) (w : List Int) (j : Nat), j < w.length → (w[j]?).getD 0 + t ≤ ((wrN t w)[j]?).getD 0
  | 0, w, j, _ => by simp [wrN]
  | t + 1, w, j, h => by
    have h1 := wr_ge w j h
    have h2 := wrN_ge t (wr w) j (by rw [wr_len]; exact h)
    simp only [wrN]; omega
theorem wrN_succ : ∀ (t : Nat) (w : List Int), wrN (t + 1) w = wr (wrN t w)
  | 0, _ => rfl
  | t + 1, w => by
    have := wrN_succ t (wr w)
    simpa only [wrN] using this
/-- all of them from 0 to B -/
def Bd (B : Int) (l : List Int) : Prop := ∀ x ∈ l, 0 ≤ x ∧ x ≤ B
theorem Bd.mono {B C : Int} {l : List Int} (h : Bd B l) (hBC : B ≤ C) : Bd C l := fun x hx => by have := h x hx; omega
theorem Bd.ky {B : Int} {l : List Int} (h : Bd B l) (e : Int) (h0 : 0 ≤ e) (h1 : e < l.length) : 0 ≤ ky l e ∧ ky l e ≤ B := by
  rw [ky_get l e h0, List.getElem?_eq_getElem (by omega : e.toNat < l.length)]
  exact h _ (List.getElem_mem _)
theorem Bd.set {B C v : Int} {l : List Int} (h : Bd B l) (i : Nat) (hBC : B ≤ C) (hv : 0 ≤ v ∧ v ≤ C) : Bd C (l.set i v) := fun x hx => by
  rcases List.mem_or_eq_of_mem_set hx with hx | rfl
  · have := h x hx; omega
  · exact hv
theorem addR_bd : ∀ (es : List Int) (k : Int) (l : List Int) (B : Int), k ≤ 12 → (es.length : Int) ≤ k → 0 ≤ B → Bd B l → (∀ e ∈ es, 0 ≤ e ∧ e < l.length) → Bd (B + 12 * es.length) (addR es k l)
  | [], _, _, _, _, _, _, h, _ => by simpa [addR] using h
  | e :: es, k, l, B, hk, hk2, hB, h, hm => by
    have he := hm e List.mem_cons_self
    have hy := h.ky e he.1 he.2
    simp only [List.length_cons] at hk2
    have := addR_bd es (k - 1) (l.set e.toNat (ky l e + k)) (B + 12) (by omega) (by omega) (by omega) (h.set _ (by omega) (by omega)) (fun x hx => by have := hm x (List.mem_cons_of_mem _ hx); simpa using this)
    simp only [addR, List.length_cons]
    exact this.mono (by omega)
theorem wear_l2 (r : List Int) (kj : List Int → Option (List Int × Int)) : ∀ (q p N : Nat) (l : List Int) (B : Int), p + q = r.length → q < N → r.length = l.length → r.length ≤ 12 → 0 ≤ B → B + 12 * q ≤ 1000000 → Bd B l → (∀ e ∈ r, 0 ≤ e ∧ e < l.length) →
    i_WearSheets_l2 kj r N l (p : Int) = kj (addR (r.drop p) ((l.length : Int) - p) l) := by
  intro q
  induction q with
  | zero =>
    intro p N l B hp hN hl h12 hB hB2 hb hm
    obtain ⟨N, rfl⟩ := pos_fuel hN
    have hz : ¬ (p : Int) < (r.length : Int) := by omega
    simp only [i_WearSheets_l2, hz, decide_false, cond_false]
    rw [List.drop_eq_nil_of_le (by omega)]
    rfl
  | succ q ih =>
    intro p N l B hp hN hl h12 hB hB2 hb hm
    obtain ⟨N, rfl⟩ := pos_fuel hN
    have hz : (p : Int) < (r.length : Int) := by omega
    have hlt : p < r.length := by omega
    have he := hm _ (List.getElem_mem hlt)
    have hk := hb.ky _ he.1 he.2
    have hi := ky_in l r[p] ((rng_mem _ _).2 he)
    simp only [i_WearSheets_l2, hz, decide_true, cond_true]
    rw [idx_lt r p hlt, Option.bind_some, hi, Option.bind_some, Option.bind_some, w64_nat p (by omega), w64_id (x := (l.length : Int) - p) (by omega) (by omega), w64_id (by omega) (by omega)]
    rw [ih (p + 1) N (l.set r[p].toNat (ky l r[p] + ((l.length : Int) - p))) (B + 12) (by omega) (by omega) (by simpa using hl) h12 (by omega) (by omega) (hb.set _ (by omega) (by omega)) (fun e he => by simpa using hm e he)]
    rw [List.drop_eq_getElem_cons hlt]
    simp only [addR, List.length_set]
    rw [show (l.length : Int) - ((p + 1 : Nat) : Int) = (l.length : Int) - p - 1 by omega]
theorem round_ok (w : List Int) (h12 : w.length ≤ 12) (B : Int) (hB : 0 ≤ B) (hB2 : B + 144 ≤ 1000000) (hb : Bd B w) (kj : List Int → Option (List Int × Int)) (N : Nat) (hN : 20 < N) : (i_evenly N w).bind (fun r26 => i_WearSheets_l2 kj r26 N w 0) = kj (wr w) ∧ Bd (B + 144) (wr w) := by
  refine ⟨?_, ?_⟩
  · rw [ev_ok w h12 N hN, Option.bind_some]
    have := wear_l2 (evn w) kj (evn w).length 0 N w B (by omega) (by rw [evn_len]; omega) (evn_len w) (by rw [evn_len]; exact h12) hB (by rw [evn_len]; omega) hb (fun e he => (evn_mem w e).1 he)
    rw [show ((0 : Nat) : Int) = 0 from rfl] at this
    rw [this]
    simp [wr]
  · refine (addR_bd _ _ _ _ (by omega) (by rw [evn_len]; omega) hB hb (fun e he => (evn_mem w e).1 he)).mono ?_
    rw [evn_len]; omega
theorem wear_l1 (t : Nat) (ht : t ≤ 1000) (kj : List Int → Option (List Int × Int)) : ∀ (q i N : Nat) (l : List Int) (B : Int), i + q = t → q + 20 < N → l.length ≤ 12 → 0 ≤ B → B + 144 * (q + 1) ≤ 1000000 → Bd B l → i_WearSheets_l1 kj (t : Int) N l (i : Int) = kj (wrN q l) := by
  intro q
  induction q with
  | zero =>
    intro i N l B hi hN h12 hB hB2 hb
    obtain ⟨N, rfl⟩ := pos_fuel (show 0 < N by omega)
    have hz : ¬ (i : Int) < (t : Int) := by omega
    simp only [i_WearSheets_l1, hz, decide_false, cond_false]
    rfl
  | succ q ih =>
    intro i N l B hi hN h12 hB hB2 hb
    obtain ⟨N, rfl⟩ := pos_fuel (show 0 < N by omega)
    have hz : (i : Int) < (t : Int) := by omega
    simp only [i_WearSheets_l1, hz, decide_true, cond_true, withK_eq, w64_nat i (by omega)]
    obtain ⟨e1, e2⟩ := round_ok l h12 B hB (by omega) hb (fun l23 => i_WearSheets_l1 kj (t : Int) N l23 ((i + 1 : Nat) : Int)) N (by omega)
    rw [e1, ih (i + 1) N (wr l) (B + 144) (by omega) (by omega) (by rw [wr_len]; exact h12) (by omega) (by omega) e2]
    rfl
theorem are_l1 (w : List Int) (hw : w.length ≤ 12) (hb : Bd 100000 w) : ∀ (q i N : Nat), i + q = w.length → q < N → i_areWorn_l1 (some true) w N (i : Int) = some true := by
  intro q
  induction q with
  | zero =>
    intro i N hi hN
    obtain ⟨N, rfl⟩ := pos_fuel hN
    have hz : ¬ (i : Int) < (w.length : Int) := by omega
    simp only [i_areWorn_l1, hz, decide_false, cond_false]
  | succ q ih =>
    intro i N hi hN
    obtain ⟨N, rfl⟩ := pos_fuel hN
    have hz : (i : Int) < (w.length : Int) := by omega
    have hlt : i < w.length := by omega
    have h1 := hb _ (List.getElem_mem hlt)
    simp only [i_areWorn_l1, hz, decide_true, cond_true]
    rw [idx_lt w i hlt, Option.bind_some]
    unfold i_between
    simp only [ge_iff_le, h1.1, h1.2, decide_true, andO_true, Option.bind_some, Bool.not_true, cond_false]
    rw [w64_nat i (by omega)]
    exact ih (i + 1) N (by omega) (by omega)
theorem are_ok (w : List Int) (hw : w.length ≤ 12) (hb : Bd 100000 w) (N : Nat) (hN : 20 < N) : i_areWorn N w = some true := by
  unfold i_areWorn
  simp only [withK_eq]
  rw [decide_eq_true (by omega : (w.length : Int) ≤ 12)]
  exact are_l1 w hw hb w.length 0 N (by omega) (by omega)
theorem wear_ok (w : List Int) (hw : w.length ≤ 12) (hb : Bd 100000 w) (t : Nat) (ht : t ≤ 1000) (N : Nat) (hN : 1100 < N) : i_WearSheets N w (t : Int) = some (wrN t w, 0) := by
  unfold i_WearSheets
  rw [are_ok w hw hb N (by omega), Option.bind_some]
  have hbt : i_between (t : Int) 0 1000 = some true := by
    unfold i_between
    simp only [ge_iff_le, show (0 : Int) ≤ t by omega, show (t : Int) ≤ 1000 by omega, decide_true, andO_true, Option.bind_some]
  rw [hbt]
  simp only [Bool.not_true, orO_false, Option.bind_some, cond_false, withK_eq]
  rw [app_some _ _ (by unfold LIM; simp; omega), Option.bind_some, List.nil_append]
  have := wear_l1 t ht (fun l17 => some (l17, 0)) t 0 N w 100000 (by omega) (by omega) hw (by omega) (by omega) hb
  rw [show ((0 : Nat) : Int) = 0 from rfl] at this
  exact this
theorem even_ok (w : List Int) (hw : w.length ≤ 12) (hb : Bd 100000 w) (N : Nat) (hN : 1100 < N) : i_EvenSheets N w = some (evn w, 0) := by
  unfold i_EvenSheets
  rw [are_ok w hw hb N (by omega), Option.bind_some]
  simp only [Bool.not_true, cond_false]
  rw [ev_ok w hw N (by omega), Option.bind_some]
end Go.Proofs.Ytcegcmoeimjioaa
