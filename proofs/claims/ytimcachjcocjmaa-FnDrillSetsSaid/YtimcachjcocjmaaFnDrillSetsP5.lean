/-
  Plain lemmas on these functions. No conditions but those that each states.
-/
import Derived.Test.YtimcachjcocjmaaFnDrillSetsP4
namespace Go.Proofs.Ytimcachjcocjmaa
set_option linter.unusedVariables false
set_option linter.unusedSimpArgs false
/-! What drills train. -/
/-- a table marks letters -/
def Tb (t : List Bool) (s : List UInt8) : Prop := t.length = 256 ∧ ∀ c : UInt8, t[c.toNat]?.getD false = decide (c ∈ s)
theorem Tb.nil : Tb (List.replicate 256 false) [] := ⟨List.length_replicate, fun c => by
  have : c.toNat < 256 := c.toNat_lt
  rw [List.getElem?_replicate, if_pos this]
  rfl⟩
theorem Tb.put {t : List Bool} {s : List UInt8} (h : Tb t s) (c : UInt8) : Tb (t.set c.toNat true) (s ++ [c]) := by
  obtain ⟨h1, h2⟩ := h
  refine ⟨by rw [List.length_set]; exact h1, fun x => ?_⟩
  have hc : c.toNat < t.length := by rw [h1]; exact c.toNat_lt
  by_cases e : c.toNat = x.toNat
  · have e2 : x = c := (UInt8.toNat_inj.1 e).symm
    subst e2
    rw [List.getElem?_set_self hc]
    simp
  · rw [List.getElem?_set_ne e, h2 x]
    have e2 : x ≠ c := fun g => e (by rw [g])
    simp [e2]
theorem Tb.idx {t : List Bool} {s : List UInt8} (h : Tb t s) (c : UInt8) : idx t (c.toNat : Int) = some (decide (c ∈ s)) := by
  have hc : c.toNat < t.length := by rw [h.1]; exact c.toNat_lt
  rw [idx_lt t c.toNat hc, ← h.2 c, List.getElem?_eq_getElem hc]
  rfl
/-- indices of a list -/
def Ix (sel : List Nat) (n : Nat) : Prop := sel.length ≤ 100 ∧ ∀ i ∈ sel, i < n
def ints (sel : List Nat) : List Int := sel.map fun (i : Nat) => (i : Int)
def lets (L : List Drill) (sel : List Nat) : Str := sel.flatMap fun i => match L[i]? with | some d => d.letters | none => []
def mins (L : List Drill) (sel : List Nat) : Int := (sel.map fun i => match L[i]? with | some d => d.minutes | none => 0).sum
theorem ints_len (sel : List Nat) : (ints sel).length = sel.length := by simp [ints]
theorem ints_get (sel : List Nat) (k : Nat) (h : k < sel.length) : idx (ints sel) (k : Int) = some (sel[k] : Int) := by
  rw [idx_lt _ k (by rw [ints_len]; exact h)]
  simp [ints]
theorem tr_l2 (L : List Drill) (kj : List Bool → Option (List Bool)) (d : Drill) (e : Int) (hd : idx L e = some d) (hl : d.letters.length ≤ 1000) : ∀ (n i N : Nat) (t : List Bool) (s : Str), i + n = d.letters.length → n < N → Tb t s → ∃ t', Tb t' (s ++ d.letters.drop i) ∧ i_trained_l2 kj L e d N t (i : Int) = kj t' := by
  intro n
  induction n with
  | zero =>
    intro i N t s hi hN h
    obtain ⟨N, rfl⟩ := pos_fuel hN
    have hz : ¬ (i : Int) < (d.letters.length : Int) := by omega
    simp only [i_trained_l2, hz, decide_false, cond_false]
    rw [List.drop_eq_nil_of_le (by omega), List.append_nil]
    exact ⟨t, h, rfl⟩
  | succ n ih =>
    intro i N t s hi hN h
    obtain ⟨N, rfl⟩ := pos_fuel hN
    have hz : (i : Int) < (d.letters.length : Int) := by omega
    simp only [i_trained_l2, hz, decide_true, cond_true, hd, Option.bind_some]
    rw [idx_lt d.letters i (by omega), Option.bind_some, h.idx, Option.bind_some, w64_nat i (by omega), Int.toNat_natCast]
    obtain ⟨t', h1, h2⟩ := ih (i + 1) N _ _ (by omega) (by omega) (h.put d.letters[i])
    refine ⟨t', ?_, h2⟩
    rw [List.append_assoc, List.singleton_append, ← List.drop_eq_getElem_cons (by omega : i < d.letters.length)] at h1
    exact h1
/-- drills that can be drawn -/
def GD (L : List Drill) : Prop := L.length ≤ 6 ∧ ∀ d ∈ L, d.letters.length ≤ 8 ∧ 1 ≤ d.minutes ∧ d.minutes ≤ 20
theorem tr_l1 (L : List Drill) (hL : GD L) (sel : List Nat) (hs : Ix sel L.length) (kj : List Bool → Option (List Bool)) : ∀ (n i N : Nat) (t : List Bool) (s : Str), i + n = sel.length → n + 100 < N → Tb t s → ∃ t', Tb t' (s ++ lets L (sel.drop i)) ∧ i_trained_l1 kj L (ints sel) N t (i : Int) = kj t' := by
  have hs1 := hs.1
  intro n
  induction n with
  | zero =>
    intro i N t s hi hN h
    obtain ⟨N, rfl⟩ := pos_fuel (show 0 < N by omega)
    have hz : ¬ (i : Int) < ((ints sel).length : Int) := by rw [ints_len]; omega
    simp only [i_trained_l1, hz, decide_false, cond_false]
    rw [List.drop_eq_nil_of_le (by omega)]
    exact ⟨t, by simpa [lets] using h, rfl⟩
  | succ n ih =>
    intro i N t s hi hN h
    obtain ⟨N, rfl⟩ := pos_fuel (show 0 < N by omega)
    have hlt : i < sel.length := by omega
    have hz : (i : Int) < ((ints sel).length : Int) := by rw [ints_len]; omega
    have hix := hs.2 _ (List.getElem_mem hlt)
    have hd : idx L (sel[i] : Int) = some L[sel[i]] := idx_lt L _ hix
    have hg := hL.2 _ (List.getElem_mem hix)
    simp only [i_trained_l1, hz, decide_true, cond_true, withK_eq]
    rw [ints_get sel i hlt, Option.bind_some, hd, Option.bind_some, w64_nat i (by omega)]
    obtain ⟨t1, h1, h2⟩ := tr_l2 L (fun (l14 : List Bool) => i_trained_l1 kj L (ints sel) N l14 ((i + 1 : Nat) : Int)) L[sel[i]] (sel[i] : Int) hd (by omega) L[sel[i]].letters.length 0 N t s (by omega) (by omega) h
    rw [show ((0 : Nat) : Int) = 0 from rfl] at h2
    rw [h2]
    obtain ⟨t2, h3, h4⟩ := ih (i + 1) N t1 _ (by omega) (by omega) h1
    refine ⟨t2, ?_, h4⟩
    rw [List.drop_eq_getElem_cons hlt]
    simp only [lets, List.flatMap_cons, List.getElem?_eq_getElem hix, List.drop_zero, List.append_assoc] at h3 ⊢
    exact h3
theorem tr_ok (L : List Drill) (hL : GD L) (sel : List Nat) (hs : Ix sel L.length) (N : Nat) (hN : 300 < N) : ∃ t, Tb t (lets L sel) ∧ i_trained N L (ints sel) = some t := by
  unfold i_trained
  simp only [withK_eq]
  have hs1 := hs.1
  obtain ⟨t, h1, h2⟩ := tr_l1 L hL sel hs (fun l8 => some l8) sel.length 0 N _ [] (by omega) (by omega) Tb.nil
  exact ⟨t, by simpa using h1, h2⟩
/-- what is covered -/
def cov (T : Str) (ls : Str) (cs : List Int) : Int := ((ls.zip cs).map fun p => if p.1 ∈ T then p.2 else 0).sum
theorem cov_cons (T : Str) (x : UInt8) (c : Int) (xs : Str) (cs : List Int) : cov T (x :: xs) (c :: cs) = (if x ∈ T then c else 0) + cov T xs cs := by simp [cov]
theorem cov_l1 (T : Str) (t : List Bool) (ht : Tb t T) (ls : Str) (cs : List Int) (hlen : ls.length = cs.length) (hl : ls.length ≤ 30) (hc : ∀ x ∈ cs, 0 ≤ x ∧ x ≤ 1000) (kj : Int → Option Int) : ∀ (n i N : Nat) (s : Int), i + n = ls.length → n < N → 0 ≤ s → s ≤ 1000 * i → i_covered_l1 kj ls cs t N s (i : Int) = kj (s + cov T (ls.drop i) (cs.drop i)) ∧ 0 ≤ cov T (ls.drop i) (cs.drop i) ∧ cov T (ls.drop i) (cs.drop i) ≤ 1000 * n := by
  intro n
  induction n with
  | zero =>
    intro i N s hi hN h0 h1
    obtain ⟨N, rfl⟩ := pos_fuel hN
    have hz : ¬ (i : Int) < (ls.length : Int) := by omega
    simp only [i_covered_l1, hz, decide_false, cond_false]
    rw [List.drop_eq_nil_of_le (by omega)]
    simp [cov]
  | succ n ih =>
    intro i N s hi hN h0 h1
    obtain ⟨N, rfl⟩ := pos_fuel hN
    have hz : (i : Int) < (ls.length : Int) := by omega
    have hlt : i < ls.length := by omega
    have hltc : i < cs.length := by omega
    have hci := hc _ (List.getElem_mem hltc)
    simp only [i_covered_l1, hz, decide_true, cond_true, withK_eq]
    rw [idx_lt ls i hlt, Option.bind_some, ht.idx, Option.bind_some, idx_lt cs i hltc, Option.bind_some, w64_nat i (by omega), w64_id (x := s + cs[i]) (by omega) (by omega), List.drop_eq_getElem_cons hlt, List.drop_eq_getElem_cons hltc]
    rw [cov_cons]
    by_cases hm : ls[i] ∈ T
    · obtain ⟨e, g1, g2⟩ := ih (i + 1) N (s + cs[i]) (by omega) (by omega) (by omega) (by omega)
      simp only [hm, decide_true, cond_true, if_true]
      rw [e]
      exact ⟨congrArg kj (by omega), by omega, by omega⟩
    · obtain ⟨e, g1, g2⟩ := ih (i + 1) N s (by omega) (by omega) (by omega) (by omega)
      simp only [hm, decide_false, cond_false, if_false]
      rw [e]
      exact ⟨congrArg kj (by omega), by omega, by omega⟩
theorem cov_ok (L : List Drill) (hL : GD L) (sel : List Nat) (hs : Ix sel L.length) (ls : Str) (cs : List Int) (hlen : ls.length = cs.length) (hl : ls.length ≤ 30) (hc : ∀ x ∈ cs, 0 ≤ x ∧ x ≤ 1000) (N : Nat) (hN : 300 < N) : i_covered N L (ints sel) ls cs = some (cov (lets L sel) ls cs) ∧ 0 ≤ cov (lets L sel) ls cs ∧ cov (lets L sel) ls cs ≤ 30000 := by
  obtain ⟨t, h1, h2⟩ := tr_ok L hL sel hs N hN
  unfold i_covered
  rw [h2, Option.bind_some]
  simp only [withK_eq]
  obtain ⟨e, g1, g2⟩ := cov_l1 _ t h1 ls cs hlen hl hc (fun s => some s) ls.length 0 N 0 (by omega) (by omega) (by omega) (by omega)
  rw [show ((0 : Nat) : Int) = 0 from rfl] at e
  rw [e]
  simp only [List.drop_zero] at g1 g2 ⊢
  exact ⟨by simp, g1, by omega⟩
/-- what is left -/
def lft (T : Str) (ls : Str) : Str := ls.filter fun c => !decide (c ∈ T)
theorem lft_cons (T : Str) (x : UInt8) (xs : Str) : lft T (x :: xs) = if x ∈ T then lft T xs else x :: lft T xs := by
  unfold lft
  by_cases h : x ∈ T <;> simp [h]
theorem left_l1 (T : Str) (t : List Bool) (ht : Tb t T) (ls : Str) (hl : ls.length ≤ 30) (kj : List UInt8 → Option Str) (hk : ∀ l, kj l = some l) : ∀ (n i N : Nat) (o : Str), i + n = ls.length → n < N → o.length ≤ i → i_left_l1 kj ls t N o (i : Int) = some (o ++ lft T (ls.drop i)) := by
  intro n
  induction n with
  | zero =>
    intro i N o hi hN h0
    obtain ⟨N, rfl⟩ := pos_fuel hN
    have hz : ¬ (i : Int) < (ls.length : Int) := by omega
    simp only [i_left_l1, hz, decide_false, cond_false, hk]
    rw [List.drop_eq_nil_of_le (by omega)]
    simp [lft]
  | succ n ih =>
    intro i N o hi hN h0
    obtain ⟨N, rfl⟩ := pos_fuel hN
    have hz : (i : Int) < (ls.length : Int) := by omega
    have hlt : i < ls.length := by omega
    simp only [i_left_l1, hz, decide_true, cond_true, withK_eq]
    rw [idx_lt ls i hlt, Option.bind_some, ht.idx, Option.bind_some, Option.bind_some, app_some _ _ (by unfold LIM; simp; omega), Option.bind_some, w64_nat i (by omega), List.drop_eq_getElem_cons hlt, lft_cons]
    by_cases hm : ls[i] ∈ T
    · simp only [hm, decide_true, Bool.not_true, cond_false, if_true]
      exact ih (i + 1) N o (by omega) (by omega) (by omega)
    · simp only [hm, decide_false, Bool.not_false, cond_true, if_false]
      rw [ih (i + 1) N _ (by omega) (by omega) (by simp; omega), List.append_assoc, List.singleton_append]
theorem left_ok (L : List Drill) (hL : GD L) (sel : List Nat) (hs : Ix sel L.length) (ls : Str) (hl : ls.length ≤ 30) (N : Nat) (hN : 300 < N) : i_left N L (ints sel) ls = some (lft (lets L sel) ls) := by
  obtain ⟨t, h1, h2⟩ := tr_ok L hL sel hs N hN
  unfold i_left
  rw [h2, Option.bind_some]
  simp only [withK_eq]
  have e := left_l1 _ t h1 ls hl (fun s => some s) (fun _ => rfl) ls.length 0 N [] (by omega) (by omega) (by simp)
  simpa using e
theorem mins_cons (L : List Drill) (x : Nat) (xs : List Nat) (h : x < L.length) : mins L (x :: xs) = L[x].minutes + mins L xs := by
  simp [mins, List.getElem?_eq_getElem h]
theorem mins_l1 (L : List Drill) (hL : GD L) (sel : List Nat) (hs : Ix sel L.length) (kj : Int → Option Int) : ∀ (n i N : Nat) (s : Int), i + n = sel.length → n < N → 0 ≤ s → s ≤ 20 * i → i_minutesOf_l1 kj L (ints sel) N s (i : Int) = kj (s + mins L (sel.drop i)) ∧ 0 ≤ mins L (sel.drop i) ∧ mins L (sel.drop i) ≤ 20 * n := by
  have hs1 := hs.1
  intro n
  induction n with
  | zero =>
    intro i N s hi hN h0 h1
    obtain ⟨N, rfl⟩ := pos_fuel hN
    have hz : ¬ (i : Int) < ((ints sel).length : Int) := by rw [ints_len]; omega
    simp only [i_minutesOf_l1, hz, decide_false, cond_false]
    rw [List.drop_eq_nil_of_le (by omega)]
    simp [mins]
  | succ n ih =>
    intro i N s hi hN h0 h1
    obtain ⟨N, rfl⟩ := pos_fuel hN
    have hlt : i < sel.length := by omega
    have hz : (i : Int) < ((ints sel).length : Int) := by rw [ints_len]; omega
    have hix := hs.2 _ (List.getElem_mem hlt)
    have hd : idx L (sel[i] : Int) = some L[sel[i]] := idx_lt L _ hix
    have hg := hL.2 _ (List.getElem_mem hix)
    simp only [i_minutesOf_l1, hz, decide_true, cond_true]
    rw [ints_get sel i hlt, Option.bind_some, hd, Option.bind_some, w64_nat i (by omega), w64_id (x := s + L[sel[i]].minutes) (by omega) (by omega), List.drop_eq_getElem_cons hlt]
    obtain ⟨e, g1, g2⟩ := ih (i + 1) N (s + L[sel[i]].minutes) (by omega) (by omega) (by omega) (by omega)
    rw [mins_cons L _ _ hix, e]
    exact ⟨congrArg kj (by omega), by omega, by omega⟩
theorem mins_ok (L : List Drill) (hL : GD L) (sel : List Nat) (hs : Ix sel L.length) (N : Nat) (hN : 300 < N) : i_minutesOf N L (ints sel) = some (mins L sel) ∧ 0 ≤ mins L sel ∧ mins L sel ≤ 2000 := by
  have hs1 := hs.1
  unfold i_minutesOf
  simp only [withK_eq]
  obtain ⟨e, g1, g2⟩ := mins_l1 L hL sel hs (fun s => some s) sel.length 0 N 0 (by omega) (by omega) (by omega) (by omega)
  rw [show ((0 : Nat) : Int) = 0 from rfl] at e
  rw [e]
  simp only [List.drop_zero] at g1 g2 ⊢
  exact ⟨by simp, g1, by omega⟩
end Go.Proofs.Ytimcachjcocjmaa
