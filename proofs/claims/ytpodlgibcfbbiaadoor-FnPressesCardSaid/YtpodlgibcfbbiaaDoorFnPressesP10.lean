/-
  Plain lemmas on these functions. No conditions but those that each states.
-/
import Derived.Test.YtpodlgibcfbbiaaDoorFnPressesP9
namespace Go.Proofs.YtpodlgibcfbbiaaDoor
set_option linter.unusedVariables false
set_option linter.unusedSimpArgs false
/-! Letters and presses of keys. -/
def putC : Str → UInt8 → Str
  | [], c => [c]
  | x :: r, c => if x < c then x :: putC r c else if x == c then x :: r else c :: x :: r
theorem putC_len (l : Str) (c : UInt8) : (putC l c).length ≤ l.length + 1 := by
  induction l with
  | nil => simp [putC]
  | cons x r ih =>
    unfold putC; split
    · simp; omega
    · split <;> simp
theorem s_put_l1 (l : Str) (c : UInt8) (kj : Int → Option Str) (hl : l.length ≤ 1000) (hkj : ∀ k : Nat, k ≤ l.length → kj (k : Int) = (bif decide (k < l.length) && (l[k]?.getD 0 == c) then some l else some (l.take k ++ [c] ++ l.drop k))) : ∀ (n k N : Nat), k + n = l.length → n < N → s_l02PutLetter_l1 kj l [c] N (k : Int) = some (l.take k ++ putC (l.drop k) c) := by
  intro n
  induction n with
  | zero =>
    intro k N hk hN
    obtain ⟨N, rfl⟩ := pos_fuel hN
    have hz : ¬ (k : Int) < (l.length : Int) := by omega
    simp only [s_l02PutLetter_l1, hz, decide_false, andO_false, Option.bind_some, cond_false]
    rw [hkj k (by omega)]
    have h2 : ¬ k < l.length := by omega
    simp only [h2, decide_false, Bool.false_and, cond_false]
    rw [List.drop_eq_nil_of_le (by omega)]
    simp [putC]
  | succ n ih =>
    intro k N hk hN
    obtain ⟨N, rfl⟩ := pos_fuel hN
    have hz : (k : Int) < (l.length : Int) := by omega
    have hc : idx ([c] : Str) 0 = some c := rfl
    simp only [s_l02PutLetter_l1, hz, decide_true, andO_true]
    rw [idx_lt l k (by omega), hc, w64_nat k (by omega), ih (k + 1) N (by omega) (by omega), hkj k (by omega)]
    simp only [Option.bind_some]
    have h2 : k < l.length := by omega
    rw [List.drop_eq_getElem_cons h2]
    have ht := List.take_succ_eq_append_getElem h2
    simp only [putC, h2, decide_true, Bool.true_and, List.getElem?_eq_getElem, Option.getD_some]
    by_cases h3 : l[k] < c
    · simp only [h3, decide_true, cond_true, if_true]; rw [ht, List.append_assoc]; rfl
    · simp only [h3, decide_false, cond_false, if_false]
      cases h4 : l[k] == c
      · simp
      · simp only [cond_true, if_true]
        rw [← List.drop_eq_getElem_cons h2, List.take_append_drop]
theorem s_put (l : Str) (c : UInt8) (hl : l.length ≤ 1000) (N : Nat) (hN : 1000 < N) : s_l02PutLetter N l [c] = some (putC l c) := by
  unfold s_l02PutLetter
  simp only [withK_eq]
  have h := s_put_l1 l c (fun (k3 : Int) =>
    (andO (decide (k3 < (List.length l : Int))) ((idx l k3).bind fun c18 =>
    (idx ([c] : Str) 0).bind fun c20 =>
    some (c18 == c20))).bind fun t15 =>
    bif t15 then
    some l
    else
    (sub l 0 k3).bind fun s23 =>
    (cat s23 [c]).bind fun s25 =>
    (sub l k3 (List.length l : Int)).bind fun s27 =>
    (cat s25 s27).bind fun s29 =>
    some s29) hl (fun k hk => by
      have hc : idx ([c] : Str) 0 = some c := rfl
      have hs1 : sub l 0 (k : Int) = some (l.take k) := by rw [sub_some l 0 k (by omega) (by omega) (by omega)]; simp
      have hs2 : sub l (k : Int) (l.length : Int) = some (l.drop k) := by
        rw [sub_some l k _ (by omega) (by omega) (by omega)]
        have e1 : ((k : Int)).toNat = k := by omega
        have e2 : ((l.length : Int)).toNat = l.length := by omega
        rw [e1, e2, List.take_of_length_le (by rw [List.length_drop]; omega)]
      have hc1 : cat (l.take k) [c] = some (l.take k ++ [c]) := cat_some _ _ (by unfold LIM; rw [List.length_take]; simp; omega)
      have hc2 : cat (l.take k ++ [c]) (l.drop k) = some (l.take k ++ [c] ++ l.drop k) := cat_some _ _ (by unfold LIM; rw [List.length_append, List.length_take, List.length_drop]; simp; omega)
      by_cases h2 : k < l.length
      · have hz : (k : Int) < (l.length : Int) := by omega
        simp only [hz, h2, decide_true, andO_true, idx_lt l k h2, hc, hs1, hs2, hc1, hc2, Option.bind_some, Bool.true_and, List.getElem?_eq_getElem, Option.getD_some]
      · have hz : ¬ (k : Int) < (l.length : Int) := by omega
        simp only [hz, h2, decide_false, andO_false, hs1, hs2, hc1, hc2, Option.bind_some, Bool.false_and, cond_false]) l.length 0 N (by omega) (by omega)
  simpa using h
def putS (o s : Str) : Str := putC o (s.headD 0)
theorem s_putS (o s : Str) (h : isL s = true) (hl : o.length ≤ 1000) (N : Nat) (hN : 1000 < N) : s_l02PutLetter N o s = some (putS o s) := by
  have := isL_len h
  match s, this with
  | [c], _ => exact s_put o c hl N hN
def ltK (o : Str) (k : Key) : Str := if k.dead then o else putS (putS o k.low) k.high
def ltA (o : Str) (a : Accent) : Str := putS o a.made
def ltrs (keys : List Key) (as : List Accent) : Str := as.foldl ltA (keys.foldl ltK [])
theorem ltK_len (o : Str) (k : Key) : (ltK o k).length ≤ o.length + 2 := by
  unfold ltK putS
  split
  · omega
  · have h1 := putC_len o (k.low.headD 0)
    have h2 := putC_len (putC o (k.low.headD 0)) (k.high.headD 0)
    omega
theorem s_ltrs_l1 (keys : List Key) (kj : Str → Option (Str × Int)) (hl : keys.length ≤ 100) (hk : ∀ k ∈ keys, isL k.low = true ∧ isL k.high = true) : ∀ (n i N : Nat) (o : Str), i + n = keys.length → n + 1001 < N → o.length ≤ 2 * i → s_LettersOf_l1 kj keys N o (i : Int) = kj ((keys.drop i).foldl ltK o) := by
  intro n
  induction n with
  | zero =>
    intro i N o hi hN ho
    obtain ⟨N, rfl⟩ := pos_fuel hN
    have hz : ¬ (i : Int) < (keys.length : Int) := by omega
    simp only [s_LettersOf_l1, hz, decide_false, cond_false]
    rw [List.drop_eq_nil_of_le (by omega)]; rfl
  | succ n ih =>
    intro i N o hi hN ho
    obtain ⟨N, rfl⟩ := pos_fuel hN
    have hz : (i : Int) < (keys.length : Int) := by omega
    have hm := hk _ (List.getElem_mem (by omega : i < keys.length))
    simp only [s_LettersOf_l1, hz, decide_true, cond_true, withK_eq]
    rw [idx_lt keys i (by omega), w64_nat i (by omega), List.drop_eq_getElem_cons (by omega : i < keys.length), List.foldl_cons]
    simp only [Option.bind_some]
    have hlen := ltK_len o keys[i]
    unfold ltK at hlen ⊢
    cases hd : keys[i].dead
    · have hp := putC_len o (keys[i].low.headD 0)
      simp only [Bool.not_false, cond_true]
      rw [s_putS o _ hm.1 (by omega) N (by omega)]
      simp only [Option.bind_some]
      rw [s_putS _ _ hm.2 (by unfold putS; omega) N (by omega)]
      simp only [Option.bind_some]
      rw [hd] at hlen
      exact ih (i + 1) N _ (by omega) (by omega) (by simp at hlen ⊢; omega)
    · simp only [Bool.not_true, cond_false]
      exact ih (i + 1) N _ (by omega) (by omega) (by omega)
theorem s_ltrs_l2 (as : List Accent) (kj : Str → Option (Str × Int)) (hl : as.length ≤ 100) (hk : ∀ k ∈ as, isL k.made = true) : ∀ (n i N : Nat) (o : Str), i + n = as.length → n + 1001 < N → o.length ≤ 200 + i → s_LettersOf_l2 kj as N o (i : Int) = kj ((as.drop i).foldl ltA o) := by
  intro n
  induction n with
  | zero =>
    intro i N o hi hN ho
    obtain ⟨N, rfl⟩ := pos_fuel hN
    have hz : ¬ (i : Int) < (as.length : Int) := by omega
    simp only [s_LettersOf_l2, hz, decide_false, cond_false]
    rw [List.drop_eq_nil_of_le (by omega)]; rfl
  | succ n ih =>
    intro i N o hi hN ho
    obtain ⟨N, rfl⟩ := pos_fuel hN
    have hz : (i : Int) < (as.length : Int) := by omega
    have hm := hk _ (List.getElem_mem (by omega : i < as.length))
    have hp := putC_len o (as[i].made.headD 0)
    simp only [s_LettersOf_l2, hz, decide_true, cond_true, withK_eq]
    rw [idx_lt as i (by omega), w64_nat i (by omega), List.drop_eq_getElem_cons (by omega : i < as.length), List.foldl_cons]
    simp only [Option.bind_some]
    rw [s_putS o _ hm (by omega) N (by omega)]
    simp only [Option.bind_some]
    exact ih (i + 1) N _ (by omega) (by omega) (by unfold putS; omega)
theorem okAs_made (keys : List Key) : ∀ (as p : List Accent), okAs keys p as = true → ∀ a ∈ as, isL a.made = true ∧ hasK keys a.mark = true ∧ hasK keys a.letter = true ∧ hasK keys a.made = false := by
  intro as
  induction as with
  | nil => intro p _ a ha; cases ha
  | cons a as ih =>
    intro p h x hx
    simp only [okAs, okA, Bool.and_eq_true, Bool.not_eq_true'] at h
    rcases List.mem_cons.1 hx with rfl | hx
    · exact ⟨h.1.1.2, h.1.1.1.1.1.1.1, h.1.1.1.1.1.2, h.1.1.1.2⟩
    · exact ih _ h.2 x hx
theorem okKA_and {keys : List Key} {as : List Accent} (h : okKA keys as = true) : okKs [] keys = true ∧ okAs keys [] as = true ∧ keys.length ≤ 40 ∧ as.length ≤ 20 := by
  simp only [okKA, Bool.and_eq_true, decide_eq_true_eq] at h
  exact ⟨h.1.1, h.1.2, h.2.1, h.2.2⟩
theorem foldK_len (ks : List Key) : ∀ o : Str, (ks.foldl ltK o).length ≤ o.length + 2 * ks.length := by
  induction ks with
  | nil => intro o; simp
  | cons k ks ih => intro o; have h1 := ih (ltK o k); have h2 := ltK_len o k; simp only [List.foldl_cons, List.length_cons]; omega
theorem foldA_len (ks : List Accent) : ∀ o : Str, (ks.foldl ltA o).length ≤ o.length + ks.length := by
  induction ks with
  | nil => intro o; simp
  | cons k ks ih => intro o; have h1 := ih (ltA o k); have h2 := putC_len o (k.made.headD 0); unfold ltA putS at *; simp only [List.foldl_cons, List.length_cons]; omega
theorem ltrs_len (keys : List Key) (as : List Accent) : (ltrs keys as).length ≤ 2 * keys.length + as.length := by
  have h1 := foldK_len keys []
  have h2 := foldA_len as (keys.foldl ltK [])
  unfold ltrs
  simp at h1
  omega
theorem s_ltrs (keys : List Key) (as : List Accent) (hl : keys.length ≤ 100) (hl2 : as.length ≤ 100) (N : Nat) (hN : 3000 < N) : s_LettersOf N keys as = some (if okKA keys as then (ltrs keys as, 0) else ([], 1)) := by
  unfold s_LettersOf
  rw [s_ok keys as (by omega) (by omega) N hN]
  simp only [Option.bind_some, withK_eq]
  cases h : okKA keys as
  · rfl
  · obtain ⟨h1, h2, h3, h4⟩ := okKA_and h
    simp only [Bool.not_true, cond_false, if_true]
    rw [show (0 : Int) = ((0 : Nat) : Int) from rfl, s_ltrs_l1 keys _ (by omega) (fun k hk => ⟨(okKs_letters keys [] h1 k hk).1, (okKs_letters keys [] h1 k hk).2.1⟩) keys.length 0 N [] (by omega) (by omega) (by simp)]
    have := foldK_len keys []
    simp only [List.drop_zero, List.length_nil] at this ⊢
    rw [s_ltrs_l2 as _ (by omega) (fun a ha => (okAs_made keys as [] h2 a ha).1) as.length 0 N _ (by omega) (by omega) (by omega)]
    rfl
/-- presses for a letter -/
def pr1 (keys : List Key) (c : Str) : Press := ⟨(fndK c 0 keys).1, (fndK c 0 keys).2⟩
def prs (keys : List Key) (as : List Accent) (c : Str) : List Press :=
  if hasK keys c && !(deadK keys c) then [pr1 keys c] else match as.find? (fun a => a.made == c) with
    | some a => [pr1 keys a.mark, pr1 keys a.letter]
    | none => []
theorem prs_len (keys : List Key) (as : List Accent) (c : Str) : (prs keys as c).length ≤ 2 := by
  unfold prs
  split
  · simp
  · split <;> simp
theorem s_prs_l1 (keys : List Key) (as : List Accent) (c : Str) (kj : Option (List Press)) (hk : kj = some []) (hl : keys.length ≤ 1000) (hl2 : as.length ≤ 1000) : ∀ (n i N : Nat), i + n = as.length → n + 1001 < N → s_l02Presses_l1 kj keys as c N (i : Int) = some (match (as.drop i).find? (fun a => a.made == c) with | some a => [pr1 keys a.mark, pr1 keys a.letter] | none => []) := by
  intro n
  induction n with
  | zero =>
    intro i N hi hN
    obtain ⟨N, rfl⟩ := pos_fuel hN
    have hz : ¬ (i : Int) < (as.length : Int) := by omega
    simp only [s_l02Presses_l1, hz, decide_false, cond_false, hk]
    rw [List.drop_eq_nil_of_le (by omega)]; rfl
  | succ n ih =>
    intro i N hi hN
    obtain ⟨N, rfl⟩ := pos_fuel hN
    have hz : (i : Int) < (as.length : Int) := by omega
    simp only [s_l02Presses_l1, hz, decide_true, cond_true]
    rw [idx_lt as i (by omega), w64_nat i (by omega), List.drop_eq_getElem_cons (by omega : i < as.length), List.find?_cons, ih (i + 1) N (by omega) (by omega)]
    simp only [Option.bind_some, s_find keys _ hl N (by omega)]
    cases as[i].made == c <;> rfl
theorem s_prs (keys : List Key) (as : List Accent) (c : Str) (hl : keys.length ≤ 1000) (hl2 : as.length ≤ 1000) (N : Nat) (hN : 3000 < N) : s_l02Presses N keys as c = some (prs keys as c) := by
  unfold s_l02Presses prs
  rw [s_find keys c hl N (by omega)]
  have h1 := s_prs_l1 keys as c (some []) rfl hl hl2 as.length 0 N (by omega) (by omega)
  simp only [Int.natCast_zero, List.drop_zero] at h1
  simp only [Option.bind_some, withK_eq, fndK_pos, h1]
  cases hc : hasK keys c
  · rfl
  · obtain ⟨j, k, e1, e2, _, _, e5⟩ := fndK_ge c keys 0 hc
    rw [e1, Nat.zero_add, idx_nat, e2]
    simp only [andO_true, Option.bind_some, e5, Bool.true_and]
    cases deadK keys c
    · simp only [Bool.not_false, cond_true, if_true, pr1, e1, Nat.zero_add]
    · rfl
theorem i_prs_l1 (keys : List Key) (as : List Accent) (c : Str) (kj : Option (List Press)) (hk : kj = some []) (hd : ∀ k ∈ keys, (k.low == k.high) = false) (ha : ∀ a ∈ as, hasK keys a.mark = true ∧ hasK keys a.letter = true) (hl : keys.length ≤ 1000) (hl2 : as.length ≤ 1000) : ∀ (n i N : Nat), i + n = as.length → n + 1001 < N → i_pressesOf_l1 kj keys as c N (i : Int) = some (match (as.drop i).find? (fun a => a.made == c) with | some a => [pr1 keys a.mark, pr1 keys a.letter] | none => []) := by
  intro n
  induction n with
  | zero =>
    intro i N hi hN
    obtain ⟨N, rfl⟩ := pos_fuel hN
    have hz : ¬ (i : Int) < (as.length : Int) := by omega
    simp only [i_pressesOf_l1, hz, decide_false, cond_false, hk]
    rw [List.drop_eq_nil_of_le (by omega)]; rfl
  | succ n ih =>
    intro i N hi hN
    obtain ⟨N, rfl⟩ := pos_fuel hN
    have hz : (i : Int) < (as.length : Int) := by omega
    have hm := ha _ (List.getElem_mem (by omega : i < as.length))
    simp only [i_pressesOf_l1, hz, decide_true, cond_true]
    rw [idx_lt as i (by omega), w64_nat i (by omega), List.drop_eq_getElem_cons (by omega : i < as.length), List.find?_cons, ih (i + 1) N (by omega) (by omega)]
    simp only [Option.bind_some, i_press keys _ hd hl N (by omega), prsK, hm.1, hm.2, if_true]
    cases as[i].made == c <;> rfl
theorem i_prs (keys : List Key) (as : List Accent) (c : Str) (hok : okKA keys as = true) (N : Nat) (hN : 3000 < N) : i_pressesOf N keys as c = some (prs keys as c) := by
  obtain ⟨h1, h2, h3, h4⟩ := okKA_and hok
  have hd : ∀ k ∈ keys, (k.low == k.high) = false := fun k hk => (okKs_letters keys [] h1 k hk).2.2
  have ha := okAs_made keys as [] h2
  unfold i_pressesOf prs
  rw [i_press keys c hd (by omega) N (by omega)]
  have hl1 := i_prs_l1 keys as c (some []) rfl hd (fun a q => ⟨(ha a q).2.1, (ha a q).2.2.1⟩) (by omega) (by omega) as.length 0 N (by omega) (by omega)
  simp only [Int.natCast_zero, List.drop_zero] at hl1
  simp only [Option.bind_some, withK_eq, hl1, prsK]
  cases hc : hasK keys c
  · simp
  · obtain ⟨j, k, e1, e2, _, _, e5⟩ := fndK_ge c keys 0 hc
    simp only [if_true, cond_true, e1, Nat.zero_add, idx_nat, e2, Option.bind_some, e5, Bool.true_and]
    cases deadK keys c
    · simp only [Bool.not_false, cond_false, if_true, pr1, e1, Nat.zero_add]
    · have : as.find? (fun a => a.made == c) = none := by
        rw [List.find?_eq_none]
        intro a q hq
        have g := (ha a q).2.2.2
        rw [eq_of_beq hq, hc] at g
        cases g
      simp only [Bool.not_true, cond_true, this]
      rfl
end Go.Proofs.YtpodlgibcfbbiaaDoor
