/-
  Plain lemmas on these functions. No conditions but those that each states.
-/
import Derived.Test.YtpodlgibcfbbiaaDoorFnPressesP11
namespace Go.Proofs.YtpodlgibcfbbiaaDoor
set_option linter.unusedVariables false
set_option linter.unusedSimpArgs false
/-! The text of presses. -/
def prt (keys : List Key) (p : Press) : Str := match keys[p.key.toNat]? with
  | some k => if p.shift then k.high else k.low
  | none => []
def ddP (keys : List Key) (p : Press) : Bool := match keys[p.key.toNat]? with
  | some k => k.dead
  | none => false
def InR (keys : List Key) (p : Press) : Prop := 0 ≤ p.key ∧ p.key < keys.length
theorem i_prt (keys : List Key) (p : Press) (h : InR keys p) : i_printed keys p = some (prt keys p) := by
  unfold i_printed prt
  rw [idx_int keys p.key h.1 h.2, List.getElem?_eq_getElem (by have := h.1; have := h.2; omega)]
  cases p.shift <;> rfl
theorem idx_dd (keys : List Key) (p : Press) (h : InR keys p) : ∃ k, idx keys p.key = some k ∧ k.dead = ddP keys p := by
  refine ⟨_, idx_int keys p.key h.1 h.2, ?_⟩
  unfold ddP
  rw [List.getElem?_eq_getElem (by have := h.1; have := h.2; omega)]
/-- what two presses make -/
def madeO (x y : Str) (m : Str) (a : Accent) : Str := if a.mark == x && a.letter == y then a.made else m
def madeOf (as : List Accent) (x y : Str) : Str := as.foldl (madeO x y) []
def txo (keys : List Key) (as : List Accent) : Str → List Press → Str × Int
  | out, [] => (out, 0)
  | out, p :: r => if ddP keys p then (match r with
      | [] => ([], 6)
      | q :: r' => if madeOf as (prt keys p) (prt keys q) == [] then ([], 6) else txo keys as (out ++ madeOf as (prt keys p) (prt keys q)) r')
    else txo keys as (out ++ prt keys p) r
theorem txo_n (keys : List Key) (as : List Accent) (o : Str) (p : Press) (r : List Press) (h : ddP keys p = false) : txo keys as o (p :: r) = txo keys as (o ++ prt keys p) r := by
  cases r <;> simp [txo, h]
def rng (keys : List Key) (p : Press) : Bool := decide (p.key ≥ 0) && decide (p.key ≤ (keys.length : Int) - 1)
theorem rng_in {keys : List Key} {p : Press} : rng keys p = true ↔ InR keys p := by
  unfold rng InR
  simp only [Bool.and_eq_true, decide_eq_true_eq]
  omega
theorem i_tx_l1 (keys : List Key) (list : List Press) (kj : Option (Str × Int)) (hl : keys.length ≤ 1000) (hl2 : list.length ≤ 1000) : ∀ (n i N : Nat), i + n = list.length → n < N → i_TextOfPresses_l1 kj keys list N (i : Int) = bif (list.drop i).all (rng keys) then kj else some ([], 2) := by
  intro n
  induction n with
  | zero =>
    intro i N hi hN
    obtain ⟨N, rfl⟩ := pos_fuel hN
    have hz : ¬ (i : Int) < (list.length : Int) := by omega
    simp only [i_TextOfPresses_l1, hz, decide_false, cond_false]
    rw [List.drop_eq_nil_of_le (by omega)]; rfl
  | succ n ih =>
    intro i N hi hN
    obtain ⟨N, rfl⟩ := pos_fuel hN
    have hz : (i : Int) < (list.length : Int) := by omega
    simp only [i_TextOfPresses_l1, hz, decide_true, cond_true, i_between]
    rw [idx_lt list i (by omega), w64_nat i (by omega), List.drop_eq_getElem_cons (by omega : i < list.length), ih (i + 1) N (by omega) (by omega), w64_id (x := (keys.length : Int) - 1) (by omega) (by omega)]
    simp only [Option.bind_some, andO_some, List.all_cons, rng]
    cases decide (list[i].key ≥ 0) && decide (list[i].key ≤ (keys.length : Int) - 1) <;> rfl
theorem i_tx_l3 (keys : List Key) (as : List Accent) (list : List Press) (i : Nat) (q : Press) (hq : list[i + 1]? = some q) (hin : InR keys q) (x : Str) (kj : Str → Option (Str × Int)) (hl2 : as.length ≤ 1000) (hi' : i < 10000) : ∀ (n k N : Nat) (m : Str), k + n = as.length → n < N → i_TextOfPresses_l3 kj keys as list (i : Int) x N m (k : Int) = kj ((as.drop k).foldl (madeO x (prt keys q)) m) := by
  intro n
  induction n with
  | zero =>
    intro k N m hk hN
    obtain ⟨N, rfl⟩ := pos_fuel hN
    have hz : ¬ (k : Int) < (as.length : Int) := by omega
    simp only [i_TextOfPresses_l3, hz, decide_false, cond_false]
    rw [List.drop_eq_nil_of_le (by omega)]; rfl
  | succ n ih =>
    intro k N m hk hN
    obtain ⟨N, rfl⟩ := pos_fuel hN
    have hz : (k : Int) < (as.length : Int) := by omega
    simp only [i_TextOfPresses_l3, hz, decide_true, cond_true, withK_eq]
    rw [idx_lt as k (by omega), w64_nat k (by omega), w64_nat i (by omega), idx_nat list (i + 1), hq, List.drop_eq_getElem_cons (by omega : k < as.length), List.foldl_cons]
    simp only [Option.bind_some, i_prt keys q hin, andO_some]
    unfold madeO
    cases as[k].mark == x && as[k].letter == prt keys q
    · simp only [cond_false]; exact ih (k + 1) N m (by omega) (by omega)
    · simp only [cond_true]; exact ih (k + 1) N _ (by omega) (by omega)
theorem foldM_len (as : List Accent) (x y : Str) (h : ∀ a ∈ as, a.made.length ≤ 1) : ∀ m : Str, m.length ≤ 1 → (as.foldl (madeO x y) m).length ≤ 1 := by
  induction as with
  | nil => intro m hm; exact hm
  | cons a as ih =>
    intro m hm
    refine ih (fun b hb => h b (List.mem_cons_of_mem _ hb)) _ ?_
    unfold madeO
    split
    · exact h a List.mem_cons_self
    · exact hm
/-- both texts -/
theorem tx_l2 (keys : List Key) (as : List Accent) (list : List Press) (hk : ∀ k ∈ keys, k.low.length ≤ 1 ∧ k.high.length ≤ 1) (ha : ∀ a ∈ as, a.made.length ≤ 1) (hin : ∀ p ∈ list, InR keys p) (hl2 : as.length ≤ 1000) (hl3 : list.length ≤ 1000) : ∀ (n i N : Nat) (o : Str), list.length ≤ i + n → n + 1001 < N → o.length ≤ i →
    i_TextOfPresses_l2 (fun (out27 : Str) => some (out27, 0)) keys as list N o (i : Int) = some (txo keys as o (list.drop i)) := by
  intro n
  induction n using Nat.strongRecOn with
  | ind n ih =>
    intro i N o hi hN ho
    obtain ⟨N, rfl⟩ := pos_fuel (show 0 < N by omega)
    by_cases h : i < list.length
    · have hz : (i : Int) < (list.length : Int) := by omega
      have hp := hin _ (List.getElem_mem h)
      obtain ⟨k, ek, dk⟩ := idx_dd keys _ hp
      have hpl : (prt keys list[i]).length ≤ 1 := by
        unfold prt
        split
        · rename_i kk hkk
          have := hk kk (List.mem_of_getElem? hkk)
          split
          · exact this.2
          · exact this.1
        · simp
      simp only [i_TextOfPresses_l2, hz, decide_true, cond_true, withK_eq]
      rw [idx_lt list i h]
      simp only [Option.bind_some, i_prt keys _ hp, ek, dk]
      rw [List.drop_eq_getElem_cons h]
      have e1 := w64_nat i (show i < 9223372036854775807 by omega)
      have e2 := w64_nat (i + 1) (show i + 1 < 9223372036854775807 by omega)
      cases hd : ddP keys list[i]
      · simp only [Bool.not_false, cond_true]
        rw [cat_some o (prt keys list[i]) (by unfold LIM; omega)]
        simp only [e1, Option.bind_some, txo_n keys as _ _ _ hd]
        exact ih (n - 1) (by omega) (i + 1) N (o ++ prt keys list[i]) (by omega) (by omega) (by rw [List.length_append]; omega)
      · simp only [Bool.not_true, cond_false, e1, e2]
        by_cases h2 : i + 1 < list.length
        · have hz2 : (((i + 1 : Nat) : Int) == (list.length : Int)) = false := by rw [beq_eq_false_iff_ne]; omega
          have hq : list[i + 1]? = some list[i + 1] := List.getElem?_eq_getElem h2
          have hqi := hin _ (List.getElem_mem h2)
          have g1 := fun kj => i_tx_l3 keys as list i _ hq hqi (prt keys list[i]) kj hl2 (by omega) as.length 0 N [] (by omega) (by omega)
          simp only [Int.natCast_zero, List.drop_zero, show as.foldl (madeO (prt keys list[i]) (prt keys list[i + 1])) [] = madeOf as (prt keys list[i]) (prt keys list[i + 1]) from rfl] at g1
          have hfm : as.foldl (madeO (prt keys list[i]) (prt keys list[i + 1])) [] = madeOf as (prt keys list[i]) (prt keys list[i + 1]) := rfl
          rw [g1, List.drop_eq_getElem_cons h2]
          simp only [hz2, cond_false, txo, hd, if_true]
          have hm : (madeOf as (prt keys list[i]) (prt keys list[i + 1])).length ≤ 1 := foldM_len as (prt keys list[i]) (prt keys list[i + 1]) ha [] (by simp)
          generalize madeOf as (prt keys list[i]) (prt keys list[i + 1]) = mm at hm ⊢
          cases mm with
          | nil => rfl
          | cons c r =>
            have hf : ((c :: r : Str) == []) = false := rfl
            simp only [hf, cond_false, Bool.false_eq_true, if_false]
            rw [cat_some o (c :: r) (by unfold LIM; omega)]
            simp only [Option.bind_some]
            exact ih (n - 2) (by omega) (i + 2) N _ (by omega) (by omega) (by rw [List.length_append]; omega)
        · have hz2 : (((i + 1 : Nat) : Int) == (list.length : Int)) = true := by rw [beq_iff_eq]; omega
          rw [List.drop_eq_nil_of_le (by omega : list.length ≤ i + 1)]
          simp only [hz2, cond_true, txo, hd, if_true]
    · have hz : ¬ (i : Int) < (list.length : Int) := by omega
      simp only [i_TextOfPresses_l2, hz, decide_false, cond_false]
      rw [List.drop_eq_nil_of_le (by omega)]
      rfl
def txV (keys : List Key) (as : List Accent) (list : List Press) : Str × Int :=
  if okKA keys as then (if list.all (rng keys) && decide (list.length ≤ 200) then txo keys as [] list else ([], 2)) else ([], 1)
theorem i_txV (keys : List Key) (as : List Accent) (list : List Press) (hl : keys.length ≤ 1000) (hl2 : as.length ≤ 1000) (hl3 : list.length ≤ 1000) (N : Nat) (hN : 5000 < N) : i_TextOfPresses N keys as list = some (txV keys as list) := by
  unfold i_TextOfPresses txV
  rw [i_valid keys as hl hl2 N (by omega)]
  simp only [Option.bind_some, withK_eq]
  cases hok : okKA keys as
  · rfl
  · obtain ⟨h1, h2, h3, h4⟩ := okKA_and hok
    have g1 := fun kj => i_tx_l1 keys list kj hl hl3 list.length 0 N (by omega) (by omega)
    simp only [Int.natCast_zero, List.drop_zero] at g1
    rw [g1]
    have e : decide ((list.length : Int) > 200) = !(decide (list.length ≤ 200)) := by rw [Bool.eq_iff_iff]; simp; omega
    rw [e]
    cases hr : list.all (rng keys)
    · cases decide (list.length ≤ 200) <;> rfl
    · cases decide (list.length ≤ 200)
      · rfl
      · have := tx_l2 keys as list (fun k hk => by
          have q := okKs_letters keys [] h1 k hk
          exact ⟨Nat.le_of_eq (isL_len q.1), Nat.le_of_eq (isL_len q.2.1)⟩) (fun a ha => Nat.le_of_eq (isL_len (okAs_made keys as [] h2 a ha).1)) (fun p hp => rng_in.1 (List.all_eq_true.1 hr p hp)) hl2 hl3 list.length 0 N [] (by omega) (by omega) (by simp)
        simpa using this
end Go.Proofs.YtpodlgibcfbbiaaDoor
