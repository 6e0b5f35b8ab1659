/-
  Plain lemmas on these functions. No conditions but those that each states.
-/
import Derived.Test.YtpodlgibcfbbiaaDoorFnPressesP6
namespace Go.Proofs.YtpodlgibcfbbiaaDoor
set_option linter.unusedVariables false
set_option linter.unusedSimpArgs false
/-! Keys: what is found. -/
def hasK (ks : List Key) (c : Str) : Bool := ks.any fun k => k.low == c || k.high == c
def deadK : List Key → Str → Bool
  | [], _ => false
  | k :: ks, c => if k.low == c || k.high == c then k.dead else deadK ks c
def fndK (c : Str) : Nat → List Key → Int × Bool
  | _, [] => (-1, false)
  | i, k :: ks => if k.low == c then ((i : Int), false) else if k.high == c then ((i : Int), true) else fndK c (i + 1) ks
def isL (s : Str) : Bool := match s with
  | [c] => decide (33 ≤ c.toNat) && decide (c.toNat ≤ 126)
  | _ => false
theorem hasK_cons (k : Key) (ks : List Key) (c : Str) : hasK (k :: ks) c = (k.low == c || k.high == c || hasK ks c) := by simp [hasK]
theorem hasK_snoc (ks : List Key) (k : Key) (c : Str) : hasK (ks ++ [k]) c = (hasK ks c || (k.low == c || k.high == c)) := by simp [hasK]
theorem deadK_snoc (ks : List Key) (k : Key) (c : Str) : deadK (ks ++ [k]) c = if hasK ks c then deadK ks c else if k.low == c || k.high == c then k.dead else false := by
  induction ks with
  | nil => simp [deadK, hasK]
  | cons x ks ih =>
    simp only [List.cons_append, deadK, hasK_cons]
    cases x.low == c || x.high == c
    · simp [ih]
    · simp
theorem deadK_has (ks : List Key) (c : Str) (h : deadK ks c = true) : hasK ks c = true := by
  induction ks with
  | nil => simp [deadK] at h
  | cons x ks ih =>
    rw [hasK_cons]
    simp only [deadK] at h
    cases hx : x.low == c || x.high == c
    · rw [hx] at h; simp [ih (by simpa using h)]
    · simp
theorem fndK_lt (c : Str) : ∀ (ks : List Key) (i : Nat), hasK ks c = false → fndK c i ks = (-1, false) := by
  intro ks
  induction ks with
  | nil => intro i _; rfl
  | cons k ks ih =>
    intro i h
    rw [hasK_cons] at h
    simp only [Bool.or_eq_false_iff] at h
    simp only [fndK, h.1.1, h.1.2]
    simpa using ih (i + 1) h.2
/-- what is found -/
theorem fndK_ge (c : Str) : ∀ (ks : List Key) (i : Nat), hasK ks c = true → ∃ (j : Nat) (k : Key), (fndK c i ks).1 = ((i + j : Nat) : Int) ∧ ks[j]? = some k ∧ (k.low == c || k.high == c) = true ∧ (fndK c i ks).2 = !(k.low == c) ∧ k.dead = deadK ks c := by
  intro ks
  induction ks with
  | nil => intro i h; simp [hasK] at h
  | cons k ks ih =>
    intro i h
    cases h1 : k.low == c
    · cases h2 : k.high == c
      · obtain ⟨j, k', e1, e2, e3, e4, e5⟩ := ih (i + 1) (by simpa [hasK_cons, h1, h2] using h)
        refine ⟨j + 1, k', ?_, by simpa using e2, e3, ?_, ?_⟩
        · simp only [fndK, h1, h2]; simp only [Bool.false_eq_true, if_false]; rw [e1]; omega
        · simp only [fndK, h1, h2]; simpa using e4
        · simp only [deadK, h1, h2]; simpa using e5
      · exact ⟨0, k, by simp [fndK, h1, h2], rfl, by simp [h2], by simp [fndK, h1, h2], by simp [deadK, h1, h2]⟩
    · exact ⟨0, k, by simp [fndK, h1], rfl, by simp [h1], by simp [fndK, h1], by simp [deadK, h1]⟩
theorem fndK_pos (ks : List Key) (c : Str) : decide ((fndK c 0 ks).1 ≥ 0) = hasK ks c := by
  cases h : hasK ks c
  · rw [fndK_lt c ks 0 h]; rfl
  · obtain ⟨j, k, e1, _⟩ := fndK_ge c ks 0 h
    rw [e1]; simp
theorem fndK_neg (ks : List Key) (c : Str) : decide ((fndK c 0 ks).1 < 0) = !(hasK ks c) := by
  cases h : hasK ks c
  · rw [fndK_lt c ks 0 h]; rfl
  · obtain ⟨j, k, e1, _⟩ := fndK_ge c ks 0 h
    rw [e1]; simp
theorem s_find_l1 (keys : List Key) (c : Str) (kj : Option (Int × Bool)) (hk : kj = some (-1, false)) (hl : keys.length ≤ 1000) : ∀ (n i N : Nat), i + n = keys.length → n < N → s_l02Find_l1 kj keys c N (i : Int) = some (fndK c i (keys.drop i)) := by
  intro n
  induction n with
  | zero =>
    intro i N hi hN
    obtain ⟨N, rfl⟩ := pos_fuel hN
    have hz : ¬ (i : Int) < (keys.length : Int) := by omega
    simp only [s_l02Find_l1, hz, decide_false, cond_false, hk]
    rw [List.drop_eq_nil_of_le (by omega)]; rfl
  | succ n ih =>
    intro i N hi hN
    obtain ⟨N, rfl⟩ := pos_fuel hN
    have hz : (i : Int) < (keys.length : Int) := by omega
    simp only [s_l02Find_l1, hz, decide_true, cond_true]
    rw [idx_lt keys i (by omega), w64_nat i (by omega), List.drop_eq_getElem_cons (by omega : i < keys.length), ih (i + 1) N (by omega) (by omega)]
    simp only [Option.bind_some, fndK]
    cases keys[i].low == c <;> cases keys[i].high == c <;> simp
theorem s_find (keys : List Key) (c : Str) (hl : keys.length ≤ 1000) (N : Nat) (hN : 1000 < N) : s_l02Find N keys c = some (fndK c 0 keys) := by
  unfold s_l02Find
  simp only [withK_eq]
  exact s_find_l1 keys c _ rfl hl keys.length 0 N (by omega) (by omega)
theorem s_letter (s : Str) : s_l02Letter s = some (isL s) := by
  unfold s_l02Letter isL
  match s with
  | [] => rfl
  | [c] =>
    have h0 : ((([c] : Str).length : Int) == 1) = true := rfl
    have h1 : idx ([c] : Str) 0 = some c := rfl
    simp only [h0, h1, andO_true, Option.bind_some, andO_some]
    refine congrArg some ?_
    show _ = (decide (33 ≤ c.toNat) && decide (c.toNat ≤ 126))
    rw [Bool.eq_iff_iff]
    have e1 : (32 : UInt8).toNat = 32 := rfl
    have e2 : (127 : UInt8).toNat = 127 := rfl
    simp only [Bool.and_eq_true, decide_eq_true_eq, gt_iff_lt, UInt8.lt_iff_toNat_lt, e1, e2, true_and]
    omega
  | c :: d :: r =>
    have h0 : (((c :: d :: r : Str).length : Int) == 1) = false := by simp; omega
    simp only [h0, andO_false, Option.bind_some]
/-- text of letters -/
def isT (s : Str) (low : Nat) : Bool := s.all fun c => decide (low ≤ c.toNat) && decide (c.toNat ≤ 126)
theorem i_text_l1 (s : Str) (low : UInt8) (kj : Option Bool) (hk : kj = some true) (hl : s.length ≤ 1000) : ∀ (n i N : Nat), i + n = s.length → n < N → i_isText_l1 kj s low N (i : Int) = some (isT (s.drop i) low.toNat) := by
  intro n
  induction n with
  | zero =>
    intro i N hi hN
    obtain ⟨N, rfl⟩ := pos_fuel hN
    have hz : ¬ (i : Int) < (s.length : Int) := by omega
    simp only [i_isText_l1, hz, decide_false, cond_false, hk]
    rw [List.drop_eq_nil_of_le (by omega)]; rfl
  | succ n ih =>
    intro i N hi hN
    obtain ⟨N, rfl⟩ := pos_fuel hN
    have hz : (i : Int) < (s.length : Int) := by omega
    simp only [i_isText_l1, hz, decide_true, cond_true]
    rw [idx_lt s i (by omega), w64_nat i (by omega), List.drop_eq_getElem_cons (by omega : i < s.length), ih (i + 1) N (by omega) (by omega)]
    simp only [Option.bind_some, orO_some, isT, List.all_cons]
    have e2 : (126 : UInt8).toNat = 126 := rfl
    have e : (decide (s[i] < low) || decide (s[i] > (126 : UInt8))) = !(decide (low.toNat ≤ s[i].toNat) && decide (s[i].toNat ≤ 126)) := by
      rw [Bool.eq_iff_iff]
      simp only [Bool.or_eq_true, Bool.not_eq_true', Bool.and_eq_false_iff, decide_eq_true_eq, decide_eq_false_iff_not, gt_iff_lt, UInt8.lt_iff_toNat_lt, e2]
      omega
    rw [e]
    cases decide (low.toNat ≤ s[i].toNat) && decide (s[i].toNat ≤ 126) <;> rfl
theorem i_text (s : Str) (low : UInt8) (most : Int) (hl : s.length ≤ 1000) (N : Nat) (hN : 1000 < N) : i_isText N s low most = some (decide ((s.length : Int) ≤ most) && isT s low.toNat) := by
  unfold i_isText
  simp only [withK_eq]
  by_cases h : (s.length : Int) > most
  · have h' : ¬ (s.length : Int) ≤ most := by omega
    simp [h, h']
  · have h' : (s.length : Int) ≤ most := by omega
    simp only [h, h', decide_false, cond_false, decide_true, Bool.true_and]
    exact i_text_l1 s low _ rfl hl s.length 0 N (by omega) (by omega)
theorem i_letter (s : Str) (N : Nat) (hN : 1000 < N) : i_isLetter N s = some (isL s) := by
  unfold i_isLetter isL
  match s with
  | [] => rfl
  | [c] =>
    have h0 : ((([c] : Str).length : Int) == 1) = true := rfl
    rw [i_text [c] 33 1 (by simp) N hN]
    simp only [h0, andO_true, Option.bind_some]
    have e1 : (33 : UInt8).toNat = 33 := rfl
    simp [isT, e1]
  | c :: d :: r =>
    have h0 : (((c :: d :: r : Str).length : Int) == 1) = false := by simp; omega
    simp only [h0, andO_false, Option.bind_some]
theorem s_text_l1 (s : Str) (kj : Option Bool) (b : Bool) (hk : kj = some b) (hl : s.length ≤ 1000) : ∀ (n i N : Nat), i + n = s.length → n < N → s_l02Text_l1 kj s N (i : Int) = some (isT (s.drop i) 33 && b) := by
  intro n
  induction n with
  | zero =>
    intro i N hi hN
    obtain ⟨N, rfl⟩ := pos_fuel hN
    have hz : ¬ (i : Int) < (s.length : Int) := by omega
    simp only [s_l02Text_l1, hz, decide_false, cond_false, hk]
    rw [List.drop_eq_nil_of_le (by omega)]; simp [isT]
  | succ n ih =>
    intro i N hi hN
    obtain ⟨N, rfl⟩ := pos_fuel hN
    have hz : (i : Int) < (s.length : Int) := by omega
    simp only [s_l02Text_l1, hz, decide_true, cond_true]
    rw [idx_lt s i (by omega), w64_nat i (by omega), List.drop_eq_getElem_cons (by omega : i < s.length), ih (i + 1) N (by omega) (by omega)]
    simp only [Option.bind_some, orO_some, isT, List.all_cons]
    have e1 : (33 : UInt8).toNat = 33 := rfl
    have e2 : (126 : UInt8).toNat = 126 := rfl
    have e : (decide (s[i] < 33) || decide (s[i] > (126 : UInt8))) = !(decide (33 ≤ s[i].toNat) && decide (s[i].toNat ≤ 126)) := by
      rw [Bool.eq_iff_iff]
      simp only [Bool.or_eq_true, Bool.not_eq_true', Bool.and_eq_false_iff, decide_eq_true_eq, decide_eq_false_iff_not, gt_iff_lt, UInt8.lt_iff_toNat_lt, e2, e1]
      omega
    rw [e]
    cases decide (33 ≤ s[i].toNat) && decide (s[i].toNat ≤ 126) <;> rfl
theorem s_text (s : Str) (hl : s.length ≤ 1000) (N : Nat) (hN : 1000 < N) : s_l02Text N s = some (isT s 33 && decide ((s.length : Int) ≤ 100)) := by
  unfold s_l02Text
  simp only [withK_eq]
  exact s_text_l1 s _ _ rfl hl s.length 0 N (by omega) (by omega)
/-- the press for a letter -/
def prsK (keys : List Key) (c : Str) : Press × Bool := if hasK keys c then (⟨(fndK c 0 keys).1, (fndK c 0 keys).2⟩, true) else (⟨0, false⟩, false)
theorem i_press_l1 (keys : List Key) (c : Str) (kj : Int → Bool → Option (Press × Bool)) (hk : ∀ a b, kj a b = some (⟨0, false⟩, false)) (hd : ∀ k ∈ keys, (k.low == k.high) = false) (hl : keys.length ≤ 1000) : ∀ (n i N : Nat) (a : Int) (b : Bool), i + n = keys.length → n < N → i_pressOf_l1 kj keys c N a b (i : Int) = some (if hasK (keys.drop i) c then (⟨(fndK c i (keys.drop i)).1, (fndK c i (keys.drop i)).2⟩, true) else (⟨0, false⟩, false)) := by
  intro n
  induction n with
  | zero =>
    intro i N a b hi hN
    obtain ⟨N, rfl⟩ := pos_fuel hN
    have hz : ¬ (i : Int) < (keys.length : Int) := by omega
    simp only [i_pressOf_l1, hz, decide_false, cond_false, hk]
    rw [List.drop_eq_nil_of_le (by omega)]; rfl
  | succ n ih =>
    intro i N a b hi hN
    obtain ⟨N, rfl⟩ := pos_fuel hN
    have hz : (i : Int) < (keys.length : Int) := by omega
    simp only [i_pressOf_l1, hz, decide_true, cond_true]
    rw [idx_lt keys i (by omega), w64_nat i (by omega), List.drop_eq_getElem_cons (by omega : i < keys.length), ih (i + 1) N a b (by omega) (by omega)]
    have hne := hd _ (List.getElem_mem (by omega : i < keys.length))
    simp only [Option.bind_some, fndK, orO_some, hasK_cons]
    cases h1 : keys[i].low == c
    · cases h2 : keys[i].high == c <;> simp
    · have h2 : (keys[i].high == c) = false := by
        rw [beq_iff_eq] at h1
        rw [← h1]
        rw [beq_eq_false_iff_ne] at hne ⊢
        exact fun e => hne e.symm
      simp [h2]
theorem i_press (keys : List Key) (c : Str) (hd : ∀ k ∈ keys, (k.low == k.high) = false) (hl : keys.length ≤ 1000) (N : Nat) (hN : 1000 < N) : i_pressOf N keys c = some (prsK keys c) := by
  unfold i_pressOf
  simp only [withK_eq]
  exact i_press_l1 keys c _ (fun _ _ => rfl) hd hl keys.length 0 N 0 false (by omega) (by omega)
end Go.Proofs.YtpodlgibcfbbiaaDoor
