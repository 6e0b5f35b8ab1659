/-
  Plain lemmas on these functions. No conditions but those that each states.
-/
import Derived.Test.YtbgngihmpdneaaaFnLessonSetsP4
namespace Go.Proofs.Ytbgngihmpdneaaa
set_option linter.unusedVariables false
set_option linter.unusedSimpArgs false
theorem ofInt_nat (m : Nat) : UInt8.ofInt (m : Int) = UInt8.ofNat m := by
  apply UInt8.toNat_inj.1
  have h1 := wrap_u8 (m : Int)
  have h2 : IntKind.u8.wrap (m : Int) = (m : Int) % 256 := by simp [IntKind.wrap, IntKind.bits, IntKind.signed]
  have h3 : (UInt8.ofNat m).toNat = m % 256 := by simp
  omega
theorem withK_n {A B : Type} (k : A) (b : A → B) : withK k b = b k := Eq.trans rfl rfl
theorem mget_mset (l : List (Str × Bool)) (k s : Str) : mget (mset l k true) s = (s == k || mget l s) := by
  induction l with
  | nil => simp only [mset, mget]; cases s == k <;> rfl
  | cons p r ih =>
    obtain ⟨a, b⟩ := p
    simp only [mset]
    by_cases h : k = a
    · subst h; simp only [beq_self_eq_true, cond_true, mget]; cases s == k <;> rfl
    · have : (k == a) = false := by simpa using h
      simp only [this, cond_false, mget]
      by_cases h2 : s = a
      · subst h2
        have : (s == k) = false := by simp; exact fun e => h e.symm
        simp [this]
      · have : (s == a) = false := by simpa using h2
        simp only [this, cond_false]; exact ih
def sml (c : UInt8) : Bool := decide (c ≥ 97) && decide (c ≤ 122)
def dig (c : UInt8) : Bool := decide (c ≥ 48) && decide (c ≤ 57)
def okc (c : UInt8) : Bool := sml c || (dig c || c == 45)
def nm (s : Str) : Bool := match s with
  | [] => false
  | c :: r => decide (r.length < 12) && (sml c && r.all okc)
theorem s_l01Small_eq (c : UInt8) : s_l01Small c = some (sml c) := by simp only [s_l01Small, andO_some, sml, Option.bind_some]
theorem s_l01Digit_eq (c : UInt8) : s_l01Digit c = some (dig c) := by simp only [s_l01Digit, andO_some, dig, Option.bind_some]
theorem i_isDigit_eq (c : UInt8) : i_isDigit c = some (dig c) := by simp only [i_isDigit, andO_some, dig, Option.bind_some]
theorem s_IsName_l1_eq (k : Option Bool) (s : Str) (ha : s.length ≤ LIM) : ∀ (n i N : Nat), i + n = s.length → n < N → s_IsName_l1 k s N (i : Int) = bif (s.drop i).all okc then k else some false := by
  intro n
  induction n with
  | zero =>
    intro i N h1 h3
    obtain ⟨N, rfl⟩ := pos_fuel h3
    have hi : ¬ ((i : Int) < (s.length : Int)) := by omega
    have e2 : s.drop i = [] := List.drop_of_length_le (by omega)
    simp only [s_IsName_l1, hi, decide_false, cond_false, e2, List.all_nil, cond_true]
  | succ n ih =>
    intro i N h1 h3
    obtain ⟨N, rfl⟩ := pos_fuel h3
    have hi : (i : Int) < (s.length : Int) := by omega
    have hn : i < s.length := by omega
    unfold LIM at ha
    simp only [s_IsName_l1, hi, decide_true, cond_true, idx_lt s i hn, Option.bind_some, s_l01Small_eq, s_l01Digit_eq, andO_some, w64_nat i (by omega), ih (i + 1) N (by omega) (by omega), drop_cons s i hn, List.all_cons, okc, bne]
    cases sml s[i] <;> cases dig s[i] <;> cases (s[i] == 45) <;> rfl
theorem i_IsName_l1_eq (k : Option Bool) (s : Str) (ha : s.length ≤ LIM) : ∀ (n i N : Nat), i + n = s.length → n < N → 0 < i → i_IsName_l1 k s N (i : Int) = bif (s.drop i).all okc then k else some false := by
  intro n
  induction n with
  | zero =>
    intro i N h1 h3 h0
    obtain ⟨N, rfl⟩ := pos_fuel h3
    have hi : ¬ ((i : Int) < (s.length : Int)) := by omega
    have e2 : s.drop i = [] := List.drop_of_length_le (by omega)
    simp only [i_IsName_l1, hi, decide_false, cond_false, e2, List.all_nil, cond_true]
  | succ n ih =>
    intro i N h1 h3 h0
    obtain ⟨N, rfl⟩ := pos_fuel h3
    have hi : (i : Int) < (s.length : Int) := by omega
    have hn : i < s.length := by omega
    have hz : ((i : Int) == 0) = false := by simp; omega
    unfold LIM at ha
    simp only [i_IsName_l1, hi, decide_true, cond_true, idx_lt s i hn, Option.bind_some, i_isDigit_eq, andO_some, orO_some, w64_nat i (by omega), ih (i + 1) N (by omega) (by omega) (by omega), drop_cons s i hn, List.all_cons, okc, sml, bne, hz]
    cases decide (s[i] ≥ 97) <;> cases decide (s[i] ≤ 122) <;> cases dig s[i] <;> cases (s[i] == 45) <;> rfl
theorem s_IsName_eq (N : Nat) (hN : 14 < N) (s : Str) : s_IsName N s = some (nm s) := by
  unfold s_IsName
  cases s with
  | nil => rfl
  | cons c r =>
    by_cases h : r.length < 12
    · have h' : ¬ (((c :: r).length : Int) > 12) := by simp; omega
      have e : (c :: r == []) = false := rfl
      have e2 : idx (c :: r) 0 = some c := rfl
      simp only [e, h', e2, orO_some, decide_false, Bool.or_false, Option.bind_some, s_l01Small_eq, Bool.false_or, withK_eq, nm, h, decide_true, Bool.true_and]
      have h0 : s_IsName_l1 (some true) (c :: r) N 0 = _ := s_IsName_l1_eq (some true) (c :: r) (by simp; unfold LIM; omega) (c :: r).length 0 N (by omega) (by simp; omega)
      rw [h0]
      simp only [List.drop_zero, List.all_cons, okc]
      cases sml c <;> cases r.all okc <;> simp
    · have h' : (((c :: r).length : Int) > 12) := by simp; omega
      have e : (c :: r == []) = false := rfl
      simp only [e, h', orO_some, decide_true, Bool.or_true, Option.bind_some, orO_true, cond_true, nm, h, decide_false, Bool.false_and]
theorem i_IsName_eq (N : Nat) (hN : 14 < N) (s : Str) : i_IsName N s = some (nm s) := by
  unfold i_IsName
  cases s with
  | nil => rfl
  | cons c r =>
    by_cases h : r.length < 12
    · have h' : ¬ (((c :: r).length : Int) > 12) := by simp; omega
      have e : (((c :: r).length : Int) == 0) = false := by simp; omega
      have e2 : idx (c :: r) 0 = some c := rfl
      have e3 : (0 : Int) < (((c :: r).length : Nat) : Int) := by simp only [List.length_cons]; omega
      obtain ⟨N, rfl⟩ := pos_fuel hN
      have e4 : w64 (0 + 1) = ((1 : Nat) : Int) := rfl
      have := i_IsName_l1_eq (some true) (c :: r) (by simp; unfold LIM; omega) r.length 1 N (by simp; omega) (by omega) (by omega)
      simp only [e, h', e2, orO_some, decide_false, Bool.or_false, Option.bind_some, Bool.false_or, withK_eq, nm, h, decide_true, Bool.true_and, cond_false, i_IsName_l1, e3, cond_true, andO_some, orO_true, beq_self_eq_true, Bool.and_true, e4, this, List.drop_one, List.tail_cons]
      show (bif !(sml c) then _ else _) = _
      cases sml c <;> cases r.all okc <;> rfl
    · have h' : (((c :: r).length : Int) > 12) := by simp; omega
      have e : (((c :: r).length : Int) == 0) = false := by simp; omega
      simp only [e, h', orO_some, decide_true, Bool.or_true, Option.bind_some, orO_true, cond_true, nm, h, decide_false, Bool.false_and]
/-! ## the parts -/
def inr (x lo hi : Int) : Bool := decide (x ≥ lo) && decide (x ≤ hi)
theorem s_l00In_eq (x lo hi : Int) : s_l00In x lo hi = some (inr x lo hi) := by simp only [s_l00In, andO_some, inr, Option.bind_some]
theorem i_between_eq (x lo hi : Int) : i_between x lo hi = some (inr x lo hi) := by simp only [i_between, andO_some, inr, Option.bind_some]
theorem inr_iff {x lo hi : Int} : inr x lo hi = true ↔ lo ≤ x ∧ x ≤ hi := by simp [inr]
theorem pigeon : ∀ (n : Nat) (l : List Nat), l.Nodup → (∀ x ∈ l, x < n) → l.length ≤ n := by
  intro n
  induction n with
  | zero => intro l _ h; cases l with
    | nil => simp
    | cons a r => exact absurd (h a (by simp)) (by omega)
  | succ n ih =>
    intro l hd h
    by_cases hm : n ∈ l
    · have h1 := ih (l.erase n) (hd.erase n) (fun x hx => by
        have := (hd.mem_erase_iff).1 hx
        have := h x this.2
        omega)
      rw [List.length_erase_of_mem hm] at h1; omega
    · have := ih l hd (fun x hx => by
        have h2 := h x hx
        have : x ≠ n := fun e => hm (e ▸ hx)
        omega)
      omega
/-- a sign that can be typed -/
def pr (c : UInt8) : Bool := !(decide (c < 32) || decide (c > 126))
theorem isText_l1_eq (s : Str) (ha : s.length ≤ LIM) : ∀ (n i N : Nat), i + n = s.length → n < N → ∀ K, s_l00Text_l1 K s N (i : Int) = (bif (s.drop i).all pr then K else some false) ∧ i_isText_l1 K s 32 N (i : Int) = (bif (s.drop i).all pr then K else some false) := by
  intro n
  induction n with
  | zero =>
    intro i N h1 h3 K
    obtain ⟨N, rfl⟩ := pos_fuel h3
    have hi : ¬ ((i : Int) < (s.length : Int)) := by omega
    have e2 : s.drop i = [] := List.drop_of_length_le (by omega)
    simp [s_l00Text_l1, i_isText_l1, hi, e2]
  | succ n ih =>
    intro i N h1 h3 K
    obtain ⟨N, rfl⟩ := pos_fuel h3
    have hi : (i : Int) < (s.length : Int) := by omega
    have hn : i < s.length := by omega
    unfold LIM at ha
    obtain ⟨h4, h5⟩ := ih (i + 1) N (by omega) (by omega) K
    simp only [s_l00Text_l1, i_isText_l1, hi, decide_true, cond_true, idx_lt s i hn, Option.bind_some, orO_some, w64_nat i (by omega), h4, h5, drop_cons s i hn, List.all_cons]
    have e : pr s[i] = !(decide (s[i] < 32) || decide (s[i] > 126)) := rfl
    rw [e]
    cases (decide (s[i] < 32) || decide (s[i] > 126)) <;> exact ⟨rfl, rfl⟩
def okT (s : Str) : Bool := decide ((s.length : Int) ≤ 100) && s.all pr
theorem Text_eq (N : Nat) (s : Str) (ha : s.length ≤ LIM) (hN : s.length < N) : s_l00Text N s 100 = some (okT s) ∧ i_isText N s 32 100 = some (okT s) := by
  have h := fun K => isText_l1_eq s ha s.length 0 N (by omega) hN K
  simp only [List.drop_zero] at h
  rw [show ((0 : Nat) : Int) = 0 from rfl] at h
  have e : decide ((s.length : Int) > 100) = !(decide ((s.length : Int) ≤ 100)) := by simp [← Int.not_le]
  unfold s_l00Text i_isText okT
  simp only [withK_eq, (h _).1, (h _).2, e]
  cases decide ((s.length : Int) ≤ 100) <;> cases s.all pr <;> exact ⟨rfl, rfl⟩
theorem okT_len {s : Str} (h : okT s = true) : s.length ≤ 100 := by
  unfold okT at h
  rw [Bool.and_eq_true, decide_eq_true_eq] at h
  omega
/-! Keys: what is found. -/
def isL (s : Str) : Bool := match s with
  | [c] => decide (33 ≤ c.toNat) && decide (c.toNat ≤ 126)
  | _ => false
/-- text of letters -/
def isT (s : Str) (low : Nat) : Bool := s.all fun c => decide (low ≤ c.toNat) && decide (c.toNat ≤ 126)
theorem i_text_l1 (s : Str) (low : UInt8) (kj : Option Bool) (hk : kj = some true) (hl : s.length ≤ 1000) : ∀ (n i N : Nat), i + n = s.length → n < N → i_isText_l1 kj s low N (i : Int) = some (isT (s.drop i) low.toNat) := by
  intro n
  induction n with
  | zero =>
    intro i N hi hN
    obtain ⟨N, rfl⟩ := pos_fuel hN
    have hz : ¬ (i : Int) < (s.length : Int) := by omega
    simp only [i_isText_l1, hz, decide_false, cond_false, hk]
    rw [List.drop_eq_nil_of_le (by omega)]; rfl
  | succ n ih =>
    intro i N hi hN
    obtain ⟨N, rfl⟩ := pos_fuel hN
    have hz : (i : Int) < (s.length : Int) := by omega
    simp only [i_isText_l1, hz, decide_true, cond_true]
    rw [idx_lt s i (by omega), w64_nat i (by omega), List.drop_eq_getElem_cons (by omega : i < s.length), ih (i + 1) N (by omega) (by omega)]
    simp only [Option.bind_some, orO_some, isT, List.all_cons]
    have e2 : (126 : UInt8).toNat = 126 := rfl
    have e : (decide (s[i] < low) || decide (s[i] > (126 : UInt8))) = !(decide (low.toNat ≤ s[i].toNat) && decide (s[i].toNat ≤ 126)) := by
      rw [Bool.eq_iff_iff]
      simp only [Bool.or_eq_true, Bool.not_eq_true', Bool.and_eq_false_iff, decide_eq_true_eq, decide_eq_false_iff_not, gt_iff_lt, UInt8.lt_iff_toNat_lt, e2]
      omega
    rw [e]
    cases decide (low.toNat ≤ s[i].toNat) && decide (s[i].toNat ≤ 126) <;> rfl
theorem i_text (s : Str) (low : UInt8) (most : Int) (hl : s.length ≤ 1000) (N : Nat) (hN : 1000 < N) : i_isText N s low most = some (decide ((s.length : Int) ≤ most) && isT s low.toNat) := by
  unfold i_isText
  simp only [withK_eq]
  by_cases h : (s.length : Int) > most
  · have h' : ¬ (s.length : Int) ≤ most := by omega
    simp [h, h']
  · have h' : (s.length : Int) ≤ most := by omega
    simp only [h, h', decide_false, cond_false, decide_true, Bool.true_and]
    exact i_text_l1 s low _ rfl hl s.length 0 N (by omega) (by omega)
theorem s_text_l1 (s : Str) (kj : Option Bool) (b : Bool) (hk : kj = some b) (hl : s.length ≤ 1000) : ∀ (n i N : Nat), i + n = s.length → n < N → s_l02Text_l1 kj s N (i : Int) = some (isT (s.drop i) 33 && b) := by
  intro n
  induction n with
  | zero =>
    intro i N hi hN
    obtain ⟨N, rfl⟩ := pos_fuel hN
    have hz : ¬ (i : Int) < (s.length : Int) := by omega
    simp only [s_l02Text_l1, hz, decide_false, cond_false, hk]
    rw [List.drop_eq_nil_of_le (by omega)]; simp [isT]
  | succ n ih =>
    intro i N hi hN
    obtain ⟨N, rfl⟩ := pos_fuel hN
    have hz : (i : Int) < (s.length : Int) := by omega
    simp only [s_l02Text_l1, hz, decide_true, cond_true]
    rw [idx_lt s i (by omega), w64_nat i (by omega), List.drop_eq_getElem_cons (by omega : i < s.length), ih (i + 1) N (by omega) (by omega)]
    simp only [Option.bind_some, orO_some, isT, List.all_cons]
    have e1 : (33 : UInt8).toNat = 33 := rfl
    have e2 : (126 : UInt8).toNat = 126 := rfl
    have e : (decide (s[i] < 33) || decide (s[i] > (126 : UInt8))) = !(decide (33 ≤ s[i].toNat) && decide (s[i].toNat ≤ 126)) := by
      rw [Bool.eq_iff_iff]
      simp only [Bool.or_eq_true, Bool.not_eq_true', Bool.and_eq_false_iff, decide_eq_true_eq, decide_eq_false_iff_not, gt_iff_lt, UInt8.lt_iff_toNat_lt, e2, e1]
      omega
    rw [e]
    cases decide (33 ≤ s[i].toNat) && decide (s[i].toNat ≤ 126) <;> rfl
theorem s_text (s : Str) (hl : s.length ≤ 1000) (N : Nat) (hN : 1000 < N) : s_l02Text N s = some (isT s 33 && decide ((s.length : Int) ≤ 100)) := by
  unfold s_l02Text
  simp only [withK_eq]
  exact s_text_l1 s _ _ rfl hl s.length 0 N (by omega) (by omega)
/-! Letters and presses of keys. -/
def putC : Str → UInt8 → Str
  | [], c => [c]
  | x :: r, c => if x < c then x :: putC r c else if x == c then x :: r else c :: x :: r
theorem putC_len (l : Str) (c : UInt8) : (putC l c).length ≤ l.length + 1 := by
  induction l with
  | nil => simp [putC]
  | cons x r ih =>
    unfold putC; split
    · simp; omega
    · split <;> simp
theorem s_put_l1 (l : Str) (c : UInt8) (kj : Int → Option Str) (hl : l.length ≤ 1000) (hkj : ∀ k : Nat, k ≤ l.length → kj (k : Int) = (bif decide (k < l.length) && (l[k]?.getD 0 == c) then some l else some (l.take k ++ [c] ++ l.drop k))) : ∀ (n k N : Nat), k + n = l.length → n < N → s_l02PutLetter_l1 kj l [c] N (k : Int) = some (l.take k ++ putC (l.drop k) c) := by
  intro n
  induction n with
  | zero =>
    intro k N hk hN
    obtain ⟨N, rfl⟩ := pos_fuel hN
    have hz : ¬ (k : Int) < (l.length : Int) := by omega
    simp only [s_l02PutLetter_l1, hz, decide_false, andO_false, Option.bind_some, cond_false]
    rw [hkj k (by omega)]
    have h2 : ¬ k < l.length := by omega
    simp only [h2, decide_false, Bool.false_and, cond_false]
    rw [List.drop_eq_nil_of_le (by omega)]
    simp [putC]
  | succ n ih =>
    intro k N hk hN
    obtain ⟨N, rfl⟩ := pos_fuel hN
    have hz : (k : Int) < (l.length : Int) := by omega
    have hc : idx ([c] : Str) 0 = some c := rfl
    simp only [s_l02PutLetter_l1, hz, decide_true, andO_true]
    rw [idx_lt l k (by omega), hc, w64_nat k (by omega), ih (k + 1) N (by omega) (by omega), hkj k (by omega)]
    simp only [Option.bind_some]
    have h2 : k < l.length := by omega
    rw [List.drop_eq_getElem_cons h2]
    have ht := List.take_succ_eq_append_getElem h2
    simp only [putC, h2, decide_true, Bool.true_and, List.getElem?_eq_getElem, Option.getD_some]
    by_cases h3 : l[k] < c
    · simp only [h3, decide_true, cond_true, if_true]; rw [ht, List.append_assoc]; rfl
    · simp only [h3, decide_false, cond_false, if_false]
      cases h4 : l[k] == c
      · simp
      · simp only [cond_true, if_true]
        rw [← List.drop_eq_getElem_cons h2, List.take_append_drop]
theorem s_put (l : Str) (c : UInt8) (hl : l.length ≤ 1000) (N : Nat) (hN : 1000 < N) : s_l02PutLetter N l [c] = some (putC l c) := by
  unfold s_l02PutLetter
  simp only [withK_eq]
  have h := s_put_l1 l c (fun (k3 : Int) =>
    (andO (decide (k3 < (List.length l : Int))) ((idx l k3).bind fun c18 =>
    (idx ([c] : Str) 0).bind fun c20 =>
    some (c18 == c20))).bind fun t15 =>
    bif t15 then
    some l
    else
    (sub l 0 k3).bind fun s23 =>
    (cat s23 [c]).bind fun s25 =>
    (sub l k3 (List.length l : Int)).bind fun s27 =>
    (cat s25 s27).bind fun s29 =>
    some s29) hl (fun k hk => by
      have hc : idx ([c] : Str) 0 = some c := rfl
      have hs1 : sub l 0 (k : Int) = some (l.take k) := by rw [sub_some l 0 k (by omega) (by omega) (by omega)]; simp
      have hs2 : sub l (k : Int) (l.length : Int) = some (l.drop k) := by
        rw [sub_some l k _ (by omega) (by omega) (by omega)]
        have e1 : ((k : Int)).toNat = k := by omega
        have e2 : ((l.length : Int)).toNat = l.length := by omega
        rw [e1, e2, List.take_of_length_le (by rw [List.length_drop]; omega)]
      have hc1 : cat (l.take k) [c] = some (l.take k ++ [c]) := cat_some _ _ (by unfold LIM; rw [List.length_take]; simp; omega)
      have hc2 : cat (l.take k ++ [c]) (l.drop k) = some (l.take k ++ [c] ++ l.drop k) := cat_some _ _ (by unfold LIM; rw [List.length_append, List.length_take, List.length_drop]; simp; omega)
      by_cases h2 : k < l.length
      · have hz : (k : Int) < (l.length : Int) := by omega
        simp only [hz, h2, decide_true, andO_true, idx_lt l k h2, hc, hs1, hs2, hc1, hc2, Option.bind_some, Bool.true_and, List.getElem?_eq_getElem, Option.getD_some]
      · have hz : ¬ (k : Int) < (l.length : Int) := by omega
        simp only [hz, h2, decide_false, andO_false, hs1, hs2, hc1, hc2, Option.bind_some, Bool.false_and, cond_false]) l.length 0 N (by omega) (by omega)
  simpa using h
/-! Marked letters. -/
def Ris (l : Str) : Prop := l.Pairwise fun a b => a.toNat < b.toNat
theorem ris_ext : ∀ (a b : Str), Ris a → Ris b → (∀ x, x ∈ a ↔ x ∈ b) → a = b
  | [], [], _, _, _ => rfl
  | [], y :: b, _, _, h => by have := (h y).2 (by simp); simp at this
  | x :: a, [], _, _, h => by have := (h x).1 (by simp); simp at this
  | x :: a, y :: b, ha, hb, h => by
    have ha := List.pairwise_cons.1 ha
    have hb := List.pairwise_cons.1 hb
    have hxy : x = y := by
      have h1 := (h x).1 (by simp)
      have h2 := (h y).2 (by simp)
      rcases List.mem_cons.1 h1 with e | h1
      · exact e
      · rcases List.mem_cons.1 h2 with e | h2
        · exact e.symm
        · have := hb.1 x h1; have := ha.1 y h2; omega
    subst hxy
    rw [ris_ext a b ha.2 hb.2 fun z => ?_]
    constructor
    · intro hz
      rcases List.mem_cons.1 ((h z).1 (by simp [hz])) with e | h1
      · subst e; have := ha.1 z hz; omega
      · exact h1
    · intro hz
      rcases List.mem_cons.1 ((h z).2 (by simp [hz])) with e | h1
      · subst e; have := hb.1 z hz; omega
      · exact h1
theorem putC_mem (c x : UInt8) : ∀ l : Str, x ∈ putC l c ↔ x = c ∨ x ∈ l := by
  intro l
  induction l with
  | nil => simp [putC]
  | cons y r ih =>
    unfold putC
    split
    · simp only [List.mem_cons, ih]
      constructor
      · rintro (h | h | h)
        · exact .inr (.inl h)
        · exact .inl h
        · exact .inr (.inr h)
      · rintro (h | h | h)
        · exact .inr (.inl h)
        · exact .inl h
        · exact .inr (.inr h)
    · split
      · rename_i h
        have e : y = c := by simpa using h
        subst e
        simp
      · simp
theorem putC_ris (c : UInt8) : ∀ l : Str, Ris l → Ris (putC l c) := by
  intro l
  induction l with
  | nil => intro _; exact List.pairwise_singleton _ _
  | cons y r ih =>
    intro h
    have h' := List.pairwise_cons.1 h
    unfold putC
    split
    · rename_i hlt
      refine List.pairwise_cons.2 ⟨fun z hz => ?_, ih h'.2⟩
      rcases (putC_mem c z r).1 hz with e | hz
      · subst e; exact UInt8.lt_iff_toNat_lt.1 hlt
      · exact h'.1 z hz
    · split
      · exact h
      · rename_i hlt hne
        have h1 : ¬ y.toNat < c.toNat := fun g => hlt (UInt8.lt_iff_toNat_lt.2 g)
        have h2 : y.toNat ≠ c.toNat := fun g => hne (by simp [UInt8.toNat_inj.1 g])
        refine List.pairwise_cons.2 ⟨fun z hz => ?_, h⟩
        rcases List.mem_cons.1 hz with e | hz
        · subst e; omega
        · have := h'.1 z hz; omega
def ascF (t : List Bool) : Nat → Nat → Str
  | _, 0 => []
  | i, n + 1 => if t[i]?.getD false then UInt8.ofNat i :: ascF t (i + 1) n else ascF t (i + 1) n
theorem ascF_mem (t : List Bool) (c : UInt8) : ∀ (n i : Nat), i + n ≤ 256 → (c ∈ ascF t i n ↔ i ≤ c.toNat ∧ c.toNat < i + n ∧ t[c.toNat]?.getD false = true) := by
  intro n
  induction n with
  | zero => intro i _; simp only [ascF, List.not_mem_nil, false_iff]; omega
  | succ n ih =>
    intro i h
    unfold ascF
    have hi : (UInt8.ofNat i).toNat = i := by simp; omega
    have hc : c = UInt8.ofNat i ↔ c.toNat = i := by rw [← UInt8.toNat_inj, hi]
    split
    · rename_i hb
      rw [List.mem_cons, ih (i + 1) (by omega), hc]
      constructor
      · rintro (h | h)
        · rw [h]; exact ⟨by omega, by omega, hb⟩
        · exact ⟨by omega, by omega, h.2.2⟩
      · rintro ⟨h1, h2, h3⟩
        by_cases h4 : c.toNat = i
        · exact .inl h4
        · exact .inr ⟨by omega, by omega, h3⟩
    · rename_i hb
      rw [ih (i + 1) (by omega)]
      constructor
      · rintro h; exact ⟨by omega, by omega, h.2.2⟩
      · rintro ⟨h1, h2, h3⟩
        refine ⟨?_, by omega, h3⟩
        by_cases h4 : c.toNat = i
        · rw [h4] at h3; exact absurd h3 hb
        · omega
theorem ascF_ris (t : List Bool) : ∀ (n i : Nat), i + n ≤ 256 → Ris (ascF t i n) := by
  intro n
  induction n with
  | zero => intro i _; exact List.Pairwise.nil
  | succ n ih =>
    intro i h
    unfold ascF
    split
    · refine List.pairwise_cons.2 ⟨fun z hz => ?_, ih (i + 1) (by omega)⟩
      have := (ascF_mem t z n (i + 1) (by omega)).1 hz
      have hi : (UInt8.ofNat i).toNat = i := by simp; omega
      omega
    · exact ih (i + 1) (by omega)
theorem i_asc_l1 (t : List Bool) (ht : t.length = 256) (kj : List UInt8 → Option Str) (hk : ∀ l, kj l = some l) : ∀ (n i N : Nat) (l : List UInt8), i + n = 256 → n < N → l.length ≤ i → i_ascending_l1 kj t N l (i : Int) = some (l ++ ascF t i n) := by
  intro n
  induction n with
  | zero =>
    intro i N l hi hN hl
    obtain ⟨N, rfl⟩ := pos_fuel hN
    have hz : ¬ (i : Int) < 256 := by omega
    simp only [i_ascending_l1, hz, decide_false, cond_false, hk, ascF, List.append_nil]
  | succ n ih =>
    intro i N l hi hN hl
    obtain ⟨N, rfl⟩ := pos_fuel hN
    have hz : (i : Int) < 256 := by omega
    simp only [i_ascending_l1, hz, decide_true, cond_true, withK_eq]
    rw [idx_lt t i (by omega), w64_nat i (by omega), ofInt_nat]
    simp only [Option.bind_some, ascF, List.getElem?_eq_getElem (show i < t.length by omega), Option.getD_some]
    cases t[i]
    · simp only [cond_false, Bool.false_eq_true, if_false]
      exact ih (i + 1) N l (by omega) (by omega) (by omega)
    · simp only [cond_true, if_true]
      rw [app_some _ _ (by unfold LIM; simp; omega)]
      simp only [Option.bind_some]
      rw [ih (i + 1) N _ (by omega) (by omega) (by simp; omega), List.append_assoc]
      rfl
/-- a table marks letters -/
def Mrk (t : List Bool) (o : Str) : Prop := t.length = 256 ∧ Ris o ∧ ∀ c : UInt8, t[c.toNat]?.getD false = true ↔ c ∈ o
theorem Mrk.nil : Mrk (List.replicate 256 false) [] := ⟨List.length_replicate, List.Pairwise.nil, fun c => by
  have : c.toNat < 256 := c.toNat_lt
  rw [List.getElem?_replicate, if_pos this]
  exact ⟨fun h => (Bool.false_ne_true h).elim, fun h => (List.not_mem_nil h).elim⟩⟩
theorem Mrk.put {t : List Bool} {o : Str} (h : Mrk t o) (c : UInt8) : Mrk (t.set c.toNat true) (putC o c) := by
  obtain ⟨h1, h2, h3⟩ := h
  refine ⟨by rw [List.length_set]; exact h1, putC_ris c o h2, fun x => ?_⟩
  have hc : c.toNat < t.length := by rw [h1]; exact c.toNat_lt
  rw [putC_mem, ← h3 x]
  by_cases e : c.toNat = x.toNat
  · have e2 : x = c := (UInt8.toNat_inj.1 e).symm
    subst e2
    rw [List.getElem?_set_self hc]
    simp
  · rw [List.getElem?_set_ne e]
    have e2 : x ≠ c := fun g => e (by rw [g])
    simp [e2]
theorem Mrk.idx {t : List Bool} {o : Str} (h : Mrk t o) (c : UInt8) : ∃ b, idx t (c.toNat : Int) = some b := ⟨_, idx_lt t c.toNat (by rw [h.1]; exact c.toNat_lt)⟩
theorem Mrk.asc {t : List Bool} {o : Str} (h : Mrk t o) (N : Nat) (hN : 300 < N) : i_ascending N t = some o := by
  unfold i_ascending
  simp only [withK_eq]
  have e := i_asc_l1 t h.1 (fun l5 => some l5) (fun _ => rfl) 256 0 N [] (by omega) (by omega) (by simp)
  simp only [Int.natCast_zero, List.nil_append] at e
  rw [e]
  refine congrArg some (ris_ext _ _ (ascF_ris t 256 0 (by omega)) h.2.1 fun x => ?_)
  rw [ascF_mem t x 256 0 (by omega), h.2.2 x]
  have := x.toNat_lt
  constructor
  · exact fun g => g.2.2
  · exact fun g => ⟨by omega, by omega, g⟩
/-! Strictly rising lists. -/
theorem sorted_ext : ∀ (a b : List Int), a.Pairwise (· < ·) → b.Pairwise (· < ·) → (∀ x, x ∈ a ↔ x ∈ b) → a = b
  | [], [], _, _, _ => rfl
  | [], y :: b, _, _, h => by have := (h y).2 (by simp); simp at this
  | x :: a, [], _, _, h => by have := (h x).1 (by simp); simp at this
  | x :: a, y :: b, ha, hb, h => by
    rw [List.pairwise_cons] at ha hb
    have hxy : x = y := by
      have h1 := (h x).1 (by simp)
      have h2 := (h y).2 (by simp)
      rcases List.mem_cons.1 h1 with e | h1
      · exact e
      · rcases List.mem_cons.1 h2 with e | h2
        · exact e.symm
        · have := hb.1 x h1; have := ha.1 y h2; omega
    subst hxy
    rw [sorted_ext a b ha.2 hb.2 fun z => ?_]
    constructor
    · intro hz
      rcases List.mem_cons.1 ((h z).1 (by simp [hz])) with e | h1
      · subst e; have := ha.1 z hz; omega
      · exact h1
    · intro hz
      rcases List.mem_cons.1 ((h z).2 (by simp [hz])) with e | h1
      · subst e; have := hb.1 z hz; omega
      · exact h1
theorem sorted_len (b : Int) : ∀ (l : List Int) (a : Int), l.Pairwise (· < ·) → (∀ x ∈ l, a ≤ x ∧ x ≤ b) → l = [] ∨ (l.length : Int) ≤ b - a + 1
  | [], _, _, _ => .inl rfl
  | x :: l, a, h, hx => by
    rw [List.pairwise_cons] at h
    have h1 := hx x (by simp)
    rcases sorted_len b l (x + 1) h.2 (fun y hy => ⟨by have := h.1 y hy; omega, (hx y (by simp [hy])).2⟩) with e | e
    · subst e; right; simp; omega
    · right; simp; omega
theorem sorted_snoc {l : List Int} {x : Int} (h : l.Pairwise (· < ·)) (hx : ∀ y ∈ l, y < x) : (l ++ [x]).Pairwise (· < ·) := by
  rw [List.pairwise_append]
  exact ⟨h, by simp, fun a ha b hb => by rw [List.mem_singleton.1 hb]; exact hx a ha⟩
/-! A number put into its place among rising ones. -/
def putR (c : Int) : List Int → List Int
  | [] => [c]
  | x :: l => if x < c then x :: putR c l else if x = c then x :: l else c :: x :: l
theorem mem_putR (c : Int) : ∀ (l : List Int) (x : Int), x ∈ putR c l ↔ x = c ∨ x ∈ l
  | [], x => by simp [putR]
  | y :: l, x => by
    unfold putR
    split
    · rw [List.mem_cons, mem_putR c l x, List.mem_cons]
      constructor
      · rintro (h | h | h) <;> simp [h]
      · rintro (h | h | h) <;> simp [h]
    · split
      · rename_i e
        subst e
        simp
      · simp
theorem putR_sorted (c : Int) : ∀ (l : List Int), l.Pairwise (· < ·) → (putR c l).Pairwise (· < ·)
  | [], _ => by simp [putR]
  | y :: l, h => by
    rw [List.pairwise_cons] at h
    unfold putR
    split
    · rename_i hy
      rw [List.pairwise_cons]
      refine ⟨fun x hx => ?_, putR_sorted c l h.2⟩
      rcases (mem_putR c l x).1 hx with e | hx
      · omega
      · exact h.1 x hx
    · split
      · rw [List.pairwise_cons]; exact h
      · rw [List.pairwise_cons]
        refine ⟨fun x hx => ?_, by rw [List.pairwise_cons]; exact h⟩
        rcases List.mem_cons.1 hx with e | hx
        · omega
        · have := h.1 x hx; omega
theorem putR_len (c : Int) : ∀ (l : List Int), (putR c l).length ≤ l.length + 1
  | [] => by simp [putR]
  | y :: l => by
    unfold putR
    split
    · simp only [List.length_cons]; have := putR_len c l; omega
    · split <;> simp
theorem PutDone (l : List Int) (c : Int) (ha : l.length ≤ 1000) : ∀ (n i N : Nat) (o : List Int), i + n = l.length → n < N → o.length ≤ i + 1 → ∀ K, s_l00Put_l1 K l c N o true (i : Int) = K (o ++ l.drop i) true := by
  intro n
  induction n with
  | zero =>
    intro i N o h1 h3 h4 K
    obtain ⟨N, rfl⟩ := pos_fuel h3
    have hi : ¬ ((i : Int) < (l.length : Int)) := by omega
    have e2 : l.drop i = [] := List.drop_of_length_le (by omega)
    simp [s_l00Put_l1, hi, e2]
  | succ n ih =>
    intro i N o h1 h3 h4 K
    obtain ⟨N, rfl⟩ := pos_fuel h3
    have hi : (i : Int) < (l.length : Int) := by omega
    have hn : i < l.length := by omega
    have ea : app o [l[i]] = some (o ++ [l[i]]) := app_some _ _ (by simp; unfold LIM; omega)
    simp only [s_l00Put_l1, hi, decide_true, cond_true, withK_eq, Bool.not_true, andO_false, Option.bind_some, cond_false, idx_lt l i hn, ea, w64_nat i (by omega)]
    rw [ih (i + 1) N (o ++ [l[i]]) (by omega) (by omega) (by simp; omega) K, drop_cons l i hn]
    simp
theorem Put_l1 (l : List Int) (c : Int) (ha : l.length ≤ 1000) (K : List Int → Bool → Option (List Int)) (hK1 : ∀ o, K o true = some o) (hK2 : ∀ o, o.length ≤ 1001 → K o false = some (o ++ [c])) : ∀ (n i N : Nat) (o : List Int), i + n = l.length → n < N → o.length = i → s_l00Put_l1 K l c N o false (i : Int) = some (o ++ putR c (l.drop i)) := by
  intro n
  induction n with
  | zero =>
    intro i N o h1 h3 h4
    obtain ⟨N, rfl⟩ := pos_fuel h3
    have hi : ¬ ((i : Int) < (l.length : Int)) := by omega
    have e2 : l.drop i = [] := List.drop_of_length_le (by omega)
    simp only [s_l00Put_l1, hi, decide_false, cond_false, e2, putR, hK2 o (by omega)]
  | succ n ih =>
    intro i N o h1 h3 h4
    obtain ⟨N, rfl⟩ := pos_fuel h3
    have hi : (i : Int) < (l.length : Int) := by omega
    have hn : i < l.length := by omega
    have ea : app o [l[i]] = some (o ++ [l[i]]) := app_some _ _ (by simp; unfold LIM; omega)
    simp only [s_l00Put_l1, hi, decide_true, cond_true, withK_eq, Bool.not_false, andO_true, idx_lt l i hn, Option.bind_some]
    rw [drop_cons l i hn]
    by_cases hc : l[i] < c
    · have hn1 : ¬ l[i] ≥ c := by omega
      simp only [hn1, decide_false, cond_false, ea, Option.bind_some, w64_nat i (by omega)]
      rw [ih (i + 1) N (o ++ [l[i]]) (by omega) (by omega) (by simp; omega)]
      simp [putR, hc]
    · have hn1 : l[i] ≥ c := by omega
      simp only [hn1, decide_true, cond_true]
      by_cases he : l[i] = c
      · have hn2 : ¬ l[i] > c := by omega
        simp only [hn2, decide_false, cond_false, ea, Option.bind_some, w64_nat i (by omega)]
        rw [PutDone l c ha n (i + 1) N _ (by omega) (by omega) (by simp; omega), hK1]
        have hn3 : ¬ c < c := by omega
        simp [putR, he, hn3]
      · have hn2 : l[i] > c := by omega
        have eb : app o [c] = some (o ++ [c]) := app_some _ _ (by simp; unfold LIM; omega)
        have ec : app (o ++ [c]) [l[i]] = some (o ++ [c] ++ [l[i]]) := app_some _ _ (by simp; unfold LIM; omega)
        simp only [hn2, decide_true, cond_true, eb, Option.bind_some, ec, w64_nat i (by omega)]
        rw [PutDone l c ha n (i + 1) N _ (by omega) (by omega) (by simp; omega), hK1]
        simp [putR, he, hc]
theorem Put_ok (N : Nat) (l : List Int) (c : Int) (ha : l.length ≤ 1000) (hN : l.length < N) : s_l00Put N l c = some (putR c l) := by
  unfold s_l00Put
  simp only [withK_eq]
  have := Put_l1 l c ha (fun l6 done8 => bif !done8 then (app l6 [c]).bind fun l55 => some l55 else some l6) (fun o => rfl) (fun o ho => by
    simp only [Bool.not_false, cond_true]; rw [app_some _ _ (by unfold LIM; simp; omega), Option.bind_some]) l.length 0 N [] (by omega) hN rfl
  rw [show ((0 : Nat) : Int) = 0 from rfl] at this
  rw [this]
  simp
theorem Has_l1_eq (l : List Int) (c : Int) (ha : l.length ≤ LIM) : ∀ (n i N : Nat), i + n = l.length → n < N → s_l00Has_l1 (some false) l c N (i : Int) = some ((l.drop i).any (· == c)) ∧ w_f6has_l1 (some false) l c N (i : Int) = some ((l.drop i).any (· == c)) := by
  intro n
  induction n with
  | zero =>
    intro i N h1 h3
    obtain ⟨N, rfl⟩ := pos_fuel h3
    have hi : ¬ ((i : Int) < (l.length : Int)) := by omega
    have e2 : l.drop i = [] := List.drop_of_length_le (by omega)
    simp [s_l00Has_l1, w_f6has_l1, hi, e2]
  | succ n ih =>
    intro i N h1 h3
    obtain ⟨N, rfl⟩ := pos_fuel h3
    have hi : (i : Int) < (l.length : Int) := by omega
    have hn : i < l.length := by omega
    unfold LIM at ha
    obtain ⟨h4, h5⟩ := ih (i + 1) N (by omega) (by omega)
    simp only [s_l00Has_l1, w_f6has_l1, hi, decide_true, cond_true, idx_lt l i hn, Option.bind_some, w64_nat i (by omega), h4, h5, drop_cons l i hn, List.any_cons]
    cases (l[i] == c) <;> exact ⟨rfl, rfl⟩
theorem Has_eq (N : Nat) (l : List Int) (c : Int) (ha : l.length ≤ LIM) (hN : l.length < N) : s_l00Has N l c = some (l.any (· == c)) ∧ w_f6has N l c = some (l.any (· == c)) := by
  obtain ⟨h1, h2⟩ := Has_l1_eq l c ha l.length 0 N (by omega) hN
  exact ⟨by simpa [s_l00Has] using h1, by simpa [w_f6has] using h2⟩
/-! What drills train. -/
/-- a table marks letters -/
def Tb (t : List Bool) (s : List UInt8) : Prop := t.length = 256 ∧ ∀ c : UInt8, t[c.toNat]?.getD false = decide (c ∈ s)
theorem Tb.nil : Tb (List.replicate 256 false) [] := ⟨List.length_replicate, fun c => by
  have : c.toNat < 256 := c.toNat_lt
  rw [List.getElem?_replicate, if_pos this]
  rfl⟩
theorem Tb.put {t : List Bool} {s : List UInt8} (h : Tb t s) (c : UInt8) : Tb (t.set c.toNat true) (s ++ [c]) := by
  obtain ⟨h1, h2⟩ := h
  refine ⟨by rw [List.length_set]; exact h1, fun x => ?_⟩
  have hc : c.toNat < t.length := by rw [h1]; exact c.toNat_lt
  by_cases e : c.toNat = x.toNat
  · have e2 : x = c := (UInt8.toNat_inj.1 e).symm
    subst e2
    rw [List.getElem?_set_self hc]
    simp
  · rw [List.getElem?_set_ne e, h2 x]
    have e2 : x ≠ c := fun g => e (by rw [g])
    simp [e2]
theorem Tb.idx {t : List Bool} {s : List UInt8} (h : Tb t s) (c : UInt8) : idx t (c.toNat : Int) = some (decide (c ∈ s)) := by
  have hc : c.toNat < t.length := by rw [h.1]; exact c.toNat_lt
  rw [idx_lt t c.toNat hc, ← h.2 c, List.getElem?_eq_getElem hc]
  rfl
/-- indices of a list -/
def Ix (sel : List Nat) (n : Nat) : Prop := sel.length ≤ 100 ∧ ∀ i ∈ sel, i < n
def ints (sel : List Nat) : List Int := sel.map fun (i : Nat) => (i : Int)
theorem ints_len (sel : List Nat) : (ints sel).length = sel.length := by simp [ints]
theorem ints_get (sel : List Nat) (k : Nat) (h : k < sel.length) : idx (ints sel) (k : Int) = some (sel[k] : Int) := by
  rw [idx_lt _ k (by rw [ints_len]; exact h)]
  simp [ints]
/-- what is covered -/
def cov (T : Str) (ls : Str) (cs : List Int) : Int := ((ls.zip cs).map fun p => if p.1 ∈ T then p.2 else 0).sum
theorem cov_cons (T : Str) (x : UInt8) (c : Int) (xs : Str) (cs : List Int) : cov T (x :: xs) (c :: cs) = (if x ∈ T then c else 0) + cov T xs cs := by simp [cov]
/-- what is left -/
def lft (T : Str) (ls : Str) : Str := ls.filter fun c => !decide (c ∈ T)
theorem lft_cons (T : Str) (x : UInt8) (xs : Str) : lft T (x :: xs) = if x ∈ T then lft T xs else x :: lft T xs := by
  unfold lft
  by_cases h : x ∈ T <;> simp [h]
/-! Chosen drills: the bits of a number. -/
def bits (k n : Nat) : List Nat := (List.range n).filter fun i => k.testBit i
theorem range'_filter (k : Nat) : ∀ (n i : Nat), (List.range' i n).filter (fun j => k.testBit j) = (List.range' i n).filter (fun j => k.testBit j) := fun _ _ => rfl
theorem bits_ix (k m : Nat) (hm : m ≤ 6) : Ix (bits k m) m := by
  refine ⟨?_, fun i hi => ?_⟩
  · have := List.length_filter_le (fun i => k.testBit i) (List.range m)
    rw [List.length_range] at this
    unfold bits; omega
  · exact List.mem_range.1 (List.mem_filter.1 hi).1
theorem bits_low : ∀ n : Nat, n < 7 → ∀ k : Nat, k < 64 → (∀ i : Nat, i < 6 → n ≤ i → k.testBit i = false) → k < 2 ^ n := by decide +kernel
theorem shl_ok : ∀ n : Nat, n < 7 → shlO 1 (n : Int) = some ((2 ^ n : Nat) : Int) := by decide +kernel
/-- a valid choice of indices -/
def RI (l : List Int) (n : Nat) : Prop := l.length ≤ 100 ∧ (∀ i, ∀ h : i < l.length, 0 ≤ l[i] ∧ l[i] < n) ∧ ∀ i, ∀ h : i + 1 < l.length, l[i] < l[i + 1]
theorem areIx_l1 (l : List Int) (n : Nat) (hn : n ≤ 1000) (h : RI l n) (kj : Option Bool) (hk : kj = some true) : ∀ (q i N : Nat), i + q = l.length → q < N → i_areIndices_l1 kj l (n : Int) N (i : Int) = some true := by
  intro q
  induction q with
  | zero =>
    intro i N hi hN
    obtain ⟨N, rfl⟩ := pos_fuel hN
    have hz : ¬ (i : Int) < (l.length : Int) := by omega
    simp only [i_areIndices_l1, hz, decide_false, cond_false, hk]
  | succ q ih =>
    intro i N hi hN
    obtain ⟨N, rfl⟩ := pos_fuel hN
    have hz : (i : Int) < (l.length : Int) := by omega
    have hlt : i < l.length := by omega
    obtain ⟨v1, v2⟩ := h.2.1 i hlt
    have hb : (decide (l[i] ≥ 0) && decide (l[i] ≤ (n : Int) - 1)) = true := by
      have : l[i] ≤ (n : Int) - 1 := by omega
      simp [v1, this]
    have h1 := h.1
    simp only [i_areIndices_l1, hz, decide_true, cond_true, i_between]
    rw [idx_lt l i hlt, w64_id (x := (n : Int) - 1) (by omega) (by omega)]
    simp only [Option.bind_some, andO_some, hb, Bool.not_true, orO_false]
    have hA : (andO (decide ((i : Int) > 0)) ((idx l (w64 ((i : Int) - 1))).bind fun e22 => some (decide (l[i] ≤ e22)))) = some false := by
      by_cases h0 : i = 0
      · subst h0; rfl
      · have hp : decide ((i : Int) > 0) = true := decide_eq_true (by omega)
        have e : w64 ((i : Int) - 1) = ((i - 1 : Nat) : Int) := by rw [w64_id (by omega) (by omega)]; omega
        rw [hp, e, idx_lt l (i - 1) (by omega)]
        have h3 := h.2.2 (i - 1) (by omega)
        have h4 : l[i - 1 + 1]'(by omega) = l[i] := by congr 1; omega
        rw [h4] at h3
        simp only [andO_true, Option.bind_some]
        refine congrArg some (decide_eq_false ?_)
        omega
    rw [hA]
    simp only [Option.bind_some, cond_false]
    rw [w64_nat i (by omega)]
    exact ih (i + 1) N (by omega) (by omega)
theorem areIx_ok (l : List Int) (n : Nat) (hn : n ≤ 1000) (h : RI l n) (N : Nat) (hN : 200 < N) : i_areIndices N l (n : Int) = some true := by
  have h1 := h.1
  unfold i_areIndices
  simp only [withK_eq]
  exact areIx_l1 l n hn h (some true) rfl l.length 0 N (by omega) (by omega)
theorem filter_ri (n : Nat) (hn : n ≤ 100) (p : Nat → Bool) : RI (ints ((List.range n).filter p)) n := by
  have hs : ((List.range n).filter p).Pairwise (· < ·) := List.Pairwise.filter _ List.pairwise_lt_range
  refine ⟨?_, fun i h => ?_, fun i h => ?_⟩
  · rw [ints_len]
    have := List.length_filter_le p (List.range n)
    rw [List.length_range] at this
    omega
  · rw [ints_len] at h
    have hm := List.getElem_mem h
    have := List.mem_range.1 (List.mem_filter.1 hm).1
    simp [ints]
    omega
  · rw [ints_len] at h
    have := List.pairwise_iff_getElem.1 hs i (i + 1) (by omega) h (by omega)
    simp [ints]
    omega
/-! what is the same as itself -/
theorem fi_l1 (l : List Int) (hl : l.length ≤ 100) (kj : Option Bool) : ∀ (q x N : Nat), x + q = l.length → q < N → w_f6ints_l1 kj l l N (x : Int) = kj := by
  intro q
  induction q with
  | zero =>
    intro x N hx hN
    obtain ⟨N, rfl⟩ := pos_fuel hN
    rw [w_f6ints_l1, decide_eq_false (by omega : ¬ (x : Int) < (l.length : Int)), cond_false]
  | succ q ih =>
    intro x N hx hN
    obtain ⟨N, rfl⟩ := pos_fuel hN
    have hlt : x < l.length := by omega
    have hne : (l[x] != l[x]) = false := by simp
    rw [w_f6ints_l1, decide_eq_true (by omega : (x : Int) < (l.length : Int)), cond_true, idx_lt l x hlt, Option.bind_some, Option.bind_some, hne, cond_false, w64_nat x (by omega)]
    exact ih (x + 1) N (by omega) (by omega)
theorem ints_ok (l : List Int) (hl : l.length ≤ 100) (N : Nat) (hN : 200 < N) : w_f6ints N l l = some true := by
  unfold w_f6ints
  have hne : ((l.length : Int) != (l.length : Int)) = false := by simp
  rw [hne, cond_false, withK_n]
  exact fi_l1 l hl (some true) l.length 0 N (by omega) (by omega)
end Go.Proofs.Ytbgngihmpdneaaa
