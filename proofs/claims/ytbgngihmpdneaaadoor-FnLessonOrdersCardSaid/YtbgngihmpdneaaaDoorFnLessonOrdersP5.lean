/-
  Plain lemmas on these functions. No conditions but those that each states.
-/
import Derived.Test.YtbgngihmpdneaaaDoorFnLessonOrdersP4
namespace Go.Proofs.YtbgngihmpdneaaaDoor
set_option linter.unusedVariables false
set_option linter.unusedSimpArgs false
theorem ofInt_nat (m : Nat) : UInt8.ofInt (m : Int) = UInt8.ofNat m := by
  apply UInt8.toNat_inj.1
  have h1 := wrap_u8 (m : Int)
  have h2 : IntKind.u8.wrap (m : Int) = (m : Int) % 256 := by simp [IntKind.wrap, IntKind.bits, IntKind.signed]
  have h3 : (UInt8.ofNat m).toNat = m % 256 := by simp
  omega
theorem withK_n {A B : Type} (k : A) (b : A → B) : withK k b = b k := Eq.trans rfl rfl
theorem mget_mset (l : List (Str × Bool)) (k s : Str) : mget (mset l k true) s = (s == k || mget l s) := by
  induction l with
  | nil => simp only [mset, mget]; cases s == k <;> rfl
  | cons p r ih =>
    obtain ⟨a, b⟩ := p
    simp only [mset]
    by_cases h : k = a
    · subst h; simp only [beq_self_eq_true, cond_true, mget]; cases s == k <;> rfl
    · have : (k == a) = false := by simpa using h
      simp only [this, cond_false, mget]
      by_cases h2 : s = a
      · subst h2
        have : (s == k) = false := by simp; exact fun e => h e.symm
        simp [this]
      · have : (s == a) = false := by simpa using h2
        simp only [this, cond_false]; exact ih
def sml (c : UInt8) : Bool := decide (c ≥ 97) && decide (c ≤ 122)
def dig (c : UInt8) : Bool := decide (c ≥ 48) && decide (c ≤ 57)
def okc (c : UInt8) : Bool := sml c || (dig c || c == 45)
def nm (s : Str) : Bool := match s with
  | [] => false
  | c :: r => decide (r.length < 12) && (sml c && r.all okc)
theorem s_l01Small_eq (c : UInt8) : s_l01Small c = some (sml c) := by simp only [s_l01Small, andO_some, sml, Option.bind_some]
theorem s_l01Digit_eq (c : UInt8) : s_l01Digit c = some (dig c) := by simp only [s_l01Digit, andO_some, dig, Option.bind_some]
theorem i_isDigit_eq (c : UInt8) : i_isDigit c = some (dig c) := by simp only [i_isDigit, andO_some, dig, Option.bind_some]
theorem s_IsName_l1_eq (k : Option Bool) (s : Str) (ha : s.length ≤ LIM) : ∀ (n i N : Nat), i + n = s.length → n < N → s_IsName_l1 k s N (i : Int) = bif (s.drop i).all okc then k else some false := by
  intro n
  induction n with
  | zero =>
    intro i N h1 h3
    obtain ⟨N, rfl⟩ := pos_fuel h3
    have hi : ¬ ((i : Int) < (s.length : Int)) := by omega
    have e2 : s.drop i = [] := List.drop_of_length_le (by omega)
    simp only [s_IsName_l1, hi, decide_false, cond_false, e2, List.all_nil, cond_true]
  | succ n ih =>
    intro i N h1 h3
    obtain ⟨N, rfl⟩ := pos_fuel h3
    have hi : (i : Int) < (s.length : Int) := by omega
    have hn : i < s.length := by omega
    unfold LIM at ha
    simp only [s_IsName_l1, hi, decide_true, cond_true, idx_lt s i hn, Option.bind_some, s_l01Small_eq, s_l01Digit_eq, andO_some, w64_nat i (by omega), ih (i + 1) N (by omega) (by omega), drop_cons s i hn, List.all_cons, okc, bne]
    cases sml s[i] <;> cases dig s[i] <;> cases (s[i] == 45) <;> rfl
theorem i_IsName_l1_eq (k : Option Bool) (s : Str) (ha : s.length ≤ LIM) : ∀ (n i N : Nat), i + n = s.length → n < N → 0 < i → i_IsName_l1 k s N (i : Int) = bif (s.drop i).all okc then k else some false := by
  intro n
  induction n with
  | zero =>
    intro i N h1 h3 h0
    obtain ⟨N, rfl⟩ := pos_fuel h3
    have hi : ¬ ((i : Int) < (s.length : Int)) := by omega
    have e2 : s.drop i = [] := List.drop_of_length_le (by omega)
    simp only [i_IsName_l1, hi, decide_false, cond_false, e2, List.all_nil, cond_true]
  | succ n ih =>
    intro i N h1 h3 h0
    obtain ⟨N, rfl⟩ := pos_fuel h3
    have hi : (i : Int) < (s.length : Int) := by omega
    have hn : i < s.length := by omega
    have hz : ((i : Int) == 0) = false := by simp; omega
    unfold LIM at ha
    simp only [i_IsName_l1, hi, decide_true, cond_true, idx_lt s i hn, Option.bind_some, i_isDigit_eq, andO_some, orO_some, w64_nat i (by omega), ih (i + 1) N (by omega) (by omega) (by omega), drop_cons s i hn, List.all_cons, okc, sml, bne, hz]
    cases decide (s[i] ≥ 97) <;> cases decide (s[i] ≤ 122) <;> cases dig s[i] <;> cases (s[i] == 45) <;> rfl
theorem s_IsName_eq (N : Nat) (hN : 14 < N) (s : Str) : s_IsName N s = some (nm s) := by
  unfold s_IsName
  cases s with
  | nil => rfl
  | cons c r =>
    by_cases h : r.length < 12
    · have h' : ¬ (((c :: r).length : Int) > 12) := by simp; omega
      have e : (c :: r == []) = false := rfl
      have e2 : idx (c :: r) 0 = some c := rfl
      simp only [e, h', e2, orO_some, decide_false, Bool.or_false, Option.bind_some, s_l01Small_eq, Bool.false_or, withK_eq, nm, h, decide_true, Bool.true_and]
      have h0 : s_IsName_l1 (some true) (c :: r) N 0 = _ := s_IsName_l1_eq (some true) (c :: r) (by simp; unfold LIM; omega) (c :: r).length 0 N (by omega) (by simp; omega)
      rw [h0]
      simp only [List.drop_zero, List.all_cons, okc]
      cases sml c <;> cases r.all okc <;> simp
    · have h' : (((c :: r).length : Int) > 12) := by simp; omega
      have e : (c :: r == []) = false := rfl
      simp only [e, h', orO_some, decide_true, Bool.or_true, Option.bind_some, orO_true, cond_true, nm, h, decide_false, Bool.false_and]
theorem i_IsName_eq (N : Nat) (hN : 14 < N) (s : Str) : i_IsName N s = some (nm s) := by
  unfold i_IsName
  cases s with
  | nil => rfl
  | cons c r =>
    by_cases h : r.length < 12
    · have h' : ¬ (((c :: r).length : Int) > 12) := by simp; omega
      have e : (((c :: r).length : Int) == 0) = false := by simp; omega
      have e2 : idx (c :: r) 0 = some c := rfl
      have e3 : (0 : Int) < (((c :: r).length : Nat) : Int) := by simp only [List.length_cons]; omega
      obtain ⟨N, rfl⟩ := pos_fuel hN
      have e4 : w64 (0 + 1) = ((1 : Nat) : Int) := rfl
      have := i_IsName_l1_eq (some true) (c :: r) (by simp; unfold LIM; omega) r.length 1 N (by simp; omega) (by omega) (by omega)
      simp only [e, h', e2, orO_some, decide_false, Bool.or_false, Option.bind_some, Bool.false_or, withK_eq, nm, h, decide_true, Bool.true_and, cond_false, i_IsName_l1, e3, cond_true, andO_some, orO_true, beq_self_eq_true, Bool.and_true, e4, this, List.drop_one, List.tail_cons]
      show (bif !(sml c) then _ else _) = _
      cases sml c <;> cases r.all okc <;> rfl
    · have h' : (((c :: r).length : Int) > 12) := by simp; omega
      have e : (((c :: r).length : Int) == 0) = false := by simp; omega
      simp only [e, h', orO_some, decide_true, Bool.or_true, Option.bind_some, orO_true, cond_true, nm, h, decide_false, Bool.false_and]
/-! ## the parts -/
def inr (x lo hi : Int) : Bool := decide (x ≥ lo) && decide (x ≤ hi)
theorem s_l00In_eq (x lo hi : Int) : s_l00In x lo hi = some (inr x lo hi) := by simp only [s_l00In, andO_some, inr, Option.bind_some]
theorem i_between_eq (x lo hi : Int) : i_between x lo hi = some (inr x lo hi) := by simp only [i_between, andO_some, inr, Option.bind_some]
theorem inr_iff {x lo hi : Int} : inr x lo hi = true ↔ lo ≤ x ∧ x ≤ hi := by simp [inr]
theorem pigeon : ∀ (n : Nat) (l : List Nat), l.Nodup → (∀ x ∈ l, x < n) → l.length ≤ n := by
  intro n
  induction n with
  | zero => intro l _ h; cases l with
    | nil => simp
    | cons a r => exact absurd (h a (by simp)) (by omega)
  | succ n ih =>
    intro l hd h
    by_cases hm : n ∈ l
    · have h1 := ih (l.erase n) (hd.erase n) (fun x hx => by
        have := (hd.mem_erase_iff).1 hx
        have := h x this.2
        omega)
      rw [List.length_erase_of_mem hm] at h1; omega
    · have := ih l hd (fun x hx => by
        have h2 := h x hx
        have : x ≠ n := fun e => hm (e ▸ hx)
        omega)
      omega
/-- a sign that can be typed -/
def pr (c : UInt8) : Bool := !(decide (c < 32) || decide (c > 126))
def okT (s : Str) : Bool := decide ((s.length : Int) ≤ 100) && s.all pr
theorem okT_len {s : Str} (h : okT s = true) : s.length ≤ 100 := by
  unfold okT at h
  rw [Bool.and_eq_true, decide_eq_true_eq] at h
  omega
/-! Keys: what is found. -/
def isL (s : Str) : Bool := match s with
  | [c] => decide (33 ≤ c.toNat) && decide (c.toNat ≤ 126)
  | _ => false
/-- text of letters -/
def isT (s : Str) (low : Nat) : Bool := s.all fun c => decide (low ≤ c.toNat) && decide (c.toNat ≤ 126)
theorem i_text_l1 (s : Str) (low : UInt8) (kj : Option Bool) (hk : kj = some true) (hl : s.length ≤ 1000) : ∀ (n i N : Nat), i + n = s.length → n < N → i_isText_l1 kj s low N (i : Int) = some (isT (s.drop i) low.toNat) := by
  intro n
  induction n with
  | zero =>
    intro i N hi hN
    obtain ⟨N, rfl⟩ := pos_fuel hN
    have hz : ¬ (i : Int) < (s.length : Int) := by omega
    simp only [i_isText_l1, hz, decide_false, cond_false, hk]
    rw [List.drop_eq_nil_of_le (by omega)]; rfl
  | succ n ih =>
    intro i N hi hN
    obtain ⟨N, rfl⟩ := pos_fuel hN
    have hz : (i : Int) < (s.length : Int) := by omega
    simp only [i_isText_l1, hz, decide_true, cond_true]
    rw [idx_lt s i (by omega), w64_nat i (by omega), List.drop_eq_getElem_cons (by omega : i < s.length), ih (i + 1) N (by omega) (by omega)]
    simp only [Option.bind_some, orO_some, isT, List.all_cons]
    have e2 : (126 : UInt8).toNat = 126 := rfl
    have e : (decide (s[i] < low) || decide (s[i] > (126 : UInt8))) = !(decide (low.toNat ≤ s[i].toNat) && decide (s[i].toNat ≤ 126)) := by
      rw [Bool.eq_iff_iff]
      simp only [Bool.or_eq_true, Bool.not_eq_true', Bool.and_eq_false_iff, decide_eq_true_eq, decide_eq_false_iff_not, gt_iff_lt, UInt8.lt_iff_toNat_lt, e2]
      omega
    rw [e]
    cases decide (low.toNat ≤ s[i].toNat) && decide (s[i].toNat ≤ 126) <;> rfl
theorem i_text (s : Str) (low : UInt8) (most : Int) (hl : s.length ≤ 1000) (N : Nat) (hN : 1000 < N) : i_isText N s low most = some (decide ((s.length : Int) ≤ most) && isT s low.toNat) := by
  unfold i_isText
  simp only [withK_eq]
  by_cases h : (s.length : Int) > most
  · have h' : ¬ (s.length : Int) ≤ most := by omega
    simp [h, h']
  · have h' : (s.length : Int) ≤ most := by omega
    simp only [h, h', decide_false, cond_false, decide_true, Bool.true_and]
    exact i_text_l1 s low _ rfl hl s.length 0 N (by omega) (by omega)
theorem s_text_l1 (s : Str) (kj : Option Bool) (b : Bool) (hk : kj = some b) (hl : s.length ≤ 1000) : ∀ (n i N : Nat), i + n = s.length → n < N → s_l02Text_l1 kj s N (i : Int) = some (isT (s.drop i) 33 && b) := by
  intro n
  induction n with
  | zero =>
    intro i N hi hN
    obtain ⟨N, rfl⟩ := pos_fuel hN
    have hz : ¬ (i : Int) < (s.length : Int) := by omega
    simp only [s_l02Text_l1, hz, decide_false, cond_false, hk]
    rw [List.drop_eq_nil_of_le (by omega)]; simp [isT]
  | succ n ih =>
    intro i N hi hN
    obtain ⟨N, rfl⟩ := pos_fuel hN
    have hz : (i : Int) < (s.length : Int) := by omega
    simp only [s_l02Text_l1, hz, decide_true, cond_true]
    rw [idx_lt s i (by omega), w64_nat i (by omega), List.drop_eq_getElem_cons (by omega : i < s.length), ih (i + 1) N (by omega) (by omega)]
    simp only [Option.bind_some, orO_some, isT, List.all_cons]
    have e1 : (33 : UInt8).toNat = 33 := rfl
    have e2 : (126 : UInt8).toNat = 126 := rfl
    have e : (decide (s[i] < 33) || decide (s[i] > (126 : UInt8))) = !(decide (33 ≤ s[i].toNat) && decide (s[i].toNat ≤ 126)) := by
      rw [Bool.eq_iff_iff]
      simp only [Bool.or_eq_true, Bool.not_eq_true', Bool.and_eq_false_iff, decide_eq_true_eq, decide_eq_false_iff_not, gt_iff_lt, UInt8.lt_iff_toNat_lt, e2, e1]
      omega
    rw [e]
    cases decide (33 ≤ s[i].toNat) && decide (s[i].toNat ≤ 126) <;> rfl
theorem s_text (s : Str) (hl : s.length ≤ 1000) (N : Nat) (hN : 1000 < N) : s_l02Text N s = some (isT s 33 && decide ((s.length : Int) ≤ 100)) := by
  unfold s_l02Text
  simp only [withK_eq]
  exact s_text_l1 s _ _ rfl hl s.length 0 N (by omega) (by omega)
/-! Letters and presses of keys. -/
def putC : Str → UInt8 → Str
  | [], c => [c]
  | x :: r, c => if x < c then x :: putC r c else if x == c then x :: r else c :: x :: r
theorem putC_len (l : Str) (c : UInt8) : (putC l c).length ≤ l.length + 1 := by
  induction l with
  | nil => simp [putC]
  | cons x r ih =>
    unfold putC; split
    · simp; omega
    · split <;> simp
theorem s_put_l1 (l : Str) (c : UInt8) (kj : Int → Option Str) (hl : l.length ≤ 1000) (hkj : ∀ k : Nat, k ≤ l.length → kj (k : Int) = (bif decide (k < l.length) && (l[k]?.getD 0 == c) then some l else some (l.take k ++ [c] ++ l.drop k))) : ∀ (n k N : Nat), k + n = l.length → n < N → s_l02PutLetter_l1 kj l [c] N (k : Int) = some (l.take k ++ putC (l.drop k) c) := by
  intro n
  induction n with
  | zero =>
    intro k N hk hN
    obtain ⟨N, rfl⟩ := pos_fuel hN
    have hz : ¬ (k : Int) < (l.length : Int) := by omega
    simp only [s_l02PutLetter_l1, hz, decide_false, andO_false, Option.bind_some, cond_false]
    rw [hkj k (by omega)]
    have h2 : ¬ k < l.length := by omega
    simp only [h2, decide_false, Bool.false_and, cond_false]
    rw [List.drop_eq_nil_of_le (by omega)]
    simp [putC]
  | succ n ih =>
    intro k N hk hN
    obtain ⟨N, rfl⟩ := pos_fuel hN
    have hz : (k : Int) < (l.length : Int) := by omega
    have hc : idx ([c] : Str) 0 = some c := rfl
    simp only [s_l02PutLetter_l1, hz, decide_true, andO_true]
    rw [idx_lt l k (by omega), hc, w64_nat k (by omega), ih (k + 1) N (by omega) (by omega), hkj k (by omega)]
    simp only [Option.bind_some]
    have h2 : k < l.length := by omega
    rw [List.drop_eq_getElem_cons h2]
    have ht := List.take_succ_eq_append_getElem h2
    simp only [putC, h2, decide_true, Bool.true_and, List.getElem?_eq_getElem, Option.getD_some]
    by_cases h3 : l[k] < c
    · simp only [h3, decide_true, cond_true, if_true]; rw [ht, List.append_assoc]; rfl
    · simp only [h3, decide_false, cond_false, if_false]
      cases h4 : l[k] == c
      · simp
      · simp only [cond_true, if_true]
        rw [← List.drop_eq_getElem_cons h2, List.take_append_drop]
theorem s_put (l : Str) (c : UInt8) (hl : l.length ≤ 1000) (N : Nat) (hN : 1000 < N) : s_l02PutLetter N l [c] = some (putC l c) := by
  unfold s_l02PutLetter
  simp only [withK_eq]
  have h := s_put_l1 l c (fun (k3 : Int) =>
    (andO (decide (k3 < (List.length l : Int))) ((idx l k3).bind fun c18 =>
    (idx ([c] : Str) 0).bind fun c20 =>
    some (c18 == c20))).bind fun t15 =>
    bif t15 then
    some l
    else
    (sub l 0 k3).bind fun s23 =>
    (cat s23 [c]).bind fun s25 =>
    (sub l k3 (List.length l : Int)).bind fun s27 =>
    (cat s25 s27).bind fun s29 =>
    some s29) hl (fun k hk => by
      have hc : idx ([c] : Str) 0 = some c := rfl
      have hs1 : sub l 0 (k : Int) = some (l.take k) := by rw [sub_some l 0 k (by omega) (by omega) (by omega)]; simp
      have hs2 : sub l (k : Int) (l.length : Int) = some (l.drop k) := by
        rw [sub_some l k _ (by omega) (by omega) (by omega)]
        have e1 : ((k : Int)).toNat = k := by omega
        have e2 : ((l.length : Int)).toNat = l.length := by omega
        rw [e1, e2, List.take_of_length_le (by rw [List.length_drop]; omega)]
      have hc1 : cat (l.take k) [c] = some (l.take k ++ [c]) := cat_some _ _ (by unfold LIM; rw [List.length_take]; simp; omega)
      have hc2 : cat (l.take k ++ [c]) (l.drop k) = some (l.take k ++ [c] ++ l.drop k) := cat_some _ _ (by unfold LIM; rw [List.length_append, List.length_take, List.length_drop]; simp; omega)
      by_cases h2 : k < l.length
      · have hz : (k : Int) < (l.length : Int) := by omega
        simp only [hz, h2, decide_true, andO_true, idx_lt l k h2, hc, hs1, hs2, hc1, hc2, Option.bind_some, Bool.true_and, List.getElem?_eq_getElem, Option.getD_some]
      · have hz : ¬ (k : Int) < (l.length : Int) := by omega
        simp only [hz, h2, decide_false, andO_false, hs1, hs2, hc1, hc2, Option.bind_some, Bool.false_and, cond_false]) l.length 0 N (by omega) (by omega)
  simpa using h
/-! Marked letters. -/
def Ris (l : Str) : Prop := l.Pairwise fun a b => a.toNat < b.toNat
theorem ris_ext : ∀ (a b : Str), Ris a → Ris b → (∀ x, x ∈ a ↔ x ∈ b) → a = b
  | [], [], _, _, _ => rfl
  | [], y :: b, _, _, h => by have := (h y).2 (by simp); simp at this
  | x :: a, [], _, _, h => by have := (h x).1 (by simp); simp at this
  | x :: a, y :: b, ha, hb, h => by
    have ha := List.pairwise_cons.1 ha
    have hb := List.pairwise_cons.1 hb
    have hxy : x = y := by
      have h1 := (h x).1 (by simp)
      have h2 := (h y).2 (by simp)
      rcases List.mem_cons.1 h1 with e | h1
      · exact e
      · rcases List.mem_cons.1 h2 with e | h2
        · exact e.symm
        · have := hb.1 x h1; have := ha.1 y h2; omega
    subst hxy
    rw [ris_ext a b ha.2 hb.2 fun z => ?_]
    constructor
    · intro hz
      rcases List.mem_cons.1 ((h z).1 (by simp [hz])) with e | h1
      · subst e; have := ha.1 z hz; omega
      · exact h1
    · intro hz
      rcases List.mem_cons.1 ((h z).2 (by simp [hz])) with e | h1
      · subst e; have := hb.1 z hz; omega
      · exact h1
theorem putC_mem (c x : UInt8) : ∀ l : Str, x ∈ putC l c ↔ x = c ∨ x ∈ l := by
  intro l
  induction l with
  | nil => simp [putC]
  | cons y r ih =>
    unfold putC
    split
    · simp only [List.mem_cons, ih]
      constructor
      · rintro (h | h | h)
        · exact .inr (.inl h)
        · exact .inl h
        · exact .inr (.inr h)
      · rintro (h | h | h)
        · exact .inr (.inl h)
        · exact .inl h
        · exact .inr (.inr h)
    · split
      · rename_i h
        have e : y = c := by simpa using h
        subst e
        simp
      · simp
theorem putC_ris (c : UInt8) : ∀ l : Str, Ris l → Ris (putC l c) := by
  intro l
  induction l with
  | nil => intro _; exact List.pairwise_singleton _ _
  | cons y r ih =>
    intro h
    have h' := List.pairwise_cons.1 h
    unfold putC
    split
    · rename_i hlt
      refine List.pairwise_cons.2 ⟨fun z hz => ?_, ih h'.2⟩
      rcases (putC_mem c z r).1 hz with e | hz
      · subst e; exact UInt8.lt_iff_toNat_lt.1 hlt
      · exact h'.1 z hz
    · split
      · exact h
      · rename_i hlt hne
        have h1 : ¬ y.toNat < c.toNat := fun g => hlt (UInt8.lt_iff_toNat_lt.2 g)
        have h2 : y.toNat ≠ c.toNat := fun g => hne (by simp [UInt8.toNat_inj.1 g])
        refine List.pairwise_cons.2 ⟨fun z hz => ?_, h⟩
        rcases List.mem_cons.1 hz with e | hz
        · subst e; omega
        · have := h'.1 z hz; omega
def ascF (t : List Bool) : Nat → Nat → Str
  | _, 0 => []
  | i, n + 1 => if t[i]?.getD false then UInt8.ofNat i :: ascF t (i + 1) n else ascF t (i + 1) n
theorem ascF_mem (t : List Bool) (c : UInt8) : ∀ (n i : Nat), i + n ≤ 256 → (c ∈ ascF t i n ↔ i ≤ c.toNat ∧ c.toNat < i + n ∧ t[c.toNat]?.getD false = true) := by
  intro n
  induction n with
  | zero => intro i _; simp only [ascF, List.not_mem_nil, false_iff]; omega
  | succ n ih =>
    intro i h
    unfold ascF
    have hi : (UInt8.ofNat i).toNat = i := by simp; omega
    have hc : c = UInt8.ofNat i ↔ c.toNat = i := by rw [← UInt8.toNat_inj, hi]
    split
    · rename_i hb
      rw [List.mem_cons, ih (i + 1) (by omega), hc]
      constructor
      · rintro (h | h)
        · rw [h]; exact ⟨by omega, by omega, hb⟩
        · exact ⟨by omega, by omega, h.2.2⟩
      · rintro ⟨h1, h2, h3⟩
        by_cases h4 : c.toNat = i
        · exact .inl h4
        · exact .inr ⟨by omega, by omega, h3⟩
    · rename_i hb
      rw [ih (i + 1) (by omega)]
      constructor
      · rintro h; exact ⟨by omega, by omega, h.2.2⟩
      · rintro ⟨h1, h2, h3⟩
        refine ⟨?_, by omega, h3⟩
        by_cases h4 : c.toNat = i
        · rw [h4] at h3; exact absurd h3 hb
        · omega
theorem ascF_ris (t : List Bool) : ∀ (n i : Nat), i + n ≤ 256 → Ris (ascF t i n) := by
  intro n
  induction n with
  | zero => intro i _; exact List.Pairwise.nil
  | succ n ih =>
    intro i h
    unfold ascF
    split
    · refine List.pairwise_cons.2 ⟨fun z hz => ?_, ih (i + 1) (by omega)⟩
      have := (ascF_mem t z n (i + 1) (by omega)).1 hz
      have hi : (UInt8.ofNat i).toNat = i := by simp; omega
      omega
    · exact ih (i + 1) (by omega)
theorem i_asc_l1 (t : List Bool) (ht : t.length = 256) (kj : List UInt8 → Option Str) (hk : ∀ l, kj l = some l) : ∀ (n i N : Nat) (l : List UInt8), i + n = 256 → n < N → l.length ≤ i → i_ascending_l1 kj t N l (i : Int) = some (l ++ ascF t i n) := by
  intro n
  induction n with
  | zero =>
    intro i N l hi hN hl
    obtain ⟨N, rfl⟩ := pos_fuel hN
    have hz : ¬ (i : Int) < 256 := by omega
    simp only [i_ascending_l1, hz, decide_false, cond_false, hk, ascF, List.append_nil]
  | succ n ih =>
    intro i N l hi hN hl
    obtain ⟨N, rfl⟩ := pos_fuel hN
    have hz : (i : Int) < 256 := by omega
    simp only [i_ascending_l1, hz, decide_true, cond_true, withK_eq]
    rw [idx_lt t i (by omega), w64_nat i (by omega), ofInt_nat]
    simp only [Option.bind_some, ascF, List.getElem?_eq_getElem (show i < t.length by omega), Option.getD_some]
    cases t[i]
    · simp only [cond_false, Bool.false_eq_true, if_false]
      exact ih (i + 1) N l (by omega) (by omega) (by omega)
    · simp only [cond_true, if_true]
      rw [app_some _ _ (by unfold LIM; simp; omega)]
      simp only [Option.bind_some]
      rw [ih (i + 1) N _ (by omega) (by omega) (by simp; omega), List.append_assoc]
      rfl
/-- a table marks letters -/
def Mrk (t : List Bool) (o : Str) : Prop := t.length = 256 ∧ Ris o ∧ ∀ c : UInt8, t[c.toNat]?.getD false = true ↔ c ∈ o
theorem Mrk.nil : Mrk (List.replicate 256 false) [] := ⟨List.length_replicate, List.Pairwise.nil, fun c => by
  have : c.toNat < 256 := c.toNat_lt
  rw [List.getElem?_replicate, if_pos this]
  exact ⟨fun h => (Bool.false_ne_true h).elim, fun h => (List.not_mem_nil h).elim⟩⟩
theorem Mrk.put {t : List Bool} {o : Str} (h : Mrk t o) (c : UInt8) : Mrk (t.set c.toNat true) (putC o c) := by
  obtain ⟨h1, h2, h3⟩ := h
  refine ⟨by rw [List.length_set]; exact h1, putC_ris c o h2, fun x => ?_⟩
  have hc : c.toNat < t.length := by rw [h1]; exact c.toNat_lt
  rw [putC_mem, ← h3 x]
  by_cases e : c.toNat = x.toNat
  · have e2 : x = c := (UInt8.toNat_inj.1 e).symm
    subst e2
    rw [List.getElem?_set_self hc]
    simp
  · rw [List.getElem?_set_ne e]
    have e2 : x ≠ c := fun g => e (by rw [g])
    simp [e2]
theorem Mrk.idx {t : List Bool} {o : Str} (h : Mrk t o) (c : UInt8) : ∃ b, idx t (c.toNat : Int) = some b := ⟨_, idx_lt t c.toNat (by rw [h.1]; exact c.toNat_lt)⟩
theorem Mrk.asc {t : List Bool} {o : Str} (h : Mrk t o) (N : Nat) (hN : 300 < N) : i_ascending N t = some o := by
  unfold i_ascending
  simp only [withK_eq]
  have e := i_asc_l1 t h.1 (fun l5 => some l5) (fun _ => rfl) 256 0 N [] (by omega) (by omega) (by simp)
  simp only [Int.natCast_zero, List.nil_append] at e
  rw [e]
  refine congrArg some (ris_ext _ _ (ascF_ris t 256 0 (by omega)) h.2.1 fun x => ?_)
  rw [ascF_mem t x 256 0 (by omega), h.2.2 x]
  have := x.toNat_lt
  constructor
  · exact fun g => g.2.2
  · exact fun g => ⟨by omega, by omega, g⟩
/-! Strictly rising lists. -/
theorem sorted_ext : ∀ (a b : List Int), a.Pairwise (· < ·) → b.Pairwise (· < ·) → (∀ x, x ∈ a ↔ x ∈ b) → a = b
  | [], [], _, _, _ => rfl
  | [], y :: b, _, _, h => by have := (h y).2 (by simp); simp at this
  | x :: a, [], _, _, h => by have := (h x).1 (by simp); simp at this
  | x :: a, y :: b, ha, hb, h => by
    rw [List.pairwise_cons] at ha hb
    have hxy : x = y := by
      have h1 := (h x).1 (by simp)
      have h2 := (h y).2 (by simp)
      rcases List.mem_cons.1 h1 with e | h1
      · exact e
      · rcases List.mem_cons.1 h2 with e | h2
        · exact e.symm
        · have := hb.1 x h1; have := ha.1 y h2; omega
    subst hxy
    rw [sorted_ext a b ha.2 hb.2 fun z => ?_]
    constructor
    · intro hz
      rcases List.mem_cons.1 ((h z).1 (by simp [hz])) with e | h1
      · subst e; have := ha.1 z hz; omega
      · exact h1
    · intro hz
      rcases List.mem_cons.1 ((h z).2 (by simp [hz])) with e | h1
      · subst e; have := hb.1 z hz; omega
      · exact h1
theorem sorted_len (b : Int) : ∀ (l : List Int) (a : Int), l.Pairwise (· < ·) → (∀ x ∈ l, a ≤ x ∧ x ≤ b) → l = [] ∨ (l.length : Int) ≤ b - a + 1
  | [], _, _, _ => .inl rfl
  | x :: l, a, h, hx => by
    rw [List.pairwise_cons] at h
    have h1 := hx x (by simp)
    rcases sorted_len b l (x + 1) h.2 (fun y hy => ⟨by have := h.1 y hy; omega, (hx y (by simp [hy])).2⟩) with e | e
    · subst e; right; simp; omega
    · right; simp; omega
theorem sorted_snoc {l : List Int} {x : Int} (h : l.Pairwise (· < ·)) (hx : ∀ y ∈ l, y < x) : (l ++ [x]).Pairwise (· < ·) := by
  rw [List.pairwise_append]
  exact ⟨h, by simp, fun a ha b hb => by rw [List.mem_singleton.1 hb]; exact hx a ha⟩
/-! A number put into its place among rising ones. -/
def putR (c : Int) : List Int → List Int
  | [] => [c]
  | x :: l => if x < c then x :: putR c l else if x = c then x :: l else c :: x :: l
theorem mem_putR (c : Int) : ∀ (l : List Int) (x : Int), x ∈ putR c l ↔ x = c ∨ x ∈ l
  | [], x => by simp [putR]
  | y :: l, x => by
    unfold putR
    split
    · rw [List.mem_cons, mem_putR c l x, List.mem_cons]
      constructor
      · rintro (h | h | h) <;> simp [h]
      · rintro (h | h | h) <;> simp [h]
    · split
      · rename_i e
        subst e
        simp
      · simp
theorem putR_sorted (c : Int) : ∀ (l : List Int), l.Pairwise (· < ·) → (putR c l).Pairwise (· < ·)
  | [], _ => by simp [putR]
  | y :: l, h => by
    rw [List.pairwise_cons] at h
    unfold putR
    split
    · rename_i hy
      rw [List.pairwise_cons]
      refine ⟨fun x hx => ?_, putR_sorted c l h.2⟩
      rcases (mem_putR c l x).1 hx with e | hx
      · omega
      · exact h.1 x hx
    · split
      · rw [List.pairwise_cons]; exact h
      · rw [List.pairwise_cons]
        refine ⟨fun x hx => ?_, by rw [List.pairwise_cons]; exact h⟩
        rcases List.mem_cons.1 hx with e | hx
        · omega
        · have := h.1 x hx; omega
theorem putR_len (c : Int) : ∀ (l : List Int), (putR c l).length ≤ l.length + 1
  | [] => by simp [putR]
  | y :: l => by
    unfold putR
    split
    · simp only [List.length_cons]; have := putR_len c l; omega
    · split <;> simp
theorem PutDone (l : List Int) (c : Int) (ha : l.length ≤ 1000) : ∀ (n i N : Nat) (o : List Int), i + n = l.length → n < N → o.length ≤ i + 1 → ∀ K, s_l00Put_l1 K l c N o true (i : Int) = K (o ++ l.drop i) true := by
  intro n
  induction n with
  | zero =>
    intro i N o h1 h3 h4 K
    obtain ⟨N, rfl⟩ := pos_fuel h3
    have hi : ¬ ((i : Int) < (l.length : Int)) := by omega
    have e2 : l.drop i = [] := List.drop_of_length_le (by omega)
    simp [s_l00Put_l1, hi, e2]
  | succ n ih =>
    intro i N o h1 h3 h4 K
    obtain ⟨N, rfl⟩ := pos_fuel h3
    have hi : (i : Int) < (l.length : Int) := by omega
    have hn : i < l.length := by omega
    have ea : app o [l[i]] = some (o ++ [l[i]]) := app_some _ _ (by simp; unfold LIM; omega)
    simp only [s_l00Put_l1, hi, decide_true, cond_true, withK_eq, Bool.not_true, andO_false, Option.bind_some, cond_false, idx_lt l i hn, ea, w64_nat i (by omega)]
    rw [ih (i + 1) N (o ++ [l[i]]) (by omega) (by omega) (by simp; omega) K, drop_cons l i hn]
    simp
theorem Put_l1 (l : List Int) (c : Int) (ha : l.length ≤ 1000) (K : List Int → Bool → Option (List Int)) (hK1 : ∀ o, K o true = some o) (hK2 : ∀ o, o.length ≤ 1001 → K o false = some (o ++ [c])) : ∀ (n i N : Nat) (o : List Int), i + n = l.length → n < N → o.length = i → s_l00Put_l1 K l c N o false (i : Int) = some (o ++ putR c (l.drop i)) := by
  intro n
  induction n with
  | zero =>
    intro i N o h1 h3 h4
    obtain ⟨N, rfl⟩ := pos_fuel h3
    have hi : ¬ ((i : Int) < (l.length : Int)) := by omega
    have e2 : l.drop i = [] := List.drop_of_length_le (by omega)
    simp only [s_l00Put_l1, hi, decide_false, cond_false, e2, putR, hK2 o (by omega)]
  | succ n ih =>
    intro i N o h1 h3 h4
    obtain ⟨N, rfl⟩ := pos_fuel h3
    have hi : (i : Int) < (l.length : Int) := by omega
    have hn : i < l.length := by omega
    have ea : app o [l[i]] = some (o ++ [l[i]]) := app_some _ _ (by simp; unfold LIM; omega)
    simp only [s_l00Put_l1, hi, decide_true, cond_true, withK_eq, Bool.not_false, andO_true, idx_lt l i hn, Option.bind_some]
    rw [drop_cons l i hn]
    by_cases hc : l[i] < c
    · have hn1 : ¬ l[i] ≥ c := by omega
      simp only [hn1, decide_false, cond_false, ea, Option.bind_some, w64_nat i (by omega)]
      rw [ih (i + 1) N (o ++ [l[i]]) (by omega) (by omega) (by simp; omega)]
      simp [putR, hc]
    · have hn1 : l[i] ≥ c := by omega
      simp only [hn1, decide_true, cond_true]
      by_cases he : l[i] = c
      · have hn2 : ¬ l[i] > c := by omega
        simp only [hn2, decide_false, cond_false, ea, Option.bind_some, w64_nat i (by omega)]
        rw [PutDone l c ha n (i + 1) N _ (by omega) (by omega) (by simp; omega), hK1]
        have hn3 : ¬ c < c := by omega
        simp [putR, he, hn3]
      · have hn2 : l[i] > c := by omega
        have eb : app o [c] = some (o ++ [c]) := app_some _ _ (by simp; unfold LIM; omega)
        have ec : app (o ++ [c]) [l[i]] = some (o ++ [c] ++ [l[i]]) := app_some _ _ (by simp; unfold LIM; omega)
        simp only [hn2, decide_true, cond_true, eb, Option.bind_some, ec, w64_nat i (by omega)]
        rw [PutDone l c ha n (i + 1) N _ (by omega) (by omega) (by simp; omega), hK1]
        simp [putR, he, hc]
theorem Put_ok (N : Nat) (l : List Int) (c : Int) (ha : l.length ≤ 1000) (hN : l.length < N) : s_l00Put N l c = some (putR c l) := by
  unfold s_l00Put
  simp only [withK_eq]
  have := Put_l1 l c ha (fun l6 done8 => bif !done8 then (app l6 [c]).bind fun l55 => some l55 else some l6) (fun o => rfl) (fun o ho => by
    simp only [Bool.not_false, cond_true]; rw [app_some _ _ (by unfold LIM; simp; omega), Option.bind_some]) l.length 0 N [] (by omega) hN rfl
  rw [show ((0 : Nat) : Int) = 0 from rfl] at this
  rw [this]
  simp
theorem Has_l1_eq (l : List Int) (c : Int) (ha : l.length ≤ LIM) : ∀ (n i N : Nat), i + n = l.length → n < N → s_l00Has_l1 (some false) l c N (i : Int) = some ((l.drop i).any (· == c)) ∧ w_f6has_l1 (some false) l c N (i : Int) = some ((l.drop i).any (· == c)) := by
  intro n
  induction n with
  | zero =>
    intro i N h1 h3
    obtain ⟨N, rfl⟩ := pos_fuel h3
    have hi : ¬ ((i : Int) < (l.length : Int)) := by omega
    have e2 : l.drop i = [] := List.drop_of_length_le (by omega)
    simp [s_l00Has_l1, w_f6has_l1, hi, e2]
  | succ n ih =>
    intro i N h1 h3
    obtain ⟨N, rfl⟩ := pos_fuel h3
    have hi : (i : Int) < (l.length : Int) := by omega
    have hn : i < l.length := by omega
    unfold LIM at ha
    obtain ⟨h4, h5⟩ := ih (i + 1) N (by omega) (by omega)
    simp only [s_l00Has_l1, w_f6has_l1, hi, decide_true, cond_true, idx_lt l i hn, Option.bind_some, w64_nat i (by omega), h4, h5, drop_cons l i hn, List.any_cons]
    cases (l[i] == c) <;> exact ⟨rfl, rfl⟩
theorem Has_eq (N : Nat) (l : List Int) (c : Int) (ha : l.length ≤ LIM) (hN : l.length < N) : s_l00Has N l c = some (l.any (· == c)) ∧ w_f6has N l c = some (l.any (· == c)) := by
  obtain ⟨h1, h2⟩ := Has_l1_eq l c ha l.length 0 N (by omega) hN
  exact ⟨by simpa [s_l00Has] using h1, by simpa [w_f6has] using h2⟩
/-! What drills train. -/
/-- a table marks letters -/
def Tb (t : List Bool) (s : List UInt8) : Prop := t.length = 256 ∧ ∀ c : UInt8, t[c.toNat]?.getD false = decide (c ∈ s)
theorem Tb.nil : Tb (List.replicate 256 false) [] := ⟨List.length_replicate, fun c => by
  have : c.toNat < 256 := c.toNat_lt
  rw [List.getElem?_replicate, if_pos this]
  rfl⟩
theorem Tb.put {t : List Bool} {s : List UInt8} (h : Tb t s) (c : UInt8) : Tb (t.set c.toNat true) (s ++ [c]) := by
  obtain ⟨h1, h2⟩ := h
  refine ⟨by rw [List.length_set]; exact h1, fun x => ?_⟩
  have hc : c.toNat < t.length := by rw [h1]; exact c.toNat_lt
  by_cases e : c.toNat = x.toNat
  · have e2 : x = c := (UInt8.toNat_inj.1 e).symm
    subst e2
    rw [List.getElem?_set_self hc]
    simp
  · rw [List.getElem?_set_ne e, h2 x]
    have e2 : x ≠ c := fun g => e (by rw [g])
    simp [e2]
theorem Tb.idx {t : List Bool} {s : List UInt8} (h : Tb t s) (c : UInt8) : idx t (c.toNat : Int) = some (decide (c ∈ s)) := by
  have hc : c.toNat < t.length := by rw [h.1]; exact c.toNat_lt
  rw [idx_lt t c.toNat hc, ← h.2 c, List.getElem?_eq_getElem hc]
  rfl
/-- indices of a list -/
def Ix (sel : List Nat) (n : Nat) : Prop := sel.length ≤ 100 ∧ ∀ i ∈ sel, i < n
def ints (sel : List Nat) : List Int := sel.map fun (i : Nat) => (i : Int)
theorem ints_len (sel : List Nat) : (ints sel).length = sel.length := by simp [ints]
theorem ints_get (sel : List Nat) (k : Nat) (h : k < sel.length) : idx (ints sel) (k : Int) = some (sel[k] : Int) := by
  rw [idx_lt _ k (by rw [ints_len]; exact h)]
  simp [ints]
/-- what is covered -/
def cov (T : Str) (ls : Str) (cs : List Int) : Int := ((ls.zip cs).map fun p => if p.1 ∈ T then p.2 else 0).sum
theorem cov_cons (T : Str) (x : UInt8) (c : Int) (xs : Str) (cs : List Int) : cov T (x :: xs) (c :: cs) = (if x ∈ T then c else 0) + cov T xs cs := by simp [cov]
/-- what is left -/
def lft (T : Str) (ls : Str) : Str := ls.filter fun c => !decide (c ∈ T)
theorem lft_cons (T : Str) (x : UInt8) (xs : Str) : lft T (x :: xs) = if x ∈ T then lft T xs else x :: lft T xs := by
  unfold lft
  by_cases h : x ∈ T <;> simp [h]
/-! Chosen drills: the bits of a number. -/
def bits (k n : Nat) : List Nat := (List.range n).filter fun i => k.testBit i
theorem range'_filter (k : Nat) : ∀ (n i : Nat), (List.range' i n).filter (fun j => k.testBit j) = (List.range' i n).filter (fun j => k.testBit j) := fun _ _ => rfl
theorem bits_ix (k m : Nat) (hm : m ≤ 6) : Ix (bits k m) m := by
  refine ⟨?_, fun i hi => ?_⟩
  · have := List.length_filter_le (fun i => k.testBit i) (List.range m)
    rw [List.length_range] at this
    unfold bits; omega
  · exact List.mem_range.1 (List.mem_filter.1 hi).1
theorem bits_low : ∀ n : Nat, n < 7 → ∀ k : Nat, k < 64 → (∀ i : Nat, i < 6 → n ≤ i → k.testBit i = false) → k < 2 ^ n := by decide +kernel
theorem shl_ok : ∀ n : Nat, n < 7 → shlO 1 (n : Int) = some ((2 ^ n : Nat) : Int) := by decide +kernel
/-- a valid choice of indices -/
def RI (l : List Int) (n : Nat) : Prop := l.length ≤ 100 ∧ (∀ i, ∀ h : i < l.length, 0 ≤ l[i] ∧ l[i] < n) ∧ ∀ i, ∀ h : i + 1 < l.length, l[i] < l[i + 1]
theorem areIx_l1 (l : List Int) (n : Nat) (hn : n ≤ 1000) (h : RI l n) (kj : Option Bool) (hk : kj = some true) : ∀ (q i N : Nat), i + q = l.length → q < N → i_areIndices_l1 kj l (n : Int) N (i : Int) = some true := by
  intro q
  induction q with
  | zero =>
    intro i N hi hN
    obtain ⟨N, rfl⟩ := pos_fuel hN
    have hz : ¬ (i : Int) < (l.length : Int) := by omega
    simp only [i_areIndices_l1, hz, decide_false, cond_false, hk]
  | succ q ih =>
    intro i N hi hN
    obtain ⟨N, rfl⟩ := pos_fuel hN
    have hz : (i : Int) < (l.length : Int) := by omega
    have hlt : i < l.length := by omega
    obtain ⟨v1, v2⟩ := h.2.1 i hlt
    have hb : (decide (l[i] ≥ 0) && decide (l[i] ≤ (n : Int) - 1)) = true := by
      have : l[i] ≤ (n : Int) - 1 := by omega
      simp [v1, this]
    have h1 := h.1
    simp only [i_areIndices_l1, hz, decide_true, cond_true, i_between]
    rw [idx_lt l i hlt, w64_id (x := (n : Int) - 1) (by omega) (by omega)]
    simp only [Option.bind_some, andO_some, hb, Bool.not_true, orO_false]
    have hA : (andO (decide ((i : Int) > 0)) ((idx l (w64 ((i : Int) - 1))).bind fun e22 => some (decide (l[i] ≤ e22)))) = some false := by
      by_cases h0 : i = 0
      · subst h0; rfl
      · have hp : decide ((i : Int) > 0) = true := decide_eq_true (by omega)
        have e : w64 ((i : Int) - 1) = ((i - 1 : Nat) : Int) := by rw [w64_id (by omega) (by omega)]; omega
        rw [hp, e, idx_lt l (i - 1) (by omega)]
        have h3 := h.2.2 (i - 1) (by omega)
        have h4 : l[i - 1 + 1]'(by omega) = l[i] := by congr 1; omega
        rw [h4] at h3
        simp only [andO_true, Option.bind_some]
        refine congrArg some (decide_eq_false ?_)
        omega
    rw [hA]
    simp only [Option.bind_some, cond_false]
    rw [w64_nat i (by omega)]
    exact ih (i + 1) N (by omega) (by omega)
theorem areIx_ok (l : List Int) (n : Nat) (hn : n ≤ 1000) (h : RI l n) (N : Nat) (hN : 200 < N) : i_areIndices N l (n : Int) = some true := by
  have h1 := h.1
  unfold i_areIndices
  simp only [withK_eq]
  exact areIx_l1 l n hn h (some true) rfl l.length 0 N (by omega) (by omega)
theorem filter_ri (n : Nat) (hn : n ≤ 100) (p : Nat → Bool) : RI (ints ((List.range n).filter p)) n := by
  have hs : ((List.range n).filter p).Pairwise (· < ·) := List.Pairwise.filter _ List.pairwise_lt_range
  refine ⟨?_, fun i h => ?_, fun i h => ?_⟩
  · rw [ints_len]
    have := List.length_filter_le p (List.range n)
    rw [List.length_range] at this
    omega
  · rw [ints_len] at h
    have hm := List.getElem_mem h
    have := List.mem_range.1 (List.mem_filter.1 hm).1
    simp [ints]
    omega
  · rw [ints_len] at h
    have := List.pairwise_iff_getElem.1 hs i (i + 1) (by omega) h (by omega)
    simp [ints]
    omega
/-! what is the same as itself -/
theorem fi_l1 (l : List Int) (hl : l.length ≤ 100) (kj : Option Bool) : ∀ (q x N : Nat), x + q = l.length → q < N → w_f6ints_l1 kj l l N (x : Int) = kj := by
  intro q
  induction q with
  | zero =>
    intro x N hx hN
    obtain ⟨N, rfl⟩ := pos_fuel hN
    rw [w_f6ints_l1, decide_eq_false (by omega : ¬ (x : Int) < (l.length : Int)), cond_false]
  | succ q ih =>
    intro x N hx hN
    obtain ⟨N, rfl⟩ := pos_fuel hN
    have hlt : x < l.length := by omega
    have hne : (l[x] != l[x]) = false := by simp
    rw [w_f6ints_l1, decide_eq_true (by omega : (x : Int) < (l.length : Int)), cond_true, idx_lt l x hlt, Option.bind_some, Option.bind_some, hne, cond_false, w64_nat x (by omega)]
    exact ih (x + 1) N (by omega) (by omega)
theorem ints_ok (l : List Int) (hl : l.length ≤ 100) (N : Nat) (hN : 200 < N) : w_f6ints N l l = some true := by
  unfold w_f6ints
  have hne : ((l.length : Int) != (l.length : Int)) = false := by simp
  rw [hne, cond_false, withK_n]
  exact fi_l1 l hl (some true) l.length 0 N (by omega) (by omega)
/-! Valid lessons. -/
def risF (n : Int) : Option Int → List Int → Bool
  | _, [] => true
  | p, x :: r => inr x 0 (n - 1) && ((match p with | none => true | some y => decide (y < x)) && risF n (some x) r)
def prv (l : List Int) (i : Nat) : Option Int := if i = 0 then none else l[i - 1]?
theorem prv_succ (l : List Int) (i : Nat) (h : i < l.length) : prv l (i + 1) = some l[i] := by
  unfold prv; rw [if_neg (by omega), Nat.add_sub_cancel, List.getElem?_eq_getElem h]
theorem ris_l1 (l : List Int) (n : Nat) (hn : n ≤ 1000) (hl : l.length ≤ 1000) (kj : Option Bool) : ∀ (q i N : Nat), i + q = l.length → q < N →
    i_areIndices_l1 kj l (n : Int) N (i : Int) = (bif risF n (prv l i) (l.drop i) then kj else some false) ∧ s_l00Rises_l1 kj l 0 ((n : Int) - 1) N (i : Int) = (bif risF n (prv l i) (l.drop i) then kj else some false) := by
  intro q
  induction q with
  | zero =>
    intro i N h1 h3
    obtain ⟨N, rfl⟩ := pos_fuel h3
    have hi : ¬ ((i : Int) < (l.length : Int)) := by omega
    have e2 : l.drop i = [] := List.drop_of_length_le (by omega)
    simp [i_areIndices_l1, s_l00Rises_l1, hi, e2, risF]
  | succ q ih =>
    intro i N h1 h3
    obtain ⟨N, rfl⟩ := pos_fuel h3
    have hi : (i : Int) < (l.length : Int) := by omega
    have hn2 : i < l.length := by omega
    obtain ⟨g1, g2⟩ := ih (i + 1) N (by omega) (by omega)
    have e0 : w64 ((n : Int) - 1) = (n : Int) - 1 := w64_id (by omega) (by omega)
    rw [drop_cons l i hn2]
    simp only [i_areIndices_l1, s_l00Rises_l1, hi, decide_true, cond_true, idx_lt l i hn2, Option.bind_some, e0, i_between_eq, s_l00In_eq, w64_nat i (by omega), g1, g2, prv_succ l i hn2, risF]
    by_cases h0 : i = 0
    · subst h0
      have e3 : decide (((0 : Nat) : Int) > 0) = false := rfl
      simp only [e3, andO_false, Option.bind_some, orO_some, Bool.or_false, prv, if_true, Bool.true_and]
      cases inr l[0] 0 ((n : Int) - 1) <;> exact ⟨rfl, rfl⟩
    · have e3 : decide ((i : Int) > 0) = true := decide_eq_true (by omega)
      have e4 : w64 ((i : Int) - 1) = ((i - 1 : Nat) : Int) := by rw [w64_id (by omega) (by omega)]; omega
      have e5 : prv l i = some (l[i - 1]'(by omega)) := by unfold prv; rw [if_neg h0, List.getElem?_eq_getElem]
      simp only [e3, e4, e5, andO_true, idx_lt l (i - 1) (by omega), Option.bind_some, orO_some]
      have e6 : decide (l[i] ≤ l[i - 1]'(by omega)) = !(decide (l[i - 1]'(by omega) < l[i])) := by rw [Bool.eq_iff_iff]; simp
      have e7 : decide (l[i - 1]'(by omega) ≥ l[i]) = !(decide (l[i - 1]'(by omega) < l[i])) := by rw [Bool.eq_iff_iff]; simp
      rw [e6]
      cases inr l[i] 0 ((n : Int) - 1) <;> cases decide (l[i - 1]'(by omega) < l[i]) <;> exact ⟨rfl, rfl⟩
def risB (n : Nat) (l : List Int) : Bool := risF n none l
theorem ris_ok (l : List Int) (n : Nat) (hn : n ≤ 1000) (hl : l.length ≤ 1000) (N : Nat) (hN : 1000 < N) : i_areIndices N l (n : Int) = some (risB n l) ∧ s_l00Rises N l 0 (w64 ((n : Int) - 1)) = some (risB n l) := by
  obtain ⟨h1, h2⟩ := ris_l1 l n hn hl (some true) l.length 0 N (by omega) (by omega)
  unfold i_areIndices s_l00Rises
  rw [w64_id (x := (n : Int) - 1) (by omega) (by omega), withK_n, withK_n]
  refine ⟨h1.trans ?_, h2.trans ?_⟩
  all_goals
    show (bif risF n none (l.drop 0) then some true else some false) = some (risF n none l)
    rw [List.drop_zero]
    cases risF n none l <;> rfl
theorem cont_l1 (l : List Int) (c : Int) (ha : l.length ≤ 1000) : ∀ (n i N : Nat), i + n = l.length → n < N → i_contains_l1 (some false) l c N (i : Int) = some ((l.drop i).any (· == c)) := by
  intro n
  induction n with
  | zero =>
    intro i N h1 h3
    obtain ⟨N, rfl⟩ := pos_fuel h3
    have hi : ¬ ((i : Int) < (l.length : Int)) := by omega
    have e2 : l.drop i = [] := List.drop_of_length_le (by omega)
    simp [i_contains_l1, hi, e2]
  | succ n ih =>
    intro i N h1 h3
    obtain ⟨N, rfl⟩ := pos_fuel h3
    have hi : (i : Int) < (l.length : Int) := by omega
    have hn : i < l.length := by omega
    have h4 := ih (i + 1) N (by omega) (by omega)
    simp only [i_contains_l1, hi, decide_true, cond_true, idx_lt l i hn, Option.bind_some, w64_nat i (by omega), h4, drop_cons l i hn, List.any_cons]
    cases (l[i] == c) <;> rfl
theorem cont_ok (l : List Int) (c : Int) (ha : l.length ≤ 1000) (N : Nat) (hN : 1000 < N) : i_contains N l c = some (l.any (· == c)) := by
  have := cont_l1 l c ha l.length 0 N (by omega) (by omega)
  simpa [i_contains] using this
def ascB : Str → Bool
  | a :: b :: r => decide (a < b) && ascB (b :: r)
  | _ => true
theorem ascI_l2 (x : Lesson) (kj : Option Bool) (hl : x.letters.length ≤ 1000) : ∀ (q i N : Nat), i + 1 + q = x.letters.length → q < N → i_ValidLessons_l2 kj x N ((i + 1 : Nat) : Int) = (bif ascB (x.letters.drop i) then kj else some false) ∧ s_l18Ok_l2 kj x N ((i + 1 : Nat) : Int) = (bif ascB (x.letters.drop i) then kj else some false) := by
  intro q
  induction q with
  | zero =>
    intro i N h1 h3
    obtain ⟨N, rfl⟩ := pos_fuel h3
    have hi : ¬ (((i + 1 : Nat) : Int) < (x.letters.length : Int)) := by omega
    have e2 : x.letters.drop i = [x.letters[i]'(by omega)] := by rw [List.drop_eq_getElem_cons (by omega), List.drop_of_length_le (by omega)]
    rw [e2]
    simp only [i_ValidLessons_l2, s_l18Ok_l2, hi, decide_false, cond_false, ascB, cond_true]
    exact ⟨trivial, trivial⟩
  | succ q ih =>
    intro i N h1 h3
    obtain ⟨N, rfl⟩ := pos_fuel h3
    have hi : (((i + 1 : Nat) : Int) < (x.letters.length : Int)) := by omega
    obtain ⟨g1, g2⟩ := ih (i + 1) N (by omega) (by omega)
    have e4 : w64 (((i + 1 : Nat) : Int) - 1) = (i : Int) := by rw [w64_id (by omega) (by omega)]; omega
    have h5 : i < x.letters.length := by omega
    have h6 : i + 1 < x.letters.length := by omega
    have e2 : x.letters.drop i = x.letters[i] :: x.letters[i + 1] :: x.letters.drop (i + 1 + 1) := by rw [drop_cons _ i h5, drop_cons _ (i + 1) h6]
    simp only [i_ValidLessons_l2, s_l18Ok_l2, hi, decide_true, cond_true, e4, idx_lt x.letters i h5, idx_lt x.letters (i + 1) h6, Option.bind_some, w64_nat (i + 1) (by omega), g1, g2]
    rw [e2, drop_cons _ (i + 1) h6]
    simp only [ascB]
    have e6 : decide (x.letters[i + 1] ≤ x.letters[i]) = !(decide (x.letters[i] < x.letters[i + 1])) := by rw [Bool.eq_iff_iff]; simp [UInt8.not_lt]
    have e7 : decide (x.letters[i] ≥ x.letters[i + 1]) = !(decide (x.letters[i] < x.letters[i + 1])) := by rw [Bool.eq_iff_iff]; simp [UInt8.not_lt]
    rw [e6]
    cases decide (x.letters[i] < x.letters[i + 1]) <;> exact ⟨rfl, rfl⟩
theorem asc_ok (x : Lesson) (kj : Option Bool) (hl : x.letters.length ≤ 1000) (N : Nat) (hN : 1000 < N) : i_ValidLessons_l2 kj x N 1 = (bif ascB x.letters then kj else some false) ∧ s_l18Ok_l2 kj x N 1 = (bif ascB x.letters then kj else some false) := by
  cases hx : x.letters with
  | nil =>
    obtain ⟨N, rfl⟩ := pos_fuel hN
    have hi : ¬ ((1 : Int) < (x.letters.length : Int)) := by rw [hx]; simp
    simp only [i_ValidLessons_l2, s_l18Ok_l2, hi, decide_false, cond_false, ascB, cond_true]
    exact ⟨trivial, trivial⟩
  | cons a r =>
    have := ascI_l2 x kj hl r.length 0 N (by rw [hx]; simp; omega) (by rw [hx] at hl; simp at hl; omega)
    rw [List.drop_zero, hx] at this
    exact this
/-- sizes -/
def SzL (L : List Lesson) : Prop := L.length ≤ 20 ∧ ∀ x ∈ L, x.letters.length ≤ 200 ∧ x.needs.length ≤ 200 ∧ x.name.length ≤ 200
def okL (n i : Nat) (x : Lesson) : Bool := nm x.name && ((isT x.letters 33 && decide ((x.letters.length : Int) ≤ 100)) && (inr x.hours 0 100 && (ascB x.letters && (risB n x.needs && !(x.needs.any (· == (i : Int)))))))
def vl (n : Nat) : List Str → Nat → List Lesson → Bool
  | _, _, [] => true
  | seen, i, x :: r => (okL n i x && !(seen.any (x.name == ·))) && vl n (seen ++ [x.name]) (i + 1) r
theorem vlI_l1 (L : List Lesson) (h : SzL L) : ∀ (q i N : Nat) (mp : List (Str × Bool)) (seen : List Str), i + q = L.length → q + 1001 < N → (∀ s, mget mp s = seen.any (s == ·)) → i_ValidLessons_l1 (some true) L N mp (i : Int) = some (vl L.length seen i (L.drop i)) := by
  intro q
  induction q with
  | zero =>
    intro i N mp seen h1 h3 hm
    obtain ⟨N, rfl⟩ := pos_fuel h3
    have hi : ¬ ((i : Int) < (L.length : Int)) := by omega
    have e2 : L.drop i = [] := List.drop_of_length_le (by omega)
    simp [i_ValidLessons_l1, hi, e2, vl]
  | succ q ih =>
    intro i N mp seen h1 h3 hm
    obtain ⟨N, rfl⟩ := pos_fuel h3
    have hi : (i : Int) < (L.length : Int) := by omega
    have hn : i < L.length := by omega
    obtain ⟨hL, hX⟩ := h
    obtain ⟨z1, z2, z3⟩ := hX L[i] (List.getElem_mem hn)
    have g1 := fun kj => (asc_ok L[i] kj (by omega) N (by omega)).1
    have g2 := (ris_ok L[i].needs L.length (by omega) (by omega) N (by omega)).1
    have g3 := cont_ok L[i].needs (i : Int) (by omega) N (by omega)
    have g4 := i_text L[i].letters 33 100 (by omega) N (by omega)
    have e33 : (33 : UInt8).toNat = 33 := rfl
    rw [drop_cons L i hn]
    simp only [i_ValidLessons_l1, hi, decide_true, cond_true, withK_n, idx_lt L i hn, Option.bind_some, i_IsName_eq N (by omega), g4, i_between_eq, orO_some, g1, g2, g3, vl, e33]
    have hm' : ∀ s, mget (mset mp L[i].name true) s = (seen ++ [L[i].name]).any (s == ·) := fun s => by
      rw [mget_mset, hm s, List.any_append]
      simp [Bool.or_comm]
    rw [hm, w64_nat i (by omega), ih (i + 1) N _ _ (by omega) (by omega) hm']
    simp only [okL]
    cases nm L[i].name <;> cases decide ((L[i].letters.length : Int) ≤ 100) <;> cases isT L[i].letters 33 <;> cases inr L[i].hours 0 100 <;> cases ascB L[i].letters <;> cases risB L.length L[i].needs <;> cases (L[i].needs.any (· == (i : Int))) <;> cases (seen.any (L[i].name == ·)) <;> rfl
theorem vlS_l3 (L : List Lesson) (hL : L.length ≤ 20) (i : Nat) (hi : i ≤ L.length) (x : Lesson) (kj : Option Bool) : ∀ (q k N : Nat), k + q = i → q < N → s_l18Ok_l3 kj L (i : Int) x N (k : Int) = (bif ((L.take i).drop k).any (fun y => y.name == x.name) then some false else kj) := by
  intro q
  induction q with
  | zero =>
    intro k N h1 h3
    obtain ⟨N, rfl⟩ := pos_fuel h3
    have hz : ¬ ((k : Int) < (i : Int)) := by omega
    have e2 : (L.take i).drop k = [] := List.drop_of_length_le (by rw [List.length_take]; omega)
    simp [s_l18Ok_l3, hz, e2]
  | succ q ih =>
    intro k N h1 h3
    obtain ⟨N, rfl⟩ := pos_fuel h3
    have hz : (k : Int) < (i : Int) := by omega
    have hk : k < (L.take i).length := by rw [List.length_take]; omega
    have hk2 : k < L.length := by omega
    rw [drop_cons (L.take i) k hk]
    simp only [s_l18Ok_l3, hz, decide_true, cond_true, idx_lt L k hk2, Option.bind_some, w64_nat k (by omega), ih (k + 1) N (by omega) (by omega), List.any_cons, List.getElem_take]
    cases (L[k].name == x.name) <;> rfl
theorem vlS_l1 (L : List Lesson) (h : SzL L) (kj : Option Bool) : ∀ (q i N : Nat), i + q = L.length → q + 1001 < N → s_l18Ok_l1 kj L N (i : Int) = bif vl L.length ((L.take i).map (·.name)) i (L.drop i) then kj else some false := by
  intro q
  induction q with
  | zero =>
    intro i N h1 h3
    obtain ⟨N, rfl⟩ := pos_fuel h3
    have hi : ¬ ((i : Int) < (L.length : Int)) := by omega
    have e2 : L.drop i = [] := List.drop_of_length_le (by omega)
    simp [s_l18Ok_l1, hi, e2, vl]
  | succ q ih =>
    intro i N h1 h3
    obtain ⟨N, rfl⟩ := pos_fuel h3
    have hi : (i : Int) < (L.length : Int) := by omega
    have hn : i < L.length := by omega
    have h0 := h
    obtain ⟨hL, hX⟩ := h
    obtain ⟨z1, z2, z3⟩ := hX L[i] (List.getElem_mem hn)
    have g1 := fun kj => (asc_ok L[i] kj (by omega) N (by omega)).2
    have g2 := (ris_ok L[i].needs L.length (by omega) (by omega) N (by omega)).2
    have g3 := (Has_eq N L[i].needs (i : Int) (by unfold LIM; omega) (by omega)).1
    have g4 := s_text L[i].letters (by omega) N (by omega)
    have g5 := fun kj => vlS_l3 L hL i (by omega) L[i] kj i 0 N (by omega) (by omega)
    rw [drop_cons L i hn]
    simp only [s_l18Ok_l1, hi, decide_true, cond_true, withK_n, idx_lt L i hn, Option.bind_some, s_IsName_eq N (by omega), g4, s_l00In_eq, orO_some, g1, g2, g3, vl]
    have e3 : ((L.take (i + 1)).map (·.name)) = (L.take i).map (·.name) ++ [L[i].name] := by rw [List.take_succ_eq_append_getElem hn, List.map_append]; rfl
    rw [show (0 : Int) = ((0 : Nat) : Int) from rfl, g5, w64_nat i (by omega), ih (i + 1) N (by omega) (by omega), e3, List.drop_zero]
    have e4 : ((L.take i).map (·.name)).any (L[i].name == ·) = (L.take i).any (fun y => y.name == L[i].name) := by
      rw [List.any_map]
      exact congrArg (fun f => List.any (L.take i) f) (funext fun y => BEq.comm)
    rw [e4]
    simp only [okL]
    cases nm L[i].name <;> cases decide ((L[i].letters.length : Int) ≤ 100) <;> cases isT L[i].letters 33 <;> cases inr L[i].hours 0 100 <;> cases ascB L[i].letters <;> cases risB L.length L[i].needs <;> cases (L[i].needs.any (· == (i : Int))) <;> cases ((L.take i).any (fun y => y.name == L[i].name)) <;> rfl
def vlL (L : List Lesson) : Bool := decide ((L.length : Int) ≤ 12) && vl L.length [] 0 L
theorem valid_ok (L : List Lesson) (h : SzL L) (N : Nat) (hN : 2000 < N) : i_ValidLessons N L = some (vlL L) ∧ s_l18Ok N L = some (vlL L) := by
  have hL := h.1
  have h1 := vlI_l1 L h L.length 0 N [] [] (by omega) (by omega) (fun s => rfl)
  have h2 := fun kj => vlS_l1 L h kj L.length 0 N (by omega) (by omega)
  rw [show ((0 : Nat) : Int) = 0 from rfl] at h1 h2
  rw [List.drop_zero] at h1 h2
  unfold i_ValidLessons s_l18Ok vlL
  simp only [withK_n, h1, h2]
  rw [List.take_zero, List.map_nil]
  have e : decide ((L.length : Int) > 12) = !(decide ((L.length : Int) ≤ 12)) := by rw [Bool.eq_iff_iff]; simp
  rw [e]
  cases decide ((L.length : Int) ≤ 12) <;> cases vl L.length [] 0 L <;> exact ⟨rfl, rfl⟩
/-! What is needed, directly and through others. -/
/-- valid lessons, as far as it matters for numbers -/
structure GL (L : List Lesson) : Prop where
  len : L.length ≤ 12
  need : ∀ x ∈ L, x.needs.Pairwise (· < ·) ∧ ∀ k ∈ x.needs, 0 ≤ k ∧ k < (L.length : Int)
  hrs : ∀ x ∈ L, 0 ≤ x.hours ∧ x.hours ≤ 100
  let_ : ∀ x ∈ L, x.letters.length ≤ 100
theorem risF_mem (n : Int) : ∀ (l : List Int) (p : Option Int), risF n p l = true → l.Pairwise (· < ·) ∧ (∀ k ∈ l, 0 ≤ k ∧ k < n) ∧ ∀ y, p = some y → ∀ k ∈ l, y < k
  | [], p, _ => ⟨List.Pairwise.nil, fun k hk => by simp at hk, fun y _ k hk => by simp at hk⟩
  | x :: r, p, h => by
    simp only [risF, Bool.and_eq_true] at h
    obtain ⟨h1, h2, h3⟩ := h
    obtain ⟨g1, g2, g3⟩ := risF_mem n r (some x) h3
    have h4 := inr_iff.1 h1
    refine ⟨List.pairwise_cons.2 ⟨fun k hk => g3 x rfl k hk, g1⟩, fun k hk => ?_, fun y hy k hk => ?_⟩
    · rcases List.mem_cons.1 hk with rfl | hk
      · omega
      · exact g2 k hk
    · subst hy
      have h5 : y < x := of_decide_eq_true h2
      rcases List.mem_cons.1 hk with rfl | hk
      · exact h5
      · exact Int.lt_trans h5 (g3 x rfl k hk)
theorem vl_all (n : Nat) : ∀ (L : List Lesson) (seen : List Str) (i : Nat), vl n seen i L = true → ∀ x ∈ L, nm x.name = true ∧ (isT x.letters 33 = true ∧ (x.letters.length : Int) ≤ 100) ∧ inr x.hours 0 100 = true ∧ ascB x.letters = true ∧ risB n x.needs = true
  | [], _, _, _, x, hx => by simp at hx
  | y :: L, seen, i, h, x, hx => by
    simp only [vl, okL, Bool.and_eq_true, decide_eq_true_eq] at h
    rcases List.mem_cons.1 hx with rfl | hx
    · exact ⟨h.1.1.1, h.1.1.2.1, h.1.1.2.2.1, h.1.1.2.2.2.1, h.1.1.2.2.2.2.1⟩
    · exact vl_all n L _ _ h.2 x hx
theorem gl_of {L : List Lesson} (h : vlL L = true) : GL L := by
  unfold vlL at h
  simp only [Bool.and_eq_true, decide_eq_true_eq] at h
  have h2 := vl_all _ L _ _ h.2
  refine ⟨by omega, fun x hx => ?_, fun x hx => ?_, fun x hx => ?_⟩
  · obtain ⟨g1, g2, _⟩ := risF_mem _ _ _ (h2 x hx).2.2.2.2
    exact ⟨g1, g2⟩
  · have := inr_iff.1 (h2 x hx).2.2.1
    omega
  · have := (h2 x hx).2.1.2
    omega
inductive Rch (L : List Lesson) (S : List Int) : Int → Prop
  | base {k : Int} : k ∈ S → Rch L S k
  | step {j k : Int} {x : Lesson} : Rch L S j → L[j.toNat]? = some x → k ∈ x.needs → Rch L S k
theorem Rch.sub {L : List Lesson} {S : List Int} {T : Int → Prop} (h1 : ∀ k ∈ S, T k) (h2 : ∀ j x, T j → L[j.toNat]? = some x → ∀ k ∈ x.needs, T k) {k : Int} (h : Rch L S k) : T k := by
  induction h with
  | base h => exact h1 _ h
  | step _ hx hk ih => exact h2 _ _ ih hx _ hk
theorem GL.at {L : List Lesson} (h : GL L) {j : Nat} {x : Lesson} (hx : L[j]? = some x) : x.needs.Pairwise (· < ·) ∧ ∀ k ∈ x.needs, 0 ≤ k ∧ k < (L.length : Int) := h.need x (List.mem_of_getElem? hx)
theorem sorted_le {n : Int} {l : List Int} (h : l.Pairwise (· < ·)) (hb : ∀ k ∈ l, 0 ≤ k ∧ k < n) (hn : 0 ≤ n) : (l.length : Int) ≤ n := by
  have key : ∀ (l : List Int) (a : Int), l.Pairwise (· < ·) → (∀ k ∈ l, a ≤ k ∧ k < n) → a ≤ n → (l.length : Int) ≤ n - a := by
    intro l
    induction l with
    | nil => intro a _ _ h; simp; omega
    | cons x l ih =>
      intro a h1 h2 h3
      rw [List.pairwise_cons] at h1
      have hx := h2 x (List.mem_cons_self ..)
      have := ih (x + 1) h1.2 (fun k hk => ⟨by have := h1.1 k hk; omega, (h2 k (List.mem_cons_of_mem _ hk)).2⟩) (by omega)
      simp only [List.length_cons]
      omega
  have := key l 0 h hb hn
  omega
theorem GL.nlen {L : List Lesson} (h : GL L) {x : Lesson} (hx : x ∈ L) : x.needs.length ≤ 12 := by
  obtain ⟨h1, h2⟩ := h.need x hx
  have := sorted_le h1 h2 (by omega)
  have := h.len
  omega
/-- marks of numbers -/
def cntF (t : List Bool) : Nat := (t.filter (fun b => !b)).length
theorem cntF_set : ∀ (t : List Bool) (i : Nat), t[i]? = some false → cntF (t.set i true) + 1 = cntF t
  | [], i, h => by simp at h
  | b :: t, 0, h => by simp at h; subst h; simp [cntF]
  | b :: t, i + 1, h => by
    have := cntF_set t i (by simpa using h)
    cases b <;> simp [cntF] at this ⊢ <;> omega
def Mk (t : List Bool) (k : Int) : Prop := t[k.toNat]? = some true
theorem mk_set {t : List Bool} {i k : Int} (hi : i.toNat < t.length) (hk : 0 ≤ k) (hi0 : 0 ≤ i) : Mk (t.set i.toNat true) k ↔ k = i ∨ Mk t k := by
  unfold Mk
  by_cases h : i.toNat = k.toNat
  · have e : k = i := by omega
    subst e
    rw [List.getElem?_set_self hi]; simp
  · rw [List.getElem?_set_ne h]
    have e : k ≠ i := fun e => h (by rw [e])
    simp [e]
theorem circ_end (L : List Lesson) (hL : GL L) (S : List Int) (hS0 : ∀ k ∈ S, 0 ≤ k) (t : List Bool) (hM : ∀ k : Int, 0 ≤ k → Mk t k → Rch L S k) (hS : ∀ k ∈ S, Mk t k) (hC : ∀ (j : Int) x, 0 ≤ j → Mk t j → L[j.toNat]? = some x → ∀ k ∈ x.needs, Mk t k) : ∀ k : Int, 0 ≤ k → (Mk t k ↔ Rch L S k) := fun k hk =>
  ⟨hM k hk, fun h => (Rch.sub (T := fun k => 0 ≤ k ∧ Mk t k) (fun k hk => ⟨hS0 k hk, hS k hk⟩) (fun j x hj hx k hk => ⟨((hL.at hx).2 k hk).1, hC j x hj.1 hj.2 hx k hk⟩) h).2⟩
theorem circ_l2 (L : List Lesson) (hL : GL L) (S : List Int) (hS0 : ∀ k ∈ S, 0 ≤ k) (kj : List Bool → Option Int) : ∀ (μ : Nat) (q : List Int) (t : List Bool) (N : Nat), 13 * cntF t + q.length ≤ μ → μ < N → μ ≤ 1000 → t.length = L.length → (∀ k ∈ q, 0 ≤ k ∧ k < (L.length : Int)) →
    (∀ k ∈ q, Rch L S k) → (∀ k : Int, 0 ≤ k → Mk t k → Rch L S k) → (∀ k ∈ S, k ∈ q ∨ Mk t k) → (∀ (j : Int) x, 0 ≤ j → Mk t j → L[j.toNat]? = some x → ∀ k ∈ x.needs, k ∈ q ∨ Mk t k) →
    ∃ t' : List Bool, t'.length = L.length ∧ (∀ k : Int, 0 ≤ k → (Mk t' k ↔ Rch L S k)) ∧ i_lessonCircle_l2 kj L N q t = kj t' := by
  intro μ
  induction μ with
  | zero =>
    intro q t N h1 h2 hq ht hb hR hM hS hC
    obtain ⟨N, rfl⟩ := pos_fuel h2
    have : q = [] := List.eq_nil_of_length_eq_zero (by omega)
    subst this
    exact ⟨t, ht, circ_end L hL S hS0 t hM (fun k hk => (hS k hk).resolve_left (by simp)) (fun j x h1 h2 h3 k hk => (hC j x h1 h2 h3 k hk).resolve_left (by simp)), by simp [i_lessonCircle_l2]⟩
  | succ μ ih =>
    intro q t N h1 h2 hq ht hb hR hM hS hC
    obtain ⟨N, rfl⟩ := pos_fuel h2
    cases q with
    | nil => exact ⟨t, ht, circ_end L hL S hS0 t hM (fun k hk => (hS k hk).resolve_left (by simp)) (fun j x h1 h2 h3 k hk => (hC j x h1 h2 h3 k hk).resolve_left (by simp)), by simp [i_lessonCircle_l2]⟩
    | cons k r =>
      have e1 : ((k :: r).length : Int) > 0 := by simp only [List.length_cons]; omega
      have e2 : idx (k :: r) 0 = some k := rfl
      have e3 : sub (k :: r) 1 ((k :: r).length : Int) = some r := by
        rw [sub_some _ _ _ (by omega) (by simp only [List.length_cons]; omega) (by omega)]
        simp
      obtain ⟨hk0, hk1⟩ := hb k (List.mem_cons_self ..)
      have hkl : k.toNat < t.length := by omega
      have hkL : k.toNat < L.length := by omega
      have e4 : idx t k = some t[k.toNat] := idx_int t k hk0 (by omega)
      have e5 : idx L k = some L[k.toNat] := idx_int L k hk0 (by omega)
      simp only [List.length_cons] at h1
      simp only [i_lessonCircle_l2, e1, decide_true, cond_true, e2, e3, e4, Option.bind_some]
      have hRk := hR k (List.mem_cons_self ..)
      cases hm : t[k.toNat] with
      | true =>
        have hMk : Mk t k := by unfold Mk; rw [List.getElem?_eq_getElem hkl, hm]
        simp only [cond_true]
        refine ih r t N (by omega) (by omega) (by omega) ht (fun j hj => hb j (List.mem_cons_of_mem _ hj)) (fun j hj => hR j (List.mem_cons_of_mem _ hj)) hM (fun j hj => ?_) (fun j x g1 g2 g3 i hi => ?_)
        · rcases hS j hj with h | h
          · rcases List.mem_cons.1 h with rfl | h
            · exact .inr hMk
            · exact .inl h
          · exact .inr h
        · rcases hC j x g1 g2 g3 i hi with h | h
          · rcases List.mem_cons.1 h with rfl | h
            · exact .inr hMk
            · exact .inl h
          · exact .inr h
      | false =>
        have hx : L[k.toNat]? = some L[k.toNat] := List.getElem?_eq_getElem hkL
        obtain ⟨n1, n2⟩ := hL.at hx
        have n3 := hL.nlen (List.getElem_mem hkL)
        have hc := cntF_set t k.toNat (by rw [List.getElem?_eq_getElem hkl, hm])
        have e6 : app r L[k.toNat].needs = some (r ++ L[k.toNat].needs) := app_some _ _ (by unfold LIM; omega)
        simp only [cond_false, Option.bind_some, e5, e6]
        have hset : ∀ i : Int, 0 ≤ i → (Mk (t.set k.toNat true) i ↔ i = k ∨ Mk t i) := fun i hi => mk_set hkl hi hk0
        refine ih (r ++ L[k.toNat].needs) (t.set k.toNat true) N (by rw [List.length_append]; omega) (by omega) (by omega) (by rw [List.length_set]; exact ht) (fun j hj => ?_) (fun j hj => ?_) (fun j h0 hj => ?_) (fun j hj => ?_) (fun j x g1 g2 g3 i hi => ?_)
        · rcases List.mem_append.1 hj with h | h
          · exact hb j (List.mem_cons_of_mem _ h)
          · exact n2 j h
        · rcases List.mem_append.1 hj with h | h
          · exact hR j (List.mem_cons_of_mem _ h)
          · exact .step hRk hx h
        · rcases (hset j h0).1 hj with rfl | h
          · exact hRk
          · exact hM j h0 h
        · have h0 := hS0 j hj
          rcases hS j hj with h | h
          · rcases List.mem_cons.1 h with rfl | h
            · exact .inr ((hset j h0).2 (.inl rfl))
            · exact .inl (List.mem_append_left _ h)
          · exact .inr ((hset j h0).2 (.inr h))
        · have h0 := ((hL.at g3).2 i hi).1
          rcases (hset j g1).1 g2 with rfl | h
          · rw [hx] at g3
            obtain rfl := Option.some.inj g3
            exact .inl (List.mem_append_right _ hi)
          · rcases hC j x g1 h g3 i hi with h | h
            · rcases List.mem_cons.1 h with rfl | h
              · exact .inr ((hset i h0).2 (.inl rfl))
              · exact .inl (List.mem_append_left _ h)
            · exact .inr ((hset i h0).2 (.inr h))
theorem cntF_le (t : List Bool) : cntF t ≤ t.length := by unfold cntF; exact List.length_filter_le _ _
/-- the other way: into their places until none is missing -/
theorem all_l2 (o : List Int) (ho : o.length ≤ 20) (x : Lesson) (hx : x.needs.length ≤ 20) (i0 : Int) (kj : List Int → Int → Option (List Int)) : ∀ (q k N : Nat), k + q = x.needs.length → q + 1001 < N →
    (s_l18All_l2 kj o x N i0 (k : Int) = kj o i0 ∧ ∀ v ∈ x.needs.drop k, v ∈ o) ∨ ∃ v ∈ x.needs, v ∉ o ∧ s_l18All_l2 kj o x N i0 (k : Int) = kj (putR v o) (-1) := by
  intro q
  induction q with
  | zero =>
    intro k N h1 h2
    obtain ⟨N, rfl⟩ := pos_fuel h2
    have hz : ¬ ((k : Int) < (x.needs.length : Int)) := by omega
    refine .inl ⟨by simp [s_l18All_l2, hz], fun v hv => ?_⟩
    rw [List.drop_of_length_le (by omega)] at hv
    simp at hv
  | succ q ih =>
    intro k N h1 h2
    obtain ⟨N, rfl⟩ := pos_fuel h2
    have hz : (k : Int) < (x.needs.length : Int) := by omega
    have hk : k < x.needs.length := by omega
    have e1 := (Has_eq N o x.needs[k] (by unfold LIM; omega) (by omega)).1
    simp only [s_l18All_l2, hz, decide_true, cond_true, idx_lt x.needs k hk, Option.bind_some, e1, Put_ok N o x.needs[k] (by omega) (by omega), w64_nat k (by omega)]
    cases h : o.any (· == x.needs[k]) with
    | true =>
      simp only [Bool.not_true, cond_false]
      rcases ih (k + 1) N (by omega) (by omega) with ⟨g1, g2⟩ | ⟨v, g1, g2, g3⟩
      · refine .inl ⟨g1, fun v hv => ?_⟩
        rw [drop_cons x.needs k hk] at hv
        rcases List.mem_cons.1 hv with rfl | hv
        · obtain ⟨y, hy, hyv⟩ := List.any_eq_true.1 h
          rw [beq_iff_eq] at hyv
          rw [← hyv]; exact hy
        · exact g2 v hv
      · exact .inr ⟨v, g1, g2, g3⟩
    | false =>
      simp only [Bool.not_false, cond_true]
      refine .inr ⟨x.needs[k], List.getElem_mem hk, fun hm => ?_, rfl⟩
      have := List.any_eq_false.1 h _ hm
      simp at this
theorem all_l1 (L : List Lesson) (hL : GL L) (S : List Int) (hS0 : ∀ k ∈ S, 0 ≤ k ∧ k < (L.length : Int)) (kj : List Int → Option (List Int)) : ∀ (μ : Nat) (o : List Int) (i N : Nat), (12 - o.length) * 14 + (o.length - i) ≤ μ → μ + 1100 < N → i ≤ o.length → o.Pairwise (· < ·) → (∀ k ∈ o, 0 ≤ k ∧ k < (L.length : Int)) → (∀ k ∈ o, Rch L S k) → (∀ k ∈ S, k ∈ o) →
    (∀ j x, j < i → ∀ v, o[j]? = some v → L[v.toNat]? = some x → ∀ k ∈ x.needs, k ∈ o) →
    ∃ o' : List Int, o'.Pairwise (· < ·) ∧ (∀ k ∈ o', 0 ≤ k ∧ k < (L.length : Int)) ∧ (∀ k, k ∈ o' ↔ Rch L S k) ∧ s_l18All_l1 kj L N o (i : Int) = kj o' := by
  intro μ
  induction μ with
  | zero =>
    intro o i N h1 h2 hi hs hb hR hS hC
    obtain ⟨N, rfl⟩ := pos_fuel h2
    have hz : ¬ ((i : Int) < (o.length : Int)) := by omega
    refine ⟨o, hs, hb, fun k => ⟨hR k, fun h => ?_⟩, by simp [s_l18All_l1, hz]⟩
    refine Rch.sub (T := fun k => k ∈ o) hS (fun j x hj hx k hk => ?_) h
    obtain ⟨m, hm, hmj⟩ := List.getElem_of_mem hj
    exact hC m x (by omega) j (by rw [List.getElem?_eq_getElem hm, hmj]) hx k hk
  | succ μ ih =>
    intro o i N h1 h2 hi hs hb hR hS hC
    obtain ⟨N, rfl⟩ := pos_fuel h2
    have hol : (o.length : Int) ≤ (L.length : Int) := sorted_le hs hb (by omega)
    have hL12 := hL.len
    by_cases hz : (i : Int) < (o.length : Int)
    · have hio : i < o.length := by omega
      obtain ⟨b1, b2⟩ := hb o[i] (List.getElem_mem hio)
      have hvl : o[i].toNat < L.length := by omega
      have hx : L[o[i].toNat]? = some L[o[i].toNat] := List.getElem?_eq_getElem hvl
      have e5 : idx L o[i] = some L[o[i].toNat] := idx_int L _ b1 (by omega)
      obtain ⟨n1, n2⟩ := hL.at hx
      have n3 := hL.nlen (List.getElem_mem hvl)
      simp only [s_l18All_l1, hz, decide_true, cond_true, withK_n, idx_lt o i hio, Option.bind_some, e5]
      rcases all_l2 o (by omega) L[o[i].toNat] (by omega) (i : Int) (fun l18 i20 => s_l18All_l1 kj L N l18 (w64 (i20 + 1))) L[o[i].toNat].needs.length 0 N (by omega) (by omega) with ⟨g1, g2⟩ | ⟨v, g1, g2, g3⟩
      · rw [show ((0 : Nat) : Int) = 0 from rfl] at g1
        rw [g1, w64_nat i (by omega)]
        refine ih o (i + 1) N (by omega) (by omega) (by omega) hs hb hR hS (fun j x hj v hv hx' k hk => ?_)
        by_cases hji : j = i
        · subst hji
          rw [List.getElem?_eq_getElem hio] at hv
          obtain rfl := Option.some.inj hv
          rw [hx] at hx'
          obtain rfl := Option.some.inj hx'
          exact g2 k hk
        · exact hC j x (by omega) v hv hx' k hk
      · rw [show ((0 : Nat) : Int) = 0 from rfl] at g3
        rw [g3, show w64 (-1 + 1) = ((0 : Nat) : Int) from rfl]
        have hlen : (putR v o).length = o.length + 1 := by
          have h5 := putR_len v o
          have hs' := putR_sorted v o hs
          have : o.length < (putR v o).length := by
            have hsub : ∀ z ∈ v :: o, z ∈ putR v o := fun z hz => (mem_putR v o z).2 (List.mem_cons.1 hz)
            have hnd : (v :: o).Nodup := List.nodup_cons.2 ⟨g2, hs.imp (fun h => by omega)⟩
            have := hnd.length_le_of_subset (fun z hz => hsub z hz)
            rw [List.length_cons] at this
            omega
          omega
        have hRv : Rch L S v := .step (hR _ (List.getElem_mem hio)) hx g1
        have hs' := putR_sorted v o hs
        have hb' : ∀ k ∈ putR v o, 0 ≤ k ∧ k < (L.length : Int) := fun k hk => by
          rcases (mem_putR v o k).1 hk with rfl | hk
          · exact n2 _ g1
          · exact hb k hk
        have hol' : ((putR v o).length : Int) ≤ (L.length : Int) := sorted_le hs' hb' (by omega)
        refine ih (putR v o) 0 N (by omega) (by omega) (by omega) hs' hb' (fun k hk => ?_) (fun k hk => (mem_putR v o k).2 (.inr (hS k hk))) (fun j x hj => by omega)
        rcases (mem_putR v o k).1 hk with rfl | hk
        · exact hRv
        · exact hR k hk
    · refine ⟨o, hs, hb, fun k => ⟨hR k, fun h => ?_⟩, by simp [s_l18All_l1, hz]⟩
      refine Rch.sub (T := fun k => k ∈ o) hS (fun j x hj hx k hk => ?_) h
      obtain ⟨m, hm, hmj⟩ := List.getElem_of_mem hj
      exact hC m x (by omega) j (by rw [List.getElem?_eq_getElem hm, hmj]) hx k hk
theorem all_ok (L : List Lesson) (hL : GL L) (S : List Int) (hs : S.Pairwise (· < ·)) (hS0 : ∀ k ∈ S, 0 ≤ k ∧ k < (L.length : Int)) (N : Nat) (hN : 2000 < N) : ∃ o : List Int, o.Pairwise (· < ·) ∧ (∀ k ∈ o, 0 ≤ k ∧ k < (L.length : Int)) ∧ (∀ k, k ∈ o ↔ Rch L S k) ∧ s_l18All N L S = some o := by
  have hl := sorted_le hs hS0 (by omega)
  have := hL.len
  unfold s_l18All s_l00Own
  rw [app_some _ _ (by unfold LIM; simp; omega)]
  simp only [List.nil_append, Option.bind_some, withK_n]
  exact all_l1 L hL S hS0 _ _ S 0 N (Nat.le_refl _) (by omega) (by omega) hs hS0 (fun k hk => .base hk) (fun k hk => hk) (fun j x hj => by omega)
/-- the first lesson that needs itself -/
theorem circ_both (L : List Lesson) (hL : GL L) : ∀ (q i N : Nat), i + q = L.length → q + 3000 < N → ∃ v : Int, i_lessonCircle_l1 (some (-1)) L N (i : Int) = some v ∧ s_l18Circle_l1 (some (-1)) L N (i : Int) = some v := by
  intro q
  induction q with
  | zero =>
    intro i N h1 h2
    obtain ⟨N, rfl⟩ := pos_fuel h2
    have hz : ¬ ((i : Int) < (L.length : Int)) := by omega
    exact ⟨-1, by simp [i_lessonCircle_l1, hz], by simp [s_l18Circle_l1, hz]⟩
  | succ q ih =>
    intro i N h1 h2
    obtain ⟨N, rfl⟩ := pos_fuel h2
    have hL12 := hL.len
    have hz : (i : Int) < (L.length : Int) := by omega
    have hi : i < L.length := by omega
    have hx : L[i]? = some L[i] := List.getElem?_eq_getElem hi
    obtain ⟨n1, n2⟩ := hL.at hx
    have n3 := hL.nlen (List.getElem_mem hi)
    obtain ⟨o, o1, o2, o3, o4⟩ := all_ok L hL L[i].needs n1 n2 N (by omega)
    have ol := sorted_le o1 o2 (by omega)
    obtain ⟨v, v1, v2⟩ := ih (i + 1) N (by omega) (by omega)
    have hrep : cntF (List.replicate L.length false) ≤ 12 := by have := cntF_le (List.replicate L.length false); rw [List.length_replicate] at this; omega
    have hno : ∀ k : Int, ¬ Mk (List.replicate L.length false) k := fun k h => by
      unfold Mk at h
      rw [List.getElem?_replicate] at h
      split at h
      · cases h
      · cases h
    obtain ⟨t', t1, t2, t3⟩ := circ_l2 L hL L[i].needs (fun k hk => (n2 k hk).1) (fun l24 => (idx l24 (i : Int)).bind fun e51 => bif e51 then some (i : Int) else i_lessonCircle_l1 (some (-1)) L N (w64 ((i : Int) + 1))) 200 L[i].needs (List.replicate L.length false) N (by omega) (by omega) (by omega) (by rw [List.length_replicate]) n2 (fun k hk => .base hk) (fun k _ h => (hno k h).elim) (fun k hk => .inl hk) (fun j x _ h => (hno j h).elim)
    have e1 : app ([] : List Int) L[i].needs = some L[i].needs := app_some _ _ (by unfold LIM; simp; omega)
    simp only [i_lessonCircle_l1, s_l18Circle_l1, hz, decide_true, cond_true, withK_n, mk_some _ _ (by unfold LIM; omega : L.length ≤ LIM), idx_lt L i hi, Option.bind_some, e1, o4, (Has_eq N o (i : Int) (by unfold LIM; omega) (by omega)).1]
    rw [t3, idx_lt t' i (by omega), w64_nat i (by omega)]
    simp only [Option.bind_some]
    have hiff : t'[i]'(by omega) = o.any (· == (i : Int)) := by
      have h3 := t2 (i : Int) (by omega)
      unfold Mk at h3
      rw [Int.toNat_natCast, List.getElem?_eq_getElem (by omega), ← o3] at h3
      rw [Bool.eq_iff_iff, List.any_eq_true]
      constructor
      · intro h
        exact ⟨(i : Int), h3.1 (by rw [h]), by simp⟩
      · rintro ⟨x, hx, hxi⟩
        rw [beq_iff_eq] at hxi
        subst hxi
        exact Option.some.inj (h3.2 hx)
    rw [hiff]
    cases o.any (· == (i : Int))
    · exact ⟨v, v1, v2⟩
    · exact ⟨_, rfl, rfl⟩
theorem circle_ok (L : List Lesson) (hL : GL L) (N : Nat) (hN : 4000 < N) : ∃ v : Int, i_lessonCircle N L = some v ∧ s_l18Circle N L = some v := by
  have := hL.len
  obtain ⟨v, h1, h2⟩ := circ_both L hL L.length 0 N (by omega) (by omega)
  exact ⟨v, by unfold i_lessonCircle; rw [withK_n]; exact h1, by unfold s_l18Circle; rw [withK_n]; exact h2⟩
/-! Chosen lessons. -/
theorem bit1 (k i : Nat) (hk : k < 4611686018427387904) (hi : i < 60) : ∃ q : Int, shrO (k : Int) (i : Int) = some q ∧ (iand q 1 == 1) = k.testBit i := by
  refine ⟨((k / 2 ^ i : Nat) : Int), ?_, ?_⟩
  · unfold shrO
    rw [if_neg (by omega)]
    have e : min ((i : Int).toNat) 64 = i := by omega
    rw [e, Int.fdiv_eq_ediv_of_nonneg _ (by exact Int.le_of_lt (Int.pow_pos (by decide)))]
    norm_cast
  · have h1 : k / 2 ^ i ≤ k := Nat.div_le_self _ _
    unfold iand
    have e1 : (BitVec.ofInt 64 ((k / 2 ^ i : Nat) : Int)).toNat = k / 2 ^ i := by
      rw [BitVec.ofInt_natCast, BitVec.toNat_ofNat]
      exact Nat.mod_eq_of_lt (by omega)
    rw [BitVec.toNat_and, e1]
    have e2 : (BitVec.ofInt 64 1).toNat = 1 := by decide
    rw [e2, Nat.and_one_is_mod, Nat.testBit_eq_decide_div_mod_eq]
    have h2 : k / 2 ^ i % 2 = 0 ∨ k / 2 ^ i % 2 = 1 := by omega
    rcases h2 with h | h <;> rw [h] <;> rfl
def K12 : Nat := 4096
theorem shl12 : ∀ n : Nat, n < 13 → shlO 1 (n : Int) = some ((2 ^ n : Nat) : Int) := by decide +kernel
/-- rising indices -/
structure RS (L : List Lesson) (l : List Int) : Prop where
  ris : l.Pairwise (· < ·)
  bnd : ∀ k ∈ l, 0 ≤ k ∧ k < (L.length : Int)
theorem RS.len {L : List Lesson} {l : List Int} (h : RS L l) (hL : GL L) : l.length ≤ 12 := by
  have := sorted_le h.ris h.bnd (by omega)
  have := hL.len
  omega
theorem RS.at {L : List Lesson} {l : List Int} (h : RS L l) {i : Nat} (hi : i < l.length) : 0 ≤ l[i] ∧ l[i].toNat < L.length ∧ idx L l[i] = L[l[i].toNat]? := by
  obtain ⟨h1, h2⟩ := h.bnd l[i] (List.getElem_mem hi)
  have h3 : l[i].toNat < L.length := by omega
  exact ⟨h1, h3, by rw [idx_int L _ h1 (by omega), List.getElem?_eq_getElem h3]⟩
theorem rs_bits (L : List Lesson) (k : Nat) : RS L (ints (bits k L.length)) := by
  have hs : (bits k L.length).Pairwise (· < ·) := List.Pairwise.filter _ List.pairwise_lt_range
  refine ⟨?_, fun x hx => ?_⟩
  · unfold ints
    rw [List.pairwise_map]
    exact hs.imp (fun h => by omega)
  · obtain ⟨i, hi, rfl⟩ := List.mem_map.1 hx
    have := List.mem_range.1 (List.mem_filter.1 hi).1
    omega
theorem rs_of {L : List Lesson} {l : List Int} (h : risB L.length l = true) : RS L l := by
  obtain ⟨h1, h2, _⟩ := risF_mem _ _ _ h
  exact ⟨h1, h2⟩
theorem risF_of (n : Int) : ∀ (l : List Int) (p : Option Int), l.Pairwise (· < ·) → (∀ k ∈ l, 0 ≤ k ∧ k < n) → (∀ y, p = some y → ∀ k ∈ l, y < k) → risF n p l = true
  | [], _, _, _, _ => rfl
  | x :: r, p, h1, h2, h3 => by
    rw [List.pairwise_cons] at h1
    have hx := h2 x (List.mem_cons_self ..)
    simp only [risF, Bool.and_eq_true]
    refine ⟨inr_iff.2 (by omega), ?_, risF_of n r (some x) h1.2 (fun k hk => h2 k (List.mem_cons_of_mem _ hk)) (fun y hy k hk => by obtain rfl := Option.some.inj hy; exact h1.1 k hk)⟩
    cases p with
    | none => rfl
    | some y => exact decide_eq_true (h3 y rfl x (List.mem_cons_self ..))
theorem RS.ris_ {L : List Lesson} {l : List Int} (h : RS L l) : risB L.length l = true := risF_of _ _ _ h.ris h.bnd (fun y hy => by cases hy)
/-- marks of a choice -/
def MkT (L : List Lesson) (l : List Int) (t : List Bool) : Prop := t.length = L.length ∧ ∀ k : Int, 0 ≤ k → (Mk t k ↔ k ∈ l)
theorem marks_l1 (L : List Lesson) (hL : GL L) (l : List Int) (h : RS L l) (kj : List Bool → Option (List Bool)) : ∀ (q i N : Nat) (t : List Bool), i + q = l.length → q < N → MkT L (l.take i) t → ∃ t', MkT L l t' ∧ i_marks_l1 kj l N t (i : Int) = kj t' := by
  intro q
  induction q with
  | zero =>
    intro i N t h1 h2 ht
    obtain ⟨N, rfl⟩ := pos_fuel h2
    have hz : ¬ ((i : Int) < (l.length : Int)) := by omega
    rw [List.take_of_length_le (by omega)] at ht
    exact ⟨t, ht, by simp [i_marks_l1, hz]⟩
  | succ q ih =>
    intro i N t h1 h2 ht
    obtain ⟨N, rfl⟩ := pos_fuel h2
    have hl := h.len hL
    have hz : (i : Int) < (l.length : Int) := by omega
    have hi : i < l.length := by omega
    obtain ⟨h3, h4, _⟩ := h.at hi
    have h5 : l[i].toNat < t.length := by rw [ht.1]; exact h4
    simp only [i_marks_l1, hz, decide_true, cond_true, idx_lt l i hi, Option.bind_some, idx_int t l[i] h3 (by omega), w64_nat i (by omega)]
    refine ih (i + 1) N _ (by omega) (by omega) ⟨by rw [List.length_set]; exact ht.1, fun k hk => ?_⟩
    rw [mk_set h5 hk h3, ht.2 k hk, List.take_succ_eq_append_getElem hi, List.mem_append, List.mem_singleton]
    exact Or.comm
theorem marks_ok (L : List Lesson) (hL : GL L) (l : List Int) (h : RS L l) (N : Nat) (hN : 20 < N) : ∃ t, MkT L l t ∧ i_marks N l (L.length : Int) = some t := by
  have := hL.len
  have hl := h.len hL
  unfold i_marks
  rw [mk_some _ _ (by unfold LIM; omega), Option.bind_some, withK_n]
  obtain ⟨t', h1, h2⟩ := marks_l1 L hL l h (fun l8 => some l8) l.length 0 N (List.replicate L.length false) (by omega) (by omega) ⟨List.length_replicate, fun k hk => by
    rw [List.take_zero]
    unfold Mk
    rw [List.getElem?_replicate]
    constructor
    · intro h; split at h <;> cases h
    · intro h; cases h⟩
  exact ⟨t', h1, h2⟩
theorem allIn_l1 (L : List Lesson) (hL : GL L) (l : List Int) (t : List Bool) (ht : MkT L l t) (s : List Int) (h : RS L s) : ∀ (q i N : Nat), i + q = s.length → q < N → i_allIn_l1 (some true) s t N (i : Int) = some ((s.drop i).all fun k => l.contains k) := by
  intro q
  induction q with
  | zero =>
    intro i N h1 h2
    obtain ⟨N, rfl⟩ := pos_fuel h2
    have hz : ¬ ((i : Int) < (s.length : Int)) := by omega
    rw [List.drop_of_length_le (by omega)]
    simp [i_allIn_l1, hz]
  | succ q ih =>
    intro i N h1 h2
    obtain ⟨N, rfl⟩ := pos_fuel h2
    have hl := h.len hL
    have hz : (i : Int) < (s.length : Int) := by omega
    have hi : i < s.length := by omega
    obtain ⟨h3, h4, _⟩ := h.at hi
    have h5 : s[i].toNat < t.length := by rw [ht.1]; exact h4
    have h6 : t[s[i].toNat] = l.contains s[i] := by
      have := ht.2 s[i] h3
      unfold Mk at this
      rw [List.getElem?_eq_getElem h5] at this
      rw [Bool.eq_iff_iff, List.contains_iff_mem, ← this]
      exact ⟨fun h => by rw [h], fun h => Option.some.inj h⟩
    rw [drop_cons s i hi, List.all_cons]
    simp only [i_allIn_l1, hz, decide_true, cond_true, idx_lt s i hi, Option.bind_some, idx_int t s[i] h3 (by omega), w64_nat i (by omega), ih (i + 1) N (by omega) (by omega), h6]
    cases l.contains s[i] <;> rfl
theorem allIn_ok (L : List Lesson) (hL : GL L) (l : List Int) (t : List Bool) (ht : MkT L l t) (s : List Int) (h : RS L s) (N : Nat) (hN : 20 < N) : i_allIn N s t = some (s.all fun k => l.contains k) := by
  have hl := h.len hL
  have := allIn_l1 L hL l t ht s h s.length 0 N (by omega) (by omega)
  unfold i_allIn
  rw [withK_n]
  exact this
/-- lessons that have what they need -/
def cmpl (L : List Lesson) (l s : List Int) : Bool := s.all fun k => match L[k.toNat]? with | some x => x.needs.all fun v => l.contains v | none => true
theorem cmpl_all (L : List Lesson) (hL : GL L) (l : List Int) (h : RS L l) (o : List Int) (o1 : o.Pairwise (· < ·)) (o3 : ∀ k, k ∈ o ↔ Rch L l k) : ((o.length : Int) != (l.length : Int)) = !(cmpl L l l) := by
  have hsub : ∀ k ∈ l, k ∈ o := fun k hk => (o3 k).2 (.base hk)
  cases hc : cmpl L l l with
  | true =>
    have : o = l := sorted_ext _ _ o1 h.ris fun x => ⟨fun hx => by
      refine Rch.sub (T := fun k => k ∈ l) (fun k hk => hk) (fun j x hj hx k hk => ?_) ((o3 x).1 hx)
      have := List.all_eq_true.1 hc j hj
      rw [hx] at this
      exact List.contains_iff_mem.1 (List.all_eq_true.1 this k hk), hsub x⟩
    rw [this]; simp
  | false =>
    obtain ⟨j, hj, hb⟩ := List.all_eq_false.1 hc
    cases hx : L[j.toNat]? with
    | none => rw [hx] at hb; simp at hb
    | some x =>
      rw [hx] at hb
      simp only [Bool.not_eq_true] at hb
      obtain ⟨v, hv, hvn⟩ := List.all_eq_false.1 hb
      have hvo : v ∈ o := (o3 v).2 (.step (.base hj) hx hv)
      have hvl : v ∉ l := fun hm => hvn (List.contains_iff_mem.2 hm)
      have hnd : (v :: l).Nodup := List.nodup_cons.2 ⟨hvl, h.ris.imp (fun h => by omega)⟩
      have := hnd.length_le_of_subset (fun z hz => by
        rcases List.mem_cons.1 hz with rfl | hz
        · exact hvo
        · exact hsub z hz)
      rw [List.length_cons] at this
      simp; omega
/-! Letters that are known, and those that are missing. -/
theorem sub1 {α : Type} (l : List α) (i : Nat) (h : i < l.length) : sub l (i : Int) ((i + 1 : Nat) : Int) = some [l[i]] := by
  rw [sub_some _ _ _ (by omega) (by omega) (by omega), Int.toNat_natCast, Int.toNat_natCast, Nat.add_sub_cancel_left, List.drop_eq_getElem_cons h]
  rfl
theorem ris_len {o : Str} (h : Ris o) : o.length ≤ 256 := by
  have h1 : (o.map (·.toNat)).Nodup := by
    unfold List.Nodup
    rw [List.pairwise_map]
    exact h.imp (fun h => by omega)
  have := pigeon 256 (o.map (·.toNat)) h1 (fun x hx => by
    obtain ⟨c, _, rfl⟩ := List.mem_map.1 hx
    exact c.toNat_lt)
  rwa [List.length_map] at this
def putL_ (o s : Str) : Str := s.foldl putC o
theorem known_l2 (L : List Lesson) (hL : GL L) (k : Int) (hk : 0 ≤ k) (x : Lesson) (hx : L[k.toNat]? = some x) (K1 : List Bool → Option (List Bool)) (K2 : Str → Option Str) : ∀ (q i N : Nat) (t : List Bool) (o : Str), i + q = x.letters.length → q + 1000 < N → Mrk t o →
    ∃ t', Mrk t' (putL_ o (x.letters.drop i)) ∧ i_known_l2 K1 L k x N t (i : Int) = K1 t' ∧ s_l18Known_l2 K2 x N o (i : Int) = K2 (putL_ o (x.letters.drop i)) := by
  have hl := hL.let_ x (List.mem_of_getElem? hx)
  intro q
  induction q with
  | zero =>
    intro i N t o h1 h2 hm
    obtain ⟨N, rfl⟩ := pos_fuel h2
    have hz : ¬ ((i : Int) < (x.letters.length : Int)) := by omega
    rw [List.drop_of_length_le (by omega)]
    exact ⟨t, hm, by simp [i_known_l2, hz], by simp [s_l18Known_l2, hz, putL_]⟩
  | succ q ih =>
    intro i N t o h1 h2 hm
    obtain ⟨N, rfl⟩ := pos_fuel h2
    have hz : (i : Int) < (x.letters.length : Int) := by omega
    have hi : i < x.letters.length := by omega
    have hkl : k.toNat < L.length := (List.getElem?_eq_some_iff.1 hx).1
    have e1 : idx L k = some x := by rw [idx_int L k hk (by omega), ← List.getElem?_eq_getElem hkl]; exact hx
    obtain ⟨b, hb⟩ := hm.idx x.letters[i]
    have hol := ris_len hm.2.1
    have e2 := sub1 x.letters i hi
    obtain ⟨t', g1, g2, g3⟩ := ih (i + 1) N (t.set x.letters[i].toNat true) (putC o x.letters[i]) (by omega) (by omega) (hm.put x.letters[i])
    rw [drop_cons x.letters i hi]
    refine ⟨t', g1, ?_, ?_⟩
    · simp only [i_known_l2, hz, decide_true, cond_true, e1, Option.bind_some, idx_lt x.letters i hi, hb, w64_nat i (by omega), Int.toNat_natCast]
      exact g2
    · simp only [s_l18Known_l2, hz, decide_true, cond_true, e2, Option.bind_some, s_put o x.letters[i] (by omega) N (by omega), w64_nat i (by omega)]
      exact g3
/-- the letters of some lessons -/
def kno (L : List Lesson) (o : Str) (l : List Int) : Str := l.foldl (fun o k => match L[k.toNat]? with | some x => putL_ o x.letters | none => o) o
theorem known_l1 (L : List Lesson) (hL : GL L) (l : List Int) (h : RS L l) (K1 : List Bool → Option (List Bool)) (K2 : Str → Option Str) : ∀ (q i N : Nat) (t : List Bool) (o : Str), i + q = l.length → q + 1200 < N → Mrk t o →
    ∃ t', Mrk t' (kno L o (l.drop i)) ∧ i_known_l1 K1 L l N t (i : Int) = K1 t' ∧ s_l18Known_l1 K2 L l N o (i : Int) = K2 (kno L o (l.drop i)) := by
  intro q
  induction q with
  | zero =>
    intro i N t o h1 h2 hm
    obtain ⟨N, rfl⟩ := pos_fuel h2
    have hz : ¬ ((i : Int) < (l.length : Int)) := by omega
    rw [List.drop_of_length_le (by omega)]
    exact ⟨t, hm, by simp [i_known_l1, hz], by simp [s_l18Known_l1, hz, kno]⟩
  | succ q ih =>
    intro i N t o h1 h2 hm
    obtain ⟨N, rfl⟩ := pos_fuel h2
    have hl := h.len hL
    have hz : (i : Int) < (l.length : Int) := by omega
    have hi : i < l.length := by omega
    obtain ⟨h3, h4, h5⟩ := h.at hi
    have hx : L[l[i].toNat]? = some L[l[i].toNat] := List.getElem?_eq_getElem h4
    have hl2 := hL.let_ _ (List.getElem_mem h4)
    obtain ⟨t1, g1, g2, g3⟩ := known_l2 L hL l[i] h3 L[l[i].toNat] hx (fun l14 => i_known_l1 K1 L l N l14 (w64 ((i : Int) + 1))) (fun out13 => s_l18Known_l1 K2 L l N out13 (w64 ((i : Int) + 1))) L[l[i].toNat].letters.length 0 N t o (by omega) (by omega) hm
    rw [show ((0 : Nat) : Int) = 0 from rfl] at g2 g3
    rw [List.drop_zero] at g1 g3
    obtain ⟨t', k1, k2, k3⟩ := ih (i + 1) N t1 _ (by omega) (by omega) g1
    rw [drop_cons l i hi]
    have e : kno L o (l[i] :: l.drop (i + 1)) = kno L (putL_ o L[l[i].toNat].letters) (l.drop (i + 1)) := by simp only [kno, List.foldl_cons, hx]
    rw [e]
    refine ⟨t', k1, ?_, ?_⟩
    · simp only [i_known_l1, hz, decide_true, cond_true, withK_n, idx_lt l i hi, Option.bind_some, h5, hx]
      rw [g2, w64_nat i (by omega)]; exact k2
    · simp only [s_l18Known_l1, hz, decide_true, cond_true, withK_n, idx_lt l i hi, Option.bind_some, h5, hx]
      rw [g3, w64_nat i (by omega)]; exact k3
theorem known_ok (L : List Lesson) (hL : GL L) (l : List Int) (h : RS L l) (N : Nat) (hN : 1300 < N) : ∃ t, Mrk t (kno L [] l) ∧ i_known N L l = some t ∧ s_l18Known N L l = some (kno L [] l) := by
  have := h.len hL
  obtain ⟨t, h1, h2, h3⟩ := known_l1 L hL l h (fun l8 => some l8) (fun o => some o) l.length 0 N (List.replicate 256 false) [] (by omega) (by omega) Mrk.nil
  rw [List.drop_zero] at h1 h3
  refine ⟨t, h1, ?_, ?_⟩
  · unfold i_known; rw [withK_n]; exact h2
  · unfold s_l18Known; rw [withK_n]; exact h3
def tyB (o : Str) (c : UInt8) : Bool := c == 32 || o.contains c
theorem mrk_get {t : List Bool} {o : Str} (h : Mrk t o) (c : UInt8) : idx t (c.toNat : Int) = some (o.contains c) := by
  have hc : c.toNat < t.length := by rw [h.1]; exact c.toNat_lt
  rw [idx_lt t c.toNat hc]
  have := h.2.2 c
  rw [List.getElem?_eq_getElem hc, Option.getD_some] at this
  refine congrArg some ?_
  rw [Bool.eq_iff_iff, this, List.contains_iff_mem]
/-- the letters that are missing -/
def misL (o : Str) (m : Str) (c : UInt8) : Str := if tyB o c then m else putC m c
theorem putC_ne (m : Str) (c : UInt8) : putC m c ≠ [] := by
  have := (putC_mem c c m).2 (.inl rfl)
  intro h
  rw [h] at this
  cases this
theorem misL_nil (o : Str) : ∀ (s m : Str), s.foldl (misL o) m = [] ↔ m = [] ∧ s.all (tyB o) = true
  | [], m => by simp
  | c :: s, m => by
    rw [List.foldl_cons, misL_nil o s, List.all_cons, Bool.and_eq_true]
    unfold misL
    cases h : tyB o c with
    | true => simp
    | false => simp [putC_ne]
def misV (o s : Str) : Str := s.foldl (misL o) []
theorem misV_nil (o s : Str) : (misV o s == []) = s.all (tyB o) := by
  rw [Bool.eq_iff_iff, beq_iff_eq]
  unfold misV
  rw [misL_nil]; simp
/-- hours -/
def hsum (L : List Lesson) (l : List Int) : Int := (l.map fun k => match L[k.toNat]? with | some x => x.hours | none => 0).sum
theorem hsum_cons (L : List Lesson) (k : Int) (l : List Int) : hsum L (k :: l) = (match L[k.toNat]? with | some x => x.hours | none => 0) + hsum L l := by simp [hsum]
theorem hsum_bd (L : List Lesson) (hL : GL L) : ∀ (l : List Int), 0 ≤ hsum L l ∧ hsum L l ≤ 100 * (l.length : Int)
  | [] => by simp [hsum]
  | k :: l => by
    have := hsum_bd L hL l
    rw [hsum_cons, List.length_cons]
    cases hx : L[k.toNat]? with
    | none => simp only; omega
    | some x => have := hL.hrs x (List.mem_of_getElem? hx); simp only; omega
theorem hours_l1 (L : List Lesson) (hL : GL L) (l : List Int) (h : RS L l) (kj : Int → Option Int) : ∀ (q i N : Nat) (sm : Int), i + q = l.length → q < N → 0 ≤ sm → sm ≤ 100 * (i : Int) → i_hours_l1 kj L l N sm (i : Int) = kj (sm + hsum L (l.drop i)) ∧ s_l18Hours_l1 kj L l N sm (i : Int) = kj (sm + hsum L (l.drop i)) := by
  intro q
  induction q with
  | zero =>
    intro i N sm h1 h2 _ _
    obtain ⟨N, rfl⟩ := pos_fuel h2
    have hz : ¬ ((i : Int) < (l.length : Int)) := by omega
    rw [List.drop_of_length_le (by omega)]
    simp [i_hours_l1, s_l18Hours_l1, hz, hsum]
  | succ q ih =>
    intro i N sm h1 h2 h6 h7
    obtain ⟨N, rfl⟩ := pos_fuel h2
    have hl := h.len hL
    have hz : (i : Int) < (l.length : Int) := by omega
    have hi : i < l.length := by omega
    obtain ⟨h3, h4, h5⟩ := h.at hi
    have hx : L[l[i].toNat]? = some L[l[i].toNat] := List.getElem?_eq_getElem h4
    have hh := hL.hrs _ (List.getElem_mem h4)
    rw [drop_cons l i hi]
    have e : hsum L (l[i] :: l.drop (i + 1)) = L[l[i].toNat].hours + hsum L (l.drop (i + 1)) := by rw [hsum_cons, hx]
    have e2 : w64 (sm + L[l[i].toNat].hours) = sm + L[l[i].toNat].hours := w64_id (by omega) (by omega)
    obtain ⟨g1, g2⟩ := ih (i + 1) N (sm + L[l[i].toNat].hours) (by omega) (by omega) (by omega) (by omega)
    simp only [i_hours_l1, s_l18Hours_l1, hz, decide_true, cond_true, idx_lt l i hi, Option.bind_some, h5, hx, e2, w64_nat i (by omega), g1, g2, e, Int.add_assoc]
    exact ⟨trivial, trivial⟩
theorem hours_ok (L : List Lesson) (hL : GL L) (l : List Int) (h : RS L l) (N : Nat) (hN : 20 < N) : i_hours N L l = some (hsum L l) ∧ s_l18Hours N L l = some (hsum L l) := by
  have := h.len hL
  obtain ⟨h1, h2⟩ := hours_l1 L hL l h (fun s => some s) l.length 0 N 0 (by omega) (by omega) (by omega) (by omega)
  rw [show ((0 : Nat) : Int) = 0 from rfl] at h1 h2
  rw [List.drop_zero, Int.zero_add] at h1 h2
  unfold i_hours s_l18Hours
  rw [withK_n, withK_n]
  exact ⟨h1, h2⟩
/-! Drawn lessons. -/
def T7 : List Str := [[97], [115], [100], [102], [103], [104], [49]]
theorem t7_one : ∀ s ∈ T7, ∃ c, s = [c] := by
  intro s hs
  simp only [T7, List.mem_cons, List.not_mem_nil, or_false] at hs
  rcases hs with rfl | rfl | rfl | rfl | rfl | rfl | rfl <;> exact ⟨_, rfl⟩
theorem dl_l2 {code : List UInt8} (s : L00Src) (hs : s.code = code) (kj : Int → Int → Str → Str → Int → Option (List Lesson × L00Src)) (Q : List Lesson × L00Src → Prop) : ∀ (n N : Nat) (a sd hi : Int) (nm l : Str) (h : Int), n + 1001 < N → 0 ≤ a → a ≤ hi → hi + 2 * n ≤ 1000000 → l.length + n ≤ 100 →
    (∀ a' sd' l', 0 ≤ a' → a' ≤ hi + 2 * n → l'.length ≤ l.length + n → ∃ r, kj a' sd' nm l' h = some r ∧ Q r) → ∃ r, s_l18Draw_l2 kj s N a sd nm l h (n : Int) = some r ∧ Q r := by
  intro n
  induction n with
  | zero =>
    intro N a sd hi nm l h hN h0 h1 h2 h3 k
    obtain ⟨N, rfl⟩ := pos_fuel hN
    have hz : ¬ ((0 : Nat) : Int) > 0 := by omega
    simp only [s_l18Draw_l2, hz, decide_false, cond_false]
    exact k a sd l h0 (by omega) (by omega)
  | succ n ih =>
    intro N a sd hi nm l h hN h0 h1 h2 h3 k
    obtain ⟨N, rfl⟩ := pos_fuel hN
    have hz : ((n + 1 : Nat) : Int) > 0 := by omega
    have e2 : w64 (((n + 1 : Nat) : Int) - 1) = (n : Int) := by rw [w64_id (by omega) (by omega)]; omega
    simp only [s_l18Draw_l2, hz, decide_true, cond_true, e2]
    refine bindE (textA (code := code) (hi := hi) T7 (by decide) ⟨hs, h0, h1⟩ (by omega)) fun v g => ?_
    obtain ⟨c, hc⟩ := t7_one _ g.2
    rw [hc, s_put l c (by omega) N (by omega), Option.bind_some]
    have hp := putC_len l c
    exact ih N _ _ (hi + 2) nm _ h (by omega) g.1.2.1 g.1.2.2 (by omega) (by omega) (fun a' sd' l' w1 w2 w3 => k a' sd' l' w1 (by omega) (by omega))
theorem dl_l3 {code : List UInt8} (s : L00Src) (hs : s.code = code) (m : Nat) (hm : m ≤ 20) (r7 : Int × L00Src) (hr : r7.1 = (m : Int)) (i : Int) (kj : Int → Int → Str → Str → Int → List Int → Option (List Lesson × L00Src)) (Q : List Lesson × L00Src → Prop) : ∀ (n j N : Nat) (a sd hi : Int) (nm l : Str) (h : Int) (ns : List Int), j + n = m → n < N → 0 ≤ a → a ≤ hi → hi + 4 * n ≤ 1000000 → ns.length ≤ j →
    (∀ a' sd' ns', 0 ≤ a' → a' ≤ hi + 4 * n → ns'.length ≤ m → ∃ r, kj a' sd' nm l h ns' = some r ∧ Q r) → ∃ r, s_l18Draw_l3 kj s r7 i N a sd nm l h ns (j : Int) = some r ∧ Q r := by
  intro n
  induction n with
  | zero =>
    intro j N a sd hi nm l h ns hj hN h0 h1 h2 h3 k
    obtain ⟨N, rfl⟩ := pos_fuel hN
    have hz : ¬ (j : Int) < (m : Int) := by omega
    simp only [s_l18Draw_l3, hr, hz, decide_false, cond_false]
    exact k a sd ns h0 (by omega) (by omega)
  | succ n ih =>
    intro j N a sd hi nm l h ns hj hN h0 h1 h2 h3 k
    obtain ⟨N, rfl⟩ := pos_fuel hN
    have hz : (j : Int) < (m : Int) := by omega
    simp only [s_l18Draw_l3, hr, hz, decide_true, cond_true, withK_n, w64_nat j (by omega)]
    refine bindE (P := fun v => SrcAt code (hi + 2) v.2) (condE (fun _ => ?_) (fun _ => ⟨_, rfl, hs, h0, by show a ≤ hi + 2; omega⟩)) fun v g => ?_
    · exact bindE (oneA (code := code) (hi := hi) 3 ⟨hs, h0, h1⟩ (by omega)) fun v g => ⟨_, rfl, hs, g.2.1, g.2.2⟩
    refine bindE (P := fun v => SrcAt code (hi + 4) v.2) (condE (fun _ => ⟨_, rfl, hs, g.2.1, by have := g.2.2; show v.2.at_ ≤ _; omega⟩) (fun _ => bindE (P := fun v => SrcAt code (hi + 4) v.2) (condE (fun _ => ?_) (fun _ => ⟨_, rfl, hs, g.2.1, by have := g.2.2; show v.2.at_ ≤ _; omega⟩)) fun v g => ⟨_, rfl, hs, g.2.1, g.2.2⟩)) fun v g => ?_
    · exact bindE (oneA (code := code) (hi := hi + 2) 30 ⟨hs, g.2.1, g.2.2⟩ (by omega)) fun v g => ⟨_, rfl, hs, g.2.1, by have := g.2.2; show v.2.at_ ≤ _; omega⟩
    refine condE (fun _ => appE (by unfold LIM; simp; omega) ?_) fun _ => ?_
    · exact ih (j + 1) N _ _ (hi + 4) nm l h _ (by omega) (by omega) g.2.1 g.2.2 (by omega) (by simp; omega) (fun a' sd' ns' w1 w2 w3 => k a' sd' ns' w1 (by omega) w3)
    · exact ih (j + 1) N _ _ (hi + 4) nm l h _ (by omega) (by omega) g.2.1 g.2.2 (by omega) (by omega) (fun a' sd' ns' w1 w2 w3 => k a' sd' ns' w1 (by omega) w3)
def N7 : List Str := [[104, 111, 109, 101], [117, 112, 112, 101, 114], [108, 111, 119, 101, 114], [100, 105, 103, 105, 116, 115], [115, 105, 103, 110, 115], [115, 112, 101, 101, 100], [108, 97, 115, 116, 45, 49]]
theorem n7_len : ∀ s ∈ N7, s.length ≤ 10 := by decide
def SzX (k : Nat) (x : Lesson) : Prop := x.letters.length ≤ 150 ∧ x.needs.length ≤ k ∧ x.name.length ≤ 150
def AllX (k : Nat) (L : List Lesson) : Prop := ∀ x ∈ L, SzX k x
theorem AllX.up {k : Nat} {L : List Lesson} (h : AllX k L) : AllX (k + 1) L := fun x hx => ⟨(h x hx).1, by have := (h x hx).2.1; omega, (h x hx).2.2⟩
theorem AllX.snoc {k : Nat} {L : List Lesson} (h : AllX k L) {x : Lesson} (hx : SzX k x) : AllX k (L ++ [x]) := fun y hy => by
  rcases List.mem_append.1 hy with hy | hy
  · exact h y hy
  · rw [List.mem_singleton.1 hy]; exact hx
theorem AllX.set {k : Nat} {L : List Lesson} (h : AllX k L) (i : Nat) {x : Lesson} (hx : SzX k x) : AllX k (L.set i x) := fun y hy => by
  rcases List.mem_or_eq_of_mem_set hy with hy | hy
  · exact h y hy
  · rw [hy]; exact hx
theorem dl_l1 {code : List UInt8} (s : L00Src) (hs : s.code = code) (m : Nat) (hm : m ≤ 7) (r7 : Int × L00Src) (hr : r7.1 = (m : Int)) (kj : Int → Int → List Lesson → Option (List Lesson × L00Src)) (Q : List Lesson × L00Src → Prop) : ∀ (n i N : Nat) (a sd hi : Int) (L : List Lesson), i + n = m → n + 1200 < N → 0 ≤ a → a ≤ hi → hi + 200 * n ≤ 1000000 → L.length = i → AllX 100 L →
    (∀ a' sd' L', 0 ≤ a' → a' ≤ hi + 200 * n → L'.length ≤ 7 → AllX 100 L' → ∃ r, kj a' sd' L' = some r ∧ Q r) → ∃ r, s_l18Draw_l1 kj s r7 N a sd L (i : Int) = some r ∧ Q r := by
  intro n
  induction n with
  | zero =>
    intro i N a sd hi L hi1 hN h0 h1 h2 h3 h4 k
    obtain ⟨N, rfl⟩ := pos_fuel hN
    have hz : ¬ (i : Int) < (m : Int) := by omega
    simp only [s_l18Draw_l1, hr, hz, decide_false, cond_false]
    exact k a sd L h0 (by omega) (by omega) h4
  | succ n ih =>
    intro i N a sd hi L hi1 hN h0 h1 h2 h3 h4 k
    obtain ⟨N, rfl⟩ := pos_fuel hN
    have hz : (i : Int) < (m : Int) := by omega
    have hn : idx N7 (i : Int) = some (N7[i]'(by simp [N7]; omega)) := idx_lt N7 i (by simp [N7]; omega)
    have hnl := n7_len _ (List.getElem_mem (l := N7) (n := i) (by simp [N7]; omega))
    unfold N7 at hn
    simp only [s_l18Draw_l1, hr, hz, decide_true, cond_true, withK_n, hn, Option.bind_some, w64_nat i (by omega)]
    refine bindE (pickA (code := code) (hi := hi) 12 ⟨hs, h0, h1⟩ (by omega)) fun v g => ?_
    refine bindE (pickA (code := code) (hi := hi + 2) 5 ⟨hs, g.1.2.1, g.1.2.2⟩ (by omega)) fun v2 g2 => ?_
    obtain ⟨p, hp⟩ := Int.eq_ofNat_of_zero_le g2.2.1
    have gc := g2.2.2 (by omega)
    rw [hp] at gc ⊢
    refine dl_l2 (code := code) s hs _ Q p N _ _ (hi + 2 + 2) _ [] _ (by omega) g2.1.2.1 g2.1.2.2 (by omega) (by simp; omega) fun a' sd' l' w1 w2 w3 => ?_
    have hz0 : (0 : Int) = ((0 : Nat) : Int) := rfl
    rw [hz0]
    refine dl_l3 (code := code) s hs m (by omega) r7 hr (i : Int) _ Q m 0 N a' sd' (hi + 20) _ l' _ [] (by omega) (by omega) w1 (by omega) (by omega) (by simp) fun a2 sd2 ns z1 z2 z3 => ?_
    refine appE (by unfold LIM; simp; omega) ?_
    simp only [List.length_nil] at w3
    exact ih (i + 1) N a2 sd2 (hi + 200) _ (by omega) (by omega) z1 (by omega) (by omega) (by simp; omega) (h4.snoc ⟨by show l'.length ≤ 150; omega, by show ns.length ≤ 100; omega, Nat.le_trans hnl (by decide)⟩) (fun a3 sd3 L' y1 y2 y3 y4 => k a3 sd3 L' y1 (by omega) y3 y4)
theorem dDraw {code : List UInt8} {hi : Int} {s : L00Src} (h : SrcAt code hi s) (hb : hi ≤ 10000) (N : Nat) (hN : 1300 < N) : ∃ v, s_l18Draw N s = some v ∧ SrcAt code (hi + 2000) v.2 ∧ v.1.length ≤ 7 ∧ AllX 100 v.1 := by
  obtain ⟨hc, h0, h1⟩ := h
  unfold s_l18Draw
  simp only [withK_n]
  refine bindE (pickA (code := code) (hi := hi) 7 ⟨hc, h0, h1⟩ (by omega)) fun v g => ?_
  obtain ⟨p, hp⟩ := Int.eq_ofNat_of_zero_le g.2.1
  have gc := g.2.2 (by omega)
  rw [hp] at gc
  exact dl_l1 (code := code) s hc p (by omega) v hp _ _ p 0 N _ _ (hi + 2) [] (by omega) (by omega) g.1.2.1 g.1.2.2 (by omega) rfl (fun x hx => by cases hx) fun a' sd' L' w1 w2 w3 w4 => ⟨_, rfl, ⟨hc, w1, by show a' ≤ hi + 2000; omega⟩, w3, w4⟩
theorem bent_l1 (r20 : Int × L00Src) (kj : Int → Int → List Lesson → Option (List Lesson × L00Src)) (Q : List Lesson × L00Src → Prop) : ∀ (n N : Nat) (L : List Lesson), n < N → L.length + n ≤ 13 → AllX 100 L → (∀ L', L'.length ≤ 13 → AllX 100 L' → ∃ r, kj r20.2.at_ r20.2.seed L' = some r ∧ Q r) → ∃ r, s_l18Bent_l1 kj r20 N L (n : Int) = some r ∧ Q r := by
  intro n
  induction n with
  | zero =>
    intro N L hN h1 h2 k
    obtain ⟨N, rfl⟩ := pos_fuel hN
    have hz : ¬ ((0 : Nat) : Int) > 0 := by omega
    simp only [s_l18Bent_l1, hz, decide_false, cond_false]
    exact k L (by omega) h2
  | succ n ih =>
    intro N L hN h1 h2 k
    obtain ⟨N, rfl⟩ := pos_fuel hN
    have hz : ((n + 1 : Nat) : Int) > 0 := by omega
    have e2 : w64 (((n + 1 : Nat) : Int) - 1) = (n : Int) := by rw [w64_id (by omega) (by omega)]; omega
    simp only [s_l18Bent_l1, hz, decide_true, cond_true, e2]
    rw [cat_some _ _ (by unfold LIM; simp), Option.bind_some]
    refine appE (by unfold LIM; simp; omega) ?_
    exact ih N _ (by omega) (by simp; omega) (h2.snoc ⟨by simp, by simp, by simp⟩) k
theorem dBent {code : List UInt8} {hi : Int} {s : L00Src} (h : SrcAt code hi s) (hb : hi ≤ 5000) (N : Nat) (hN : 1300 < N) : ∃ v, s_l18Bent N s = some v ∧ SrcAt code (hi + 3000) v.2 ∧ v.1.length ≤ 13 ∧ AllX 101 v.1 := by
  obtain ⟨hc, h0, h1⟩ := h
  unfold s_l18Bent
  refine bindE (dDraw (code := code) (hi := hi) ⟨hc, h0, h1⟩ (by omega) N hN) fun v g => ?_
  simp only [withK_n]
  have rest : ∀ (a sd : Int) (L : List Lesson), 0 ≤ a → a ≤ hi + 2010 → L.length ≤ 13 → AllX 100 L → ∃ r, ((fun (x9 : Int) (x10 : Int) (l11 : List Lesson) =>
  bif ((List.length l11 : Int) == 0) then
  some (l11, (L00Src.mk s.code x9 x10))
  else
  (s_l00Src_pick (L00Src.mk s.code x9 x10) (List.length l11 : Int)).bind fun r39 =>
  (idx l11 r39.1).bind fun e41 =>
  (s_l00Src_pick (L00Src.mk s.code r39.2.at_ r39.2.seed) 24).bind fun r52 =>
  bif (r52.1 == 0) then
  (s_l00Src_text (L00Src.mk s.code r52.2.at_ r52.2.seed) ([[], [72, 111, 109, 101], [104, 111, 109, 101]] : List Str)).bind fun r56 =>
  some (List.set l11 (Int.toNat r39.1) (Lesson.mk r56.1 e41.letters e41.needs e41.hours), (L00Src.mk s.code r56.2.at_ r56.2.seed))
  else
  bif (r52.1 == 1) then
  (s_l00Src_text (L00Src.mk s.code r52.2.at_ r52.2.seed) ([[98, 97], [97, 97], [97, 32, 98], [127]] : List Str)).bind fun r60 =>
  some (List.set l11 (Int.toNat r39.1) (Lesson.mk e41.name r60.1 e41.needs e41.hours), (L00Src.mk s.code r60.2.at_ r60.2.seed))
  else
  bif (r52.1 == 2) then
  (s_l00Src_among (L00Src.mk s.code r52.2.at_ r52.2.seed) [(-1), w64 ((List.length l11 : Int) - 1), (List.length l11 : Int)]).bind fun r64 =>
  (app e41.needs [r64.1]).bind fun l67 =>
  some (List.set l11 (Int.toNat r39.1) (Lesson.mk e41.name e41.letters l67 e41.hours), (L00Src.mk s.code r64.2.at_ r64.2.seed))
  else
  bif (r52.1 == 3) then
  (s_l00Src_among (L00Src.mk s.code r52.2.at_ r52.2.seed) [(-1), 0, 100, 101, (-9223372036854775808)]).bind fun r75 =>
  some (List.set l11 (Int.toNat r39.1) (Lesson.mk e41.name e41.letters e41.needs r75.1), (L00Src.mk s.code r75.2.at_ r75.2.seed))
  else
  some (l11, (L00Src.mk s.code r52.2.at_ r52.2.seed))) a sd L) = some r ∧ SrcAt code (hi + 3000) r.2 ∧ r.1.length ≤ 13 ∧ AllX 101 r.1 := by
    intro a sd L g0 g1 g2 g3
    refine condE (fun _ => ⟨_, rfl, ⟨hc, g0, by show a ≤ _; omega⟩, g2, g3.up⟩) (fun hne => ?_)
    have hlen : 0 < L.length := by
      rcases Nat.eq_zero_or_pos L.length with h | h
      · rw [h] at hne; cases hne
      · exact h
    refine bindE (pickA (code := code) (hi := hi + 2010) (L.length : Int) ⟨hc, g0, g1⟩ (by omega)) fun v k => ?_
    obtain ⟨p, hp⟩ := Int.eq_ofNat_of_zero_le k.2.1
    have gc := k.2.2 (by omega)
    rw [hp] at gc ⊢
    rw [idx_lt L p (by omega), Option.bind_some]
    have hX := g3 L[p] (List.getElem_mem (by omega))
    refine bindE (pickA (code := code) (hi := hi + 2012) 24 ⟨hc, k.1.2.1, by have := k.1.2.2; show v.2.at_ ≤ _; omega⟩ (by omega)) fun v2 k2 => ?_
    have hs2 : SrcAt code (hi + 2014) (L00Src.mk s.code v2.2.at_ v2.2.seed) := ⟨hc, k2.1.2.1, by have := k2.1.2.2; show v2.2.at_ ≤ _; omega⟩
    have fin : ∀ (v : L00Src), SrcAt code (hi + 2014 + 2) v → SrcAt code (hi + 3000) (L00Src.mk s.code v.at_ v.seed) := fun v h => ⟨hc, h.2.1, by have := h.2.2; show v.at_ ≤ _; omega⟩
    refine condE (fun _ => bindE (textA _ (by decide) hs2 (by omega)) fun v3 k3 => ⟨_, rfl, fin _ k3.1, by simp; omega, g3.up.set _ ⟨hX.1, Nat.le_succ_of_le hX.2.1, ?_⟩⟩) (fun _ => condE (fun _ => bindE (textA _ (by decide) hs2 (by omega)) fun v3 k3 => ⟨_, rfl, fin _ k3.1, by simp; omega, g3.up.set _ ⟨?_, Nat.le_succ_of_le hX.2.1, hX.2.2⟩⟩) (fun _ => condE (fun _ => bindE (amongA _ (by simp) hs2 (by omega)) fun v3 k3 => ?_) (fun _ => condE (fun _ => bindE (amongA _ (by simp) hs2 (by omega)) fun v3 k3 => ⟨_, rfl, fin _ k3.1, by simp; omega, g3.up.set _ ⟨hX.1, Nat.le_succ_of_le hX.2.1, hX.2.2⟩⟩) (fun _ => ⟨_, rfl, ⟨hc, hs2.2.1, by have := k2.1.2.2; show v2.2.at_ ≤ _; omega⟩, g2, g3.up⟩))))
    · have : ∀ s ∈ ([[], [72, 111, 109, 101], [104, 111, 109, 101]] : List Str), s.length ≤ 150 := by decide
      exact this _ k3.2
    · have : ∀ s ∈ ([[98, 97], [97, 97], [97, 32, 98], [127]] : List Str), s.length ≤ 150 := by decide
      exact this _ k3.2
    · have h8 := hX.2.1
      refine appE (by unfold LIM; simp; omega) ⟨_, rfl, fin _ k3.1, by simp; omega, g3.up.set _ ⟨hX.1, ?_, hX.2.2⟩⟩
      show (L[p].needs ++ [v3.1]).length ≤ 101
      simp; omega
  refine bindE (oneA (code := code) (hi := hi + 2000) 30 ⟨hc, g.1.2.1, g.1.2.2⟩ (by omega)) fun v2 g2 => ?_
  refine condE (fun _ => bindE (pickA (code := code) (hi := hi + 2002) 2 ⟨hc, g2.2.1, by have := g2.2.2; show v2.2.at_ ≤ _; omega⟩ (by omega)) fun v3 g3 => ?_) (fun _ => rest _ _ _ g2.2.1 (by have := g2.2.2; omega) (by omega) g.2.2)
  obtain ⟨p, hp⟩ := Int.eq_ofNat_of_zero_le g3.2.1
  have gc := g3.2.2 (by omega)
  rw [hp] at gc ⊢
  have e : w64 (12 + (p : Int)) = ((12 + p : Nat) : Int) := by rw [w64_id (by omega) (by omega)]; omega
  rw [e]
  refine bent_l1 v3 _ _ (12 + p) N [] (by omega) (by simp; omega) (fun x hx => by cases hx) fun L' w1 w2 => ?_
  exact rest _ _ _ g3.1.2.1 (by have := g3.1.2.2; omega) w1 w2
theorem AllX.sz {k : Nat} {L : List Lesson} (h : AllX k L) (hk : k ≤ 200) (hl : L.length ≤ 13) : SzL L := ⟨by omega, fun x hx => ⟨by have := (h x hx).1; omega, by have := (h x hx).2.1; omega, by have := (h x hx).2.2; omega⟩⟩
theorem some_l1 {code : List UInt8} (s : L00Src) (hs : s.code = code) (r5 : List Lesson × L00Src) (hr : r5.1.length ≤ 13) (kj : List Int → Int → Int → Option (List Lesson × List Int × L00Src)) (Q : List Lesson × List Int × L00Src → Prop) : ∀ (n i N : Nat) (a sd hi : Int) (l : List Int), i + n = r5.1.length → n < N → 0 ≤ a → a ≤ hi → hi + 2 * n ≤ 1000000 → l.length ≤ i →
    (∀ a' sd' l', 0 ≤ a' → a' ≤ hi + 2 * n → l'.length ≤ 13 → ∃ r, kj l' a' sd' = some r ∧ Q r) → ∃ r, s_l18Some_l1 kj s r5 N l a sd (i : Int) = some r ∧ Q r := by
  intro n
  induction n with
  | zero =>
    intro i N a sd hi l hi1 hN h0 h1 h2 h3 k
    obtain ⟨N, rfl⟩ := pos_fuel hN
    have hz : ¬ (i : Int) < (r5.1.length : Int) := by omega
    simp only [s_l18Some_l1, hz, decide_false, cond_false]
    exact k a sd l h0 (by omega) (by omega)
  | succ n ih =>
    intro i N a sd hi l hi1 hN h0 h1 h2 h3 k
    obtain ⟨N, rfl⟩ := pos_fuel hN
    have hz : (i : Int) < (r5.1.length : Int) := by omega
    simp only [s_l18Some_l1, hz, decide_true, cond_true, withK_n, w64_nat i (by omega)]
    refine bindE (oneA (code := code) (hi := hi) 2 ⟨hs, h0, h1⟩ (by omega)) fun v g => ?_
    refine condE (fun _ => appE (by unfold LIM; simp; omega) ?_) fun _ => ?_
    · exact ih (i + 1) N _ _ (hi + 2) _ (by omega) (by omega) g.2.1 g.2.2 (by omega) (by simp; omega) (fun a' sd' l' w1 w2 w3 => k a' sd' l' w1 (by omega) w3)
    · exact ih (i + 1) N _ _ (hi + 2) _ (by omega) (by omega) g.2.1 g.2.2 (by omega) (by omega) (fun a' sd' l' w1 w2 w3 => k a' sd' l' w1 (by omega) w3)
theorem dSome {code : List UInt8} {s : L00Src} (h : SrcAt code 0 s) (N : Nat) (hN : 1300 < N) : ∃ v, s_l18Some N s = some v ∧ SzL v.1 ∧ v.2.1.length ≤ 20 ∧ SrcAt code 4000 v.2.2 := by
  obtain ⟨hc, h0, h1⟩ := h
  unfold s_l18Some
  refine bindE (dBent (code := code) (hi := 0) ⟨hc, h0, h1⟩ (by omega) N hN) fun v g => ?_
  simp only [withK_n]
  have hg := g.2.2.sz (by decide) g.2.1
  refine some_l1 (code := code) s hc v g.2.1 _ _ v.1.length 0 N _ _ (0 + 3000) [] (by omega) (by omega) g.1.2.1 g.1.2.2 (by omega) (by simp) fun a' sd' l' w1 w2 w3 => ?_
  refine bindE (oneA (code := code) (hi := 3100) 14 ⟨hc, w1, by show a' ≤ _; omega⟩ (by omega)) fun v2 g2 => ?_
  refine condE (fun _ => bindE (amongA (code := code) (hi := 3102) _ (by simp) ⟨hc, g2.2.1, g2.2.2⟩ (by omega)) fun v3 g3 => ?_) (fun _ => ⟨_, rfl, hg, by show l'.length ≤ 20; omega, hc, g2.2.1, by have := g2.2.2; show v2.2.at_ ≤ _; omega⟩)
  refine appE (by unfold LIM; simp; omega) ⟨_, rfl, hg, by show (l' ++ [v3.1]).length ≤ 20; simp; omega, hc, g3.1.2.1, by have := g3.1.2.2; show v3.2.at_ ≤ _; omega⟩
end Go.Proofs.YtbgngihmpdneaaaDoor
