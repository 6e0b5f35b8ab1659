/-
  Plain lemmas on these functions. No conditions but those that each states.
-/
import Derived.Test.YthifimjkndpmpaaFnFewLettersP
namespace Go.Proofs.Ythifimjkndpmpaa
set_option linter.unusedVariables false
set_option linter.unusedSimpArgs false
theorem wrapu_id {x : Int} (h0 : 0 ≤ x) (h1 : x < 18446744073709551616) : IntKind.u64.wrap x = x := by
  have h2 : IntKind.u64.wrap x = x % 18446744073709551616 := by simp [IntKind.wrap, IntKind.bits, IntKind.signed]
  omega
theorem uand255 (a : Int) : 0 ≤ uand a 255 ∧ uand a 255 ≤ 255 := by
  unfold uand
  have h1 : (BitVec.ofInt 64 a &&& BitVec.ofInt 64 255).toNat ≤ 255 := by
    rw [BitVec.toNat_and]
    exact Nat.le_trans Nat.and_le_right (by decide)
  rw [wrapu_id (by omega) (by omega)]
  omega
def BIG : Int := 1152921504606846976
theorem next_ok (code : List UInt8) (at_ seed : Int) (h0 : 0 ≤ at_) (h1 : at_ ≤ BIG) : ∃ v sd, s_l00Src_next ⟨code, at_, seed⟩ = some (v, ⟨code, at_ + 1, sd⟩) ∧ 0 ≤ v ∧ v ≤ 255 := by
  unfold BIG at h1
  have e1 : w64 (at_ + 1) = at_ + 1 := w64_id (by omega) (by omega)
  have key : ∀ b : Int, 0 ≤ b → b ≤ 255 → ∀ z : Int, ∃ v sd, (bif decide (at_ + 1 ≤ (code.length : Int)) then some (b, L00Src.mk code (at_ + 1) z) else some (w64 (uand (ushr z 40) 255), L00Src.mk code (at_ + 1) z)) = some (v, L00Src.mk code (at_ + 1) sd) ∧ 0 ≤ v ∧ v ≤ 255 := by
    intro b hb0 hb1 z
    cases decide (at_ + 1 ≤ (code.length : Int))
    · have := uand255 (ushr z 40)
      exact ⟨_, _, rfl, by rw [w64_id (by omega) (by omega)]; exact this⟩
    · exact ⟨_, _, rfl, hb0, hb1⟩
  unfold s_l00Src_next
  simp only [withK_eq, e1]
  by_cases h : at_ < (code.length : Int)
  · simp only [h, decide_true, cond_true, idx_int code at_ h0 h, Option.bind_some]
    have := (code[at_.toNat]'(by omega)).toNat_lt
    exact key _ (by omega) (by omega) _
  · simp only [h, decide_false, cond_false]
    exact key 0 (by omega) (by omega) _
theorem remO_ok (x n : Int) (h0 : 0 ≤ x) (hn : 0 < n) : ∃ q, remO x n = some q ∧ 0 ≤ q ∧ q < n := by
  unfold remO
  rw [if_neg (by omega)]
  exact ⟨_, rfl, by rw [Int.tmod_eq_emod_of_nonneg h0]; exact Int.emod_nonneg _ (by omega), by rw [Int.tmod_eq_emod_of_nonneg h0]; exact Int.emod_lt_of_pos _ hn⟩
theorem pick_ok (code : List UInt8) (at_ seed n : Int) (h0 : 0 ≤ at_) (h1 : at_ < BIG) : ∃ v a sd, s_l00Src_pick ⟨code, at_, seed⟩ n = some (v, ⟨code, a, sd⟩) ∧ at_ ≤ a ∧ a ≤ at_ + 2 ∧ 0 ≤ v ∧ (0 < n → v < n) := by
  unfold s_l00Src_pick
  by_cases h : n ≤ 1
  · exact ⟨0, at_, seed, by simp only [h, decide_true, cond_true], by omega, by omega, by omega, by omega⟩
  · obtain ⟨v1, sd1, e1, h2, h3⟩ := next_ok code at_ seed h0 (by omega)
    simp only [h, decide_false, cond_false, e1, Option.bind_some, withK_eq]
    by_cases hn : n > 200
    · obtain ⟨v2, sd2, e2, h4, h5⟩ := next_ok code (at_ + 1) sd1 (by omega) (by omega)
      have e3 : w64 (w64 (v1 * 256) + v2) = v1 * 256 + v2 := by rw [w64_id (x := v1 * 256) (by omega) (by omega), w64_id (by omega) (by omega)]
      obtain ⟨q, e4, h6, h7⟩ := remO_ok (v1 * 256 + v2) n (by omega) (by omega)
      simp only [hn, decide_true, cond_true, e2, Option.bind_some, e3, e4]
      exact ⟨_, _, _, rfl, by omega, by omega, h6, fun _ => h7⟩
    · obtain ⟨q, e4, h6, h7⟩ := remO_ok v1 n (by omega) (by omega)
      simp only [hn, decide_false, cond_false, e4, Option.bind_some]
      exact ⟨_, _, _, rfl, by omega, by omega, h6, fun _ => h7⟩
theorem one_ok (code : List UInt8) (at_ seed n : Int) (h0 : 0 ≤ at_) (h1 : at_ < BIG) : ∃ v a sd, s_l00Src_one ⟨code, at_, seed⟩ n = some (v, ⟨code, a, sd⟩) ∧ at_ ≤ a ∧ a ≤ at_ + 2 := by
  obtain ⟨v, a, sd, e, h2, h3, _⟩ := pick_ok code at_ seed n h0 h1
  exact ⟨v == 0, a, sd, by simp only [s_l00Src_one, e, Option.bind_some], h2, h3⟩
/-! Draws, step by step. -/
def SrcAt (code : List UInt8) (hi : Int) (s : L00Src) : Prop := s.code = code ∧ 0 ≤ s.at_ ∧ s.at_ ≤ hi
theorem bindE {α β : Type} {x : Option α} {f : α → Option β} {P : α → Prop} {Q : β → Prop} (h : ∃ v, x = some v ∧ P v) (k : ∀ v, P v → ∃ r, f v = some r ∧ Q r) : ∃ r, x.bind f = some r ∧ Q r := by
  obtain ⟨v, rfl, hv⟩ := h
  exact k v hv
theorem condE {β : Type} {b : Bool} {x y : Option β} {Q : β → Prop} (h1 : b = true → ∃ r, x = some r ∧ Q r) (h2 : b = false → ∃ r, y = some r ∧ Q r) : ∃ r, (bif b then x else y) = some r ∧ Q r := by
  cases b
  · exact h2 rfl
  · exact h1 rfl
theorem appE {α β : Type} {a b : List α} {f : List α → Option β} {Q : β → Prop} (h : a.length + b.length ≤ LIM) (k : ∃ r, f (a ++ b) = some r ∧ Q r) : ∃ r, (app a b).bind f = some r ∧ Q r := by
  rw [app_some a b h]; exact k
theorem SrcAt.mono {code : List UInt8} {a b : Int} {s : L00Src} (h : SrcAt code a s) (hab : a ≤ b) : SrcAt code b s := ⟨h.1, h.2.1, Int.le_trans h.2.2 hab⟩
theorem pickA {code : List UInt8} {hi : Int} {s : L00Src} (n : Int) (h : SrcAt code hi s) (hb : hi ≤ 100000000) : ∃ v, s_l00Src_pick s n = some v ∧ SrcAt code (hi + 2) v.2 ∧ 0 ≤ v.1 ∧ (0 < n → v.1 < n) := by
  obtain ⟨c, a, sd⟩ := s
  obtain ⟨rfl, h0, h1⟩ := h
  have hB : BIG = 1152921504606846976 := rfl
  simp only at h0 h1
  obtain ⟨v, a', sd', e, g1, g2, g3, g4⟩ := pick_ok c a sd n h0 (by omega)
  exact ⟨_, e, ⟨rfl, by show 0 ≤ a'; omega, by show a' ≤ hi + 2; omega⟩, g3, g4⟩
theorem oneA {code : List UInt8} {hi : Int} {s : L00Src} (n : Int) (h : SrcAt code hi s) (hb : hi ≤ 100000000) : ∃ v, s_l00Src_one s n = some v ∧ SrcAt code (hi + 2) v.2 := by
  obtain ⟨c, a, sd⟩ := s
  obtain ⟨rfl, h0, h1⟩ := h
  have hB : BIG = 1152921504606846976 := rfl
  simp only at h0 h1
  obtain ⟨v, a', sd', e, g1, g2⟩ := one_ok c a sd n h0 (by omega)
  exact ⟨_, e, rfl, by show 0 ≤ a'; omega, by show a' ≤ hi + 2; omega⟩
theorem fromA (code : List UInt8) : s_l00From code = some ⟨code, 0, 0⟩ := rfl
theorem mget_mset (l : List (Str × Bool)) (k s : Str) : mget (mset l k true) s = (s == k || mget l s) := by
  induction l with
  | nil => simp only [mset, mget]; cases s == k <;> rfl
  | cons p r ih =>
    obtain ⟨a, b⟩ := p
    simp only [mset]
    by_cases h : k = a
    · subst h; simp only [beq_self_eq_true, cond_true, mget]; cases s == k <;> rfl
    · have : (k == a) = false := by simpa using h
      simp only [this, cond_false, mget]
      by_cases h2 : s = a
      · subst h2
        have : (s == k) = false := by simp; exact fun e => h e.symm
        simp [this]
      · have : (s == a) = false := by simpa using h2
        simp only [this, cond_false]; exact ih
def sml (c : UInt8) : Bool := decide (c ≥ 97) && decide (c ≤ 122)
def dig (c : UInt8) : Bool := decide (c ≥ 48) && decide (c ≤ 57)
def okc (c : UInt8) : Bool := sml c || (dig c || c == 45)
def nm (s : Str) : Bool := match s with
  | [] => false
  | c :: r => decide (r.length < 12) && (sml c && r.all okc)
theorem i_isDigit_eq (c : UInt8) : i_isDigit c = some (dig c) := by simp only [i_isDigit, andO_some, dig, Option.bind_some]
theorem i_IsName_l1_eq (k : Option Bool) (s : Str) (ha : s.length ≤ LIM) : ∀ (n i N : Nat), i + n = s.length → n < N → 0 < i → i_IsName_l1 k s N (i : Int) = bif (s.drop i).all okc then k else some false := by
  intro n
  induction n with
  | zero =>
    intro i N h1 h3 h0
    obtain ⟨N, rfl⟩ := pos_fuel h3
    have hi : ¬ ((i : Int) < (s.length : Int)) := by omega
    have e2 : s.drop i = [] := List.drop_of_length_le (by omega)
    simp only [i_IsName_l1, hi, decide_false, cond_false, e2, List.all_nil, cond_true]
  | succ n ih =>
    intro i N h1 h3 h0
    obtain ⟨N, rfl⟩ := pos_fuel h3
    have hi : (i : Int) < (s.length : Int) := by omega
    have hn : i < s.length := by omega
    have hz : ((i : Int) == 0) = false := by simp; omega
    unfold LIM at ha
    simp only [i_IsName_l1, hi, decide_true, cond_true, idx_lt s i hn, Option.bind_some, i_isDigit_eq, andO_some, orO_some, w64_nat i (by omega), ih (i + 1) N (by omega) (by omega) (by omega), drop_cons s i hn, List.all_cons, okc, sml, bne, hz]
    cases decide (s[i] ≥ 97) <;> cases decide (s[i] ≤ 122) <;> cases dig s[i] <;> cases (s[i] == 45) <;> rfl
theorem i_IsName_eq (N : Nat) (hN : 14 < N) (s : Str) : i_IsName N s = some (nm s) := by
  unfold i_IsName
  cases s with
  | nil => rfl
  | cons c r =>
    by_cases h : r.length < 12
    · have h' : ¬ (((c :: r).length : Int) > 12) := by simp; omega
      have e : (((c :: r).length : Int) == 0) = false := by simp; omega
      have e2 : idx (c :: r) 0 = some c := rfl
      have e3 : (0 : Int) < (((c :: r).length : Nat) : Int) := by simp only [List.length_cons]; omega
      obtain ⟨N, rfl⟩ := pos_fuel hN
      have e4 : w64 (0 + 1) = ((1 : Nat) : Int) := rfl
      have := i_IsName_l1_eq (some true) (c :: r) (by simp; unfold LIM; omega) r.length 1 N (by simp; omega) (by omega) (by omega)
      simp only [e, h', e2, orO_some, decide_false, Bool.or_false, Option.bind_some, Bool.false_or, withK_eq, nm, h, decide_true, Bool.true_and, cond_false, i_IsName_l1, e3, cond_true, andO_some, orO_true, beq_self_eq_true, Bool.and_true, e4, this, List.drop_one, List.tail_cons]
      show (bif !(sml c) then _ else _) = _
      cases sml c <;> cases r.all okc <;> rfl
    · have h' : (((c :: r).length : Int) > 12) := by simp; omega
      have e : (((c :: r).length : Int) == 0) = false := by simp; omega
      simp only [e, h', orO_some, decide_true, Bool.or_true, Option.bind_some, orO_true, cond_true, nm, h, decide_false, Bool.false_and]
/-! ## the parts -/
def inr (x lo hi : Int) : Bool := decide (x ≥ lo) && decide (x ≤ hi)
theorem i_between_eq (x lo hi : Int) : i_between x lo hi = some (inr x lo hi) := by simp only [i_between, andO_some, inr, Option.bind_some]
theorem inr_iff {x lo hi : Int} : inr x lo hi = true ↔ lo ≤ x ∧ x ≤ hi := by simp [inr]
/-! Keys: what is found. -/
def isL (s : Str) : Bool := match s with
  | [c] => decide (33 ≤ c.toNat) && decide (c.toNat ≤ 126)
  | _ => false
/-- text of letters -/
def isT (s : Str) (low : Nat) : Bool := s.all fun c => decide (low ≤ c.toNat) && decide (c.toNat ≤ 126)
theorem i_text_l1 (s : Str) (low : UInt8) (kj : Option Bool) (hk : kj = some true) (hl : s.length ≤ 1000) : ∀ (n i N : Nat), i + n = s.length → n < N → i_isText_l1 kj s low N (i : Int) = some (isT (s.drop i) low.toNat) := by
  intro n
  induction n with
  | zero =>
    intro i N hi hN
    obtain ⟨N, rfl⟩ := pos_fuel hN
    have hz : ¬ (i : Int) < (s.length : Int) := by omega
    simp only [i_isText_l1, hz, decide_false, cond_false, hk]
    rw [List.drop_eq_nil_of_le (by omega)]; rfl
  | succ n ih =>
    intro i N hi hN
    obtain ⟨N, rfl⟩ := pos_fuel hN
    have hz : (i : Int) < (s.length : Int) := by omega
    simp only [i_isText_l1, hz, decide_true, cond_true]
    rw [idx_lt s i (by omega), w64_nat i (by omega), List.drop_eq_getElem_cons (by omega : i < s.length), ih (i + 1) N (by omega) (by omega)]
    simp only [Option.bind_some, orO_some, isT, List.all_cons]
    have e2 : (126 : UInt8).toNat = 126 := rfl
    have e : (decide (s[i] < low) || decide (s[i] > (126 : UInt8))) = !(decide (low.toNat ≤ s[i].toNat) && decide (s[i].toNat ≤ 126)) := by
      rw [Bool.eq_iff_iff]
      simp only [Bool.or_eq_true, Bool.not_eq_true', Bool.and_eq_false_iff, decide_eq_true_eq, decide_eq_false_iff_not, gt_iff_lt, UInt8.lt_iff_toNat_lt, e2]
      omega
    rw [e]
    cases decide (low.toNat ≤ s[i].toNat) && decide (s[i].toNat ≤ 126) <;> rfl
theorem i_text (s : Str) (low : UInt8) (most : Int) (hl : s.length ≤ 1000) (N : Nat) (hN : 1000 < N) : i_isText N s low most = some (decide ((s.length : Int) ≤ most) && isT s low.toNat) := by
  unfold i_isText
  simp only [withK_eq]
  by_cases h : (s.length : Int) > most
  · have h' : ¬ (s.length : Int) ≤ most := by omega
    simp [h, h']
  · have h' : (s.length : Int) ≤ most := by omega
    simp only [h, h', decide_false, cond_false, decide_true, Bool.true_and]
    exact i_text_l1 s low _ rfl hl s.length 0 N (by omega) (by omega)
theorem i_letter (s : Str) (N : Nat) (hN : 1000 < N) : i_isLetter N s = some (isL s) := by
  unfold i_isLetter isL
  match s with
  | [] => rfl
  | [c] =>
    have h0 : ((([c] : Str).length : Int) == 1) = true := rfl
    rw [i_text [c] 33 1 (by simp) N hN]
    simp only [h0, andO_true, Option.bind_some]
    have e1 : (33 : UInt8).toNat = 33 := rfl
    simp [isT, e1]
  | c :: d :: r =>
    have h0 : (((c :: d :: r : Str).length : Int) == 1) = false := by simp; omega
    simp only [h0, andO_false, Option.bind_some]
/-! The machines that are drawn. -/
def lets : List Str := [[97], [101], [110], [114], [116], [126]]
def nms : List Str := [[97, 100, 108, 101, 114, 45, 55], [105, 100, 101, 97, 108], [109, 105, 103, 110, 111, 110], [111, 108, 121, 109, 112, 105, 97], [114, 111, 121, 97, 108]]
def FOK (l : List TypeFault) : Prop := l.length ≤ 6 ∧ (∀ (i : Nat) (h : i < l.length), isL l[i].letter = true ∧ 1 ≤ l[i].kind ∧ l[i].kind ≤ 3) ∧ (∀ (i : Nat) (h : i + 1 < l.length), ltL l[i].letter l[i + 1].letter = true) ∧ ∀ f ∈ l, f.letter ∈ lets
def FOKi (l : List TypeFault) (i : Nat) : Prop := l.length ≤ i ∧ (∀ (j : Nat) (h : j < l.length), ∃ k : Nat, k < i ∧ lets[k]? = some l[j].letter ∧ 1 ≤ l[j].kind ∧ l[j].kind ≤ 3) ∧ ∀ (j : Nat) (h : j + 1 < l.length), ltL l[j].letter l[j + 1].letter = true
theorem lets_lt : ∀ (i k : Nat), k < i → i < 6 → ∀ a b, lets[k]? = some a → lets[i]? = some b → ltL a b = true := by
  intro i k h1 h2 a b ha hb
  have hi : i = 1 ∨ i = 2 ∨ i = 3 ∨ i = 4 ∨ i = 5 := by omega
  have hk : k = 0 ∨ k = 1 ∨ k = 2 ∨ k = 3 ∨ k = 4 := by omega
  rcases hi with rfl | rfl | rfl | rfl | rfl <;> rcases hk with rfl | rfl | rfl | rfl | rfl <;> first | omega | (cases ha; cases hb; decide)
theorem lets_L : ∀ (k : Nat) a, lets[k]? = some a → isL a = true := by
  intro k a h
  have := List.mem_of_getElem? h
  revert a
  intro a h h2
  revert h2
  have : ∀ a ∈ lets, isL a = true := by decide
  exact this a
theorem FOKi.mono {l : List TypeFault} {i : Nat} (h : FOKi l i) : FOKi l (i + 1) := by
  refine ⟨by have := h.1; omega, fun j hj => ?_, h.2.2⟩
  obtain ⟨k, k1, k2⟩ := h.2.1 j hj
  exact ⟨k, by omega, k2⟩
theorem FOKi.snoc {l : List TypeFault} {i : Nat} (h : FOKi l i) (hi : i < 6) (e : Str) (he : lets[i]? = some e) (v : Int) (h1 : 1 ≤ v) (h2 : v ≤ 3) : FOKi (l ++ [⟨e, v⟩]) (i + 1) := by
  obtain ⟨a1, a2, a3⟩ := h
  refine ⟨by simp; omega, fun j hj => ?_, fun j hj => ?_⟩
  · simp at hj
    by_cases hc : j < l.length
    · obtain ⟨k, k1, k2⟩ := a2 j hc
      rw [List.getElem_append_left hc]
      exact ⟨k, by omega, k2⟩
    · have : j = l.length := by omega
      subst this
      simp
      exact ⟨i, by omega, he, h1, h2⟩
  · simp at hj
    by_cases hc : j + 1 < l.length
    · rw [List.getElem_append_left hc, List.getElem_append_left (by omega)]
      exact a3 j hc
    · have hq : j + 1 = l.length := by omega
      rw [List.getElem_append_left (by omega : j < l.length), List.getElem_append_right (by omega)]
      obtain ⟨k, k1, k2, _⟩ := a2 j (by omega)
      have := lets_lt i k k1 hi _ _ k2 he
      simpa [hq] using this
theorem FOKi.ok {l : List TypeFault} (h : FOKi l 6) : FOK l := by
  refine ⟨h.1, fun i hi => ?_, h.2.2, fun f hf => ?_⟩
  · obtain ⟨k, k1, k2, k3⟩ := h.2.1 i hi
    exact ⟨lets_L k _ k2, k3⟩
  · obtain ⟨i, hi, rfl⟩ := List.getElem_of_mem hf
    obtain ⟨k, k1, k2, _⟩ := h.2.1 i hi
    exact List.mem_of_getElem? k2
theorem new_l1 (code : List UInt8) (hi : Int) (hb : hi ≤ 1000) (nm0 : Str) (kj : List TypeFault → Str → Int → Int → Option (Writer × L00Src)) (Q : Writer × L00Src → Prop) (s0 : L00Src) (hs0 : s0.code = code)
    (hk : ∀ l a sd, SrcAt code (hi + 24) ⟨code, a, sd⟩ → FOK l → ∃ r, kj l nm0 a sd = some r ∧ Q r) :
    ∀ (n i N : Nat) (l : List TypeFault) (a sd : Int), i + n = 6 → n < N → SrcAt code (hi + 4 * i) ⟨code, a, sd⟩ → FOKi l i → ∃ r, s_l15New_l1 kj s0 N l nm0 a sd (i : Int) = some r ∧ Q r := by
  intro n
  induction n with
  | zero =>
    intro i N l a sd h1 h2 h3 h4
    obtain ⟨N, rfl⟩ := pos_fuel h2
    obtain rfl : i = 6 := by omega
    simp only [s_l15New_l1, show decide (((6 : Nat) : Int) < (([[97], [101], [110], [114], [116], [126]] : List Str).length : Int)) = false from rfl, cond_false]
    exact hk l a sd (by simpa using h3) h4.ok
  | succ n ih =>
    intro i N l a sd h1 h2 h3 h4
    obtain ⟨N, rfl⟩ := pos_fuel h2
    have hi6 : i < 6 := by omega
    have hlt : decide ((i : Int) < (([[97], [101], [110], [114], [116], [126]] : List Str).length : Int)) = true := by simp; omega
    have ih' := ih (i + 1) N
    rw [show (([[97], [101], [110], [114], [116], [126]] : List Str)) = lets from rfl] at *
    simp only [s_l15New_l1, hlt, cond_true, withK_eq, w64_nat i (by omega), hs0]
    rw [show (([[97], [101], [110], [114], [116], [126]] : List Str)) = lets from rfl, hlt, cond_true]
    refine bindE (oneA 3 h3 (by omega)) fun v hv => condE (fun hb1 => ?_) (fun hb1 => ?_)
    · rw [idx_lt lets i (by exact hi6), Option.bind_some]
      have hv' : SrcAt code (hi + 4 * i + 2) ⟨code, v.2.at_, v.2.seed⟩ := ⟨rfl, hv.2.1, hv.2.2⟩
      refine bindE (pickA 3 hv' (by omega)) fun u hu => ?_
      obtain ⟨u1, u2, u3⟩ := hu
      have u4 := u3 (by omega)
      refine appE (by have := h4.1; simp; unfold LIM; omega) ?_
      refine ih' _ _ _ (by omega) (by omega) ⟨rfl, u1.2.1, by have := u1.2.2; show u.2.at_ ≤ _; omega⟩ ?_
      rw [w64_id (by omega) (by omega)]
      exact h4.snoc hi6 _ (List.getElem?_eq_getElem _) _ (by omega) (by omega)
    · exact ih' _ _ _ (by omega) (by omega) ⟨rfl, hv.2.1, by have := hv.2.2; show v.2.at_ ≤ _; omega⟩ h4.mono
theorem newA {code : List UInt8} {hi : Int} {s : L00Src} (N : Nat) (hN : 10 < N) (e : Str) (h : SrcAt code hi s) (hb : hi ≤ 1000) : ∃ v, s_l15New N s e = some v ∧ SrcAt code (hi + 24) v.2 ∧ v.1.name = e ∧ FOK v.1.faults := by
  obtain ⟨c, a, sd⟩ := s
  obtain ⟨rfl, h0, h1⟩ := h
  simp only at h0 h1
  unfold s_l15New
  simp only [withK_eq]
  have := new_l1 c hi hb e (fun l9 x11 x12 x13 => some (Writer.mk x11 l9, L00Src.mk c x12 x13)) (fun v => SrcAt c (hi + 24) v.2 ∧ v.1.name = e ∧ FOK v.1.faults) ⟨c, a, sd⟩ rfl (fun l a sd k1 k2 => ⟨_, rfl, k1, rfl, k2⟩) 6 0 N [] a sd (by omega) (by omega) ⟨rfl, h0, by simpa using h1⟩ ⟨by simp, fun j hj => by simp at hj, fun j hj => by simp at hj⟩
  exact this
def WOK (l : List Writer) : Prop := l.length ≤ 5 ∧ ∀ (i : Nat) (h : i < l.length), nms[i]? = some l[i].name ∧ FOK l[i].faults
theorem WOK.snoc {l : List Writer} (h : WOK l) (hl : l.length < 5) (w : Writer) (hn : nms[l.length]? = some w.name) (hf : FOK w.faults) : WOK (l ++ [w]) := by
  refine ⟨by simp; omega, fun i hi => ?_⟩
  simp at hi
  by_cases hc : i < l.length
  · rw [List.getElem_append_left hc]; exact h.2 i hc
  · obtain rfl : i = l.length := by omega
    simp; exact ⟨hn, hf⟩
theorem draw_l1 (code : List UInt8) (kj : Int → Int → List Writer → Option (List Writer × L00Src)) (Q : List Writer × L00Src → Prop) (s0 : L00Src) (hs0 : s0.code = code)
    (hk : ∀ l a sd, WOK l → ∃ r, kj a sd l = some r ∧ Q r) :
    ∀ (n N : Nat) (l : List Writer) (a sd : Int), l.length + n ≤ 5 → n + 20 < N → SrcAt code (10 + 24 * l.length) ⟨code, a, sd⟩ → WOK l → ∃ r, s_l15Draw_l1 kj s0 N a sd l (n : Int) = some r ∧ Q r := by
  intro n
  induction n with
  | zero =>
    intro N l a sd h1 h2 h3 h4
    obtain ⟨N, rfl⟩ := pos_fuel h2
    simp only [s_l15Draw_l1, show decide (((0 : Nat) : Int) > 0) = false from rfl, cond_false]
    exact hk l a sd h4
  | succ n ih =>
    intro N l a sd h1 h2 h3 h4
    obtain ⟨N, rfl⟩ := pos_fuel h2
    have hlt : decide (((n + 1 : Nat) : Int) > 0) = true := by simp
    have hl5 : l.length < nms.length := by show _ < 5; omega
    have e1 : w64 (((n + 1 : Nat) : Int) - 1) = (n : Int) := by rw [w64_id (by omega) (by omega)]; omega
    simp only [s_l15Draw_l1, hlt, cond_true, hs0, e1]
    rw [show ([[97, 100, 108, 101, 114, 45, 55], [105, 100, 101, 97, 108], [109, 105, 103, 110, 111, 110], [111, 108, 121, 109, 112, 105, 97], [114, 111, 121, 97, 108]] : List Str) = nms from rfl, idx_lt nms l.length hl5, Option.bind_some]
    refine bindE (newA N (by omega) _ h3 (by omega)) fun v hv => appE (by simp; unfold LIM; omega) ?_
    obtain ⟨v1, v2, v3⟩ := hv
    refine ih N _ _ _ (by simp; omega) (by omega) ⟨rfl, v1.2.1, by have := v1.2.2; show v.2.at_ ≤ _; simp; omega⟩ (h4.snoc (by omega) _ ?_ v3)
    rw [List.getElem?_eq_getElem hl5]; exact congrArg some v2.symm
theorem drawA (code : List UInt8) (N : Nat) (hN : 100 < N) : ∃ l, s_A2Writers N code = some l ∧ WOK l := by
  unfold s_A2Writers
  rw [fromA, Option.bind_some]
  have h0 : SrcAt code 0 ⟨code, 0, 0⟩ := ⟨rfl, by simp, by simp⟩
  have : ∃ r, s_l15Draw N ⟨code, 0, 0⟩ = some r ∧ WOK r.1 := by
    unfold s_l15Draw
    simp only [withK_eq]
    refine bindE (pickA 6 h0 (by omega)) fun u hu => ?_
    obtain ⟨u1, u2, u3⟩ := hu
    have u4 := u3 (by omega)
    obtain ⟨m, hm⟩ : ∃ m : Nat, u.1 = m := ⟨u.1.toNat, by omega⟩
    rw [hm]
    exact draw_l1 code (fun x7 x8 l9 => some (l9, L00Src.mk code x7 x8)) (fun r => WOK r.1) ⟨code, 0, 0⟩ rfl (fun l a sd k => ⟨_, rfl, k⟩) m N [] _ _ (by simp; omega) (by omega) ⟨rfl, u1.2.1, by have := u1.2.2; show u.2.at_ ≤ _; simp; omega⟩ ⟨by simp, fun i hi => by simp at hi⟩
  obtain ⟨r, e, h⟩ := this
  exact ⟨r.1, by rw [e]; rfl, h⟩
/-! The page that is drawn. -/
/-! What the machines and the pages give. -/
def kOf : List TypeFault → Str → Int
  | [], _ => 0
  | f :: r, s => bif f.letter == s then f.kind else kOf r s
theorem kind_l1 (w : Writer) (s : Str) (hl : w.faults.length ≤ 100) : ∀ (n i N : Nat), i + n = w.faults.length → n < N → i_Writer_kind_l1 (some 0) w s N (i : Int) = some (kOf (w.faults.drop i) s) := by
  intro n
  induction n with
  | zero =>
    intro i N h1 h2
    obtain ⟨N, rfl⟩ := pos_fuel h2
    have hi : ¬ ((i : Int) < (w.faults.length : Int)) := by omega
    rw [List.drop_eq_nil_of_le (by omega)]
    simp only [i_Writer_kind_l1, hi, decide_false, cond_false, kOf]
  | succ n ih =>
    intro i N h1 h2
    obtain ⟨N, rfl⟩ := pos_fuel h2
    have hil : i < w.faults.length := by omega
    have hi : (i : Int) < (w.faults.length : Int) := by omega
    rw [drop_cons _ i hil]
    simp only [i_Writer_kind_l1, hi, decide_true, cond_true, idx_lt _ i hil, Option.bind_some, w64_nat i (by omega), ih (i + 1) N (by omega) (by omega), kOf]
    cases w.faults[i].letter == s <;> rfl
theorem kind_ok (w : Writer) (s : Str) (hl : w.faults.length ≤ 100) (N : Nat) (hN : 100 < N) : i_Writer_kind N w s = some (kOf w.faults s) := by
  have := kind_l1 w s hl w.faults.length 0 N (by omega) (by omega)
  unfold i_Writer_kind
  simp only [withK_eq]
  simpa using this
/-! The machines and the pages are valid. -/
theorem isName_ok (N : Nat) (hN : 14 < N) (i : Nat) (s : Str) (h : nms[i]? = some s) : i_IsName N s = some true := by
  have h1 : ∀ a ∈ nms, nm a = true := by decide
  rw [i_IsName_eq N hN, h1 s (List.mem_of_getElem? h)]
theorem ltL_asymm : ∀ a b : Str, ltL a b = true → (ltL b a || b == a) = false
  | [], [], h => by simp [ltL] at h
  | [], y :: b, h => by simp [ltL]
  | x :: a, [], h => by simp [ltL] at h
  | x :: a, y :: b, h => by
    have ih := ltL_asymm a b
    simp only [ltL, Bool.or_eq_true, Bool.and_eq_true, decide_eq_true_eq, beq_iff_eq] at h
    simp only [ltL, Bool.or_eq_false_iff, List.cons_beq_cons, Bool.and_eq_false_iff, decide_eq_false_iff_not, beq_eq_false_iff_ne]
    rcases h with h | ⟨h1, h2⟩
    · have h1 : x.toNat < y.toNat := h
      have e : y ≠ x := fun e => by rw [e] at h1; omega
      exact ⟨⟨by show ¬ (y.toNat < x.toNat); omega, Or.inl e⟩, Or.inl e⟩
    · subst h1
      have := ih h2
      simp only [Bool.or_eq_false_iff, beq_eq_false_iff_ne] at this
      exact ⟨⟨by show ¬ (x.toNat < x.toNat); omega, Or.inr (by simpa using this.1)⟩, Or.inr (by simpa using this.2)⟩
theorem valid_l1 (w : Writer) (hf : FOK w.faults) (kj : Option Bool) : ∀ (n i N : Nat), i + n = w.faults.length → n + 1100 < N → i_validWriter_l1 kj w N (i : Int) = kj := by
  have hl := hf.1
  intro n
  induction n with
  | zero =>
    intro i N h1 h2
    obtain ⟨N, rfl⟩ := pos_fuel h2
    have hi : ¬ ((i : Int) < (w.faults.length : Int)) := by omega
    simp only [i_validWriter_l1, hi, decide_false, cond_false]
  | succ n ih =>
    intro i N h1 h2
    obtain ⟨N, rfl⟩ := pos_fuel h2
    have hil : i < w.faults.length := by omega
    have hi : (i : Int) < (w.faults.length : Int) := by omega
    obtain ⟨f1, f2, f3⟩ := hf.2.1 i hil
    have f4 : inr w.faults[i].kind 1 6 = true := inr_iff.2 ⟨by omega, by omega⟩
    have ih' := ih (i + 1) N (by omega) (by omega)
    simp only [i_validWriter_l1, hi, decide_true, cond_true, idx_lt _ i hil, Option.bind_some, i_letter _ N (by omega), f1, Bool.not_true, orO_false, i_between_eq, f4, w64_nat i (by omega), ih']
    by_cases h0 : i = 0
    · subst h0; simp
    · obtain ⟨j, rfl⟩ : ∃ j, i = j + 1 := ⟨i - 1, by omega⟩
      have hp : ((j + 1 : Nat) : Int) > 0 := by omega
      have e1 : w64 (((j + 1 : Nat) : Int) - 1) = (j : Int) := by rw [w64_id (by omega) (by omega)]; omega
      simp only [hp, decide_true, andO_true, e1, idx_lt _ j (by omega : j < w.faults.length), Option.bind_some, ltL_asymm _ _ (hf.2.2.1 j hil), cond_false]
theorem valid_ok (w : Writer) (hf : FOK w.faults) (i : Nat) (hn : nms[i]? = some w.name) (N : Nat) (hN : 1200 < N) : i_validWriter N w = some true := by
  have hl := hf.1
  have h10 : ¬ ((w.faults.length : Int) > 10) := by omega
  have := valid_l1 w hf (some true) w.faults.length 0 N (by omega) (by omega)
  unfold i_validWriter
  simp only [isName_ok N (by omega) i _ hn, Option.bind_some, Bool.not_true, orO_false, h10, decide_false, cond_false, withK_eq]
  exact this
theorem names_lt : ∀ (i k : Nat), k < i → i < 5 → ∀ a b, nms[k]? = some a → nms[i]? = some b → (b == a) = false := by
  intro i k h1 h2 a b ha hb
  have hi : i = 1 ∨ i = 2 ∨ i = 3 ∨ i = 4 := by omega
  have hk : k = 0 ∨ k = 1 ∨ k = 2 ∨ k = 3 := by omega
  rcases hi with rfl | rfl | rfl | rfl <;> rcases hk with rfl | rfl | rfl | rfl <;> first | omega | (cases ha; cases hb; decide)
theorem vws_l1 (l : List Writer) (hw : WOK l) (kj : Option Bool) : ∀ (n i N : Nat) (mp : List (Str × Bool)), i + n = l.length → n + 1300 < N → (∀ j, i ≤ j → ∀ b, nms[j]? = some b → mget mp b = false) → i_ValidWriters_l1 kj l N mp (i : Int) = kj := by
  have hl := hw.1
  intro n
  induction n with
  | zero =>
    intro i N mp h1 h2 h3
    obtain ⟨N, rfl⟩ := pos_fuel h2
    have hi : ¬ ((i : Int) < (l.length : Int)) := by omega
    simp only [i_ValidWriters_l1, hi, decide_false, cond_false]
  | succ n ih =>
    intro i N mp h1 h2 h3
    obtain ⟨N, rfl⟩ := pos_fuel h2
    have hil : i < l.length := by omega
    have hi : (i : Int) < (l.length : Int) := by omega
    obtain ⟨f1, f2⟩ := hw.2 i hil
    have ih' := ih (i + 1) N (mset mp l[i].name true) (by omega) (by omega) (fun j hj b hb => by
      have hj5 : j < 5 := by have := (List.getElem?_eq_some_iff.1 hb).1; exact this
      rw [mget_mset, names_lt j i (by omega) hj5 _ _ f1 hb, h3 j (by omega) b hb]; rfl)
    simp only [i_ValidWriters_l1, hi, decide_true, cond_true, idx_lt _ i hil, Option.bind_some, valid_ok l[i] f2 i f1 N (by omega), Bool.not_true, orO_false, h3 i (by omega) _ f1, w64_nat i (by omega), ih', cond_false]
theorem vws_ok (l : List Writer) (hw : WOK l) (N : Nat) (hN : 1400 < N) : i_ValidWriters N l = some true := by
  have hl := hw.1
  have := vws_l1 l hw (some (decide ((l.length : Int) ≤ 12))) l.length 0 N [] (by omega) (by omega) (fun j _ b _ => rfl)
  have h60 : (l.length : Int) ≤ 12 := by omega
  unfold i_ValidWriters
  simp only [withK_eq]
  rw [show ((0 : Nat) : Int) = 0 from rfl] at this
  rw [this]; simp [h60]
/-! Letters that stand on a page in two ways. -/
def asc : List Bool → Nat → Str
  | [], _ => []
  | b :: r, x => bif b then UInt8.ofInt (x : Int) :: asc r (x + 1) else asc r (x + 1)
theorem ofInt_toNat (k : Nat) (h : k < 256) : (UInt8.ofInt (k : Int)).toNat = k := by
  rw [UInt8.ofInt]; simp [Int.emod_emod_of_dvd]; omega
theorem asc_len : ∀ (m : List Bool) (x : Nat), (asc m x).length ≤ m.length
  | [], x => by simp [asc]
  | b :: r, x => by
    have := asc_len r (x + 1)
    cases b <;> simp only [asc, cond_true, cond_false, List.length_cons] <;> omega
theorem asc_mem : ∀ (m : List Bool) (x : Nat) (c : UInt8), x + m.length ≤ 256 → c ∈ asc m x → ∃ j, m[j]? = some true ∧ c.toNat = x + j
  | [], x, c, _, h => by simp [asc] at h
  | b :: r, x, c, hl, h => by
    simp only [List.length_cons] at hl
    cases b
    · obtain ⟨j, j1, j2⟩ := asc_mem r (x + 1) c (by omega) (by simpa [asc] using h)
      exact ⟨j + 1, by simpa using j1, by omega⟩
    · simp only [asc, cond_true, List.mem_cons] at h
      rcases h with h | h
      · exact ⟨0, by simp, by rw [h, ofInt_toNat x (by omega)]; rfl⟩
      · obtain ⟨j, j1, j2⟩ := asc_mem r (x + 1) c (by omega) h
        exact ⟨j + 1, by simpa using j1, by omega⟩
theorem asc_nodup : ∀ (m : List Bool) (x : Nat), x + m.length ≤ 256 → (asc m x).Nodup
  | [], x, _ => by simp [asc]
  | b :: r, x, hl => by
    simp only [List.length_cons] at hl
    have ih := asc_nodup r (x + 1) (by omega)
    cases b
    · simpa [asc] using ih
    · simp only [asc, cond_true, List.nodup_cons]
      refine ⟨fun h => ?_, ih⟩
      obtain ⟨j, j1, j2⟩ := asc_mem r (x + 1) _ (by omega) h
      rw [ofInt_toNat x (by omega)] at j2
      omega
theorem nodup_sub {α : Type} [BEq α] [LawfulBEq α] : ∀ (l m : List α), l.Nodup → (∀ x ∈ l, x ∈ m) → l.length ≤ m.length
  | [], m, _, _ => by simp
  | x :: l, m, h, hs => by
    rw [List.nodup_cons] at h
    have hx := hs x (by simp)
    have := nodup_sub l (m.erase x) h.2 (fun y hy => (List.mem_erase_of_ne (fun e => h.1 (by rw [← e]; exact hy))).2 (hs y (by simp [hy])))
    rw [List.length_erase_of_mem hx] at this
    have := List.length_pos_of_mem hx
    simp only [List.length_cons]; omega
theorem asc_l1 (m : List Bool) (hm : m.length = 256) (kj : Str → Option Str) : ∀ (n x N : Nat) (l : Str), x + n = 256 → n < N → l.length ≤ x → i_ascending_l1 kj m N l (x : Int) = kj (l ++ asc (m.drop x) x) := by
  intro n
  induction n with
  | zero =>
    intro x N l h1 h2 h3
    obtain ⟨N, rfl⟩ := pos_fuel h2
    have hi : ¬ ((x : Int) < 256) := by omega
    rw [List.drop_eq_nil_of_le (by omega)]
    simp only [i_ascending_l1, hi, decide_false, cond_false, asc, List.append_nil]
  | succ n ih =>
    intro x N l h1 h2 h3
    obtain ⟨N, rfl⟩ := pos_fuel h2
    have hi : (x : Int) < 256 := by omega
    have hxl : x < m.length := by omega
    rw [drop_cons _ x hxl]
    simp only [i_ascending_l1, hi, decide_true, cond_true, withK_eq, idx_lt _ x hxl, Option.bind_some, w64_nat x (by omega), asc]
    cases m[x]
    · simp only [cond_false]
      exact ih (x + 1) N l (by omega) (by omega) (by omega)
    · simp only [cond_true]
      rw [app_some _ _ (by simp; unfold LIM; omega), Option.bind_some, ih (x + 1) N _ (by omega) (by omega) (by simp; omega)]
      simp
theorem asc_ok (m : List Bool) (hm : m.length = 256) (N : Nat) (hN : 300 < N) : i_ascending N m = some (asc m 0) := by
  have := asc_l1 m hm (fun l5 => some l5) 256 0 N [] (by omega) (by omega) (by simp)
  unfold i_ascending
  simp only [withK_eq]
  simpa using this
theorem list_l1 (s : Str) (hs : s.length ≤ 300) (kj : List Str → Option (List Str)) : ∀ (n x N : Nat) (l : List Str), x + n = s.length → n < N → l.length = x → ∃ r, i_letterList_l1 kj s N l (x : Int) = kj r ∧ r.length = s.length := by
  intro n
  induction n with
  | zero =>
    intro x N l h1 h2 h3
    obtain ⟨N, rfl⟩ := pos_fuel h2
    have hi : ¬ ((x : Int) < (s.length : Int)) := by omega
    simp only [i_letterList_l1, hi, decide_false, cond_false]
    exact ⟨l, rfl, by omega⟩
  | succ n ih =>
    intro x N l h1 h2 h3
    obtain ⟨N, rfl⟩ := pos_fuel h2
    have hi : (x : Int) < (s.length : Int) := by omega
    simp only [i_letterList_l1, hi, decide_true, cond_true, w64_nat x (by omega)]
    rw [sub_some s _ _ (by omega) (by omega) (by omega), Option.bind_some, app_some _ _ (by simp; unfold LIM; omega), Option.bind_some]
    exact ih (x + 1) N _ (by omega) (by omega) (by simp; omega)
theorem list_ok (s : Str) (hs : s.length ≤ 300) (N : Nat) (hN : 400 < N) : ∃ r, i_letterList N s = some r ∧ r.length = s.length := by
  obtain ⟨r, e, h⟩ := list_l1 s hs (fun l3 => some l3) s.length 0 N [] (by omega) (by omega) rfl
  exact ⟨r, by unfold i_letterList; simp only [withK_eq]; simpa using e, h⟩
theorem mgetO_msetV : ∀ (l : List (Str × Int)) (k s : Str) (v : Int), mgetO (msetV l k v) s = if s == k then some v else mgetO l s
  | [], k, s, v => by simp only [msetV, mgetO]; cases s == k <;> rfl
  | (a, b) :: r, k, s, v => by
    have ih := mgetO_msetV r k s v
    simp only [msetV]
    by_cases h : k == a
    · have e : k = a := by simpa using h
      subst e
      simp only [beq_self_eq_true, cond_true, mgetO]
      cases s == k <;> rfl
    · simp only [h, cond_false, mgetO, ih]
      cases hs : s == a
      · rfl
      · have e : s = a := by simpa using hs
        subst e
        have : (s == k) = false := by
          cases hc : s == k
          · rfl
          · have e : s = k := by simpa using hc
            subst e; simp at h
        simp [this]
theorem isL_one {s : Str} (h : isL s = true) : ∃ b, s = [b] := by
  match s, h with
  | [b], _ => exact ⟨b, rfl⟩
end Go.Proofs.Ythifimjkndpmpaa
