/-
  Plain lemmas on these functions. No conditions but those that each states.
-/
import Derived.Test.YtdmnblhhmjbhnaaFnWritersP
namespace Go.Proofs.Ytdmnblhhmjbhnaa
set_option linter.unusedVariables false
set_option linter.unusedSimpArgs false
theorem wrapu_id {x : Int} (h0 : 0 ≤ x) (h1 : x < 18446744073709551616) : IntKind.u64.wrap x = x := by
  have h2 : IntKind.u64.wrap x = x % 18446744073709551616 := by simp [IntKind.wrap, IntKind.bits, IntKind.signed]
  omega
theorem uand255 (a : Int) : 0 ≤ uand a 255 ∧ uand a 255 ≤ 255 := by
  unfold uand
  have h1 : (BitVec.ofInt 64 a &&& BitVec.ofInt 64 255).toNat ≤ 255 := by
    rw [BitVec.toNat_and]
    exact Nat.le_trans Nat.and_le_right (by decide)
  rw [wrapu_id (by omega) (by omega)]
  omega
def BIG : Int := 1152921504606846976
theorem next_ok (code : List UInt8) (at_ seed : Int) (h0 : 0 ≤ at_) (h1 : at_ ≤ BIG) : ∃ v sd, s_l00Src_next ⟨code, at_, seed⟩ = some (v, ⟨code, at_ + 1, sd⟩) ∧ 0 ≤ v ∧ v ≤ 255 := by
  unfold BIG at h1
  have e1 : w64 (at_ + 1) = at_ + 1 := w64_id (by omega) (by omega)
  have key : ∀ b : Int, 0 ≤ b → b ≤ 255 → ∀ z : Int, ∃ v sd, (bif decide (at_ + 1 ≤ (code.length : Int)) then some (b, L00Src.mk code (at_ + 1) z) else some (w64 (uand (ushr z 40) 255), L00Src.mk code (at_ + 1) z)) = some (v, L00Src.mk code (at_ + 1) sd) ∧ 0 ≤ v ∧ v ≤ 255 := by
    intro b hb0 hb1 z
    cases decide (at_ + 1 ≤ (code.length : Int))
    · have := uand255 (ushr z 40)
      exact ⟨_, _, rfl, by rw [w64_id (by omega) (by omega)]; exact this⟩
    · exact ⟨_, _, rfl, hb0, hb1⟩
  unfold s_l00Src_next
  simp only [withK_eq, e1]
  by_cases h : at_ < (code.length : Int)
  · simp only [h, decide_true, cond_true, idx_int code at_ h0 h, Option.bind_some]
    have := (code[at_.toNat]'(by omega)).toNat_lt
    exact key _ (by omega) (by omega) _
  · simp only [h, decide_false, cond_false]
    exact key 0 (by omega) (by omega) _
theorem remO_ok (x n : Int) (h0 : 0 ≤ x) (hn : 0 < n) : ∃ q, remO x n = some q ∧ 0 ≤ q ∧ q < n := by
  unfold remO
  rw [if_neg (by omega)]
  exact ⟨_, rfl, by rw [Int.tmod_eq_emod_of_nonneg h0]; exact Int.emod_nonneg _ (by omega), by rw [Int.tmod_eq_emod_of_nonneg h0]; exact Int.emod_lt_of_pos _ hn⟩
theorem pick_ok (code : List UInt8) (at_ seed n : Int) (h0 : 0 ≤ at_) (h1 : at_ < BIG) : ∃ v a sd, s_l00Src_pick ⟨code, at_, seed⟩ n = some (v, ⟨code, a, sd⟩) ∧ at_ ≤ a ∧ a ≤ at_ + 2 ∧ 0 ≤ v ∧ (0 < n → v < n) := by
  unfold s_l00Src_pick
  by_cases h : n ≤ 1
  · exact ⟨0, at_, seed, by simp only [h, decide_true, cond_true], by omega, by omega, by omega, by omega⟩
  · obtain ⟨v1, sd1, e1, h2, h3⟩ := next_ok code at_ seed h0 (by omega)
    simp only [h, decide_false, cond_false, e1, Option.bind_some, withK_eq]
    by_cases hn : n > 200
    · obtain ⟨v2, sd2, e2, h4, h5⟩ := next_ok code (at_ + 1) sd1 (by omega) (by omega)
      have e3 : w64 (w64 (v1 * 256) + v2) = v1 * 256 + v2 := by rw [w64_id (x := v1 * 256) (by omega) (by omega), w64_id (by omega) (by omega)]
      obtain ⟨q, e4, h6, h7⟩ := remO_ok (v1 * 256 + v2) n (by omega) (by omega)
      simp only [hn, decide_true, cond_true, e2, Option.bind_some, e3, e4]
      exact ⟨_, _, _, rfl, by omega, by omega, h6, fun _ => h7⟩
    · obtain ⟨q, e4, h6, h7⟩ := remO_ok v1 n (by omega) (by omega)
      simp only [hn, decide_false, cond_false, e4, Option.bind_some]
      exact ⟨_, _, _, rfl, by omega, by omega, h6, fun _ => h7⟩
theorem one_ok (code : List UInt8) (at_ seed n : Int) (h0 : 0 ≤ at_) (h1 : at_ < BIG) : ∃ v a sd, s_l00Src_one ⟨code, at_, seed⟩ n = some (v, ⟨code, a, sd⟩) ∧ at_ ≤ a ∧ a ≤ at_ + 2 := by
  obtain ⟨v, a, sd, e, h2, h3, _⟩ := pick_ok code at_ seed n h0 h1
  exact ⟨v == 0, a, sd, by simp only [s_l00Src_one, e, Option.bind_some], h2, h3⟩
theorem text_mem (code : List UInt8) (at_ seed : Int) (l : List Str) (hl : 0 < l.length) (h0 : 0 ≤ at_) (h1 : at_ < BIG) : ∃ v a sd, s_l00Src_text ⟨code, at_, seed⟩ l = some (v, ⟨code, a, sd⟩) ∧ at_ ≤ a ∧ a ≤ at_ + 2 ∧ v ∈ l := by
  obtain ⟨v, a, sd, e, h2, h3, h4, h5⟩ := pick_ok code at_ seed (l.length : Int) h0 h1
  have := h5 (by omega)
  exact ⟨l[v.toNat]'(by omega), a, sd, by simp only [s_l00Src_text, e, Option.bind_some, idx_int l v h4 this], h2, h3, List.getElem_mem _⟩
/-! Draws, step by step. -/
def SrcAt (code : List UInt8) (hi : Int) (s : L00Src) : Prop := s.code = code ∧ 0 ≤ s.at_ ∧ s.at_ ≤ hi
theorem bindE {α β : Type} {x : Option α} {f : α → Option β} {P : α → Prop} {Q : β → Prop} (h : ∃ v, x = some v ∧ P v) (k : ∀ v, P v → ∃ r, f v = some r ∧ Q r) : ∃ r, x.bind f = some r ∧ Q r := by
  obtain ⟨v, rfl, hv⟩ := h
  exact k v hv
theorem condE {β : Type} {b : Bool} {x y : Option β} {Q : β → Prop} (h1 : b = true → ∃ r, x = some r ∧ Q r) (h2 : b = false → ∃ r, y = some r ∧ Q r) : ∃ r, (bif b then x else y) = some r ∧ Q r := by
  cases b
  · exact h2 rfl
  · exact h1 rfl
theorem appE {α β : Type} {a b : List α} {f : List α → Option β} {Q : β → Prop} (h : a.length + b.length ≤ LIM) (k : ∃ r, f (a ++ b) = some r ∧ Q r) : ∃ r, (app a b).bind f = some r ∧ Q r := by
  rw [app_some a b h]; exact k
theorem SrcAt.mono {code : List UInt8} {a b : Int} {s : L00Src} (h : SrcAt code a s) (hab : a ≤ b) : SrcAt code b s := ⟨h.1, h.2.1, Int.le_trans h.2.2 hab⟩
theorem pickA {code : List UInt8} {hi : Int} {s : L00Src} (n : Int) (h : SrcAt code hi s) (hb : hi ≤ 100000000) : ∃ v, s_l00Src_pick s n = some v ∧ SrcAt code (hi + 2) v.2 ∧ 0 ≤ v.1 ∧ (0 < n → v.1 < n) := by
  obtain ⟨c, a, sd⟩ := s
  obtain ⟨rfl, h0, h1⟩ := h
  have hB : BIG = 1152921504606846976 := rfl
  simp only at h0 h1
  obtain ⟨v, a', sd', e, g1, g2, g3, g4⟩ := pick_ok c a sd n h0 (by omega)
  exact ⟨_, e, ⟨rfl, by show 0 ≤ a'; omega, by show a' ≤ hi + 2; omega⟩, g3, g4⟩
theorem oneA {code : List UInt8} {hi : Int} {s : L00Src} (n : Int) (h : SrcAt code hi s) (hb : hi ≤ 100000000) : ∃ v, s_l00Src_one s n = some v ∧ SrcAt code (hi + 2) v.2 := by
  obtain ⟨c, a, sd⟩ := s
  obtain ⟨rfl, h0, h1⟩ := h
  have hB : BIG = 1152921504606846976 := rfl
  simp only at h0 h1
  obtain ⟨v, a', sd', e, g1, g2⟩ := one_ok c a sd n h0 (by omega)
  exact ⟨_, e, rfl, by show 0 ≤ a'; omega, by show a' ≤ hi + 2; omega⟩
theorem textA {code : List UInt8} {hi : Int} {s : L00Src} (l : List Str) (hl : 0 < l.length) (h : SrcAt code hi s) (hb : hi ≤ 100000000) : ∃ v, s_l00Src_text s l = some v ∧ SrcAt code (hi + 2) v.2 ∧ v.1 ∈ l := by
  obtain ⟨c, a, sd⟩ := s
  obtain ⟨rfl, h0, h1⟩ := h
  have hB : BIG = 1152921504606846976 := rfl
  simp only at h0 h1
  obtain ⟨v, a', sd', e, g1, g2, g3⟩ := text_mem c a sd l hl h0 (by omega)
  exact ⟨_, e, ⟨rfl, by show 0 ≤ a'; omega, by show a' ≤ hi + 2; omega⟩, g3⟩
theorem fromA (code : List UInt8) : s_l00From code = some ⟨code, 0, 0⟩ := rfl
theorem mget_mset (l : List (Str × Bool)) (k s : Str) : mget (mset l k true) s = (s == k || mget l s) := by
  induction l with
  | nil => simp only [mset, mget]; cases s == k <;> rfl
  | cons p r ih =>
    obtain ⟨a, b⟩ := p
    simp only [mset]
    by_cases h : k = a
    · subst h; simp only [beq_self_eq_true, cond_true, mget]; cases s == k <;> rfl
    · have : (k == a) = false := by simpa using h
      simp only [this, cond_false, mget]
      by_cases h2 : s = a
      · subst h2
        have : (s == k) = false := by simp; exact fun e => h e.symm
        simp [this]
      · have : (s == a) = false := by simpa using h2
        simp only [this, cond_false]; exact ih
def sml (c : UInt8) : Bool := decide (c ≥ 97) && decide (c ≤ 122)
def dig (c : UInt8) : Bool := decide (c ≥ 48) && decide (c ≤ 57)
def okc (c : UInt8) : Bool := sml c || (dig c || c == 45)
def nm (s : Str) : Bool := match s with
  | [] => false
  | c :: r => decide (r.length < 12) && (sml c && r.all okc)
theorem i_isDigit_eq (c : UInt8) : i_isDigit c = some (dig c) := by simp only [i_isDigit, andO_some, dig, Option.bind_some]
theorem i_IsName_l1_eq (k : Option Bool) (s : Str) (ha : s.length ≤ LIM) : ∀ (n i N : Nat), i + n = s.length → n < N → 0 < i → i_IsName_l1 k s N (i : Int) = bif (s.drop i).all okc then k else some false := by
  intro n
  induction n with
  | zero =>
    intro i N h1 h3 h0
    obtain ⟨N, rfl⟩ := pos_fuel h3
    have hi : ¬ ((i : Int) < (s.length : Int)) := by omega
    have e2 : s.drop i = [] := List.drop_of_length_le (by omega)
    simp only [i_IsName_l1, hi, decide_false, cond_false, e2, List.all_nil, cond_true]
  | succ n ih =>
    intro i N h1 h3 h0
    obtain ⟨N, rfl⟩ := pos_fuel h3
    have hi : (i : Int) < (s.length : Int) := by omega
    have hn : i < s.length := by omega
    have hz : ((i : Int) == 0) = false := by simp; omega
    unfold LIM at ha
    simp only [i_IsName_l1, hi, decide_true, cond_true, idx_lt s i hn, Option.bind_some, i_isDigit_eq, andO_some, orO_some, w64_nat i (by omega), ih (i + 1) N (by omega) (by omega) (by omega), drop_cons s i hn, List.all_cons, okc, sml, bne, hz]
    cases decide (s[i] ≥ 97) <;> cases decide (s[i] ≤ 122) <;> cases dig s[i] <;> cases (s[i] == 45) <;> rfl
theorem i_IsName_eq (N : Nat) (hN : 14 < N) (s : Str) : i_IsName N s = some (nm s) := by
  unfold i_IsName
  cases s with
  | nil => rfl
  | cons c r =>
    by_cases h : r.length < 12
    · have h' : ¬ (((c :: r).length : Int) > 12) := by simp; omega
      have e : (((c :: r).length : Int) == 0) = false := by simp; omega
      have e2 : idx (c :: r) 0 = some c := rfl
      have e3 : (0 : Int) < (((c :: r).length : Nat) : Int) := by simp only [List.length_cons]; omega
      obtain ⟨N, rfl⟩ := pos_fuel hN
      have e4 : w64 (0 + 1) = ((1 : Nat) : Int) := rfl
      have := i_IsName_l1_eq (some true) (c :: r) (by simp; unfold LIM; omega) r.length 1 N (by simp; omega) (by omega) (by omega)
      simp only [e, h', e2, orO_some, decide_false, Bool.or_false, Option.bind_some, Bool.false_or, withK_eq, nm, h, decide_true, Bool.true_and, cond_false, i_IsName_l1, e3, cond_true, andO_some, orO_true, beq_self_eq_true, Bool.and_true, e4, this, List.drop_one, List.tail_cons]
      show (bif !(sml c) then _ else _) = _
      cases sml c <;> cases r.all okc <;> rfl
    · have h' : (((c :: r).length : Int) > 12) := by simp; omega
      have e : (((c :: r).length : Int) == 0) = false := by simp; omega
      simp only [e, h', orO_some, decide_true, Bool.or_true, Option.bind_some, orO_true, cond_true, nm, h, decide_false, Bool.false_and]
/-! ## the parts -/
def inr (x lo hi : Int) : Bool := decide (x ≥ lo) && decide (x ≤ hi)
theorem i_between_eq (x lo hi : Int) : i_between x lo hi = some (inr x lo hi) := by simp only [i_between, andO_some, inr, Option.bind_some]
theorem inr_iff {x lo hi : Int} : inr x lo hi = true ↔ lo ≤ x ∧ x ≤ hi := by simp [inr]
/-! Keys: what is found. -/
def isL (s : Str) : Bool := match s with
  | [c] => decide (33 ≤ c.toNat) && decide (c.toNat ≤ 126)
  | _ => false
/-- text of letters -/
def isT (s : Str) (low : Nat) : Bool := s.all fun c => decide (low ≤ c.toNat) && decide (c.toNat ≤ 126)
theorem i_text_l1 (s : Str) (low : UInt8) (kj : Option Bool) (hk : kj = some true) (hl : s.length ≤ 1000) : ∀ (n i N : Nat), i + n = s.length → n < N → i_isText_l1 kj s low N (i : Int) = some (isT (s.drop i) low.toNat) := by
  intro n
  induction n with
  | zero =>
    intro i N hi hN
    obtain ⟨N, rfl⟩ := pos_fuel hN
    have hz : ¬ (i : Int) < (s.length : Int) := by omega
    simp only [i_isText_l1, hz, decide_false, cond_false, hk]
    rw [List.drop_eq_nil_of_le (by omega)]; rfl
  | succ n ih =>
    intro i N hi hN
    obtain ⟨N, rfl⟩ := pos_fuel hN
    have hz : (i : Int) < (s.length : Int) := by omega
    simp only [i_isText_l1, hz, decide_true, cond_true]
    rw [idx_lt s i (by omega), w64_nat i (by omega), List.drop_eq_getElem_cons (by omega : i < s.length), ih (i + 1) N (by omega) (by omega)]
    simp only [Option.bind_some, orO_some, isT, List.all_cons]
    have e2 : (126 : UInt8).toNat = 126 := rfl
    have e : (decide (s[i] < low) || decide (s[i] > (126 : UInt8))) = !(decide (low.toNat ≤ s[i].toNat) && decide (s[i].toNat ≤ 126)) := by
      rw [Bool.eq_iff_iff]
      simp only [Bool.or_eq_true, Bool.not_eq_true', Bool.and_eq_false_iff, decide_eq_true_eq, decide_eq_false_iff_not, gt_iff_lt, UInt8.lt_iff_toNat_lt, e2]
      omega
    rw [e]
    cases decide (low.toNat ≤ s[i].toNat) && decide (s[i].toNat ≤ 126) <;> rfl
theorem i_text (s : Str) (low : UInt8) (most : Int) (hl : s.length ≤ 1000) (N : Nat) (hN : 1000 < N) : i_isText N s low most = some (decide ((s.length : Int) ≤ most) && isT s low.toNat) := by
  unfold i_isText
  simp only [withK_eq]
  by_cases h : (s.length : Int) > most
  · have h' : ¬ (s.length : Int) ≤ most := by omega
    simp [h, h']
  · have h' : (s.length : Int) ≤ most := by omega
    simp only [h, h', decide_false, cond_false, decide_true, Bool.true_and]
    exact i_text_l1 s low _ rfl hl s.length 0 N (by omega) (by omega)
theorem i_letter (s : Str) (N : Nat) (hN : 1000 < N) : i_isLetter N s = some (isL s) := by
  unfold i_isLetter isL
  match s with
  | [] => rfl
  | [c] =>
    have h0 : ((([c] : Str).length : Int) == 1) = true := rfl
    rw [i_text [c] 33 1 (by simp) N hN]
    simp only [h0, andO_true, Option.bind_some]
    have e1 : (33 : UInt8).toNat = 33 := rfl
    simp [isT, e1]
  | c :: d :: r =>
    have h0 : (((c :: d :: r : Str).length : Int) == 1) = false := by simp; omega
    simp only [h0, andO_false, Option.bind_some]
end Go.Proofs.Ytdmnblhhmjbhnaa
