/-
  Plain lemmas on these functions. No conditions but those that each states.
-/
import Derived.Test.YtoojddajhalimaaDoorFnDrillLinesP
namespace Go.Proofs.YtoojddajhalimaaDoor
set_option linter.unusedVariables false
set_option linter.unusedSimpArgs false
/-! The drawn drills. -/
def nms : List Str := [[104, 111, 109, 101], [116, 111, 112], [108, 111, 119], [116, 104, 117, 109, 98], [109, 105, 120, 45, 49], [109, 105, 120, 45, 50]]
def lts : List Str := [[102, 106], [97, 115, 100, 102], [101, 105], [114, 116, 121, 117], [122, 120, 99], [110, 109, 44, 46], [126, 33], [103, 104, 97, 101, 105]]
def Dr (d : Drill) : Prop := d.name ∈ nms ∧ d.letters ∈ lts ∧ 1 ≤ d.minutes ∧ d.minutes ≤ 20
theorem nm_ok (M : Nat) : ∀ n ∈ nms, i_IsName (M + 60) n = some true := by
  intro n hn
  simp only [nms, List.mem_cons, List.not_mem_nil, or_false] at hn
  rcases hn with rfl | rfl | rfl | rfl | rfl | rfl <;> kernel_rfl
theorem lt_ok (M : Nat) : ∀ l ∈ lts, i_isText (M + 60) l 33 8 = some true := by
  intro n hn
  simp only [lts, List.mem_cons, List.not_mem_nil, or_false] at hn
  rcases hn with rfl | rfl | rfl | rfl | rfl | rfl | rfl | rfl <;> kernel_rfl
theorem sn_ok (M : Nat) (K : Option Bool) (n : Str) (m : Int) : ∀ l ∈ lts, i_validDrill_l1 K ⟨n, l, m⟩ (M + 60) (List.replicate 256 false) 0 = K := by
  intro l hl
  simp only [lts, List.mem_cons, List.not_mem_nil, or_false] at hl
  rcases hl with rfl | rfl | rfl | rfl | rfl | rfl | rfl | rfl <;> kernel_rfl
theorem lt_len : ∀ l ∈ lts, 2 ≤ l.length ∧ l.length ≤ 8 ∧ (l == []) = false ∧ ∀ c ∈ l, c ≠ 32 := by decide
theorem nm_len : ∀ l ∈ nms, 1 ≤ l.length ∧ l.length ≤ 8 ∧ ∀ c ∈ l, c ≠ 32 := by decide
theorem valid_ok (N : Nat) (d : Drill) (h : Dr d) (hN : 60 ≤ N) : i_validDrill N d = some true := by
  obtain ⟨M, rfl⟩ : ∃ M, N = M + 60 := ⟨N - 60, by omega⟩
  obtain ⟨n, l, m⟩ := d
  obtain ⟨h1, h2, h3, h4⟩ := h
  have e1 := nm_ok M n h1
  have e2 := lt_ok M l h2
  have e3 := (lt_len l h2).2.2.1
  have h3' : m ≥ 1 := h3
  have h4' : m ≤ 600 := by have : m ≤ 20 := h4; omega
  have e4 : i_between m 1 600 = some true := by
    unfold i_between
    simp only [h3', h4', decide_true, andO_some, Bool.and_self, Option.bind_some]
  unfold i_validDrill
  simp only [e1, e2, e3, e4, Option.bind_some, orO_some, Bool.not_true, Bool.or_self, cond_false, withK_eq, sn_ok M _ n m l h2]
theorem dg (m : Int) (h1 : 1 ≤ m) (h2 : m ≤ 20) : ∃ k : Nat, m = (k : Int) ∧ k < 21 ∧ 1 ≤ k := ⟨m.toNat, by omega, by omega, by omega⟩
theorem itoa_small (k : Nat) (h1 : 1 ≤ k) (h2 : k < 21) : Lib.itoa (k : Int) = if k < 10 then [UInt8.ofNat (48 + k)] else [UInt8.ofNat (48 + k / 10), UInt8.ofNat (48 + k % 10)] := by
  unfold Lib.itoa
  rw [if_neg (by omega), Int.toNat_natCast]
  split
  · exact Lib.decDigits_one (by assumption)
  · exact Lib.decDigits_two (by assumption) (by omega)
def decS (k : Nat) : Str := if k < 10 then [UInt8.ofNat (48 + k)] else [UInt8.ofNat (48 + k / 10), UInt8.ofNat (48 + k % 10)]
theorem decS_facts : ∀ k : Fin 21, 1 ≤ k.val → 1 ≤ (decS k.val).length ∧ (decS k.val).length ≤ 2 ∧ (∀ c ∈ decS k.val, c ≠ 32) ∧ (decS k.val)[0]? ≠ some 45 := by decide
theorem Decm (k : Nat) (h1 : 1 ≤ k) (h2 : k < 21) : i_Decimal (k : Int) = some (decS k) := by
  unfold i_Decimal fmtI
  rw [if_pos ⟨rfl, by omega, by omega⟩, Option.bind_some, itoa_small k h1 h2]
  rfl
theorem rd_loop (M : Nat) (K : Int → Option (Int × Bool)) : ∀ k ∈ [1, 2, 3, 4, 5, 6, 7, 8, 9, 10, 11, 12, 13, 14, 15, 16, 17, 18, 19, 20], i_ReadDecimal_l1 K (decS k) (M + 60) 0 0 = K (k : Int) := by
  intro k hk
  simp only [List.mem_cons, List.not_mem_nil, or_false] at hk
  rcases hk with rfl | rfl | rfl | rfl | rfl | rfl | rfl | rfl | rfl | rfl | rfl | rfl | rfl | rfl | rfl | rfl | rfl | rfl | rfl | rfl <;> kernel_rfl
theorem mem21 (k : Nat) (h1 : 1 ≤ k) (h2 : k < 21) : k ∈ [1, 2, 3, 4, 5, 6, 7, 8, 9, 10, 11, 12, 13, 14, 15, 16, 17, 18, 19, 20] := by
  simp only [List.mem_cons, List.not_mem_nil, or_false]
  omega
theorem ReadDec (N : Nat) (k : Nat) (h1 : 1 ≤ k) (h2 : k < 21) (hN : 60 ≤ N) : i_ReadDecimal N (decS k) = some ((k : Int), true) := by
  obtain ⟨M, rfl⟩ : ∃ M, N = M + 60 := ⟨N - 60, by omega⟩
  obtain ⟨f1, f2, f3, f4⟩ := decS_facts ⟨k, h2⟩ h1
  simp only at f1 f2 f3 f4
  have i0 : idx (decS k) 0 = some ((decS k)[0]'(by omega)) := idx_int _ 0 (by omega) (by omega)
  have n0 : ((decS k)[0]'(by omega) == 45) = false := by
    rw [beq_eq_false_iff_ne]
    intro e
    apply f4
    rw [List.getElem?_eq_getElem (by omega), e]
  have c1 : (((decS k).length : Int) == 0) = false := by rw [beq_eq_false_iff_ne]; omega
  have c2 : ¬ ((decS k).length : Int) > 18 := by omega
  have c3 : ((decS k).length : Int) > 0 := by omega
  have c4 : ¬ ((decS k).length : Int) < ((decS k).length : Int) := by omega
  unfold i_ReadDecimal
  simp only [withK_eq, c3, decide_true, andO_true, i0, Option.bind_some, n0, cond_false, c1, c2, decide_false, orO_some, Bool.or_self, rd_loop M _ k (mem21 k h1 h2), c4, Decm k h1 h2, bne_self_eq_false]
/-! words -/
theorem sw_end (s : Str) (K : List Str → Int → Option (List Str)) (N : Nat) (acc : List Str) (st : Int) (i : Nat) (hi : i = s.length) (hN : 0 < N) : i_SplitWords_l1 K s N acc st (i : Int) = K acc st := by
  obtain ⟨N, rfl⟩ := pos_fuel hN
  have : ¬ (i : Int) < (s.length : Int) := by omega
  simp only [i_SplitWords_l1, this, decide_false, cond_false]
theorem sw_in (s : Str) (K : List Str → Int → Option (List Str)) (hs : s.length ≤ 1000) : ∀ (w : Str) (i N : Nat) (acc : List Str) (st : Int), (∀ c ∈ w, c ≠ 32) → (∃ r, s.drop i = w ++ r) → 0 ≤ st → w.length < N →
    i_SplitWords_l1 K s N acc st (i : Int) = i_SplitWords_l1 K s (N - w.length) acc st ((i + w.length : Nat) : Int) := by
  intro w
  induction w with
  | nil => intro i N acc st _ _ _ _; rfl
  | cons c w ih =>
    intro i N acc st hc hd h0 hN
    obtain ⟨N, rfl⟩ := pos_fuel (show 0 < N by omega)
    obtain ⟨r, hr⟩ := hd
    have hil : i < s.length := by
      have := congrArg List.length hr
      simp at this
      omega
    have hi : (i : Int) < (s.length : Int) := by omega
    rw [List.drop_eq_getElem_cons hil] at hr
    obtain ⟨g1, g2⟩ := List.cons.inj hr
    have n1 : (s[i] == 32) = false := by rw [beq_eq_false_iff_ne, g1]; exact hc c (by simp)
    have n2 : ¬ st < 0 := by omega
    have := ih (i + 1) N acc st (fun x hx => hc x (by simp [hx])) ⟨r, g2⟩ h0 (by simp at hN; omega)
    simp only [i_SplitWords_l1, hi, decide_true, cond_true, withK_eq, idx_lt s i hil, Option.bind_some, n1, n2, decide_false, andO_some, Bool.false_and, Bool.and_false, cond_false, w64_nat i (by omega), this]
    rw [show N + 1 - (c :: w).length = N - w.length by simp, show i + (c :: w).length = i + 1 + w.length by simp; omega]
theorem sw_word (s : Str) (K : List Str → Int → Option (List Str)) (hs : s.length ≤ 1000) (w : Str) (i N : Nat) (acc : List Str) (hc : ∀ c ∈ w, c ≠ 32) (hd : ∃ r, s.drop i = w ++ r) (hw : 1 ≤ w.length) (hN : w.length < N) :
    i_SplitWords_l1 K s N acc (-1) (i : Int) = i_SplitWords_l1 K s (N - w.length) acc (i : Int) ((i + w.length : Nat) : Int) := by
  match w, hw with
  | c :: w, _ =>
    obtain ⟨N, rfl⟩ := pos_fuel (show 0 < N by omega)
    obtain ⟨r, hr⟩ := hd
    have hil : i < s.length := by
      have := congrArg List.length hr
      simp at this
      omega
    have hi : (i : Int) < (s.length : Int) := by omega
    rw [List.drop_eq_getElem_cons hil] at hr
    obtain ⟨g1, g2⟩ := List.cons.inj hr
    have n1 : (s[i] == 32) = false := by rw [beq_eq_false_iff_ne, g1]; exact hc c (by simp)
    have n2 : (s[i] != 32) = true := by rw [bne, n1]; rfl
    have := sw_in s K hs w (i + 1) N acc (i : Int) (fun x hx => hc x (by simp [hx])) ⟨r, g2⟩ (by omega) (by simp at hN; omega)
    have z : decide ((-1 : Int) < 0) = true := rfl
    simp only [i_SplitWords_l1, hi, decide_true, cond_true, withK_eq, idx_lt s i hil, Option.bind_some, n1, n2, andO_some, Bool.false_and, cond_false, z, Bool.and_self, w64_nat i (by omega), this]
    rw [show N + 1 - (c :: w).length = N - w.length by simp, show i + (c :: w).length = i + 1 + w.length by simp; omega]
theorem sw_gap (s : Str) (K : List Str → Int → Option (List Str)) (hs : s.length ≤ 1000) (i N : Nat) (acc : List Str) (st : Nat) (hil : i < s.length) (hc : s[i] = 32) (hst : st ≤ i) (ha : acc.length ≤ 1000) (hN : 0 < N) :
    i_SplitWords_l1 K s N acc (st : Int) (i : Int) = i_SplitWords_l1 K s (N - 1) (acc ++ [(s.drop st).take (i - st)]) (-1) ((i + 1 : Nat) : Int) := by
  obtain ⟨N, rfl⟩ := pos_fuel hN
  have hi : (i : Int) < (s.length : Int) := by omega
  have h0 : (st : Int) ≥ 0 := by omega
  have hsub : sub s (st : Int) (i : Int) = some ((s.drop st).take (i - st)) := by
    rw [sub_some s _ _ (by omega) (by omega) (by omega)]
    rfl
  have hcb : (s[i] == 32) = true := by simpa using hc
  simp only [i_SplitWords_l1, hi, decide_true, cond_true, withK_eq, idx_lt s i hil, Option.bind_some, hcb, h0, andO_some, Bool.and_self, hsub, app_some acc [(s.drop st).take (i - st)] (by unfold LIM; simp; omega), w64_nat i (by omega)]
  rfl
theorem Split3 (N : Nat) (a b c : Str) (ha : 1 ≤ a.length ∧ a.length ≤ 8 ∧ ∀ x ∈ a, x ≠ 32) (hb : 1 ≤ b.length ∧ b.length ≤ 8 ∧ ∀ x ∈ b, x ≠ 32) (hc : 1 ≤ c.length ∧ c.length ≤ 8 ∧ ∀ x ∈ c, x ≠ 32) (hN : 60 ≤ N) :
    i_SplitWords N (a ++ [32] ++ b ++ [32] ++ c) = some [a, b, c] := by
  obtain ⟨s, hs⟩ : ∃ s, s = a ++ [32] ++ b ++ [32] ++ c := ⟨_, rfl⟩
  have hl : s.length = a.length + 1 + b.length + 1 + c.length := by rw [hs]; simp; omega
  rw [← hs]
  unfold i_SplitWords
  simp only [withK_eq]
  have s1 := fun K => sw_word s K (by omega) a 0 N [] ha.2.2 ⟨[32] ++ b ++ [32] ++ c, by rw [hs]; simp⟩ ha.1 (by omega)
  rw [show ((0 : Nat) : Int) = 0 from rfl] at s1
  rw [s1]
  have g1 : s[0 + a.length]'(by omega) = 32 := by
    have : s[0 + a.length]? = some 32 := by rw [hs]; simp
    rw [List.getElem?_eq_getElem (by omega)] at this
    exact Option.some.inj this
  have s2 := fun K => sw_gap s K (by omega) (0 + a.length) (N - a.length) [] 0 (by omega) g1 (by omega) (by simp) (by omega)
  rw [show ((0 : Nat) : Int) = 0 from rfl] at s2
  rw [s2]
  have s3 := fun K acc => sw_word s K (by omega) b (0 + a.length + 1) (N - a.length - 1) acc hb.2.2 ⟨[32] ++ c, by rw [hs, show 0 + a.length + 1 = (a ++ [32]).length by simp, show a ++ [32] ++ b ++ [32] ++ c = (a ++ [32]) ++ (b ++ ([32] ++ c)) by simp, List.drop_left]⟩ hb.1 (by omega)
  rw [s3]
  have g2 : s[0 + a.length + 1 + b.length]'(by omega) = 32 := by
    have : s[0 + a.length + 1 + b.length]? = some 32 := by
      rw [hs, show a ++ [32] ++ b ++ [32] ++ c = (a ++ [32] ++ b) ++ ([32] ++ c) by simp, show 0 + a.length + 1 + b.length = (a ++ [32] ++ b).length by simp; omega]
      simp
    rw [List.getElem?_eq_getElem (by omega)] at this
    exact Option.some.inj this
  have s4 := fun K => sw_gap s K (by omega) (0 + a.length + 1 + b.length) (N - a.length - 1 - b.length) [(s.drop 0).take (0 + a.length - 0)] (0 + a.length + 1) (by omega) g2 (by omega) (by simp) (by omega)
  simp only [List.nil_append]
  rw [s4]
  have s5 := fun K acc => sw_word s K (by omega) c (0 + a.length + 1 + b.length + 1) (N - a.length - 1 - b.length - 1) acc hc.2.2 ⟨[], by rw [hs, show 0 + a.length + 1 + b.length + 1 = (a ++ [32] ++ b ++ [32]).length by simp; omega, List.drop_left, List.append_nil]⟩ hc.1 (by omega)
  rw [s5, sw_end s _ _ _ _ _ (by omega) (by omega)]
  have h0 : ((0 + a.length + 1 + b.length + 1 : Nat) : Int) ≥ 0 := by omega
  have t1 : (s.drop 0).take (0 + a.length - 0) = a := by
    rw [hs, show a ++ [32] ++ b ++ [32] ++ c = a ++ ([32] ++ b ++ [32] ++ c) by simp, List.drop_zero, show 0 + a.length - 0 = a.length by omega, List.take_left]
  have t2 : (s.drop (0 + a.length + 1)).take (0 + a.length + 1 + b.length - (0 + a.length + 1)) = b := by
    rw [hs, show 0 + a.length + 1 = (a ++ [32]).length by simp, show a ++ [32] ++ b ++ [32] ++ c = (a ++ [32]) ++ (b ++ ([32] ++ c)) by simp, List.drop_left, Nat.add_sub_cancel_left, List.take_left]
  have t3 : (s.drop (0 + a.length + 1 + b.length + 1)).take (s.length - (0 + a.length + 1 + b.length + 1)) = c := by
    rw [show s.length - (0 + a.length + 1 + b.length + 1) = c.length by omega, hs, show 0 + a.length + 1 + b.length + 1 = (a ++ [32] ++ b ++ [32]).length by simp; omega, List.drop_left, List.take_length]
  simp only [h0, decide_true, cond_true]
  rw [sub_some s _ _ (by omega) (by omega) (by omega), Option.bind_some]
  simp only [Int.toNat_natCast, t1, t2, t3]
  rfl
theorem DText_eq (N : Nat) (d : Drill) (h : Dr d) (k : Nat) (hk : d.minutes = (k : Int)) (h1 : 1 ≤ k) (h2 : k < 21) (hN : 60 ≤ N) : i_DrillText N d = some (d.name ++ [32] ++ d.letters ++ [32] ++ decS k) := by
  obtain ⟨a1, a2, a3⟩ := nm_len _ h.1
  obtain ⟨b1, b2, _, b3⟩ := lt_len _ h.2.1
  obtain ⟨f1, f2, f3, f4⟩ := decS_facts ⟨k, h2⟩ h1
  simp only at f1 f2
  unfold i_DrillText
  rw [valid_ok N d h hN, hk]
  simp only [Option.bind_some, Bool.not_true, cond_false, Decm k h1 h2]
  rw [cat_some _ _ (by unfold LIM; simp; omega), Option.bind_some, cat_some _ _ (by unfold LIM; simp; omega), Option.bind_some, cat_some _ _ (by unfold LIM; simp; omega), Option.bind_some, cat_some _ _ (by unfold LIM; simp; omega), Option.bind_some]
theorem Read_eq (N : Nat) (d : Drill) (h : Dr d) (k : Nat) (hk : d.minutes = (k : Int)) (h1 : 1 ≤ k) (h2 : k < 21) (hN : 60 ≤ N) : i_ReadDrill N (d.name ++ [32] ++ d.letters ++ [32] ++ decS k) = some (d, true) := by
  obtain ⟨a1, a2, a3⟩ := nm_len _ h.1
  obtain ⟨b1, b2, _, b3⟩ := lt_len _ h.2.1
  obtain ⟨f1, f2, f3, f4⟩ := decS_facts ⟨k, h2⟩ h1
  simp only at f1 f2 f3
  have hd : Drill.mk d.name d.letters (k : Int) = d := by rw [← hk]
  have hne : ((d.name ++ [32] ++ d.letters ++ [32] ++ decS k) == []) = false := by
    rw [beq_eq_false_iff_ne]; simp
  unfold i_ReadDrill
  rw [Split3 N _ _ _ ⟨a1, a2, a3⟩ ⟨by omega, b2, b3⟩ ⟨f1, by omega, f3⟩ hN]
  have l3 : ((([d.name, d.letters, decS k] : List Str).length : Int) != 3) = false := rfl
  have j0 : idx [d.name, d.letters, decS k] 0 = some d.name := rfl
  have j1 : idx [d.name, d.letters, decS k] 1 = some d.letters := rfl
  have j2 : idx [d.name, d.letters, decS k] 2 = some (decS k) := rfl
  simp only [Option.bind_some, l3, cond_false, j0, j1, j2, ReadDec N k h1 h2 hN, hd, DText_eq N d h k hk h1 h2 hN, orO_some, Bool.not_true, bne_self_eq_false, hne, Bool.or_self]
end Go.Proofs.YtoojddajhalimaaDoor
