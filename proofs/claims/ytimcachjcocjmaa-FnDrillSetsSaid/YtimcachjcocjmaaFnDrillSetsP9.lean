/-
  Plain lemmas on these functions. No conditions but those that each states.
-/
import Derived.Test.YtimcachjcocjmaaFnDrillSetsP8
namespace Go.Proofs.Ytimcachjcocjmaa
set_option linter.unusedVariables false
set_option linter.unusedSimpArgs false
/-! Needs. -/
def NG (ls : Str) (cs : List Int) : Prop := ls.length = cs.length ∧ ls.length ≤ 14 ∧ (∀ c ∈ ls, 97 ≤ c.toNat ∧ c.toNat ≤ 110) ∧ (ls.Pairwise fun a b => a.toNat < b.toNat) ∧ ∀ x ∈ cs, 0 ≤ x ∧ x ≤ 1000
theorem it_l1 (s : Str) (hc : ∀ c ∈ s, 97 ≤ c.toNat ∧ c.toNat ≤ 110) (hl : s.length ≤ 100) : ∀ (n i N : Nat), i + n = s.length → n < N → i_isText_l1 (some true) s 33 N (i : Int) = some true := by
  intro n
  induction n with
  | zero =>
    intro i N hi hN
    obtain ⟨N, rfl⟩ := pos_fuel hN
    have hz : ¬ (i : Int) < (s.length : Int) := by omega
    simp only [i_isText_l1, hz, decide_false, cond_false]
  | succ n ih =>
    intro i N hi hN
    obtain ⟨N, rfl⟩ := pos_fuel hN
    have hz : (i : Int) < (s.length : Int) := by omega
    have hlt : i < s.length := by omega
    have g := hc _ (List.getElem_mem hlt)
    have e1 : (33 : UInt8).toNat = 33 := rfl
    have e2 : (126 : UInt8).toNat = 126 := rfl
    have b1 : decide (s[i] < (33 : UInt8)) = false := decide_eq_false (by rw [UInt8.lt_iff_toNat_lt, e1]; omega)
    have b2 : decide (s[i] > (126 : UInt8)) = false := decide_eq_false (by rw [gt_iff_lt, UInt8.lt_iff_toNat_lt, e2]; omega)
    simp only [i_isText_l1, hz, decide_true, cond_true]
    rw [idx_lt s i hlt, w64_nat i (by omega)]
    simp only [Option.bind_some, b1, b2, orO_some, Bool.or_self, cond_false]
    exact ih (i + 1) N (by omega) (by omega)
theorem it_ok (s : Str) (hc : ∀ c ∈ s, 97 ≤ c.toNat ∧ c.toNat ≤ 110) (hl : s.length ≤ 30) (N : Nat) (hN : 100 < N) : i_isText N s 33 30 = some true := by
  unfold i_isText
  have hd : decide ((s.length : Int) > 30) = false := decide_eq_false (by omega)
  simp only [withK_eq, hd, cond_false]
  exact it_l1 s hc (by omega) s.length 0 N (by omega) (by omega)
theorem st_l1 (s : Str) (hc : ∀ c ∈ s, 97 ≤ c.toNat ∧ c.toNat ≤ 110) (hl : s.length ≤ 100) (kj : Option Bool) : ∀ (n i N : Nat), i + n = s.length → n < N → s_l17Text_l1 kj s N (i : Int) = kj := by
  intro n
  induction n with
  | zero =>
    intro i N hi hN
    obtain ⟨N, rfl⟩ := pos_fuel hN
    have hz : ¬ (i : Int) < (s.length : Int) := by omega
    simp only [s_l17Text_l1, hz, decide_false, cond_false]
  | succ n ih =>
    intro i N hi hN
    obtain ⟨N, rfl⟩ := pos_fuel hN
    have hz : (i : Int) < (s.length : Int) := by omega
    have hlt : i < s.length := by omega
    have g := hc _ (List.getElem_mem hlt)
    have e1 : (33 : UInt8).toNat = 33 := rfl
    have e2 : (126 : UInt8).toNat = 126 := rfl
    have b1 : decide (s[i] < (33 : UInt8)) = false := decide_eq_false (by rw [UInt8.lt_iff_toNat_lt, e1]; omega)
    have b2 : decide (s[i] > (126 : UInt8)) = false := decide_eq_false (by rw [gt_iff_lt, UInt8.lt_iff_toNat_lt, e2]; omega)
    simp only [s_l17Text_l1, hz, decide_true, cond_true]
    rw [idx_lt s i hlt, w64_nat i (by omega)]
    simp only [Option.bind_some, b1, b2, orO_some, Bool.or_self, cond_false]
    exact ih (i + 1) N (by omega) (by omega)
theorem an_l1 (s : Str) (hp : s.Pairwise fun a b => a.toNat < b.toNat) (hl : s.length ≤ 100) (kj : Option Bool) : ∀ (n i N : Nat), 1 ≤ i → s.length ≤ i + n → n < N → i ≤ 200 → n ≤ 100 → i_areNeeded_l1 kj s N (i : Int) = kj ∧ s_l21Letters_l1 kj s N (i : Int) = kj := by
  intro n
  induction n with
  | zero =>
    intro i N h1 hi hN h2 h3
    obtain ⟨N, rfl⟩ := pos_fuel hN
    have hz : ¬ (i : Int) < (s.length : Int) := by omega
    simp only [i_areNeeded_l1, s_l21Letters_l1, hz, decide_false, cond_false, and_self]
  | succ n ih =>
    intro i N h1 hi hN h2 h3
    obtain ⟨N, rfl⟩ := pos_fuel hN
    by_cases hlt : i < s.length
    · have hz : (i : Int) < (s.length : Int) := by omega
      have e : w64 ((i : Int) - 1) = ((i - 1 : Nat) : Int) := by rw [w64_id (by omega) (by omega)]; omega
      have g := List.pairwise_iff_getElem.1 hp (i - 1) i (by omega) hlt (by omega)
      have b1 : decide (s[i] ≤ s[i - 1]) = false := decide_eq_false (by rw [UInt8.le_iff_toNat_le]; omega)
      have b2 : decide (s[i - 1] ≥ s[i]) = false := decide_eq_false (by rw [ge_iff_le, UInt8.le_iff_toNat_le]; omega)
      simp only [i_areNeeded_l1, s_l21Letters_l1, hz, decide_true, cond_true]
      rw [e, idx_lt s i hlt, idx_lt s (i - 1) (by omega), w64_nat i (by omega)]
      simp only [Option.bind_some, b1, b2, cond_false]
      exact ih (i + 1) N (by omega) (by omega) (by omega) (by omega) (by omega)
    · have hz : ¬ (i : Int) < (s.length : Int) := by omega
      simp only [i_areNeeded_l1, s_l21Letters_l1, hz, decide_false, cond_false, and_self]
theorem needed_ok {ls : Str} {cs : List Int} (h : NG ls cs) (N : Nat) (hN : 300 < N) : i_areNeeded N ls = some true ∧ s_l21Letters N ls = some true := by
  obtain ⟨h1, h2, h3, h4, h5⟩ := h
  unfold i_areNeeded s_l21Letters s_l17Text
  simp only [withK_eq]
  rw [it_ok ls h3 (by omega) N (by omega), show (0 : Int) = ((0 : Nat) : Int) from rfl, st_l1 ls h3 (by omega) _ ls.length 0 N (by omega) (by omega)]
  have hd : decide ((ls.length : Int) ≤ 30) = true := decide_eq_true (by omega)
  rw [hd]
  simp only [Option.bind_some]
  exact an_l1 ls h4 (by omega) (some true) 20 1 N (Nat.le_refl _) (by omega) (by omega) (by omega) (by omega)
theorem vn_l1 (cs : List Int) (hc : ∀ x ∈ cs, 0 ≤ x ∧ x ≤ 1000) (hl : cs.length ≤ 100) (kj : Option Bool) : ∀ (n i N : Nat), i + n = cs.length → n < N → i_ValidNeeds_l1 kj cs N (i : Int) = kj := by
  intro n
  induction n with
  | zero =>
    intro i N hi hN
    obtain ⟨N, rfl⟩ := pos_fuel hN
    have hz : ¬ (i : Int) < (cs.length : Int) := by omega
    simp only [i_ValidNeeds_l1, hz, decide_false, cond_false]
  | succ n ih =>
    intro i N hi hN
    obtain ⟨N, rfl⟩ := pos_fuel hN
    have hz : (i : Int) < (cs.length : Int) := by omega
    have hlt : i < cs.length := by omega
    have g := hc _ (List.getElem_mem hlt)
    have hb : (decide (cs[i] ≥ 0) && decide (cs[i] ≤ 1000)) = true := by simp [g.1, g.2]
    simp only [i_ValidNeeds_l1, hz, decide_true, cond_true, i_between]
    rw [idx_lt cs i hlt, w64_nat i (by omega)]
    simp only [Option.bind_some, andO_some, hb, Bool.not_true, cond_false]
    exact ih (i + 1) N (by omega) (by omega)
theorem vn_ok {ls : Str} {cs : List Int} (h : NG ls cs) (N : Nat) (hN : 300 < N) : i_ValidNeeds N ls cs = some true := by
  have h1 := h.1
  have h2 := h.2.1
  unfold i_ValidNeeds
  simp only [withK_eq]
  rw [show (0 : Int) = ((0 : Nat) : Int) from rfl, vn_l1 cs h.2.2.2.2 (by omega) _ cs.length 0 N (by omega) (by omega), (needed_ok h N hN).1]
  have hb : ((cs.length : Int) == (ls.length : Int)) = true := by rw [beq_iff_eq]; omega
  simp only [Option.bind_some, hb, andO_some, Bool.and_self]
theorem needs_l1 (code : List UInt8) (kj : List Int → List UInt8 → Option (Str × List Int)) (Q : Str × List Int → Prop) (hk : ∀ cs ls, NG ls cs → ∃ r, kj cs ls = some r ∧ Q r) : ∀ (n N : Nat) (cs : List Int) (ls : Str) (a sd hi : Int) (c : UInt8), c.toNat + n = 111 → 97 ≤ c.toNat → n < N → 0 ≤ a → a ≤ hi → hi + 4 * n ≤ 1000000 → ls.length + n ≤ 14 → ls.length = cs.length → (∀ x ∈ ls, 97 ≤ x.toNat ∧ x.toNat < c.toNat) → (ls.Pairwise fun a b => a.toNat < b.toNat) → (∀ x ∈ cs, 0 ≤ x ∧ x ≤ 1000) → ∃ r, s_A2Needs_l1 kj code N cs ls a sd c = some r ∧ Q r := by
  intro n
  induction n with
  | zero =>
    intro N cs ls a sd hi c hc hc0 hN h0 h1 h2 h3 h4 h5 h6 h7
    obtain ⟨N, rfl⟩ := pos_fuel hN
    have e1 : (110 : UInt8).toNat = 110 := rfl
    have hz : decide (c ≤ (110 : UInt8)) = false := decide_eq_false (by rw [UInt8.le_iff_toNat_le, e1]; omega)
    simp only [s_A2Needs_l1, hz, cond_false]
    exact hk cs ls ⟨h4, by omega, fun x hx => by have := h5 x hx; omega, h6, h7⟩
  | succ n ih =>
    intro N cs ls a sd hi c hc hc0 hN h0 h1 h2 h3 h4 h5 h6 h7
    obtain ⟨N, rfl⟩ := pos_fuel hN
    have e1 : (110 : UInt8).toNat = 110 := rfl
    have hz : decide (c ≤ (110 : UInt8)) = true := decide_eq_true (by rw [UInt8.le_iff_toNat_le, e1]; omega)
    have ec : (c + 1).toNat = c.toNat + 1 := by
      rw [UInt8.toNat_add]
      show (c.toNat + 1) % 256 = _
      omega
    simp only [s_A2Needs_l1, hz, cond_true, withK_eq]
    refine bindE (oneA (code := code) (hi := hi) 3 ⟨rfl, h0, h1⟩ (by omega)) fun v1 g1 => ?_
    have g12 := g1.2.2
    refine condE (fun _ => ?_) fun _ => ?_
    · refine appE (by unfold LIM; simp; omega) ?_
      refine bindE (pickA (code := code) (hi := hi + 2) 12 ⟨rfl, g1.2⟩ (by omega)) fun v2 g2 => ?_
      have g22 := g2.2.1
      have g23 := g2.2.2 (by omega)
      have g24 := g2.1.2.2
      refine appE (by unfold LIM; simp; omega) ?_
      refine ih N _ _ _ _ (hi + 4) _ (by omega) (by omega) (by omega) g2.1.2.1 (by omega) (by omega) (by simp; omega) (by simp; omega) (fun x hx => ?_) ?_ (fun x hx => ?_)
      · rw [ec]
        rcases List.mem_append.1 hx with hx | hx
        · have := h5 x hx; omega
        · rw [List.mem_singleton.1 hx]; omega
      · rw [List.pairwise_append]
        exact ⟨h6, List.pairwise_singleton _ _, fun x hx y hy => by rw [List.mem_singleton.1 hy]; exact (h5 x hx).2⟩
      · rcases List.mem_append.1 hx with hx | hx
        · exact h7 x hx
        · rw [List.mem_singleton.1 hx]; omega
    · refine ih N _ _ _ _ (hi + 4) _ (by omega) (by omega) (by omega) g1.2.1 (by omega) (by omega) (by omega) h4 (fun x hx => ?_) h6 h7
      rw [ec]
      have := h5 x hx
      omega
theorem needs_ok (code : List UInt8) (N : Nat) (hN : 30 < N) : ∃ v, s_A2Needs N code = some v ∧ NG v.1 v.2 := by
  unfold s_A2Needs
  rw [fromA]
  simp only [Option.bind_some, withK_eq]
  exact needs_l1 code _ (fun v => NG v.1 v.2) (fun cs ls h => ⟨_, rfl, h⟩) 14 N [] [] 0 0 0 97 rfl (Nat.le_refl _) (by omega) (Int.le_refl _) (Int.le_refl _) (by omega) (by simp) rfl (fun x hx => by cases hx) List.Pairwise.nil (fun x hx => by cases hx)
theorem at_ok (code : List UInt8) : ∃ v, w_a2At code 30 60 = some v ∧ 0 ≤ v ∧ v ≤ 60 := by
  unfold w_a2At
  have hd : decide ((60 : Int) < 1) = false := rfl
  simp only [orO_some, hd, Bool.or_false, Option.bind_some]
  by_cases h : (30 : Int) ≥ (code.length : Int)
  · simp only [h, decide_true, cond_true]
    exact ⟨0, rfl, by omega, by omega⟩
  · simp only [h, decide_false, cond_false]
    have hi : idx code 30 = some _ := idx_lt code 30 (by omega)
    rw [hi, Option.bind_some]
    obtain ⟨q, e, h1, h2⟩ := remO_ok ((code[30]'(by omega)).toNat : Int) 60 (by omega) (by omega)
    rw [e]
    exact ⟨q, rfl, h1, by omega⟩
theorem some_l1 (code : List UInt8) (m : Nat) (hm : m ≤ 6) (kj : List Int → Option (List Int)) (hk : ∀ l, kj l = some l) : ∀ (n i N : Nat) (p : Nat → Bool) (a sd hi : Int), i + n = m → n < N → 0 ≤ a → a ≤ hi → hi + 2 * n ≤ 1000000 → ∃ p' : Nat → Bool, s_A2Some_l1 kj code (m : Int) N (ints ((List.range i).filter p)) a sd (i : Int) = some (ints ((List.range m).filter p')) := by
  intro n
  induction n with
  | zero =>
    intro i N p a sd hi hi' hN h0 h1 h2
    obtain ⟨N, rfl⟩ := pos_fuel hN
    have hz : ¬ (i : Int) < (m : Int) := by omega
    simp only [s_A2Some_l1, hz, decide_false, cond_false, hk]
    have : i = m := by omega
    exact ⟨p, by rw [this]⟩
  | succ n ih =>
    intro i N p a sd hi hi' hN h0 h1 h2
    obtain ⟨N, rfl⟩ := pos_fuel hN
    have hz : (i : Int) < (m : Int) := by omega
    obtain ⟨v1, e, g1⟩ := oneA (code := code) (hi := hi) (s := L00Src.mk code a sd) 2 ⟨rfl, h0, h1⟩ (by omega)
    simp only [s_A2Some_l1, hz, decide_true, cond_true, withK_eq]
    rw [e, Option.bind_some, w64_nat i (by omega)]
    have hlen := List.length_filter_le p (List.range i)
    rw [List.length_range] at hlen
    have key : ∀ b : Bool, (List.range (i + 1)).filter (fun j => if j = i then b else p j) = (List.range i).filter p ++ (if b then [i] else []) := fun b => by
      rw [List.range_succ, List.filter_append]
      have e1 : (List.range i).filter (fun j => if j = i then b else p j) = (List.range i).filter p := List.filter_congr fun j hj => by
        have := List.mem_range.1 hj
        rw [if_neg (by omega)]
      rw [e1]
      cases b <;> simp
    cases v1.1
    · simp only [cond_false]
      obtain ⟨p', h3⟩ := ih (i + 1) N (fun j => if j = i then false else p j) v1.2.at_ v1.2.seed (hi + 2) (by omega) (by omega) g1.2.1 g1.2.2 (by omega)
      rw [key false] at h3
      exact ⟨p', by simpa using h3⟩
    · simp only [cond_true]
      rw [app_some _ _ (by unfold LIM; rw [ints_len]; simp; omega), Option.bind_some]
      obtain ⟨p', h3⟩ := ih (i + 1) N (fun j => if j = i then true else p j) v1.2.at_ v1.2.seed (hi + 2) (by omega) (by omega) g1.2.1 g1.2.2 (by omega)
      rw [key true] at h3
      exact ⟨p', by simpa [ints] using h3⟩
theorem some_ok (code : List UInt8) (m : Nat) (hm : m ≤ 6) (N : Nat) (hN : 20 < N) : ∃ p : Nat → Bool, s_A2Some N code (m : Int) = some (ints ((List.range m).filter p)) := by
  unfold s_A2Some
  rw [fromA]
  simp only [Option.bind_some, withK_eq]
  exact some_l1 code m hm _ (fun _ => rfl) m 0 N (fun _ => false) 0 0 0 (by omega) (by omega) (Int.le_refl _) (Int.le_refl _) (by omega)
end Go.Proofs.Ytimcachjcocjmaa
