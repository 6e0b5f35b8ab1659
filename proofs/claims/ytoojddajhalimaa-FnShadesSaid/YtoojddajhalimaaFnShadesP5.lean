/-
  Plain lemmas on these functions. No conditions but those that each states.
-/
import Derived.Test.YtoojddajhalimaaFnShadesP4
namespace Go.Proofs.Ytoojddajhalimaa
set_option linter.unusedVariables false
set_option linter.unusedSimpArgs false
theorem use_eq (n : Int) : i_isUse n = some (decide (0 ≤ n ∧ n ≤ 100000)) := by unfold i_isUse; rw [btw_eq, Option.bind_some]
theorem Least_eq (r : Ribbon) (l : Int) : s_l14Least r l = some (if vR r = true then (if 1 ≤ l ∧ l ≤ r.ink then 0 else 2) else 1) := by
  unfold s_l14Least
  rw [sValid_eq, Option.bind_some, sIn_eq]
  cases vR r
  · rfl
  · by_cases c : 1 ≤ l ∧ l ≤ r.ink
    · simp only [c, and_self, decide_true, Bool.not_true, cond_false, Option.bind_some, if_true]
    · simp only [c, decide_false, Bool.not_true, Bool.not_false, cond_true, cond_false, Option.bind_some, if_true, if_false]
theorem Code_eq (r : Ribbon) (d : Int) : s_l14Code r d = some (if vR r = true then (if 0 ≤ d ∧ d ≤ 100000 then 0 else 2) else 1) := by
  unfold s_l14Code
  rw [sValid_eq, Option.bind_some, sIn_eq]
  cases vR r
  · rfl
  · by_cases c : 0 ≤ d ∧ d ≤ 100000
    · simp only [c, and_self, decide_true, Bool.not_true, cond_false, Option.bind_some, if_true]
    · simp only [c, decide_false, Bool.not_true, Bool.not_false, cond_true, cond_false, Option.bind_some, if_true, if_false]
theorem SU_eq (N : Nat) (r : Ribbon) (l : Int) (hN : 100001 < N) : ∃ p, i_StrokesUntil N r l = some p ∧ s_StrokesUntil N r l = some p ∧ (p.2 = 0 → okR r ∧ 1 ≤ l ∧ l ≤ r.ink ∧ p.1 = U r l ∧ U r l ≤ 100000) := by
  unfold i_StrokesUntil s_StrokesUntil
  rw [iValid_eq, Least_eq, Option.bind_some, Option.bind_some, btw_eq]
  by_cases v : vR r = true
  · have h := vR_iff.1 v
    simp only [v, Bool.not_true, cond_false, Option.bind_some, if_true]
    by_cases c : 1 ≤ l ∧ l ≤ r.ink
    · simp only [c, and_self, decide_true, Bool.not_true, cond_false, if_true, bne_self_eq_false, Until_eq N r l h, (until_val N r l h hN).1, Option.bind_some]
      by_cases g : U r l > 100000
      · exact ⟨(0, 5), by simp only [g, decide_true, cond_true], by simp only [g, decide_true, cond_true], by intro e; simp at e⟩
      · exact ⟨(U r l, 0), by simp only [g, decide_false, cond_false], by simp only [g, decide_false, cond_false], fun _ => ⟨h, by first | exact c.1 | trivial, by first | exact c.2 | trivial, rfl, by omega⟩⟩
    · exact ⟨(0, 2), by simp only [c, decide_false, Bool.not_false, cond_true], by simp only [c, if_false]; rfl, by intro e; simp at e⟩
  · have v' : vR r = false := by simpa using v
    simp only [v', Bool.not_false, cond_true]
    exact ⟨(0, 1), rfl, rfl, by intro e; simp at e⟩
theorem ShadeAt_eq (r : Ribbon) (k : Int) (h : okR r) (h0 : 0 ≤ k) (h1 : k ≤ 100000) : i_ShadeAt r k = some (shI r k, 0) := by
  unfold i_ShadeAt
  rw [iValid_eq, vR_iff.2 h, Option.bind_some, use_eq]
  have c : 0 ≤ k ∧ k ≤ 100000 := ⟨h0, h1⟩
  simp only [Bool.not_true, cond_false, Option.bind_some, c, and_self, decide_true, iShade_eq r k h h0 (by omega)]
/-! shades of a text -/
def cd (r : Ribbon) (d : Int) (t : Str) : Int := if vR r = true then (if 0 ≤ d ∧ d ≤ 100000 ∧ okT 100 t = true then 0 else 2) else 1
theorem cd_zero {r : Ribbon} {d : Int} {t : Str} (h : cd r d t = 0) : okR r ∧ 0 ≤ d ∧ d ≤ 100000 ∧ t.length ≤ 100 := by
  unfold cd at h
  split at h
  · rename_i v
    split at h
    · rename_i c
      have := (okT_iff.1 c.2.2).1
      exact ⟨vR_iff.1 v, c.1, c.2.1, by omega⟩
    · cases h
  · cases h
theorem codes_eq (N : Nat) (r : Ribbon) (d : Int) (t : Str) (ht : t.length ≤ 1000) (hN : 1000 < N) : i_shadesCode N r d t = some (cd r d t) ∧ s_l14Text N r d t = some (cd r d t) := by
  unfold i_shadesCode s_l14Text cd
  obtain ⟨e1, e2⟩ := Text_eq N t 100 (by unfold LIM; omega) (by omega)
  rw [iValid_eq, Code_eq, e1, e2, use_eq]
  simp only [Option.bind_some, withK_eq, andO_some, orO_some]
  cases vR r
  · exact ⟨rfl, rfl⟩
  · by_cases c : 0 ≤ d ∧ d ≤ 100000
    · simp only [c, and_self, decide_true, Bool.not_true, cond_false, if_true, Bool.false_or, true_and]
      cases okT 100 t <;> simp
    · have c2 : ¬ (0 ≤ d ∧ d ≤ 100000 ∧ okT 100 t = true) := fun h => c ⟨h.1, h.2.1⟩
      simp only [c, c2, decide_false, Bool.not_true, Bool.not_false, cond_false, Bool.true_or, cond_true, if_true, if_false]
      simp
def shL (r : Ribbon) (d : Int) : Str → List Int
  | [] => []
  | c :: t => if (c == 32) = true then 0 :: shL r d t else shI r d :: shL r (d + 1) t
theorem length_shL (r : Ribbon) : ∀ (t : Str) (d : Int), (shL r d t).length = t.length
  | [], _ => rfl
  | c :: t, d => by
    unfold shL
    split <;> simp [length_shL r t]
theorem shades_l1 (r : Ribbon) (t : Str) (h : okR r) (ht : t.length ≤ 100) (kj : List Int → Option (List Int)) : ∀ (n i N : Nat) (d : Int) (acc : List Int), i + n = t.length → n + 1000 < N → acc.length = i → 0 ≤ d → d ≤ 100000 + i →
    i_Ribbon_shades_l1 kj r t N acc d (i : Int) = kj (acc ++ shL r d (t.drop i)) ∧ s_l14Shades_l1 kj r t N acc d (i : Int) = kj (acc ++ shL r d (t.drop i)) := by
  intro n
  induction n with
  | zero =>
    intro i N d acc h1 h2 h3 h4 h5
    obtain ⟨N, rfl⟩ := pos_fuel (show 0 < N by omega)
    have hi : ¬ ((i : Int) < (t.length : Int)) := by omega
    have e2 : t.drop i = [] := List.drop_of_length_le (by omega)
    simp only [i_Ribbon_shades_l1, s_l14Shades_l1, hi, decide_false, cond_false, e2, shL, List.append_nil, and_self]
  | succ n ih =>
    intro i N d acc h1 h2 h3 h4 h5
    obtain ⟨N, rfl⟩ := pos_fuel (show 0 < N by omega)
    have hi : (i : Int) < (t.length : Int) := by omega
    have hn : i < t.length := by omega
    have e1 : w64 (d + 1) = d + 1 := w64_id (by omega) (by omega)
    simp only [i_Ribbon_shades_l1, s_l14Shades_l1, hi, decide_true, cond_true, withK_eq, idx_lt t i hn, Option.bind_some, w64_nat i (by omega), drop_cons t i hn, shL, iShade_eq r d h h4 (by omega), sShade_eq N r d h h4 (by omega) (by omega), e1]
    simp only [app_some acc [0] (by unfold LIM; simp; omega), app_some acc [shI r d] (by unfold LIM; simp; omega), Option.bind_some]
    cases c : (t[i] == 32)
    · obtain ⟨g1, g2⟩ := ih (i + 1) N (d + 1) (acc ++ [shI r d]) (by omega) (by omega) (by simp; omega) (by omega) (by omega)
      simp only [cond_false, g1, g2, Bool.false_eq_true, if_false, List.append_assoc, List.cons_append, List.nil_append, and_self]
    · obtain ⟨g1, g2⟩ := ih (i + 1) N d (acc ++ [0]) (by omega) (by omega) (by simp; omega) (by omega) (by omega)
      simp only [cond_true, g1, g2, if_true, List.append_assoc, List.cons_append, List.nil_append, and_self]
theorem shades_eq (N : Nat) (r : Ribbon) (d : Int) (t : Str) (h : okR r) (ht : t.length ≤ 100) (h0 : 0 ≤ d) (h1 : d ≤ 100000) (hN : 2000 < N) : i_Ribbon_shades N r d t = some (shL r d t) ∧ s_l14Shades N r d t = some (shL r d t) := by
  have := fun kj => shades_l1 r t h ht kj t.length 0 N d [] (by omega) (by omega) rfl h0 (by omega)
  simp only [List.drop_zero, List.nil_append] at this
  rw [show ((0 : Nat) : Int) = 0 from rfl] at this
  unfold i_Ribbon_shades s_l14Shades
  simp only [withK_eq, (this _).1, (this _).2, and_self]
def bad (t : Str) (sh : List Int) (least q : Int) : Prop := ∃ c e, idx t q = some c ∧ idx sh q = some e ∧ (c != 32) = true ∧ e < least
theorem pale_l1 (t : Str) (sh : List Int) (least : Int) (hl : sh.length = t.length) (ht : t.length ≤ 100) (K : Option (Int × Int)) : ∀ (n i N : Nat), i + n = t.length → n < N → (∀ q : Int, 0 ≤ q → q < i → ¬ bad t sh least q) →
    i_PalestLetter_l1 K t least sh N (i : Int) = s_PalestLetter_l1 K t least sh N (i : Int) ∧ (s_PalestLetter_l1 K t least sh N (i : Int) = K ∨ ∃ j : Int, s_PalestLetter_l1 K t least sh N (i : Int) = some (j, 0) ∧ 0 ≤ j ∧ j < t.length ∧ bad t sh least j ∧ ∀ q : Int, 0 ≤ q → q < j → ¬ bad t sh least q) := by
  intro n
  induction n with
  | zero =>
    intro i N h1 h2 hq
    obtain ⟨N, rfl⟩ := pos_fuel h2
    have hi : ¬ ((i : Int) < (t.length : Int)) := by omega
    simp only [i_PalestLetter_l1, s_PalestLetter_l1, hl, hi, decide_false, cond_false, true_or, and_self]
  | succ n ih =>
    intro i N h1 h2 hq
    obtain ⟨N, rfl⟩ := pos_fuel h2
    have hi : (i : Int) < (t.length : Int) := by omega
    have hn : i < t.length := by omega
    simp only [i_PalestLetter_l1, s_PalestLetter_l1, hl, hi, decide_true, cond_true, idx_lt t i hn, idx_lt sh i (by omega), Option.bind_some, w64_nat i (by omega), andO_some]
    cases c : (t[i] != 32 && decide (sh[i]'(by omega) < least))
    · simp only [cond_false]
      refine ih (i + 1) N (by omega) (by omega) fun q q0 q1 => ?_
      by_cases e : q = i
      · subst e
        rintro ⟨a, b, ha, hb, hc, hd⟩
        rw [idx_lt t i hn] at ha
        rw [idx_lt sh i (by omega)] at hb
        have ea := Option.some.inj ha
        have eb := Option.some.inj hb
        rw [← ea] at hc
        rw [← eb] at hd
        rw [hc, Bool.true_and, decide_eq_false_iff_not] at c
        exact c hd
      · exact hq q q0 (by omega)
    · simp only [cond_true, true_and]
      rw [Bool.and_eq_true, decide_eq_true_eq] at c
      exact .inr ⟨i, rfl, by omega, hi, ⟨_, _, idx_lt t i hn, idx_lt sh i (by omega), c.1, c.2⟩, hq⟩
theorem Palest_eq (N : Nat) (r : Ribbon) (d : Int) (t : Str) (least : Int) (ht : t.length ≤ 1000) (hN : 2000 < N) : ∃ p, i_PalestLetter N r d t least = some p ∧ s_PalestLetter N r d t least = some p ∧
    (p.2 = 0 → cd r d t = 0 ∧ 0 ≤ p.1 ∧ p.1 < t.length ∧ bad t (shL r d t) least p.1 ∧ ∀ q : Int, 0 ≤ q → q < p.1 → ¬ bad t (shL r d t) least q) := by
  obtain ⟨e1, e2⟩ := codes_eq N r d t ht (by omega)
  unfold i_PalestLetter s_PalestLetter
  rw [e1, e2, btw_eq, sIn_eq]
  simp only [Option.bind_some, withK_eq, andO_some]
  by_cases c : cd r d t = 0
  · obtain ⟨h, h0, h1, h2⟩ := cd_zero c
    obtain ⟨s1, s2⟩ := shades_eq N r d t h h2 h0 h1 hN
    obtain ⟨g1, g2⟩ := pale_l1 t (shL r d t) least (length_shL r t d) h2 (some (0, 3)) t.length 0 N (by omega) (by omega) (fun q h0 h1 => by omega)
    rw [show ((0 : Nat) : Int) = 0 from rfl] at g1 g2
    simp only [c, bne_self_eq_false, cond_false, beq_self_eq_true, Bool.true_and, s1, s2, Option.bind_some, g1]
    by_cases l : 1 ≤ least ∧ least ≤ r.ink
    · simp only [l, and_self, decide_true, Bool.not_true, cond_false]
      rcases g2 with g | ⟨j, g, j1, j2, j3, j4⟩
      · exact ⟨(0, 3), g, g, by intro e; simp at e⟩
      · exact ⟨(j, 0), g, g, fun _ => ⟨trivial, j1, j2, j3, j4⟩⟩
    · simp only [l, decide_false, Bool.not_false, cond_true]
      exact ⟨(0, 2), rfl, rfl, by intro e; simp at e⟩
  · have c1 : (cd r d t != 0) = true := by simpa using c
    have c2 : (cd r d t == 0) = false := by simpa using c
    simp only [c1, c2, cond_true, Bool.false_and, cond_false]
    exact ⟨(0, cd r d t), rfl, rfl, fun e => absurd e c⟩
theorem ShadesOf_eq (N : Nat) (r : Ribbon) (d : Int) (t : Str) (ht : t.length ≤ 1000) (hN : 2000 < N) : ∃ p, i_ShadesOf N r d t = some p ∧ s_ShadesOf N r d t = some p ∧ p.1.length ≤ 1000 ∧ (cd r d t = 0 → p.1 = shL r d t) := by
  obtain ⟨e1, e2⟩ := codes_eq N r d t ht (by omega)
  unfold i_ShadesOf s_ShadesOf
  rw [e1, e2]
  simp only [Option.bind_some]
  by_cases c : cd r d t = 0
  · obtain ⟨h, h0, h1, h2⟩ := cd_zero c
    obtain ⟨s1, s2⟩ := shades_eq N r d t h h2 h0 h1 hN
    simp only [c, bne_self_eq_false, cond_false, s1, s2, Option.bind_some]
    exact ⟨_, rfl, rfl, by show (shL r d t).length ≤ 1000; rw [length_shL]; omega, fun _ => rfl⟩
  · have c1 : (cd r d t != 0) = true := by simpa using c
    simp only [c1, cond_true]
    exact ⟨_, rfl, rfl, by simp, fun e => absurd e c⟩
theorem ints_l1 (a : List Int) (K : Option Bool) (ha : a.length ≤ 1000) : ∀ (n i N : Nat), i + n = a.length → n < N → w_f6ints_l1 K a a N (i : Int) = K := by
  intro n
  induction n with
  | zero =>
    intro i N h1 h2
    obtain ⟨N, rfl⟩ := pos_fuel h2
    have hi : ¬ ((i : Int) < (a.length : Int)) := by omega
    simp only [w_f6ints_l1, hi, decide_false, cond_false]
  | succ n ih =>
    intro i N h1 h2
    obtain ⟨N, rfl⟩ := pos_fuel h2
    have hi : (i : Int) < (a.length : Int) := by omega
    simp only [w_f6ints_l1, hi, decide_true, cond_true, idx_lt a i (by omega), Option.bind_some, bne_self_eq_false, cond_false, w64_nat i (by omega)]
    exact ih (i + 1) N (by omega) (by omega)
theorem ints_eq (N : Nat) (a : List Int) (ha : a.length ≤ 1000) (hN : 1000 < N) : w_f6ints N a a = some true := by
  have := ints_l1 a (some true) ha a.length 0 N (by omega) (by omega)
  rw [show ((0 : Nat) : Int) = 0 from rfl] at this
  unfold w_f6ints
  simp only [bne_self_eq_false, cond_false, withK_eq, this]
theorem RF_eq (N : Nat) (r : Ribbon) (st l : Int) (hN : 100001 < N) : ∃ p, i_RibbonsFor N r st l = some p ∧ s_RibbonsFor N r st l = some p := by
  unfold i_RibbonsFor s_RibbonsFor
  rw [iValid_eq, Least_eq, Code_eq, use_eq, btw_eq]
  simp only [Option.bind_some, orO_some, withK_eq]
  by_cases v : vR r = true
  · have h := vR_iff.1 v
    simp only [v, Bool.not_true, cond_false, if_true]
    by_cases c : 1 ≤ l ∧ l ≤ r.ink
    · by_cases g : 0 ≤ st ∧ st ≤ 100000
      · simp only [c, g, and_self, decide_true, Bool.not_true, Bool.or_self, cond_false, if_true, Many_eq N r st l h, needed_val N r st l h c.2 g.1 g.2 hN, Option.bind_some]
        exact ⟨_, rfl, rfl⟩
      · simp only [c, g, and_self, decide_true, decide_false, Bool.not_true, Bool.not_false, Bool.true_or, cond_true, if_true, if_false]
        exact ⟨(0, 2), rfl, rfl⟩
    · simp only [c, decide_false, Bool.not_false, Bool.or_true, cond_true, if_false]
      exact ⟨(0, 2), rfl, rfl⟩
  · have v' : vR r = false := by simpa using v
    simp only [v', Bool.not_false, cond_true]
    exact ⟨(0, 1), rfl, rfl⟩
theorem RF_val (N : Nat) (r : Ribbon) (st l : Int) (hN : 100001 < N) (h : okR r) (h1 : 1 ≤ l) (h2 : l ≤ r.ink) (h3 : 0 ≤ st) (h4 : st ≤ 100000) : i_RibbonsFor N r st l = some (ndI r st l, 0) := by
  unfold i_RibbonsFor
  rw [iValid_eq, use_eq, btw_eq, vR_iff.2 h]
  have c : 1 ≤ l ∧ l ≤ r.ink := ⟨h1, h2⟩
  have g : 0 ≤ st ∧ st ≤ 100000 := ⟨h3, h4⟩
  simp only [Option.bind_some, orO_some, c, g, and_self, decide_true, Bool.not_true, Bool.or_self, cond_false, needed_val N r st l h h2 h3 h4 hN]
end Go.Proofs.Ytoojddajhalimaa
