/-
  Plain lemmas on these functions. No conditions but those that each states.
-/
import Derived.Test.YtbgngihmpdneaaaFnLessonSetsP9
namespace Go.Proofs.Ytbgngihmpdneaaa
set_option linter.unusedVariables false
set_option linter.unusedSimpArgs false
/-! The lessons for a text. -/
theorem misV_ne (o s : Str) : (misV o s != []) = !(s.all (tyB o)) := by rw [← misV_nil]; rfl
def okSel (L : List Lesson) (s : Str) (l : List Int) : Bool := cmpl L l l && s.all (tyB (kno L [] l))
/-- what the rounds keep -/
def Kept (L : List Lesson) (s : Str) (k : Nat) (l : List Int) (f : Bool) (li ls : Int) : Prop :=
  (f = true → RS L l ∧ okSel L s l = true ∧ li = hsum L l ∧ ls = li) ∧ (f = false → l = [] ∧ ls = -1 ∧ ∀ j, j < k → okSel L s (ints (bits j L.length)) = false)
theorem best_l1 (L : List Lesson) (hL : GL L) (s : Str) (hs : s.length ≤ 400) (Ki : List Int → Bool → Option (List Int × Int)) (Ks : List Int → Int → Option (List Int × Int)) : ∀ (q k N : Nat) (l : List Int) (f : Bool) (li ls : Int), k + q = 2 ^ L.length → q + 4000 < N → Kept L s k l f li ls →
    ∃ l' f' li' ls', Kept L s (2 ^ L.length) l' f' li' ls' ∧ i_LessonsForText_l1 Ki L s ((2 ^ L.length : Nat) : Int) N l li f (k : Int) = Ki l' f' ∧ s_LessonsForText_l1 Ks L s N l ls (k : Int) = Ks l' ls' := by
  have hL12 := hL.len
  have hp : 2 ^ L.length ≤ 4096 := Nat.le_trans (Nat.pow_le_pow_right (by decide) hL12) (by decide)
  have hsh := shl12 L.length (by omega)
  have hw : IntKind.u64.wrap (L.length : Int) = (L.length : Int) := wrapu_id (by omega) (by omega)
  intro q
  induction q with
  | zero =>
    intro k N l f li ls h1 h2 hk
    obtain ⟨N, rfl⟩ := pos_fuel h2
    have hkk : k = 2 ^ L.length := by omega
    subst hkk
    refine ⟨l, f, li, ls, hk, ?_, ?_⟩
    · simp [i_LessonsForText_l1]
    · simp [s_LessonsForText_l1, hw, hsh]
  | succ q ih =>
    intro k N l f li ls h1 h2 hk
    obtain ⟨N, rfl⟩ := pos_fuel h2
    have hz : (k : Int) < ((2 ^ L.length : Nat) : Int) := by omega
    have hrs := rs_bits L k
    have hlen := hrs.len hL
    obtain ⟨t, t1, t2⟩ := marks_ok L hL _ hrs N (by omega)
    obtain ⟨m, m1, m2, m3⟩ := known_ok L hL _ hrs N (by omega)
    obtain ⟨a1, a2⟩ := hours_ok L hL _ hrs N (by omega)
    obtain ⟨o, o1, o2, o3, o4⟩ := all_ok L hL _ hrs.ris hrs.bnd N (by omega)
    have hcm := cmpl_all L hL _ hrs o o1 o3
    have hb := hsum_bd L hL (ints (bits k L.length))
    have hll : l.length ≤ 100 := by
      cases hf : f with
      | true => have := (hk.1 hf).1.len hL; omega
      | false => rw [(hk.2 hf).1]; simp
    obtain ⟨v, v1, v2⟩ := less_ok (ints (bits k L.length)) l (by omega) hll N (by omega)
    have hcomp := fun kj b => compl_l2 L hL _ hrs t t1 kj (ints (bits k L.length)).length 0 N b (by omega) (by omega)
    rw [show ((0 : Nat) : Int) = 0 from rfl] at hcomp
    simp only [List.drop_zero, Bool.true_and] at hcomp
    have hty := typ_ok m _ m1 s (by omega) N (by omega)
    have hms := miss_ok m _ m1 s (by omega) N (by omega)
    simp only [i_LessonsForText_l1, s_LessonsForText_l1, hw, hsh, hz, decide_true, cond_true, withK_n, chos_ok k L.length (by omega) (by omega) N (by omega), t2, Option.bind_some, hcomp, Bool.true_and, m2, m3, hty, hms, a1, a2, chosS_ok L (by omega) k (by omega) _ N (by omega), o4, andO_some, orO_some, hcm, misV_ne, v1, w64_nat k (by omega)]
    -- what holds where nothing changes
    have hkeep : okSel L s (ints (bits k L.length)) = false → Kept L s (k + 1) l f li ls := fun ho => ⟨hk.1, fun hf => ⟨(hk.2 hf).1, (hk.2 hf).2.1, fun j hj => by
      by_cases e : j = k
      · rw [e]; exact ho
      · exact (hk.2 hf).2.2 j (by omega)⟩⟩
    have hstay := fun (h : Kept L s (k + 1) l f li ls) => ih (k + 1) N l f li ls (by omega) (by omega) h
    have hnew := fun (ho : okSel L s (ints (bits k L.length)) = true) => ih (k + 1) N (ints (bits k L.length)) true (hsum L (ints (bits k L.length))) (hsum L (ints (bits k L.length))) (by omega) (by omega) ⟨fun _ => ⟨hrs, ho, rfl, rfl⟩, fun h => by cases h⟩
    cases hc : cmpl L (ints (bits k L.length)) (ints (bits k L.length)) with
    | false =>
      have ho : okSel L s (ints (bits k L.length)) = false := by unfold okSel; rw [hc]; rfl
      obtain ⟨l', f', li', ls', g1, g2, g3⟩ := hstay (hkeep ho)
      refine ⟨l', f', li', ls', g1, ?_, ?_⟩
      · simp only [Bool.not_false, Bool.true_or, cond_true]; exact g2
      · simp only [Bool.not_false, Bool.or_true, cond_true]; exact g3
    | true =>
      cases ht : s.all (tyB (kno L [] (ints (bits k L.length)))) with
      | false =>
        have ho : okSel L s (ints (bits k L.length)) = false := by unfold okSel; rw [hc, ht]; rfl
        obtain ⟨l', f', li', ls', g1, g2, g3⟩ := hstay (hkeep ho)
        refine ⟨l', f', li', ls', g1, ?_, ?_⟩
        · simp only [Bool.not_false, Bool.or_true, cond_true]; exact g2
        · simp only [Bool.not_false, Bool.or_true, Bool.true_or, cond_true]; exact g3
      | true =>
        have ho : okSel L s (ints (bits k L.length)) = true := by unfold okSel; rw [hc, ht]; rfl
        simp only [Bool.not_true, Bool.or_self, cond_false, Bool.or_false]
        cases f with
        | false =>
          obtain ⟨e1, e2, e3⟩ := hk.2 rfl
          obtain ⟨l', f', li', ls', g1, g2, g3⟩ := hnew ho
          subst e2
          refine ⟨l', f', li', ls', g1, ?_, ?_⟩
          · simp only [Bool.not_false, Bool.true_or, Bool.false_and, cond_false, cond_true]; exact g2
          · have z1 : decide ((-1 : Int) ≥ 0) = false := rfl
            have z2 : decide ((-1 : Int) < 0) = true := rfl
            simp only [z1, z2, Bool.false_and, Bool.true_or, cond_true, cond_false]; exact g3
        | true =>
          obtain ⟨e1, e2, e3, e4⟩ := hk.1 rfl
          subst e4
          have hb2 := hsum_bd L hL l
          have z1 : decide (ls ≥ 0) = true := decide_eq_true (by omega)
          have z2 : decide (ls < 0) = false := decide_eq_false (by omega)
          simp only [z1, z2, Bool.true_and, Bool.not_true, Bool.false_or]
          rcases Int.lt_trichotomy (hsum L (ints (bits k L.length))) ls with h | h | h
          · obtain ⟨l', f', li', ls', g1, g2, g3⟩ := hnew ho
            have y1 : decide (hsum L (ints (bits k L.length)) < ls) = true := decide_eq_true h
            have y2 : (hsum L (ints (bits k L.length)) == ls) = false := by simp; omega
            have y3 : decide (hsum L (ints (bits k L.length)) > ls) = false := decide_eq_false (by omega)
            refine ⟨l', f', li', ls', g1, ?_, ?_⟩
            · simp only [y1, y2, cond_false, cond_true]; exact g2
            · simp only [y1, y3, cond_false, cond_true, Bool.true_or]; exact g3
          · have y1 : decide (hsum L (ints (bits k L.length)) < ls) = false := decide_eq_false (by omega)
            have y2 : (hsum L (ints (bits k L.length)) == ls) = true := by simp; exact h
            have y3 : decide (hsum L (ints (bits k L.length)) > ls) = false := decide_eq_false (by omega)
            simp only [y1, y2, y3, cond_false, cond_true, Bool.false_or, orO_some, andO_some] at v2 ⊢
            rw [v2]
            simp only [Option.bind_some]
            cases v with
            | true =>
              obtain ⟨l', f', li', ls', g1, g2, g3⟩ := hnew ho
              exact ⟨l', f', li', ls', g1, g2, g3⟩
            | false =>
              obtain ⟨l', f', li', ls', g1, g2, g3⟩ := hstay ⟨fun _ => ⟨e1, e2, e3, rfl⟩, fun h => by cases h⟩
              exact ⟨l', f', li', ls', g1, g2, g3⟩
          · have y1 : decide (hsum L (ints (bits k L.length)) < ls) = false := decide_eq_false (by omega)
            have y2 : (hsum L (ints (bits k L.length)) == ls) = false := by simp; omega
            have y3 : decide (hsum L (ints (bits k L.length)) > ls) = true := decide_eq_true h
            obtain ⟨l', f', li', ls', g1, g2, g3⟩ := hstay ⟨fun _ => ⟨e1, e2, e3, rfl⟩, fun h => by cases h⟩
            refine ⟨l', f', li', ls', g1, ?_, ?_⟩
            · simp only [y1, y2, cond_false]; exact g2
            · simp only [y3, cond_true]; exact g3
end Go.Proofs.Ytbgngihmpdneaaa
