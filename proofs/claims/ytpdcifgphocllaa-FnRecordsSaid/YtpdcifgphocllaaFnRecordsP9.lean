/-
  Plain lemmas on these functions. No conditions but those that each states.
-/
import Derived.Test.YtpdcifgphocllaaFnRecordsP8
namespace Go.Proofs.Ytpdcifgphocllaa
set_option linter.unusedVariables false
set_option linter.unusedSimpArgs false
/-! The test in the middle, and all functions together. -/
section
variable {l : List Trial} {p : Int} (H : OKL l p)
include H
theorem med_i1 (kj : List Int → Option (Int × Int)) : ∀ (q i N : Nat), i + q = l.length → q < N → i_MedianTrial_l1 kj l N (rng i) (i : Int) = kj (rng l.length) := by
  intro q
  induction q with
  | zero =>
    intro i N h1 h2
    obtain ⟨N, rfl⟩ := pos_fuel h2
    have hz : ¬ (i : Int) < (l.length : Int) := by omega
    have e : i = l.length := by omega
    simp only [i_MedianTrial_l1, hz, decide_false, cond_false]
    rw [e]
  | succ q ih =>
    intro i N h1 h2
    obtain ⟨N, rfl⟩ := pos_fuel h2
    have hz : (i : Int) < (l.length : Int) := by omega
    have hn := H.n
    simp only [i_MedianTrial_l1, hz, decide_true, cond_true]
    rw [app_some _ _ (by rw [rng_len]; simp; unfold LIM; omega), Option.bind_some, w64_nat i (by omega), ← rng_succ]
    exact ih (i + 1) N (by omega) (by omega)
theorem med_c (x y : Int) (hx : x ∈ rng l.length) (hy : y ∈ rng l.length) : i_MedianTrial_c1 0 1 l [x, y] p = some (lt_ l p x y) := by
  rw [rng_mem] at hx hy
  obtain ⟨i, rfl⟩ : ∃ i : Nat, x = i := ⟨x.toNat, by omega⟩
  obtain ⟨j, rfl⟩ : ∃ j : Nat, y = j := ⟨y.toNat, by omega⟩
  have hi : i < l.length := by omega
  have hj : j < l.length := by omega
  have e0 : idx [(i : Int), (j : Int)] 0 = some (i : Int) := rfl
  have e1 : idx [(i : Int), (j : Int)] 1 = some (j : Int) := rfl
  unfold i_MedianTrial_c1
  simp only [e0, e1, Option.bind_some, idx_lt l i hi, idx_lt l j hj, (at_ok H i j hi hj).1]
theorem srt_ok : srtS (fun i j dk => i_MedianTrial_c1 i j l dk p) (rng l.length) = some (isort (lt_ l p) (rng l.length)) :=
  srtS_some _ _ _ (by rw [rng_len]; exact H.n) (fun x hx y hy => med_c H x y hx hy) (lt_neg H) lt_asym
theorem med_s2 (i : Nat) (hi : i < l.length) (kj : Int → Option (Int × Int)) : ∀ (acc post : List Int) (N : Nat), acc.length < N → acc.length ≤ 40 → (∀ x ∈ acc, x ∈ rng l.length) → s_MedianTrial_l2 kj l p (acc.reverse ++ post) (i : Int) N (acc.length : Int) = kj (insP (lt_ l p) (i : Int) acc : Nat)
  | [], post, N, h1, _, _ => by
    obtain ⟨N, rfl⟩ := pos_fuel h1
    simp [s_MedianTrial_l2, insP]
  | y :: r, post, N, h1, h2, h3 => by
    obtain ⟨N, rfl⟩ := pos_fuel h1
    have hy := h3 y List.mem_cons_self
    rw [rng_mem] at hy
    obtain ⟨j, rfl⟩ : ∃ j : Nat, y = j := ⟨y.toNat, by omega⟩
    have hj : j < l.length := by omega
    simp only [List.length_cons] at h1 h2
    have z0 : decide (((r.length + 1 : Nat) : Int) > 0) = true := decide_eq_true (by omega)
    have z1 : w64 (((r.length + 1 : Nat) : Int) - 1) = (r.length : Int) := by rw [w64_id (by omega) (by omega)]; omega
    have z2 : idx (((j : Int) :: r).reverse ++ post) (r.length : Int) = some (j : Int) := by
      rw [idx_nat, List.reverse_cons, List.append_assoc, List.getElem?_append_right (by simp)]
      simp
    have ih := med_s2 i hi kj r ((j : Int) :: post) N (by omega) (by omega) (fun x hx => h3 x (List.mem_cons_of_mem _ hx))
    simp only [s_MedianTrial_l2, List.length_cons, z0, andO_true, idx_lt l i hi, Option.bind_some, z1, z2, idx_lt l j hj, (at_ok H i j hi hj).2.1, insP]
    cases lt_ l p i j with
    | true =>
      rw [cond_true, cond_true, ← ih, List.reverse_cons, List.append_assoc]; rfl
    | false => rfl
theorem med_s1 (kj : List Int → Option (Int × Int)) : ∀ (q i N : Nat), i + q = l.length → q + 50 < N → s_MedianTrial_l1 kj l p N (isortB (lt_ l p) [] (rng i)).reverse (i : Int) = kj (isort (lt_ l p) (rng l.length)) := by
  intro q
  induction q with
  | zero =>
    intro i N h1 h2
    obtain ⟨N, rfl⟩ := pos_fuel h2
    have hz : ¬ (i : Int) < (l.length : Int) := by omega
    have e : i = l.length := by omega
    simp only [s_MedianTrial_l1, hz, decide_false, cond_false]
    rw [e]; rfl
  | succ q ih =>
    intro i N h1 h2
    obtain ⟨N, rfl⟩ := pos_fuel h2
    have hi : i < l.length := by omega
    have hz : (i : Int) < (l.length : Int) := by omega
    have hn := H.n
    have hpm := isortB_perm (lt_ l p) (rng i) []
    rw [List.append_nil] at hpm
    have hlen : (isortB (lt_ l p) [] (rng i)).length = i := by rw [hpm.length_eq, rng_len]
    have hm : ∀ x ∈ isortB (lt_ l p) [] (rng i), x ∈ rng l.length := fun x hx => by
      have := hpm.mem_iff.1 hx
      rw [rng_mem] at this ⊢
      omega
    have e1 : isortB (lt_ l p) [] (rng (i + 1)) = insB (lt_ l p) (i : Int) (isortB (lt_ l p) [] (rng i)) := by
      rw [rng_succ, isortB_append]; rfl
    generalize isortB (lt_ l p) [] (rng i) = acc at *
    have hp := insP_le (lt_ l p) (i : Int) acc
    have hrl : acc.reverse.length = acc.length := by simp
    have hs2 := fun kj => med_s2 H i hi kj acc [] N (by omega) (by omega) hm
    have hcut := insP_cut (lt_ l p) (i : Int) acc []
    simp only [List.append_nil] at hs2 hcut
    simp only [s_MedianTrial_l1, hz, decide_true, cond_true, withK_n, hrl, hs2]
    have hsub0 : sub acc.reverse 0 ((insP (lt_ l p) (i : Int) acc : Nat) : Int) = some (acc.reverse.take (insP (lt_ l p) (i : Int) acc)) := by
      rw [sub_some _ _ _ (by omega) (by omega) (by omega)]; simp
    have hsub1 : sub acc.reverse ((insP (lt_ l p) (i : Int) acc : Nat) : Int) (acc.length : Int) = some (acc.reverse.drop (insP (lt_ l p) (i : Int) acc)) := by
      rw [sub_some _ _ _ (by omega) (by omega) (by omega), Int.toNat_natCast, Int.toNat_natCast, List.take_of_length_le (by simp)]
    rw [hsub0, hsub1]
    generalize hA : acc.reverse.take (insP (lt_ l p) (i : Int) acc) = A at *
    generalize hB : acc.reverse.drop (insP (lt_ l p) (i : Int) acc) = B at *
    have hAB : A.length + B.length = acc.length := by rw [← hA, ← hB, List.length_take, List.length_drop]; simp; omega
    unfold s_l00Own
    simp only [Option.bind_some]
    rw [app_some [] A (by simp; unfold LIM; omega)]
    simp only [List.nil_append, Option.bind_some]
    rw [app_some A _ (by simp; unfold LIM; omega)]
    simp only [Option.bind_some]
    rw [app_some _ B (by simp; unfold LIM; omega), Option.bind_some, w64_nat i (by omega), List.append_assoc, List.singleton_append, hcut, ← e1]
    exact ih (i + 1) N (by omega) (by omega)
def ord_ (l : List Trial) (p : Int) : List Int := isort (lt_ l p) (rng l.length)
omit H in
theorem ord_len (l : List Trial) (p : Int) : (ord_ l p).length = l.length := by unfold ord_; rw [isort_len, rng_len]
/-- the middle one -/
theorem mid_ok (h0 : 0 < l.length) : ∃ m : Nat, m < l.length ∧ idx (ord_ l p) (w64 (Int.tdiv (w64 (((ord_ l p).length : Int) - 1)) 2)) = some (m : Int) ∧ 2 * (rng l.length).countP (fun x => lt_ l p x m) < l.length ∧ 2 * (rng l.length).countP (fun x => lt_ l p m x) ≤ l.length := by
  have hn := H.n
  have hp : (l.length - 1) / 2 < (ord_ l p).length := by rw [ord_len]; omega
  have hmem : (ord_ l p)[(l.length - 1) / 2] ∈ rng l.length := (isort_perm (lt_ l p) (rng l.length)).mem_iff.1 (List.getElem_mem hp)
  rw [rng_mem] at hmem
  obtain ⟨m, hm⟩ : ∃ m : Nat, (ord_ l p)[(l.length - 1) / 2] = m := ⟨((ord_ l p)[(l.length - 1) / 2]).toNat, by omega⟩
  have hs := isort_srt (lt_ l p) (lt_neg H) lt_asym (rng l.length)
  obtain ⟨c1, c2⟩ := count_lt (lt_ l p) (ord_ l p) _ hp _ hm hs (lt_irr _)
  have q1 := (isort_perm (lt_ l p) (rng l.length)).countP_eq (fun x => lt_ l p x m)
  have q2 := (isort_perm (lt_ l p) (rng l.length)).countP_eq (fun x => lt_ l p m x)
  have e1 : List.countP (fun x => lt_ l p x m) (ord_ l p) = List.countP (fun x => lt_ l p x m) (rng l.length) := q1
  have e2 : List.countP (fun x => lt_ l p m x) (ord_ l p) = List.countP (fun x => lt_ l p m x) (rng l.length) := q2
  rw [ord_len] at c2
  refine ⟨m, by omega, ?_, by omega, by omega⟩
  rw [ord_len, tdiv2 l.length h0 (by omega), idx_lt _ _ hp, hm]
end
theorem cod_some {l : List Trial} (hl : l.length ≤ 1000) (p : Int) (N : Nat) (hN : l.length < N) : s_l20Some N l p = some (bif (cod l p == 0) && ((l.length : Int) == 0) then 3 else cod l p) := by
  unfold s_l20Some
  rw [(cod_ok l hl p N hN).2]
  simp only [Option.bind_some, andO_some, withK_n]
  cases (cod l p == 0 && (l.length : Int) == 0) <;> rfl
/-- what all of them say -/
structure Said (l : List Trial) (p : Int) (rec : List Int) (f m a b : Nat) : Prop where
  h : OKL l p
  r : rec = 0 :: rc l p (l.length - 1) 1 0
  f : f < l.length ∧ (∀ j : Nat, j < l.length → lt_ l p f j = false) ∧ rec[rec.length - 1]? = some (f : Int)
  m : m < l.length ∧ 2 * (rng l.length).countP (fun x => lt_ l p x m) < l.length ∧ 2 * (rng l.length).countP (fun x => lt_ l p m x) ≤ l.length
  a : a + b ≤ l.length ∧ Ris l p a (a + b)
theorem all_ok (l : List Trial) (hl : l.length ≤ 41) (p : Int) (N : Nat) (hN : 150 < N) : ∃ (rec : List Int) (c : Int) (f m a b : Int) (d : Int), i_RecordsOf N l p = some (rec, c) ∧ s_RecordsOf N l p = some (rec, c) ∧ i_FastestTrial N l p = some (f, d) ∧ s_FastestTrial N l p = some (f, d) ∧ i_MedianTrial N l p = some (m, d) ∧ s_MedianTrial N l p = some (m, d) ∧ i_LongestRise N l p = some (a, b, d) ∧ s_LongestRise N l p = some (a, b, d) ∧ rec.length ≤ 41 ∧ (d = 0 → ∃ f' m' a' b' : Nat, f = f' ∧ m = m' ∧ a = a' ∧ b = b' ∧ Said l p rec f' m' a' b') := by
  obtain ⟨c1, c2⟩ := cod_ok l (by omega) p N (by omega)
  have c3 := cod_some (l := l) (by omega) p N (by omega)
  by_cases h0 : cod l p = 0
  · obtain ⟨g1, g2, g3⟩ := cod0 h0
    have H : OKL l p := ⟨g1, g2, g3⟩
    rw [h0] at c1 c2 c3
    by_cases hn : l.length = 0
    · have hnil : l = [] := List.eq_nil_of_length_eq_zero hn
      have z : ((l.length : Int) == 0) = true := by rw [hn]; rfl
      obtain ⟨N, rfl⟩ := pos_fuel hN
      refine ⟨[], 0, 0, 0, 0, 0, 3, ?_, ?_, ?_, ?_, ?_, ?_, ?_, ?_, by simp, fun h => by cases h⟩
      · unfold i_RecordsOf; rw [c1, hnil]; rfl
      · unfold s_RecordsOf; rw [c2, hnil]; rfl
      · unfold i_FastestTrial; rw [c1, z]; rfl
      · unfold s_FastestTrial; rw [c3, z]; rfl
      · unfold i_MedianTrial; rw [c1, z]; rfl
      · unfold s_MedianTrial; rw [c3, z]; rfl
      · unfold i_LongestRise; rw [c1, z]; rfl
      · unfold s_LongestRise; rw [c3, z]; rfl
    · have z : ((l.length : Int) == 0) = false := by rw [beq_eq_false_iff_ne]; omega
      have c3' : s_l20Some N l p = some 0 := by rw [c3, z]; rfl
      have bz : ((0 : Int) != 0) = false := rfl
      obtain ⟨n, hq⟩ : ∃ n, l.length = n + 1 := ⟨l.length - 1, by omega⟩
      obtain ⟨m, m1, m2, m3, m4⟩ := mid_ok H (by omega)
      obtain ⟨r1, r2⟩ := lr_ok l p n 1 0 1 0 (by omega) (by omega) (by omega) (by omega) (by omega) (fun j _ h => by omega) (fun j _ h => by omega)
      have hrec := fun kj : List Int → Option (List Int × Int) => rec_l1 H kj n 1 (N - 1) 0 [] (by omega) (by omega) (by omega) (by omega) (by simp)
      have hfi := fun kj : Int → Option (Int × Int) => fast_l1 H kj (n + 1) 0 N 0 (by omega) (by omega) (by omega)
      have hfs := fun kj : Int → Option (Int × Int) => fast_l1 H kj n 1 N 0 (by omega) (by omega) (by omega)
      have hri := fun kj : Int → Int → Option (Int × Int × Int) => rise_l1 H kj n 1 N 0 1 0 (by omega) (by omega) (by omega) (by omega) (by omega) (by omega)
      have hfe : fa l p (n + 1) 0 0 = fa l p n 1 0 := by
        simp only [fa]
        rw [show ((0 : Nat) : Int) = 0 from rfl, lt_irr]; rfl
      have hlast := rc_last l p n 1 0
      have hj0 : ∀ j : Nat, j < 1 → lt_ l p ((0 : Nat) : Int) j = false := fun j hj => by
        obtain rfl : j = 0 := by omega
        exact lt_irr _
      have hrl := rc_len l p n 1 0
      refine ⟨0 :: rc l p n 1 0, 0, (fa l p n 1 0 : Nat), (m : Nat), ((lr l p n 1 0 1 0).1 : Nat), ((lr l p n 1 0 1 0).2 : Nat), 0, ?_, ?_, ?_, ?_, ?_, ?_, ?_, ?_, by simp; omega, fun _ => ⟨_, _, _, _, rfl, rfl, rfl, rfl, ⟨H, by rw [hq]; rfl, ⟨fa_lt l p n 1 0 (by omega) (by omega), fa_max H n 1 0 (by omega) hj0, by simpa using hlast⟩, ⟨m1, m3, m4⟩, ⟨r1, r2⟩⟩⟩⟩
      · unfold i_RecordsOf
        rw [c1, Option.bind_some, bz, cond_false, withK_n]
        obtain ⟨N, rfl⟩ := pos_fuel hN
        have hz : (0 : Int) < (l.length : Int) := by omega
        rw [i_RecordsOf_l1, decide_eq_true hz, cond_true, withK_n, show (0 : Int) = ((0 : Nat) : Int) from rfl, idx_lt l 0 (by omega), Option.bind_some]
        have z5 : (((0 : Nat) : Int) == ((0 : Nat) : Int)) = true := rfl
        rw [z5, orO_true, Option.bind_some, cond_true, app_some _ _ (by simp; unfold LIM; omega), Option.bind_some]
        exact (hrec _).1
      · unfold s_RecordsOf
        rw [c2, Option.bind_some, bz, cond_false, withK_n]
        obtain ⟨N, rfl⟩ := pos_fuel hN
        have hz : (0 : Int) < (l.length : Int) := by omega
        rw [s_RecordsOf_l1, decide_eq_true hz, cond_true, withK_n]
        have z5 : ((([] : List Int).length : Int) == 0) = true := rfl
        rw [z5, orO_true, Option.bind_some, cond_true, app_some _ _ (by simp; unfold LIM; omega), Option.bind_some]
        exact (hrec _).2
      · unfold i_FastestTrial
        rw [c1, Option.bind_some, bz, cond_false, z, cond_false, withK_n, ← hfe]
        exact (hfi _).1
      · unfold s_FastestTrial
        rw [c3', Option.bind_some, bz, cond_false, withK_n]
        exact (hfs _).2
      · unfold i_MedianTrial
        rw [c1, Option.bind_some, bz, cond_false, z, cond_false, withK_n]
        have := fun kj => med_i1 H kj l.length 0 N (by omega) (by omega)
        rw [show rng 0 = [] from rfl, show ((0 : Nat) : Int) = 0 from rfl] at this
        rw [this, srt_ok H, Option.bind_some]
        rw [show isort (lt_ l p) (rng l.length) = ord_ l p from rfl, m2]; rfl
      · unfold s_MedianTrial
        rw [c3', Option.bind_some, bz, cond_false, withK_n]
        have := fun kj => med_s1 H kj l.length 0 N (by omega) (by omega)
        rw [show (isortB (lt_ l p) [] (rng 0)).reverse = [] from rfl, show ((0 : Nat) : Int) = 0 from rfl] at this
        rw [this]
        rw [show isort (lt_ l p) (rng l.length) = ord_ l p from rfl, m2]; rfl
      · unfold i_LongestRise
        rw [c1, Option.bind_some, bz, cond_false, z, cond_false, withK_n]
        exact (hri _).1
      · unfold s_LongestRise
        rw [c3', Option.bind_some, bz, cond_false, withK_n]
        exact (hri _).2
  · have z : (cod l p == 0) = false := by simpa using h0
    have z2 : (cod l p != 0) = true := by simpa using h0
    rw [z, Bool.false_and, cond_false] at c3
    refine ⟨[], cod l p, 0, 0, 0, 0, cod l p, ?_, ?_, ?_, ?_, ?_, ?_, ?_, ?_, by simp, fun h => absurd h h0⟩
    · unfold i_RecordsOf; rw [c1, Option.bind_some, z2]; rfl
    · unfold s_RecordsOf; rw [c2, Option.bind_some, z2]; rfl
    · unfold i_FastestTrial; rw [c1, Option.bind_some, z2]; rfl
    · unfold s_FastestTrial; rw [c3, Option.bind_some, z2]; rfl
    · unfold i_MedianTrial; rw [c1, Option.bind_some, z2]; rfl
    · unfold s_MedianTrial; rw [c3, Option.bind_some, z2]; rfl
    · unfold i_LongestRise; rw [c1, Option.bind_some, z2]; rfl
    · unfold s_LongestRise; rw [c3, Option.bind_some, z2]; rfl
end Go.Proofs.Ytpdcifgphocllaa
