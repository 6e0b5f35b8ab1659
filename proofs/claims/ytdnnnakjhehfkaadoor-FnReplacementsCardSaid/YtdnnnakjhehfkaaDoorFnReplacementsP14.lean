/-
  Plain lemmas on these functions. No conditions but those that each states.
-/
import Derived.Test.YtdnnnakjhehfkaaDoorFnReplacementsP13
namespace Go.Proofs.YtdnnnakjhehfkaaDoor
set_option linter.unusedVariables false
set_option linter.unusedSimpArgs false
theorem Bent_l1_ok (r : Int × L00Src) : ∀ (k N : Nat) (l : List SparePart), l.length + k ≤ 41 → k < N → ∃ l', l'.length ≤ 41 ∧ ∀ K, s_l24Bent_l1 K r N l (k : Int) = K r.2.at_ r.2.seed l' := by
  intro k
  induction k with
  | zero =>
    intro N l h1 h2
    obtain ⟨N, rfl⟩ := pos_fuel h2
    exact ⟨l, by omega, fun K => by simp [s_l24Bent_l1]⟩
  | succ k ih =>
    intro N l h1 h2
    obtain ⟨N, rfl⟩ := pos_fuel h2
    have hk : (((k + 1 : Nat) : Int) > 0) := by omega
    have hkk : w64 (((k + 1 : Nat) : Int) - 1) = (k : Int) := by rw [w64_id (by omega) (by omega)]; omega
    obtain ⟨l', i1, i2⟩ := ih N (l ++ [⟨[(97 : UInt8) + (UInt8.ofInt (Int.tdiv (UInt8.toNat (UInt8.ofInt (List.length l : Int)) : Int) 26)), (97 : UInt8) + (UInt8.ofInt (Int.tmod (UInt8.toNat (UInt8.ofInt (List.length l : Int)) : Int) 26))], ((k + 1 : Nat) : Int), 0, 0, w64 ((List.length l : Int) - 1)⟩]) (by simp; omega) (by omega)
    refine ⟨l', i1, fun K => ?_⟩
    simp only [s_l24Bent_l1, hk, decide_true, cond_true]
    rw [app_some _ _ (by simp; unfold LIM; omega), Option.bind_some, hkk]
    exact i2 K
theorem Bent_ok (code : List UInt8) (at_ seed : Int) (N : Nat) (hN : 60 < N) (h0 : 0 ≤ at_) (h1 : at_ + 1000 < BIG) : ∃ a sd l, s_l24Bent N ⟨code, at_, seed⟩ = some (l, ⟨code, a, sd⟩) ∧ 0 ≤ a ∧ a ≤ at_ + 500 ∧ l.length ≤ 41 := by
  obtain ⟨a1, s1, l1, e1, b1, c1, d1⟩ := Draw_ok code at_ seed N (by omega) h0 (by omega)
  obtain ⟨v2, a2, s2, e2, b2, c2⟩ := one_ok code a1 s1 24 b1 (by omega)
  have cont : ∀ (a sd : Int) (l : List SparePart), 0 ≤ a → a ≤ at_ + 300 → l.length ≤ 41 → ∃ a' sd' l', (bif ((List.length l : Int) == 0) then
      some (l, (L00Src.mk code a sd))
    else
    (s_l00Src_pick (L00Src.mk code a sd) (List.length l : Int)).bind fun r30 =>
    (idx l r30.1).bind fun e32 =>
    withK (fun (x34 : Int) (x35 : Int) (l36 : List SparePart) =>
    some (l36, (L00Src.mk code x34 x35))) fun (k37 : Int → Int → (List SparePart) → Option ((List SparePart) × L00Src)) =>
    (s_l00Src_pick (L00Src.mk code r30.2.at_ r30.2.seed) 24).bind fun r39 =>
    bif (r39.1 == 0) then
    (s_l00Src_text (L00Src.mk code r39.2.at_ r39.2.seed) [[], [66, 97, 114], [98, 97, 114]]).bind fun r43 =>
    k37 r43.2.at_ r43.2.seed (List.set l (Int.toNat r30.1) (SparePart.mk r43.1 e32.stock e32.target e32.days e32.instead))
    else
    bif (r39.1 == 1) then
    (s_l00Src_among (L00Src.mk code r39.2.at_ r39.2.seed) [(-1), 0, 100000, 100001]).bind fun r47 =>
    k37 r47.2.at_ r47.2.seed (List.set l (Int.toNat r30.1) (SparePart.mk e32.name r47.1 e32.target e32.days e32.instead))
    else
    bif (r39.1 == 2) then
    (s_l00Src_among (L00Src.mk code r39.2.at_ r39.2.seed) [(-1), 0, 100000, 100001]).bind fun r51 =>
    k37 r51.2.at_ r51.2.seed (List.set l (Int.toNat r30.1) (SparePart.mk e32.name e32.stock r51.1 e32.days e32.instead))
    else
    bif (r39.1 == 3) then
    (s_l00Src_among (L00Src.mk code r39.2.at_ r39.2.seed) [(-1), 0, 365, 366]).bind fun r55 =>
    k37 r55.2.at_ r55.2.seed (List.set l (Int.toNat r30.1) (SparePart.mk e32.name e32.stock e32.target r55.1 e32.instead))
    else
    bif (r39.1 == 4) then
    (s_l00Src_among (L00Src.mk code r39.2.at_ r39.2.seed) [(-2), (-1), w64 ((List.length l : Int) - 1), (List.length l : Int), (-9223372036854775808)]).bind fun r59 =>
    k37 r59.2.at_ r59.2.seed (List.set l (Int.toNat r30.1) (SparePart.mk e32.name e32.stock e32.target e32.days r59.1))
    else
    k37 r39.2.at_ r39.2.seed l) = some (l', ⟨code, a', sd'⟩) ∧ 0 ≤ a' ∧ a' ≤ at_ + 500 ∧ l'.length ≤ 41 := by
    intro a sd l g0 g1 g2
    by_cases hl : (l.length : Int) = 0
    · refine ⟨a, sd, l, by simp only [hl, beq_self_eq_true, cond_true], g0, by omega, g2⟩
    · have hl' : ((l.length : Int) == 0) = false := by simpa using hl
      obtain ⟨v3, a3, s3, e3, b3, c3, d3, f3⟩ := pick_ok code a sd (l.length : Int) g0 (by omega)
      have f3 := f3 (by omega)
      obtain ⟨v4, a4, s4, e4, b4, c4, d4, f4⟩ := pick_ok code a3 s3 24 (by omega) (by omega)
      obtain ⟨t5, a5, s5, e5, b5, c5⟩ := text_ok code a4 s4 [[], [66, 97, 114], [98, 97, 114]] (by simp) (by omega) (by omega)
      obtain ⟨t6, a6, s6, e6, b6, c6⟩ := among_ok code a4 s4 [(-1), 0, 100000, 100001] (by simp) (by omega) (by omega)
      obtain ⟨t7, a7, s7, e7, b7, c7⟩ := among_ok code a4 s4 [(-1), 0, 365, 366] (by simp) (by omega) (by omega)
      obtain ⟨t8, a8, s8, e8, b8, c8⟩ := among_ok code a4 s4 [(-2), (-1), w64 ((List.length l : Int) - 1), (List.length l : Int), (-9223372036854775808)] (by simp) (by omega) (by omega)
      simp only [hl', cond_false, e3, Option.bind_some, idx_int l v3 d3 f3, withK_eq, e4, e5, e6, e7, e8]
      cases (v4 == 0)
      · cases (v4 == 1)
        · cases (v4 == 2)
          · cases (v4 == 3)
            · cases (v4 == 4)
              · exact ⟨_, _, _, rfl, by omega, by omega, by simpa using g2⟩
              · exact ⟨_, _, _, rfl, by omega, by omega, by simpa using g2⟩
            · exact ⟨_, _, _, rfl, by omega, by omega, by simpa using g2⟩
          · exact ⟨_, _, _, rfl, by omega, by omega, by simpa using g2⟩
        · exact ⟨_, _, _, rfl, by omega, by omega, by simpa using g2⟩
      · exact ⟨_, _, _, rfl, by omega, by omega, by simpa using g2⟩
  cases v2
  · obtain ⟨a', sd', l', i1, i2, i3, i4⟩ := cont a2 s2 l1 (by omega) (by omega) (by omega)
    refine ⟨a', sd', l', ?_, i2, i3, i4⟩
    simp only [s_l24Bent, e1, Option.bind_some, withK_eq, e2, cond_false]
    exact i1
  · obtain ⟨v3, a3, s3, e3, b3, c3, d3, f3⟩ := pick_ok code a2 s2 2 (by omega) (by omega)
    have f3 := f3 (by omega)
    obtain ⟨k, hk⟩ := Int.eq_ofNat_of_zero_le (by omega : 0 ≤ 40 + v3)
    obtain ⟨l2, j1, j2⟩ := Bent_l1_ok (v3, ⟨code, a3, s3⟩) k N [] (by simp; omega) (by omega)
    obtain ⟨a', sd', l', i1, i2, i3, i4⟩ := cont a3 s3 l2 (by omega) (by omega) j1
    refine ⟨a', sd', l', ?_, i2, i3, i4⟩
    have ew : w64 (40 + v3) = (k : Int) := by rw [w64_id (by omega) (by omega)]; exact hk
    simp only [s_l24Bent, e1, Option.bind_some, withK_eq, e2, cond_true, e3, ew]
    rw [j2]
    exact i1
end Go.Proofs.YtdnnnakjhehfkaaDoor
