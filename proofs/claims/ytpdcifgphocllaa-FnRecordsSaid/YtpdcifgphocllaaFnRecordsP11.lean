/-
  Plain lemmas on these functions. No conditions but those that each states.
-/
import Derived.Test.YtpdcifgphocllaaFnRecordsP10
namespace Go.Proofs.Ytpdcifgphocllaa
set_option linter.unusedVariables false
set_option linter.unusedSimpArgs false
/-! The law of records. -/
theorem f6_l1 (l : List Int) (hl : l.length ≤ 100) (kj : Option Bool) : ∀ (q x N : Nat), x + q = l.length → q < N → w_f6ints_l1 kj l l N (x : Int) = kj := by
  intro q
  induction q with
  | zero =>
    intro x N hx hN
    obtain ⟨N, rfl⟩ := pos_fuel hN
    rw [w_f6ints_l1, decide_eq_false (by omega : ¬ (x : Int) < (l.length : Int)), cond_false]
  | succ q ih =>
    intro x N hx hN
    obtain ⟨N, rfl⟩ := pos_fuel hN
    have hlt : x < l.length := by omega
    have hne : (l[x] != l[x]) = false := by simp
    rw [w_f6ints_l1, decide_eq_true (by omega : (x : Int) < (l.length : Int)), cond_true, idx_lt l x hlt, Option.bind_some, Option.bind_some, hne, cond_false, w64_nat x (by omega)]
    exact ih (x + 1) N (by omega) (by omega)
theorem ints_ok (l : List Int) (hl : l.length ≤ 100) (N : Nat) (hN : 200 < N) : w_f6ints N l l = some true := by
  unfold w_f6ints
  have hne : ((l.length : Int) != (l.length : Int)) = false := by simp
  rw [hne, cond_false, withK_n]
  exact f6_l1 l hl (some true) l.length 0 N (by omega) (by omega)
theorem same_l1 (a b : List Trial) (hab : a.length = b.length) (hl : a.length ≤ 100) (kj : Option Bool) (hk : ∃ v, kj = some v) : ∀ (q i N : Nat), i + q = a.length → q < N → ∃ v, i_SameTrials_l1 kj a b N (i : Int) = some v ∧ s_SameTrials_l1 kj a b N (i : Int) = some v := by
  intro q
  induction q with
  | zero =>
    intro i N h1 h2
    obtain ⟨N, rfl⟩ := pos_fuel h2
    have hz : ¬ (i : Int) < (a.length : Int) := by omega
    obtain ⟨v, rfl⟩ := hk
    exact ⟨v, by simp only [i_SameTrials_l1, hz, decide_false, cond_false], by simp only [s_SameTrials_l1, hz, decide_false, cond_false]⟩
  | succ q ih =>
    intro i N h1 h2
    obtain ⟨N, rfl⟩ := pos_fuel h2
    have hi : i < a.length := by omega
    have hz : (i : Int) < (a.length : Int) := by omega
    simp only [i_SameTrials_l1, s_SameTrials_l1, hz, decide_true, cond_true, idx_lt a i hi, idx_lt b i (by omega), Option.bind_some, w64_nat i (by omega)]
    cases Trial.beq a[i] b[i]
    · exact ⟨false, rfl, rfl⟩
    · exact ih (i + 1) N (by omega) (by omega)
theorem same_ok (a b : List Trial) (hl : a.length ≤ 100) (N : Nat) (hN : 200 < N) : ∃ v, i_SameTrials N a b = some v ∧ s_SameTrials N a b = some v := by
  unfold i_SameTrials s_SameTrials
  by_cases h : a.length = b.length
  · have hne : ((a.length : Int) != (b.length : Int)) = false := by simp [h]
    rw [hne]
    simp only [cond_false, withK_n]
    exact same_l1 a b h hl _ ⟨_, rfl⟩ a.length 0 N (by omega) (by omega)
  · have hne : ((a.length : Int) != (b.length : Int)) = true := by rw [bne_iff_ne]; omega
    rw [hne]
    exact ⟨false, rfl, rfl⟩
theorem cnt_succ (i : Nat) (f : Int → Bool) : (rng (i + 1)).countP f = (rng i).countP f + (bif f i then 1 else 0) := by
  rw [rng_succ, List.countP_append, List.countP_singleton]
  cases f i <;> rfl
theorem cnt_le (i : Nat) (f : Int → Bool) : (rng i).countP f ≤ i := by
  have := List.countP_le_length (p := f) (l := rng i)
  rw [rng_len] at this; exact this
theorem w_l1 (r7 : List Trial × Int) (H : OKL r7.1 r7.2) (r18 r22 : Int × Int) (f m : Nat) (h18 : r18.1 = f) (h22 : r22.1 = m) (hf : f < r7.1.length) (hm : m < r7.1.length) (hmax : ∀ j : Nat, j < r7.1.length → lt_ r7.1 r7.2 f j = false) (kj : Int → Int → Option Bool) :
    ∀ (q i N : Nat), i + q = r7.1.length → q < N → w_FnRecords_l1 kj r7 r18 r22 N ((rng i).countP (fun x => lt_ r7.1 r7.2 x m) : Nat) ((rng i).countP (fun x => lt_ r7.1 r7.2 m x) : Nat) (i : Int) = kj ((rng r7.1.length).countP (fun x => lt_ r7.1 r7.2 x m) : Nat) ((rng r7.1.length).countP (fun x => lt_ r7.1 r7.2 m x) : Nat) := by
  intro q
  induction q with
  | zero =>
    intro i N h1 h2
    obtain ⟨N, rfl⟩ := pos_fuel h2
    have hz : ¬ (i : Int) < (r7.1.length : Int) := by omega
    have e : i = r7.1.length := by omega
    simp only [w_FnRecords_l1, hz, decide_false, cond_false]
    rw [e]
  | succ q ih =>
    intro i N h1 h2
    obtain ⟨N, rfl⟩ := pos_fuel h2
    have hi : i < r7.1.length := by omega
    have hz : (i : Int) < (r7.1.length : Int) := by omega
    have hn := H.n
    have a1 := (at_ok H i f hi hf).2.2
    have a2 := (at_ok H m i hm hi).2.2
    have a3 := (at_ok H i m hi hm).2.2
    rw [hmax i hi] at a1
    have c1 := cnt_le i (fun x => lt_ r7.1 r7.2 x m)
    have c2 := cnt_le i (fun x => lt_ r7.1 r7.2 m x)
    have d1 := cnt_succ i (fun x => lt_ r7.1 r7.2 x m)
    have d2 := cnt_succ i (fun x => lt_ r7.1 r7.2 m x)
    have ih := ih (i + 1) N (by omega) (by omega)
    simp only [w_FnRecords_l1, hz, decide_true, cond_true, idx_lt _ i hi, h18, h22, idx_lt _ f hf, idx_lt _ m hm, Option.bind_some, a1, a2, a3, cond_false, withK_n, w64_nat i (by omega)]
    rw [d1, d2] at ih
    rw [← ih]
    cases lt_ r7.1 r7.2 i m <;> cases lt_ r7.1 r7.2 m i <;> simp only [cond_true, cond_false, Nat.add_zero] <;> (try rw [w64_nat _ (by omega)]) <;> (try rw [w64_nat _ (by omega)])
theorem w_l2 (r7 : List Trial × Int) (H : OKL r7.1 r7.2) (r26 : Int × Int × Int) (a b : Nat) (h1 : r26.1 = a) (h2 : r26.2.1 = b) (hab : a + b ≤ r7.1.length) (hr : Ris r7.1 r7.2 a (a + b)) :
    ∀ (q i N : Nat), a ≤ i → (i + 1 + q = a + b ∨ q = 0 ∧ a + b ≤ i + 1) → q < N → w_FnRecords_l2 (some true) r7 r26 N ((i + 1 : Nat) : Int) = some true := by
  intro q
  have hn := H.n
  have e0 : w64 (r26.1 + r26.2.1) = ((a + b : Nat) : Int) := by rw [h1, h2, w64_id (by omega) (by omega)]; omega
  induction q with
  | zero =>
    intro i N ha h3 h4
    obtain ⟨N, rfl⟩ := pos_fuel h4
    have hz : ¬ ((i + 1 : Nat) : Int) < ((a + b : Nat) : Int) := by omega
    simp only [w_FnRecords_l2, e0, hz, decide_false, cond_false]
  | succ q ih =>
    intro i N ha h3 h4
    obtain ⟨N, rfl⟩ := pos_fuel h4
    have hz : ((i + 1 : Nat) : Int) < ((a + b : Nat) : Int) := by omega
    have hi : i + 1 < r7.1.length := by omega
    have e1 : w64 (((i + 1 : Nat) : Int) - 1) = (i : Int) := by rw [w64_id (by omega) (by omega)]; omega
    have a1 := (at_ok H (i + 1) i hi (by omega)).2.2
    rw [hr i ha (by omega)] at a1
    simp only [w_FnRecords_l2, e0, hz, decide_true, cond_true, idx_lt _ (i + 1) hi, e1, idx_lt _ i (Nat.lt_of_succ_lt hi), Option.bind_some, a1, Bool.not_true, cond_false, w64_nat (i + 1) (by omega)]
    exact ih (i + 1) N (by omega) (by omega) (by omega)
theorem law_FnRecords (code : List UInt8) (hlen : wfL wfByte code) : ∃ N, w_FnRecords N code = some true := by
  have _ := hlen
  refine ⟨2000, ?_⟩
  suffices h : ∀ N, 1900 < N → w_FnRecords N code = some true from h 2000 (by omega)
  intro N hN
  unfold w_FnRecords w_f6big
  rw [Option.bind_some]
  cases decide ((code.length : Int) > 4096) with
  | true => rfl
  | false =>
    rw [cond_false]
    obtain ⟨r7, d1, d2⟩ := dRecords code N (by omega)
    obtain ⟨r28, e1, e2, e3⟩ := dSame code N (by omega)
    obtain ⟨rec, c, f, m, a, b, d, g1, g2, g3, g4, g5, g6, g7, g8, g9, g10⟩ := all_ok r7.1 d2 r7.2 N (by omega)
    obtain ⟨v, s1, s2⟩ := same_ok r28.1 r28.2 (by omega) N (by omega)
    obtain ⟨v1, _, v3⟩ := val_ok r7.1 (by omega) N (by omega)
    have f1 := ints_ok rec (by omega) N (by omega)
    have bn : ∀ x : Int, (x != x) = false := fun x => by simp
    have bb : ∀ x : Bool, (x != x) = false := fun x => by simp
    rw [d1, Option.bind_some]
    simp only [g1, g2, g3, g4, g5, g6, g7, g8, e1, s1, s2, v1, v3, f1, Option.bind_some, bn, bb, orO_some, Bool.not_true, Bool.or_self, cond_false, withK_n]
    by_cases hd : d = 0
    · obtain ⟨f', m', a', b', rfl, rfl, rfl, rfl, S⟩ := g10 hd
      obtain ⟨H, hr, ⟨k1, k2, k3⟩, ⟨k4, k5, k6⟩, ⟨k7, k8⟩⟩ := S
      subst hd
      have hrl : rec.length = (rc r7.1 r7.2 (r7.1.length - 1) 1 0).length + 1 := by rw [hr]; rfl
      have z1 : ((rec.length : Int) == 0) = false := by rw [beq_eq_false_iff_ne]; omega
      have z2 : idx rec (w64 ((rec.length : Int) - 1)) = some (f' : Int) := by
        rw [w64_id (by omega) (by omega), show (rec.length : Int) - 1 = ((rec.length - 1 : Nat) : Int) by omega, idx_nat]; exact k3
      have z3 : idx rec 0 = some 0 := by rw [hr]; rfl
      have hn := H.n
      have l1 := fun kj => w_l1 r7 H ((f' : Int), (0 : Int)) ((m' : Int), (0 : Int)) f' m' rfl rfl k1 k4 k2 kj r7.1.length 0 N (by omega) (by omega)
      have l2 := w_l2 r7 H ((a' : Int), (b' : Int), (0 : Int)) a' b' rfl rfl k7 k8 (b' - 1) a' N (Nat.le_refl _) (by omega) (by omega)
      rw [show rng 0 = [] from rfl] at l1
      simp only [List.countP_nil] at l1
      rw [show ((0 : Nat) : Int) = 0 from rfl] at l1
      simp only [z1, z2, z3, orO_false, Option.bind_some, bn, orO_some, Bool.or_self, cond_false, l1]
      have w1 : decide (w64 (2 * (((rng r7.1.length).countP (fun x => lt_ r7.1 r7.2 x m') : Nat) : Int)) ≥ (r7.1.length : Int)) = false := by
        rw [w64_id (by omega) (by omega)]; exact decide_eq_false (by omega)
      have w2 : decide (w64 (2 * (((rng r7.1.length).countP (fun x => lt_ r7.1 r7.2 m' x) : Nat) : Int)) > (r7.1.length : Int)) = false := by
        rw [w64_id (by omega) (by omega)]; exact decide_eq_false (by omega)
      rw [w1, w2, w64_nat a' (by omega)]
      exact l2
    · have z : (d != 0) = true := by simpa using hd
      rw [z]; rfl
end Go.Proofs.Ytpdcifgphocllaa
