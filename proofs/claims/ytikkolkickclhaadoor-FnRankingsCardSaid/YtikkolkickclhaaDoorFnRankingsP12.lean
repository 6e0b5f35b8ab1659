/-
  Plain lemmas on these functions. No conditions but those that each states.
-/
import Derived.Test.YtikkolkickclhaaDoorFnRankingsP11
namespace Go.Proofs.YtikkolkickclhaaDoor
set_option linter.unusedVariables false
set_option linter.unusedSimpArgs false
theorem ofInt_nat (m : Nat) : UInt8.ofInt (m : Int) = UInt8.ofNat m := by
  apply UInt8.toNat_inj.1
  have h1 := wrap_u8 (m : Int)
  have h2 : IntKind.u8.wrap (m : Int) = (m : Int) % 256 := by simp [IntKind.wrap, IntKind.bits, IntKind.signed]
  have h3 : (UInt8.ofNat m).toNat = m % 256 := by simp
  omega
theorem dec_l1 (kj : List UInt8 → Option Str) : ∀ (n N : Nat) (acc : List UInt8) (k : Int), n < N → k.natAbs < 10 ^ n → -9223372036854775808 ≤ k → k ≤ 9223372036854775807 → acc.length + n ≤ 1000 →
    s_l01Dec_l1 kj N acc k = kj ((if k.natAbs = 0 then [] else Lib.decDigits k.natAbs) ++ acc) := by
  intro n
  induction n with
  | zero =>
    intro N acc k hN hk _ _ _
    obtain ⟨N, rfl⟩ := pos_fuel hN
    have hk0 : k = 0 := by omega
    subst hk0
    simp [s_l01Dec_l1]
  | succ n ih =>
    intro N acc k hN hk h1 h2 h3
    obtain ⟨N, rfl⟩ := pos_fuel hN
    by_cases c : k = 0
    · subst c
      simp [s_l01Dec_l1]
    · have cb : (k != 0) = true := by simpa using c
      have hq : (Int.tdiv k 10).natAbs = k.natAbs / 10 := Int.natAbs_tdiv k 10
      have hu : k.natAbs ≤ 9223372036854775808 := by omega
      have hd : ∃ d : Int, d = ((k.natAbs % 10 : Nat) : Int) ∧ (bif decide (Int.tmod k 10 < 0) then w64 (0 - Int.tmod k 10) else Int.tmod k 10) = d := by
        refine ⟨_, rfl, ?_⟩
        rcases Int.natAbs_eq k with e | e
        · have e2 : Int.tmod k 10 = ((k.natAbs % 10 : Nat) : Int) := by
            rw [Int.tmod_eq_emod_of_nonneg (by omega)]; omega
          rw [e2]
          have : ¬ ((k.natAbs % 10 : Nat) : Int) < 0 := by omega
          simp only [this, decide_false, cond_false]
        · have e2 : Int.tmod k 10 = -((k.natAbs % 10 : Nat) : Int) := by
            have e3 : Int.tmod (-(k.natAbs : Int)) 10 = -(Int.tmod (k.natAbs : Int) 10) := Int.neg_tmod _ _
            have e4 : Int.tmod (k.natAbs : Int) 10 = (k.natAbs : Int) % 10 := Int.tmod_eq_emod_of_nonneg (by omega)
            have e5 : Int.tmod k 10 = Int.tmod (-(k.natAbs : Int)) 10 := congrArg (fun z => Int.tmod z 10) e
            omega
          rw [e2]
          by_cases z : -((k.natAbs % 10 : Nat) : Int) < 0
          · simp only [z, decide_true, cond_true]
            rw [w64_id (by omega) (by omega)]; omega
          · simp only [z, decide_false, cond_false]; omega
      obtain ⟨d, hd1, hd2⟩ := hd
      have hdw : w64 (48 + d) = ((48 + k.natAbs % 10 : Nat) : Int) := by rw [w64_id (by omega) (by omega)]; omega
      have hqw : w64 (Int.tdiv k 10) = Int.tdiv k 10 := w64_id (by omega) (by omega)
      have hih := ih N (UInt8.ofNat (48 + k.natAbs % 10) :: acc) (Int.tdiv k 10) (by omega) (by rw [hq, Nat.pow_succ] at *; omega) (by omega) (by omega) (by simp; omega)
      have hstep : s_l01Dec_l1 kj (N + 1) acc k = s_l01Dec_l1 kj N (UInt8.ofNat (48 + k.natAbs % 10) :: acc) (Int.tdiv k 10) := by
        have ha : app [UInt8.ofNat (48 + k.natAbs % 10)] acc = some (UInt8.ofNat (48 + k.natAbs % 10) :: acc) := app_some _ _ (by unfold LIM; simp; omega)
        simp only [s_l01Dec_l1, cb, cond_true, withK_eq]
        have : ∀ (b : Bool) (x y : Int) (f : Int → Option Str), (bif b then f x else f y) = f (bif b then x else y) := by intro b; cases b <;> intros <;> rfl
        rw [this _ _ _ (fun d11 => (app [UInt8.ofInt (w64 (48 + d11))] acc).bind fun l16 => s_l01Dec_l1 kj N l16 (w64 (Int.tdiv k 10))), hd2, hdw, ofInt_nat, ha, hqw]
        rfl
      rw [hstep, hih, hq]
      congr 1
      have hdd : Lib.decDigits k.natAbs = (if k.natAbs / 10 = 0 then [] else Lib.decDigits (k.natAbs / 10)) ++ [UInt8.ofNat (48 + k.natAbs % 10)] := by
        by_cases z : k.natAbs < 10
        · rw [if_pos (by omega), Lib.decDigits, dif_pos z, show k.natAbs % 10 = k.natAbs by omega]
          rfl
        · rw [if_neg (by omega), Lib.decDigits, dif_neg z]
      rw [if_neg (by omega : ¬ k.natAbs = 0), hdd, List.append_assoc]
      rfl
theorem Dec_eq (N : Nat) (n : Int) (h1 : -9223372036854775808 ≤ n) (h2 : n ≤ 9223372036854775807) (hN : 30 < N) : s_l01Dec N n = some (Lib.itoa n) ∧ i_Decimal n = some (Lib.itoa n) ∧ (Lib.itoa n).length ≤ 20 ∧ 1 ≤ (Lib.itoa n).length := by
  have hlen : ∀ u : Nat, u ≤ 9223372036854775808 → (Lib.decDigits u).length ≤ 19 := by
    intro u hu
    rw [Lib.decDigits_length]
    by_cases c : Lib.nDigits u ≤ 19
    · exact c
    · exfalso
      have h0 := Lib.nDigits_unique (Lib.nDigits u - 1) 
      have h3 := Lib.nDigits_pos u
      by_cases z : u < 10 ^ 19
      · have : ∀ (m v : Nat), v < 10 ^ (m + 1) → Lib.nDigits v ≤ m + 1 := by
          intro m
          induction m with
          | zero => intro v hv; rw [Lib.nDigits_small (by simpa using hv)]; omega
          | succ m ihm =>
            intro v hv
            by_cases g : v < 10
            · rw [Lib.nDigits_small g]; omega
            · rw [Lib.nDigits_big g]
              have := ihm (v / 10) (by rw [Nat.pow_succ] at hv; omega)
              omega
        have := this 18 u z
        omega
      · omega
  have hp : ∀ u : Nat, 1 ≤ (Lib.decDigits u).length := fun u => by rw [Lib.decDigits_length]; exact Lib.nDigits_pos u
  have hi : (Lib.itoa n).length ≤ 20 ∧ 1 ≤ (Lib.itoa n).length := by
    unfold Lib.itoa
    split
    · have := hlen n.natAbs (by omega)
      simp; omega
    · have := hlen n.toNat (by omega)
      have := hp n.toNat
      omega
  refine ⟨?_, ?_, hi.1, hi.2⟩
  · unfold s_l01Dec
    simp only [withK_eq]
    rw [dec_l1 _ 19 N [] n (by omega) (by omega) h1 h2 (by simp), List.append_nil]
    by_cases c : n = 0
    · subst c
      simp [Lib.itoa, Lib.decDigits]
    · have hne : ¬ n.natAbs = 0 := by omega
      rw [if_neg hne]
      have h5 := hp n.natAbs
      have h6 := hlen n.natAbs (by omega)
      have h7 : (((Lib.decDigits n.natAbs).length : Int) == 0) = false := by rw [beq_eq_false_iff_ne]; omega
      rw [h7, cond_false]
      unfold Lib.itoa
      by_cases z : n < 0
      · simp only [z, decide_true, cond_true, if_true]
        rw [cat_some _ _ (by unfold LIM; simp; omega)]
        rfl
      · simp only [z, decide_false, cond_false, if_false]
        rw [show n.natAbs = n.toNat by omega]
  · unfold i_Decimal fmtI
    rw [if_pos ⟨rfl, h1, h2⟩]
    rfl
end Go.Proofs.YtikkolkickclhaaDoor
