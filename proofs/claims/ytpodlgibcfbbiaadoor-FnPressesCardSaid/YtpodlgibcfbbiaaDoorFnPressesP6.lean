/-
  Plain lemmas on these functions. No conditions but those that each states.
-/
import Derived.Test.YtpodlgibcfbbiaaDoorFnPressesP5
namespace Go.Proofs.YtpodlgibcfbbiaaDoor
set_option linter.unusedVariables false
set_option linter.unusedSimpArgs false
/-! Reading numerals. -/
def dg (c : UInt8) : Bool := decide (c ≥ 48) && decide (c ≤ 57)
def dv (a : Nat) (s : Str) : Nat := s.foldl (fun a c => 10 * a + (c.toNat - 48)) a
theorem dv_nil (a : Nat) : dv a [] = a := rfl
theorem dv_cons (a : Nat) (c : UInt8) (r : Str) : dv a (c :: r) = dv (10 * a + (c.toNat - 48)) r := by unfold dv; rw [List.foldl_cons]
theorem dg_iff (c : UInt8) : dg c = true ↔ 48 ≤ c.toNat ∧ c.toNat ≤ 57 := by
  unfold dg
  simp only [Bool.and_eq_true, decide_eq_true_eq, ge_iff_le, UInt8.le_iff_toNat_le]
  rfl
theorem dg_sub (c : UInt8) (h : dg c = true) : (c - 48).toNat = c.toNat - 48 := by
  have h := (dg_iff c).1 h
  rw [UInt8.toNat_sub]
  show (256 - 48 + c.toNat) % 256 = c.toNat - 48
  omega
theorem dv_bound : ∀ (r : Str) (a k : Nat), a < 10 ^ k → (∀ c ∈ r, dg c = true) → dv a r < 10 ^ (k + r.length)
  | [], a, k, h, _ => h
  | c :: r, a, k, h, hc => by
    have h1 := (dg_iff c).1 (hc c (by simp))
    rw [dv_cons]
    have := dv_bound r (10 * a + (c.toNat - 48)) (k + 1) (by rw [Nat.pow_succ]; omega) (fun x hx => hc x (by simp [hx]))
    simp only [List.length_cons]
    rw [show k + (r.length + 1) = k + 1 + r.length by omega]
    exact this
theorem pow18 : (10 : Nat) ^ 18 = 1000000000000000000 := rfl
theorem pow17 : (10 : Nat) ^ 17 = 100000000000000000 := rfl
theorem pow_mono {a b : Nat} (h : a ≤ b) : 10 ^ a ≤ 10 ^ b := Nat.pow_le_pow_right (by decide) h
theorem rd_l1 (K : Int → Option (Int × Bool)) (d : Str) (hd : d.length ≤ 18) : ∀ (n i N a : Nat), i + n = d.length → n < N → a < 10 ^ i → i_ReadDecimal_l1 K d N (a : Int) (i : Int) = if (d.drop i).all dg then K (dv a (d.drop i) : Int) else some (0, false) := by
  intro n
  induction n with
  | zero =>
    intro i N a h1 h2 h3
    obtain ⟨N, rfl⟩ := pos_fuel h2
    have hi : ¬ ((i : Int) < (d.length : Int)) := by omega
    rw [List.drop_of_length_le (by omega)]
    simp only [i_ReadDecimal_l1, hi, decide_false, cond_false, List.all_nil, if_true, dv_nil]
  | succ n ih =>
    intro i N a h1 h2 h3
    obtain ⟨N, rfl⟩ := pos_fuel h2
    have hi : (i : Int) < (d.length : Int) := by omega
    have hil : i < d.length := by omega
    have hb : a < 10 ^ 17 := Nat.lt_of_lt_of_le h3 (pow_mono (by omega))
    have e0 : i_isDigit d[i] = some (dg d[i]) := by unfold i_isDigit dg; rw [andO_some]; rfl
    rw [List.drop_eq_getElem_cons hil, List.all_cons]
    simp only [i_ReadDecimal_l1, hi, decide_true, cond_true, idx_lt d i hil, Option.bind_some, e0, w64_nat i (by omega)]
    cases h : dg d[i] with
    | false => simp
    | true =>
      have h4 := (dg_iff _).1 h
      have h5 : a < 100000000000000000 := by rw [pow17] at hb; exact hb
      have e1 : w64 (w64 (10 * (a : Int)) + ((d[i] - 48).toNat : Int)) = ((10 * a + (d[i].toNat - 48) : Nat) : Int) := by
        rw [dg_sub _ h, w64_id (x := 10 * (a : Int)) (by omega) (by omega), w64_id (by omega) (by omega)]
        omega
      simp only [Bool.not_true, cond_false, e1, Bool.true_and]
      rw [ih (i + 1) N (10 * a + (d[i].toNat - 48)) (by omega) (by omega) (by rw [Nat.pow_succ]; omega)]
      rfl
theorem sn_l1 (K : Int → Option (Int × Bool)) (d : Str) : ∀ (N : Nat) (a i : Int), s_l01Number_l1 K d N a i = i_ReadDecimal_l1 K d N a i := by
  intro N
  induction N with
  | zero => intro a i; rfl
  | succ N ih =>
    intro a i
    have e0 : ∀ c, s_l01Digit c = i_isDigit c := fun c => rfl
    simp only [s_l01Number_l1, i_ReadDecimal_l1, ih, e0]
/-- the part behind a sign -/
def body (s : Str) : Str := if s[0]? = some 45 then s.drop 1 else s
def sval (s : Str) : Int := if (body s).length < s.length then -(dv 0 (body s) : Int) else (dv 0 (body s) : Int)
/-- what a numeral says -/
def rdv (s : Str) : Int × Bool :=
  if (body s).length = 0 ∨ 18 < (body s).length then (0, false)
  else if (body s).all dg then
    (if Lib.itoa (sval s) = s then (sval s, true) else (0, false))
  else (0, false)
theorem sign_test (s : Str) (hs : s.length ≤ 1000) : (andO (decide ((List.length s : Int) > 0)) ((idx s 0).bind fun c8 => some (c8 == (45 : UInt8)))) = some (decide (s[0]? = some 45)) ∧ (andO (s != []) ((idx s 0).bind fun c8 => some (c8 == (45 : UInt8)))) = some (decide (s[0]? = some 45)) := by
  match s with
  | [] => exact ⟨rfl, rfl⟩
  | c :: r =>
    have e1 : decide (((c :: r : Str).length : Int) > 0) = true := by simp <;> omega
    have e2 : ((c :: r : Str) != []) = true := rfl
    have e3 : idx (c :: r) 0 = some c := rfl
    have e4 : decide ((c :: r : Str)[0]? = some 45) = (c == 45) := by rw [Bool.eq_iff_iff]; simp
    rw [e1, e2, e3, e4]
    exact ⟨rfl, rfl⟩
theorem Read_ok (N : Nat) (s : Str) (hs : s.length ≤ 1000) (hN : 100 ≤ N) : i_ReadDecimal N s = some (rdv s) ∧ s_l01Number N s = some (rdv s) := by
  obtain ⟨t1, t2⟩ := sign_test s hs
  have hsub : s[0]? = some 45 → sub s 1 (s.length : Int) = some (s.drop 1) := fun h => by
    have := lt_of_some h
    rw [sub_some _ _ _ (by omega) (by omega) (by omega)]
    congr 1
    show (s.drop 1).take (s.length - 1) = s.drop 1
    rw [List.take_of_length_le (by simp)]
  have key : ∀ d : Str, d.length ≤ s.length → d = body s →
      ((orO ((List.length d : Int) == 0) (some (decide ((List.length d : Int) > 18)))).bind fun t13 =>
        bif t13 then some (0, false) else
        i_ReadDecimal_l1 (fun n17 => bif decide ((List.length d : Int) < (List.length s : Int)) then
            ((i_Decimal (w64 (0 - n17))).bind fun r34 => bif (r34 != s) then some (0, false) else some (w64 (0 - n17), true)) else
            ((i_Decimal n17).bind fun r34 => bif (r34 != s) then some (0, false) else some (n17, true))) d N 0 0) = some (rdv s) ∧
      ((orO (decide ((List.length d : Int) < 1)) (some (decide ((List.length d : Int) > 18)))).bind fun t13 =>
        bif t13 then some (0, false) else
        s_l01Number_l1 (fun n17 => bif decide ((List.length d : Int) < (List.length s : Int)) then
            ((s_l01Dec N (w64 (0 - n17))).bind fun r34 => bif (r34 != s) then some (0, false) else some (w64 (0 - n17), true)) else
            ((s_l01Dec N n17).bind fun r34 => bif (r34 != s) then some (0, false) else some (n17, true))) d N 0 0) = some (rdv s) := fun d hdl hd => by
    unfold rdv sval
    rw [← hd, orO_some, orO_some, Option.bind_some, Option.bind_some]
    by_cases h0 : d.length = 0
    · have e1 : ((d.length : Int) == 0) = true := by rw [h0]; rfl
      have e2 : decide ((d.length : Int) < 1) = true := by rw [h0]; rfl
      rw [e1, e2, if_pos (.inl h0)]
      exact ⟨rfl, rfl⟩
    · have e1 : ((d.length : Int) == 0) = false := by rw [beq_eq_false_iff_ne]; omega
      have e2 : decide ((d.length : Int) < 1) = false := by simp; omega
      by_cases h18 : 18 < d.length
      · have e3 : decide ((d.length : Int) > 18) = true := by simp; omega
        rw [e1, e2, e3, if_pos (.inr h18)]
        exact ⟨rfl, rfl⟩
      · have e3 : decide ((d.length : Int) > 18) = false := by simp; omega
        rw [e1, e2, e3, if_neg (by omega), Bool.or_self, cond_false, cond_false, sn_l1]
        have l1 := fun K => rd_l1 K d (by omega) d.length 0 N 0 (by omega) (by omega) (by decide)
        rw [show ((0 : Nat) : Int) = 0 from rfl, List.drop_zero] at l1
        rw [l1, l1]
        cases ha : d.all dg with
        | false => exact ⟨rfl, rfl⟩
        | true =>
          have hb := dv_bound d 0 0 (by decide) (fun c hc => List.all_eq_true.1 ha c hc)
          have hb2 : dv 0 d < 10 ^ 18 := Nat.lt_of_lt_of_le hb (pow_mono (by omega))
          rw [pow18] at hb2
          have ew : w64 (0 - (dv 0 d : Int)) = -(dv 0 d : Int) := by rw [w64_id (by omega) (by omega)]; omega
          obtain ⟨q1, q2, _⟩ := Dec_eq N (-(dv 0 d : Int)) (by omega) (by omega) (by omega)
          obtain ⟨q3, q4, _⟩ := Dec_eq N (dv 0 d : Int) (by omega) (by omega) (by omega)
          simp only [if_true, ew, q1, q2, q3, q4, Option.bind_some]
          by_cases hl : d.length < s.length
          · have e4 : decide ((d.length : Int) < (s.length : Int)) = true := by simp; omega
            simp only [e4, cond_true, hl, if_true]
            by_cases he : Lib.itoa (-(dv 0 d : Int)) = s
            · have : (Lib.itoa (-(dv 0 d : Int)) != s) = false := by simp [he]
              rw [this, if_pos he]; exact ⟨rfl, rfl⟩
            · have : (Lib.itoa (-(dv 0 d : Int)) != s) = true := by simpa using he
              rw [this, if_neg he]; exact ⟨rfl, rfl⟩
          · have e4 : decide ((d.length : Int) < (s.length : Int)) = false := by simp; omega
            simp only [e4, cond_false, hl, if_false]
            by_cases he : Lib.itoa (dv 0 d : Int) = s
            · have : (Lib.itoa (dv 0 d : Int) != s) = false := by simp [he]
              rw [this, if_pos he]; exact ⟨rfl, rfl⟩
            · have : (Lib.itoa (dv 0 d : Int) != s) = true := by simpa using he
              rw [this, if_neg he]; exact ⟨rfl, rfl⟩
  unfold i_ReadDecimal s_l01Number
  simp only [withK_eq]
  rw [t1, t2, Option.bind_some, Option.bind_some]
  by_cases h : s[0]? = some 45
  · rw [decide_eq_true h, cond_true, cond_true, hsub h, Option.bind_some, Option.bind_some]
    exact key (s.drop 1) (by simp) (by unfold body; rw [if_pos h])
  · rw [decide_eq_false h, cond_false, cond_false]
    exact key s (Nat.le_refl _) (by unfold body; rw [if_neg h])
theorem rdv_sound {s : Str} (h : (rdv s).2 = true) : s = Lib.itoa (rdv s).1 := by
  unfold rdv at h ⊢
  split at h
  · cases h
  · rename_i h1
    rw [if_neg h1]
    split at h
    · rename_i h2
      rw [if_pos h2]
      split at h
      · rename_i h3
        rw [if_pos h3]
        exact h3.symm
      · cases h
    · cases h
theorem rdv_false {s : Str} (h : (rdv s).2 = false) : rdv s = (0, false) := by
  unfold rdv at h ⊢
  split
  · rfl
  · rename_i h1
    rw [if_neg h1] at h
    split
    · rename_i h2
      rw [if_pos h2] at h
      split
      · rename_i h3
        rw [if_pos h3] at h
        cases h
      · rfl
    · rfl
theorem dv_snoc (c : UInt8) : ∀ (r : Str) (a : Nat), dv a (r ++ [c]) = 10 * dv a r + (c.toNat - 48)
  | [], a => rfl
  | x :: r, a => by rw [List.cons_append, dv_cons, dv_cons]; exact dv_snoc c r _
theorem ofNat_dg (k : Nat) (h : k < 10) : dg (UInt8.ofNat (48 + k)) = true ∧ (UInt8.ofNat (48 + k)).toNat - 48 = k := by
  have : (UInt8.ofNat (48 + k)).toNat = 48 + k := by simp; omega
  exact ⟨(dg_iff _).2 (by omega), by omega⟩
theorem decDigits_ok (u : Nat) : (∀ c ∈ Lib.decDigits u, dg c = true) ∧ dv 0 (Lib.decDigits u) = u := by
  induction u using Nat.strongRecOn with
  | _ u ih =>
    by_cases h : u < 10
    · rw [Lib.decDigits, dif_pos h]
      obtain ⟨h1, h2⟩ := ofNat_dg u h
      refine ⟨fun c hc => by rw [List.mem_singleton.1 hc]; exact h1, ?_⟩
      show 10 * 0 + _ = u
      omega
    · rw [Lib.decDigits, dif_neg h]
      obtain ⟨h1, h2⟩ := ih (u / 10) (by omega)
      obtain ⟨h3, h4⟩ := ofNat_dg (u % 10) (by omega)
      refine ⟨fun c hc => ?_, ?_⟩
      · rcases List.mem_append.1 hc with hc | hc
        · exact h1 c hc
        · rw [List.mem_singleton.1 hc]; exact h3
      · rw [dv_snoc, h2, h4]; omega
theorem itoa_nat (u : Nat) : Lib.itoa (u : Int) = Lib.decDigits u := by unfold Lib.itoa; rw [if_neg (by omega)]; simp
theorem rdv_itoa (u : Nat) (h : u < 1000000) : rdv (Lib.itoa (u : Int)) = ((u : Int), true) := by
  obtain ⟨h1, h2⟩ := decDigits_ok u
  have hp : 1 ≤ (Lib.decDigits u).length := by rw [Lib.decDigits_length]; exact Lib.nDigits_pos u
  have h7 : (Lib.decDigits u).length ≤ 18 := by
    rw [Lib.decDigits_length]
    have : ∀ (m v : Nat), v < 10 ^ (m + 1) → Lib.nDigits v ≤ m + 1 := by
      intro m
      induction m with
      | zero => intro v hv; rw [Lib.nDigits_small (by simpa using hv)]; omega
      | succ m ihm =>
        intro v hv
        by_cases g : v < 10
        · rw [Lib.nDigits_small g]; omega
        · rw [Lib.nDigits_big g]
          have := ihm (v / 10) (by rw [Nat.pow_succ] at hv; omega)
          omega
    have := this 5 u (by omega)
    omega
  have hb : body (Lib.itoa (u : Int)) = Lib.decDigits u := by
    rw [itoa_nat]
    unfold body
    rw [if_neg]
    intro e
    have hm := List.mem_of_getElem? e
    have := h1 _ hm
    revert this
    decide
  rw [itoa_nat] at hb
  have hs : sval (Lib.decDigits u) = (u : Int) := by unfold sval; rw [hb, if_neg (by omega), h2]
  rw [itoa_nat]
  unfold rdv
  rw [hb, if_neg (by omega), if_pos (List.all_eq_true.2 h1), hs, itoa_nat, if_pos rfl]
theorem itoa_chars (u : Nat) : ∀ c ∈ Lib.itoa (u : Int), c ≠ 32 ∧ c ≠ 47 ∧ c ≠ 115 := by
  rw [itoa_nat]
  intro c hc
  have := (dg_iff c).1 ((decDigits_ok u).1 c hc)
  refine ⟨?_, ?_, ?_⟩ <;> rintro rfl <;> revert this <;> decide
end Go.Proofs.YtpodlgibcfbbiaaDoor
