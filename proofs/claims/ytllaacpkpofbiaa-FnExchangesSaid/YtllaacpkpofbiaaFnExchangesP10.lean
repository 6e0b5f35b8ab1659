/-
  Plain lemmas on these functions. No conditions but those that each states.
-/
import Derived.Test.YtllaacpkpofbiaaFnExchangesP9
namespace Go.Proofs.Ytllaacpkpofbiaa
set_option linter.unusedVariables false
set_option linter.unusedSimpArgs false
/-! Marked letters in their order. -/
theorem ofInt_nat (m : Nat) : UInt8.ofInt (m : Int) = UInt8.ofNat m := by
  apply UInt8.toNat_inj.1
  have h1 := wrap_u8 (m : Int)
  have h2 : IntKind.u8.wrap (m : Int) = (m : Int) % 256 := by simp [IntKind.wrap, IntKind.bits, IntKind.signed]
  have h3 : (UInt8.ofNat m).toNat = m % 256 := by simp
  omega
def putC : Str → UInt8 → Str
  | [], c => [c]
  | x :: r, c => if x < c then x :: putC r c else if x == c then x :: r else c :: x :: r
theorem putC_len (l : Str) (c : UInt8) : (putC l c).length ≤ l.length + 1 := by
  induction l with
  | nil => simp [putC]
  | cons x r ih =>
    unfold putC; split
    · simp; omega
    · split <;> simp
theorem s_put_l1 (l : Str) (c : UInt8) (kj : Int → Option Str) (hl : l.length ≤ 1000) (hkj : ∀ k : Nat, k ≤ l.length → kj (k : Int) = (bif decide (k < l.length) && (l[k]?.getD 0 == c) then some l else some (l.take k ++ [c] ++ l.drop k))) : ∀ (n k N : Nat), k + n = l.length → n < N → s_l02PutLetter_l1 kj l [c] N (k : Int) = some (l.take k ++ putC (l.drop k) c) := by
  intro n
  induction n with
  | zero =>
    intro k N hk hN
    obtain ⟨N, rfl⟩ := pos_fuel hN
    have hz : ¬ (k : Int) < (l.length : Int) := by omega
    simp only [s_l02PutLetter_l1, hz, decide_false, andO_false, Option.bind_some, cond_false]
    rw [hkj k (by omega)]
    have h2 : ¬ k < l.length := by omega
    simp only [h2, decide_false, Bool.false_and, cond_false]
    rw [List.drop_eq_nil_of_le (by omega)]
    simp [putC]
  | succ n ih =>
    intro k N hk hN
    obtain ⟨N, rfl⟩ := pos_fuel hN
    have hz : (k : Int) < (l.length : Int) := by omega
    have hc : idx ([c] : Str) 0 = some c := rfl
    simp only [s_l02PutLetter_l1, hz, decide_true, andO_true]
    rw [idx_lt l k (by omega), hc, w64_nat k (by omega), ih (k + 1) N (by omega) (by omega), hkj k (by omega)]
    simp only [Option.bind_some]
    have h2 : k < l.length := by omega
    rw [List.drop_eq_getElem_cons h2]
    have ht := List.take_succ_eq_append_getElem h2
    simp only [putC, h2, decide_true, Bool.true_and, List.getElem?_eq_getElem, Option.getD_some]
    by_cases h3 : l[k] < c
    · simp only [h3, decide_true, cond_true, if_true]; rw [ht, List.append_assoc]; rfl
    · simp only [h3, decide_false, cond_false, if_false]
      cases h4 : l[k] == c
      · simp
      · simp only [cond_true, if_true]
        rw [← List.drop_eq_getElem_cons h2, List.take_append_drop]
theorem s_put (l : Str) (c : UInt8) (hl : l.length ≤ 1000) (N : Nat) (hN : 1000 < N) : s_l02PutLetter N l [c] = some (putC l c) := by
  unfold s_l02PutLetter
  simp only [withK_eq]
  have h := s_put_l1 l c (fun (k3 : Int) =>
    (andO (decide (k3 < (List.length l : Int))) ((idx l k3).bind fun c18 =>
    (idx ([c] : Str) 0).bind fun c20 =>
    some (c18 == c20))).bind fun t15 =>
    bif t15 then
    some l
    else
    (sub l 0 k3).bind fun s23 =>
    (cat s23 [c]).bind fun s25 =>
    (sub l k3 (List.length l : Int)).bind fun s27 =>
    (cat s25 s27).bind fun s29 =>
    some s29) hl (fun k hk => by
      have hc : idx ([c] : Str) 0 = some c := rfl
      have hs1 : sub l 0 (k : Int) = some (l.take k) := by rw [sub_some l 0 k (by omega) (by omega) (by omega)]; simp
      have hs2 : sub l (k : Int) (l.length : Int) = some (l.drop k) := by
        rw [sub_some l k _ (by omega) (by omega) (by omega)]
        have e1 : ((k : Int)).toNat = k := by omega
        have e2 : ((l.length : Int)).toNat = l.length := by omega
        rw [e1, e2, List.take_of_length_le (by rw [List.length_drop]; omega)]
      have hc1 : cat (l.take k) [c] = some (l.take k ++ [c]) := cat_some _ _ (by unfold LIM; rw [List.length_take]; simp; omega)
      have hc2 : cat (l.take k ++ [c]) (l.drop k) = some (l.take k ++ [c] ++ l.drop k) := cat_some _ _ (by unfold LIM; rw [List.length_append, List.length_take, List.length_drop]; simp; omega)
      by_cases h2 : k < l.length
      · have hz : (k : Int) < (l.length : Int) := by omega
        simp only [hz, h2, decide_true, andO_true, idx_lt l k h2, hc, hs1, hs2, hc1, hc2, Option.bind_some, Bool.true_and, List.getElem?_eq_getElem, Option.getD_some]
      · have hz : ¬ (k : Int) < (l.length : Int) := by omega
        simp only [hz, h2, decide_false, andO_false, hs1, hs2, hc1, hc2, Option.bind_some, Bool.false_and, cond_false]) l.length 0 N (by omega) (by omega)
  simpa using h
def Ris (l : Str) : Prop := l.Pairwise fun a b => a.toNat < b.toNat
theorem ris_ext : ∀ (a b : Str), Ris a → Ris b → (∀ x, x ∈ a ↔ x ∈ b) → a = b
  | [], [], _, _, _ => rfl
  | [], y :: b, _, _, h => by have := (h y).2 (by simp); simp at this
  | x :: a, [], _, _, h => by have := (h x).1 (by simp); simp at this
  | x :: a, y :: b, ha, hb, h => by
    have ha := List.pairwise_cons.1 ha
    have hb := List.pairwise_cons.1 hb
    have hxy : x = y := by
      have h1 := (h x).1 (by simp)
      have h2 := (h y).2 (by simp)
      rcases List.mem_cons.1 h1 with e | h1
      · exact e
      · rcases List.mem_cons.1 h2 with e | h2
        · exact e.symm
        · have := hb.1 x h1; have := ha.1 y h2; omega
    subst hxy
    rw [ris_ext a b ha.2 hb.2 fun z => ?_]
    constructor
    · intro hz
      rcases List.mem_cons.1 ((h z).1 (by simp [hz])) with e | h1
      · subst e; have := ha.1 z hz; omega
      · exact h1
    · intro hz
      rcases List.mem_cons.1 ((h z).2 (by simp [hz])) with e | h1
      · subst e; have := hb.1 z hz; omega
      · exact h1
theorem putC_mem (c x : UInt8) : ∀ l : Str, x ∈ putC l c ↔ x = c ∨ x ∈ l := by
  intro l
  induction l with
  | nil => simp [putC]
  | cons y r ih =>
    unfold putC
    split
    · simp only [List.mem_cons, ih]
      constructor
      · rintro (h | h | h)
        · exact .inr (.inl h)
        · exact .inl h
        · exact .inr (.inr h)
      · rintro (h | h | h)
        · exact .inr (.inl h)
        · exact .inl h
        · exact .inr (.inr h)
    · split
      · rename_i h
        have e : y = c := by simpa using h
        subst e
        simp
      · simp
theorem putC_ris (c : UInt8) : ∀ l : Str, Ris l → Ris (putC l c) := by
  intro l
  induction l with
  | nil => intro _; exact List.pairwise_singleton _ _
  | cons y r ih =>
    intro h
    have h' := List.pairwise_cons.1 h
    unfold putC
    split
    · rename_i hlt
      refine List.pairwise_cons.2 ⟨fun z hz => ?_, ih h'.2⟩
      rcases (putC_mem c z r).1 hz with e | hz
      · subst e; exact UInt8.lt_iff_toNat_lt.1 hlt
      · exact h'.1 z hz
    · split
      · exact h
      · rename_i hlt hne
        have h1 : ¬ y.toNat < c.toNat := fun g => hlt (UInt8.lt_iff_toNat_lt.2 g)
        have h2 : y.toNat ≠ c.toNat := fun g => hne (by simp [UInt8.toNat_inj.1 g])
        refine List.pairwise_cons.2 ⟨fun z hz => ?_, h⟩
        rcases List.mem_cons.1 hz with e | hz
        · subst e; omega
        · have := h'.1 z hz; omega
def ascF (t : List Bool) : Nat → Nat → Str
  | _, 0 => []
  | i, n + 1 => if t[i]?.getD false then UInt8.ofNat i :: ascF t (i + 1) n else ascF t (i + 1) n
theorem ascF_mem (t : List Bool) (c : UInt8) : ∀ (n i : Nat), i + n ≤ 256 → (c ∈ ascF t i n ↔ i ≤ c.toNat ∧ c.toNat < i + n ∧ t[c.toNat]?.getD false = true) := by
  intro n
  induction n with
  | zero => intro i _; simp only [ascF, List.not_mem_nil, false_iff]; omega
  | succ n ih =>
    intro i h
    unfold ascF
    have hi : (UInt8.ofNat i).toNat = i := by simp; omega
    have hc : c = UInt8.ofNat i ↔ c.toNat = i := by rw [← UInt8.toNat_inj, hi]
    split
    · rename_i hb
      rw [List.mem_cons, ih (i + 1) (by omega), hc]
      constructor
      · rintro (h | h)
        · rw [h]; exact ⟨by omega, by omega, hb⟩
        · exact ⟨by omega, by omega, h.2.2⟩
      · rintro ⟨h1, h2, h3⟩
        by_cases h4 : c.toNat = i
        · exact .inl h4
        · exact .inr ⟨by omega, by omega, h3⟩
    · rename_i hb
      rw [ih (i + 1) (by omega)]
      constructor
      · rintro h; exact ⟨by omega, by omega, h.2.2⟩
      · rintro ⟨h1, h2, h3⟩
        refine ⟨?_, by omega, h3⟩
        by_cases h4 : c.toNat = i
        · rw [h4] at h3; exact absurd h3 hb
        · omega
theorem ascF_ris (t : List Bool) : ∀ (n i : Nat), i + n ≤ 256 → Ris (ascF t i n) := by
  intro n
  induction n with
  | zero => intro i _; exact List.Pairwise.nil
  | succ n ih =>
    intro i h
    unfold ascF
    split
    · refine List.pairwise_cons.2 ⟨fun z hz => ?_, ih (i + 1) (by omega)⟩
      have := (ascF_mem t z n (i + 1) (by omega)).1 hz
      have hi : (UInt8.ofNat i).toNat = i := by simp; omega
      omega
    · exact ih (i + 1) (by omega)
theorem i_asc_l1 (t : List Bool) (ht : t.length = 256) (kj : List UInt8 → Option Str) (hk : ∀ l, kj l = some l) : ∀ (n i N : Nat) (l : List UInt8), i + n = 256 → n < N → l.length ≤ i → i_ascending_l1 kj t N l (i : Int) = some (l ++ ascF t i n) := by
  intro n
  induction n with
  | zero =>
    intro i N l hi hN hl
    obtain ⟨N, rfl⟩ := pos_fuel hN
    have hz : ¬ (i : Int) < 256 := by omega
    simp only [i_ascending_l1, hz, decide_false, cond_false, hk, ascF, List.append_nil]
  | succ n ih =>
    intro i N l hi hN hl
    obtain ⟨N, rfl⟩ := pos_fuel hN
    have hz : (i : Int) < 256 := by omega
    simp only [i_ascending_l1, hz, decide_true, cond_true, withK_eq]
    rw [idx_lt t i (by omega), w64_nat i (by omega), ofInt_nat]
    simp only [Option.bind_some, ascF, List.getElem?_eq_getElem (show i < t.length by omega), Option.getD_some]
    cases t[i]
    · simp only [cond_false, Bool.false_eq_true, if_false]
      exact ih (i + 1) N l (by omega) (by omega) (by omega)
    · simp only [cond_true, if_true]
      rw [app_some _ _ (by unfold LIM; simp; omega)]
      simp only [Option.bind_some]
      rw [ih (i + 1) N _ (by omega) (by omega) (by simp; omega), List.append_assoc]
      rfl
/-- a table marks letters -/
def Mrk (t : List Bool) (o : Str) : Prop := t.length = 256 ∧ Ris o ∧ ∀ c : UInt8, t[c.toNat]?.getD false = true ↔ c ∈ o
theorem Mrk.nil : Mrk (List.replicate 256 false) [] := ⟨List.length_replicate, List.Pairwise.nil, fun c => by
  have : c.toNat < 256 := c.toNat_lt
  rw [List.getElem?_replicate, if_pos this]
  exact ⟨fun h => (Bool.false_ne_true h).elim, fun h => (List.not_mem_nil h).elim⟩⟩
theorem Mrk.put {t : List Bool} {o : Str} (h : Mrk t o) (c : UInt8) : Mrk (t.set c.toNat true) (putC o c) := by
  obtain ⟨h1, h2, h3⟩ := h
  refine ⟨by rw [List.length_set]; exact h1, putC_ris c o h2, fun x => ?_⟩
  have hc : c.toNat < t.length := by rw [h1]; exact c.toNat_lt
  rw [putC_mem, ← h3 x]
  by_cases e : c.toNat = x.toNat
  · have e2 : x = c := (UInt8.toNat_inj.1 e).symm
    subst e2
    rw [List.getElem?_set_self hc]
    simp
  · rw [List.getElem?_set_ne e]
    have e2 : x ≠ c := fun g => e (by rw [g])
    simp [e2]
theorem Mrk.idx {t : List Bool} {o : Str} (h : Mrk t o) (c : UInt8) : ∃ b, idx t (c.toNat : Int) = some b := ⟨_, idx_lt t c.toNat (by rw [h.1]; exact c.toNat_lt)⟩
theorem Mrk.asc {t : List Bool} {o : Str} (h : Mrk t o) (N : Nat) (hN : 300 < N) : i_ascending N t = some o := by
  unfold i_ascending
  simp only [withK_eq]
  have e := i_asc_l1 t h.1 (fun l5 => some l5) (fun _ => rfl) 256 0 N [] (by omega) (by omega) (by simp)
  simp only [Int.natCast_zero, List.nil_append] at e
  rw [e]
  refine congrArg some (ris_ext _ _ (ascF_ris t 256 0 (by omega)) h.2.1 fun x => ?_)
  rw [ascF_mem t x 256 0 (by omega), h.2.2 x]
  have := x.toNat_lt
  constructor
  · exact fun g => g.2.2
  · exact fun g => ⟨by omega, by omega, g⟩
end Go.Proofs.Ytllaacpkpofbiaa
