/-
  Plain lemmas on these functions. No conditions but those that each states.
-/
import Derived.Test.YtpodlgibcfbbiaaDoorFnPressesP13
namespace Go.Proofs.YtpodlgibcfbbiaaDoor
set_option linter.unusedVariables false
set_option linter.unusedSimpArgs false
/-! Marked letters. -/
def Ris (l : Str) : Prop := l.Pairwise fun a b => a.toNat < b.toNat
theorem ris_ext : ∀ (a b : Str), Ris a → Ris b → (∀ x, x ∈ a ↔ x ∈ b) → a = b
  | [], [], _, _, _ => rfl
  | [], y :: b, _, _, h => by have := (h y).2 (by simp); simp at this
  | x :: a, [], _, _, h => by have := (h x).1 (by simp); simp at this
  | x :: a, y :: b, ha, hb, h => by
    have ha := List.pairwise_cons.1 ha
    have hb := List.pairwise_cons.1 hb
    have hxy : x = y := by
      have h1 := (h x).1 (by simp)
      have h2 := (h y).2 (by simp)
      rcases List.mem_cons.1 h1 with e | h1
      · exact e
      · rcases List.mem_cons.1 h2 with e | h2
        · exact e.symm
        · have := hb.1 x h1; have := ha.1 y h2; omega
    subst hxy
    rw [ris_ext a b ha.2 hb.2 fun z => ?_]
    constructor
    · intro hz
      rcases List.mem_cons.1 ((h z).1 (by simp [hz])) with e | h1
      · subst e; have := ha.1 z hz; omega
      · exact h1
    · intro hz
      rcases List.mem_cons.1 ((h z).2 (by simp [hz])) with e | h1
      · subst e; have := hb.1 z hz; omega
      · exact h1
theorem putC_mem (c x : UInt8) : ∀ l : Str, x ∈ putC l c ↔ x = c ∨ x ∈ l := by
  intro l
  induction l with
  | nil => simp [putC]
  | cons y r ih =>
    unfold putC
    split
    · simp only [List.mem_cons, ih]
      constructor
      · rintro (h | h | h)
        · exact .inr (.inl h)
        · exact .inl h
        · exact .inr (.inr h)
      · rintro (h | h | h)
        · exact .inr (.inl h)
        · exact .inl h
        · exact .inr (.inr h)
    · split
      · rename_i h
        have e : y = c := by simpa using h
        subst e
        simp
      · simp
theorem putC_ris (c : UInt8) : ∀ l : Str, Ris l → Ris (putC l c) := by
  intro l
  induction l with
  | nil => intro _; exact List.pairwise_singleton _ _
  | cons y r ih =>
    intro h
    have h' := List.pairwise_cons.1 h
    unfold putC
    split
    · rename_i hlt
      refine List.pairwise_cons.2 ⟨fun z hz => ?_, ih h'.2⟩
      rcases (putC_mem c z r).1 hz with e | hz
      · subst e; exact UInt8.lt_iff_toNat_lt.1 hlt
      · exact h'.1 z hz
    · split
      · exact h
      · rename_i hlt hne
        have h1 : ¬ y.toNat < c.toNat := fun g => hlt (UInt8.lt_iff_toNat_lt.2 g)
        have h2 : y.toNat ≠ c.toNat := fun g => hne (by simp [UInt8.toNat_inj.1 g])
        refine List.pairwise_cons.2 ⟨fun z hz => ?_, h⟩
        rcases List.mem_cons.1 hz with e | hz
        · subst e; omega
        · have := h'.1 z hz; omega
def ascF (t : List Bool) : Nat → Nat → Str
  | _, 0 => []
  | i, n + 1 => if t[i]?.getD false then UInt8.ofNat i :: ascF t (i + 1) n else ascF t (i + 1) n
theorem ascF_mem (t : List Bool) (c : UInt8) : ∀ (n i : Nat), i + n ≤ 256 → (c ∈ ascF t i n ↔ i ≤ c.toNat ∧ c.toNat < i + n ∧ t[c.toNat]?.getD false = true) := by
  intro n
  induction n with
  | zero => intro i _; simp only [ascF, List.not_mem_nil, false_iff]; omega
  | succ n ih =>
    intro i h
    unfold ascF
    have hi : (UInt8.ofNat i).toNat = i := by simp; omega
    have hc : c = UInt8.ofNat i ↔ c.toNat = i := by rw [← UInt8.toNat_inj, hi]
    split
    · rename_i hb
      rw [List.mem_cons, ih (i + 1) (by omega), hc]
      constructor
      · rintro (h | h)
        · rw [h]; exact ⟨by omega, by omega, hb⟩
        · exact ⟨by omega, by omega, h.2.2⟩
      · rintro ⟨h1, h2, h3⟩
        by_cases h4 : c.toNat = i
        · exact .inl h4
        · exact .inr ⟨by omega, by omega, h3⟩
    · rename_i hb
      rw [ih (i + 1) (by omega)]
      constructor
      · rintro h; exact ⟨by omega, by omega, h.2.2⟩
      · rintro ⟨h1, h2, h3⟩
        refine ⟨?_, by omega, h3⟩
        by_cases h4 : c.toNat = i
        · rw [h4] at h3; exact absurd h3 hb
        · omega
theorem ascF_ris (t : List Bool) : ∀ (n i : Nat), i + n ≤ 256 → Ris (ascF t i n) := by
  intro n
  induction n with
  | zero => intro i _; exact List.Pairwise.nil
  | succ n ih =>
    intro i h
    unfold ascF
    split
    · refine List.pairwise_cons.2 ⟨fun z hz => ?_, ih (i + 1) (by omega)⟩
      have := (ascF_mem t z n (i + 1) (by omega)).1 hz
      have hi : (UInt8.ofNat i).toNat = i := by simp; omega
      omega
    · exact ih (i + 1) (by omega)
theorem i_asc_l1 (t : List Bool) (ht : t.length = 256) (kj : List UInt8 → Option Str) (hk : ∀ l, kj l = some l) : ∀ (n i N : Nat) (l : List UInt8), i + n = 256 → n < N → l.length ≤ i → i_ascending_l1 kj t N l (i : Int) = some (l ++ ascF t i n) := by
  intro n
  induction n with
  | zero =>
    intro i N l hi hN hl
    obtain ⟨N, rfl⟩ := pos_fuel hN
    have hz : ¬ (i : Int) < 256 := by omega
    simp only [i_ascending_l1, hz, decide_false, cond_false, hk, ascF, List.append_nil]
  | succ n ih =>
    intro i N l hi hN hl
    obtain ⟨N, rfl⟩ := pos_fuel hN
    have hz : (i : Int) < 256 := by omega
    simp only [i_ascending_l1, hz, decide_true, cond_true, withK_eq]
    rw [idx_lt t i (by omega), w64_nat i (by omega), ofInt_nat]
    simp only [Option.bind_some, ascF, List.getElem?_eq_getElem (show i < t.length by omega), Option.getD_some]
    cases t[i]
    · simp only [cond_false, Bool.false_eq_true, if_false]
      exact ih (i + 1) N l (by omega) (by omega) (by omega)
    · simp only [cond_true, if_true]
      rw [app_some _ _ (by unfold LIM; simp; omega)]
      simp only [Option.bind_some]
      rw [ih (i + 1) N _ (by omega) (by omega) (by simp; omega), List.append_assoc]
      rfl
/-- a table marks letters -/
def Mrk (t : List Bool) (o : Str) : Prop := t.length = 256 ∧ Ris o ∧ ∀ c : UInt8, t[c.toNat]?.getD false = true ↔ c ∈ o
theorem Mrk.nil : Mrk (List.replicate 256 false) [] := ⟨List.length_replicate, List.Pairwise.nil, fun c => by
  have : c.toNat < 256 := c.toNat_lt
  rw [List.getElem?_replicate, if_pos this]
  exact ⟨fun h => (Bool.false_ne_true h).elim, fun h => (List.not_mem_nil h).elim⟩⟩
theorem Mrk.put {t : List Bool} {o : Str} (h : Mrk t o) (c : UInt8) : Mrk (t.set c.toNat true) (putC o c) := by
  obtain ⟨h1, h2, h3⟩ := h
  refine ⟨by rw [List.length_set]; exact h1, putC_ris c o h2, fun x => ?_⟩
  have hc : c.toNat < t.length := by rw [h1]; exact c.toNat_lt
  rw [putC_mem, ← h3 x]
  by_cases e : c.toNat = x.toNat
  · have e2 : x = c := (UInt8.toNat_inj.1 e).symm
    subst e2
    rw [List.getElem?_set_self hc]
    simp
  · rw [List.getElem?_set_ne e]
    have e2 : x ≠ c := fun g => e (by rw [g])
    simp [e2]
theorem Mrk.idx {t : List Bool} {o : Str} (h : Mrk t o) (c : UInt8) : ∃ b, idx t (c.toNat : Int) = some b := ⟨_, idx_lt t c.toNat (by rw [h.1]; exact c.toNat_lt)⟩
theorem Mrk.asc {t : List Bool} {o : Str} (h : Mrk t o) (N : Nat) (hN : 300 < N) : i_ascending N t = some o := by
  unfold i_ascending
  simp only [withK_eq]
  have e := i_asc_l1 t h.1 (fun l5 => some l5) (fun _ => rfl) 256 0 N [] (by omega) (by omega) (by simp)
  simp only [Int.natCast_zero, List.nil_append] at e
  rw [e]
  refine congrArg some (ris_ext _ _ (ascF_ris t 256 0 (by omega)) h.2.1 fun x => ?_)
  rw [ascF_mem t x 256 0 (by omega), h.2.2 x]
  have := x.toNat_lt
  constructor
  · exact fun g => g.2.2
  · exact fun g => ⟨by omega, by omega, g⟩
/-- missing letters -/
def misF (keys : List Key) (as : List Accent) (o : Str) (c : UInt8) : Str := if ((prs keys as [c]).length : Int) == 0 then putC o c else o
theorem misF_len (keys : List Key) (as : List Accent) (o : Str) (c : UInt8) : (misF keys as o c).length ≤ o.length + 1 := by
  unfold misF
  split
  · exact putC_len o c
  · omega
theorem i_mis_l1 (keys : List Key) (as : List Accent) (t : Str) (kj : List Bool → Option (Str × Int)) (hok : okKA keys as = true) (ht : t.length ≤ 1000) : ∀ (n i N : Nat) (b : List Bool) (o : Str), i + n = t.length → n + 3001 < N → Mrk b o → ∃ b', Mrk b' ((t.drop i).foldl (misF keys as) o) ∧ i_MissingLetters_l1 kj keys as t N b (i : Int) = kj b' := by
  intro n
  induction n with
  | zero =>
    intro i N b o hi hN h
    obtain ⟨N, rfl⟩ := pos_fuel hN
    have hz : ¬ (i : Int) < (t.length : Int) := by omega
    simp only [i_MissingLetters_l1, hz, decide_false, cond_false]
    rw [List.drop_eq_nil_of_le (by omega)]
    exact ⟨b, h, rfl⟩
  | succ n ih =>
    intro i N b o hi hN h
    obtain ⟨N, rfl⟩ := pos_fuel hN
    have hz : (i : Int) < (t.length : Int) := by omega
    simp only [i_MissingLetters_l1, hz, decide_true, cond_true, withK_eq]
    rw [sub_drop t i (by omega) (by omega), w64_nat i (by omega), idx_lt t i (by omega)]
    simp only [Option.bind_some]
    rw [i_prs keys as _ hok N (by omega), List.drop_eq_getElem_cons (by omega : i < t.length), List.foldl_cons]
    obtain ⟨b0, hb0⟩ := h.idx t[i]
    simp only [Option.bind_some, hb0, Int.toNat_natCast]
    have hm : misF keys as o t[i] = if ((prs keys as [t[i]]).length : Int) == 0 then putC o t[i] else o := rfl
    rw [hm]
    cases ((prs keys as [t[i]]).length : Int) == 0
    · simp only [cond_false, Bool.false_eq_true, if_false]
      exact ih (i + 1) N b o (by omega) (by omega) h
    · simp only [cond_true, if_true]
      exact ih (i + 1) N _ _ (by omega) (by omega) (h.put t[i])
theorem s_mis_l1 (keys : List Key) (as : List Accent) (t : Str) (kj : Str → Option (Str × Int)) (hl : keys.length ≤ 1000) (hl2 : as.length ≤ 1000) (ht : t.length ≤ 1000) : ∀ (n i N : Nat) (o : Str), i + n = t.length → n + 3001 < N → o.length ≤ i → s_MissingLetters_l1 kj keys as t N o (i : Int) = kj ((t.drop i).foldl (misF keys as) o) := by
  intro n
  induction n with
  | zero =>
    intro i N o hi hN h
    obtain ⟨N, rfl⟩ := pos_fuel hN
    have hz : ¬ (i : Int) < (t.length : Int) := by omega
    simp only [s_MissingLetters_l1, hz, decide_false, cond_false]
    rw [List.drop_eq_nil_of_le (by omega)]
    rfl
  | succ n ih =>
    intro i N o hi hN h
    obtain ⟨N, rfl⟩ := pos_fuel hN
    have hz : (i : Int) < (t.length : Int) := by omega
    simp only [s_MissingLetters_l1, hz, decide_true, cond_true, withK_eq]
    rw [sub_drop t i (by omega) (by omega), w64_nat i (by omega)]
    simp only [Option.bind_some]
    rw [s_prs keys as _ hl hl2 N (by omega), List.drop_eq_getElem_cons (by omega : i < t.length), List.foldl_cons, s_put o t[i] (by omega) N (by omega)]
    simp only [Option.bind_some]
    have hlen := misF_len keys as o t[i]
    have hm : misF keys as o t[i] = if ((prs keys as [t[i]]).length : Int) == 0 then putC o t[i] else o := rfl
    rw [hm] at hlen ⊢
    cases hc : ((prs keys as [t[i]]).length : Int) == 0
    · rw [hc] at hlen
      simp only [cond_false, Bool.false_eq_true, if_false] at hlen ⊢
      exact ih (i + 1) N o (by omega) (by omega) (by omega)
    · rw [hc] at hlen
      simp only [cond_true, if_true] at hlen ⊢
      exact ih (i + 1) N _ (by omega) (by omega) (by omega)
def misV (keys : List Key) (as : List Accent) (t : Str) : Str × Int :=
  if okKA keys as then (if isT t 33 && decide ((t.length : Int) ≤ 100) then (t.foldl (misF keys as) [], 0) else ([], 2)) else ([], 1)
theorem mis_both (keys : List Key) (as : List Accent) (t : Str) (hl : keys.length ≤ 1000) (hl2 : as.length ≤ 1000) (ht : t.length ≤ 1000) (N : Nat) (hN : 5000 < N) : i_MissingLetters N keys as t = some (misV keys as t) ∧ s_MissingLetters N keys as t = some (misV keys as t) := by
  unfold i_MissingLetters s_MissingLetters misV
  rw [i_valid keys as hl hl2 N (by omega), i_text t 33 100 ht N (by omega), s_code keys as t hl hl2 ht N (by omega)]
  have e1 : (33 : UInt8).toNat = 33 := rfl
  simp only [Option.bind_some, withK_eq, e1]
  have hs := s_mis_l1 keys as t (fun (out11 : Str) => some (out11, 0)) hl hl2 ht t.length 0 N [] (by omega) (by omega) (by simp)
  simp only [Int.natCast_zero, List.drop_zero] at hs
  cases hok : okKA keys as
  · exact ⟨rfl, rfl⟩
  · obtain ⟨b', hb, he⟩ := i_mis_l1 keys as t (fun (l15 : List Bool) => (i_ascending N l15).bind fun r34 => some (r34, 0)) hok ht t.length 0 N _ [] (by omega) (by omega) Mrk.nil
    simp only [Int.natCast_zero, List.drop_zero] at hb he
    rw [he, hs, hb.asc N (by omega)]
    cases isT t 33 <;> cases decide ((t.length : Int) ≤ 100) <;> exact ⟨rfl, rfl⟩
theorem i_ltrs_l1 (keys : List Key) (kj : List Bool → Option (Str × Int)) (hl : keys.length ≤ 1000) (hk : ∀ k ∈ keys, isL k.low = true ∧ isL k.high = true) : ∀ (n i N : Nat) (b : List Bool) (o : Str), i + n = keys.length → n < N → Mrk b o → ∃ b', Mrk b' ((keys.drop i).foldl ltK o) ∧ i_LettersOf_l1 kj keys N b (i : Int) = kj b' := by
  intro n
  induction n with
  | zero =>
    intro i N b o hi hN h
    obtain ⟨N, rfl⟩ := pos_fuel hN
    have hz : ¬ (i : Int) < (keys.length : Int) := by omega
    simp only [i_LettersOf_l1, hz, decide_false, cond_false]
    rw [List.drop_eq_nil_of_le (by omega)]
    exact ⟨b, h, rfl⟩
  | succ n ih =>
    intro i N b o hi hN h
    obtain ⟨N, rfl⟩ := pos_fuel hN
    have hz : (i : Int) < (keys.length : Int) := by omega
    have hm := hk _ (List.getElem_mem (by omega : i < keys.length))
    obtain ⟨c1, q1, _⟩ := isL_one hm.1
    obtain ⟨c2, q2, _⟩ := isL_one hm.2
    have hc : ∀ c : UInt8, idx ([c] : Str) 0 = some c := fun _ => rfl
    simp only [i_LettersOf_l1, hz, decide_true, cond_true, withK_eq]
    rw [idx_lt keys i (by omega), w64_nat i (by omega), List.drop_eq_getElem_cons (by omega : i < keys.length), List.foldl_cons]
    obtain ⟨b0, hb0⟩ := h.idx c1
    obtain ⟨b1, hb1⟩ := (h.put c1).idx c2
    simp only [Option.bind_some, q1, q2, hc, hb0, Int.toNat_natCast, hb1]
    have hlt : ltK o keys[i] = if keys[i].dead then o else putC (putC o c1) c2 := by unfold ltK putS; rw [q1, q2]; rfl
    rw [hlt]
    cases keys[i].dead
    · simp only [Bool.not_false, cond_true, Bool.false_eq_true, if_false]
      exact ih (i + 1) N _ _ (by omega) (by omega) ((h.put c1).put c2)
    · simp only [Bool.not_true, cond_false, if_true]
      exact ih (i + 1) N b o (by omega) (by omega) h
theorem i_ltrs_l2 (as : List Accent) (kj : List Bool → Option (Str × Int)) (hl : as.length ≤ 1000) (hk : ∀ k ∈ as, isL k.made = true) : ∀ (n i N : Nat) (b : List Bool) (o : Str), i + n = as.length → n < N → Mrk b o → ∃ b', Mrk b' ((as.drop i).foldl ltA o) ∧ i_LettersOf_l2 kj as N b (i : Int) = kj b' := by
  intro n
  induction n with
  | zero =>
    intro i N b o hi hN h
    obtain ⟨N, rfl⟩ := pos_fuel hN
    have hz : ¬ (i : Int) < (as.length : Int) := by omega
    simp only [i_LettersOf_l2, hz, decide_false, cond_false]
    rw [List.drop_eq_nil_of_le (by omega)]
    exact ⟨b, h, rfl⟩
  | succ n ih =>
    intro i N b o hi hN h
    obtain ⟨N, rfl⟩ := pos_fuel hN
    have hz : (i : Int) < (as.length : Int) := by omega
    have hm := hk _ (List.getElem_mem (by omega : i < as.length))
    obtain ⟨c1, q1, _⟩ := isL_one hm
    have hc : ∀ c : UInt8, idx ([c] : Str) 0 = some c := fun _ => rfl
    simp only [i_LettersOf_l2, hz, decide_true, cond_true, withK_eq]
    rw [idx_lt as i (by omega), w64_nat i (by omega), List.drop_eq_getElem_cons (by omega : i < as.length), List.foldl_cons]
    obtain ⟨b0, hb0⟩ := h.idx c1
    simp only [Option.bind_some, q1, hc, hb0, Int.toNat_natCast]
    have hlt : ltA o as[i] = putC o c1 := by unfold ltA putS; rw [q1]; rfl
    rw [hlt]
    exact ih (i + 1) N _ _ (by omega) (by omega) (h.put c1)
theorem i_ltrs (keys : List Key) (as : List Accent) (hl : keys.length ≤ 100) (hl2 : as.length ≤ 100) (N : Nat) (hN : 5000 < N) : i_LettersOf N keys as = some (if okKA keys as then (ltrs keys as, 0) else ([], 1)) := by
  unfold i_LettersOf
  rw [i_valid keys as (by omega) (by omega) N (by omega)]
  simp only [Option.bind_some, withK_eq]
  cases h : okKA keys as
  · rfl
  · obtain ⟨h1, h2, h3, h4⟩ := okKA_and h
    simp only [Bool.not_true, cond_false, if_true]
    obtain ⟨b1, m1, e1⟩ := i_ltrs_l1 keys (fun (l11 : List Bool) => i_LettersOf_l2 (fun (l35 : List Bool) => (i_ascending N l35).bind fun r51 => some (r51, 0)) as N l11 0) (by omega) (fun k hk => ⟨(okKs_letters keys [] h1 k hk).1, (okKs_letters keys [] h1 k hk).2.1⟩) keys.length 0 N _ [] (by omega) (by omega) Mrk.nil
    simp only [Int.natCast_zero, List.drop_zero] at m1 e1
    rw [e1]
    obtain ⟨b2, m2, e2⟩ := i_ltrs_l2 as (fun (l35 : List Bool) => (i_ascending N l35).bind fun r51 => some (r51, 0)) (by omega) (fun a ha => (okAs_made keys as [] h2 a ha).1) as.length 0 N _ _ (by omega) (by omega) m1
    simp only [Int.natCast_zero, List.drop_zero] at m2 e2
    rw [e2, m2.asc N (by omega)]
    rfl
end Go.Proofs.YtpodlgibcfbbiaaDoor
