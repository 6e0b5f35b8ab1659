/-
  Plain lemmas on these functions. No conditions but those that each states.
-/
import Derived.Test.YtdmnblhhmjbhnaaFnWritersP4
namespace Go.Proofs.Ytdmnblhhmjbhnaa
set_option linter.unusedVariables false
set_option linter.unusedSimpArgs false
/-! Letters that stand on a page in two ways. -/
def asc : List Bool → Nat → Str
  | [], _ => []
  | b :: r, x => bif b then UInt8.ofInt (x : Int) :: asc r (x + 1) else asc r (x + 1)
theorem ofInt_toNat (k : Nat) (h : k < 256) : (UInt8.ofInt (k : Int)).toNat = k := by
  rw [UInt8.ofInt]; simp [Int.emod_emod_of_dvd]; omega
theorem asc_len : ∀ (m : List Bool) (x : Nat), (asc m x).length ≤ m.length
  | [], x => by simp [asc]
  | b :: r, x => by
    have := asc_len r (x + 1)
    cases b <;> simp only [asc, cond_true, cond_false, List.length_cons] <;> omega
theorem asc_mem : ∀ (m : List Bool) (x : Nat) (c : UInt8), x + m.length ≤ 256 → c ∈ asc m x → ∃ j, m[j]? = some true ∧ c.toNat = x + j
  | [], x, c, _, h => by simp [asc] at h
  | b :: r, x, c, hl, h => by
    simp only [List.length_cons] at hl
    cases b
    · obtain ⟨j, j1, j2⟩ := asc_mem r (x + 1) c (by omega) (by simpa [asc] using h)
      exact ⟨j + 1, by simpa using j1, by omega⟩
    · simp only [asc, cond_true, List.mem_cons] at h
      rcases h with h | h
      · exact ⟨0, by simp, by rw [h, ofInt_toNat x (by omega)]; rfl⟩
      · obtain ⟨j, j1, j2⟩ := asc_mem r (x + 1) c (by omega) h
        exact ⟨j + 1, by simpa using j1, by omega⟩
theorem asc_nodup : ∀ (m : List Bool) (x : Nat), x + m.length ≤ 256 → (asc m x).Nodup
  | [], x, _ => by simp [asc]
  | b :: r, x, hl => by
    simp only [List.length_cons] at hl
    have ih := asc_nodup r (x + 1) (by omega)
    cases b
    · simpa [asc] using ih
    · simp only [asc, cond_true, List.nodup_cons]
      refine ⟨fun h => ?_, ih⟩
      obtain ⟨j, j1, j2⟩ := asc_mem r (x + 1) _ (by omega) h
      rw [ofInt_toNat x (by omega)] at j2
      omega
theorem nodup_sub {α : Type} [BEq α] [LawfulBEq α] : ∀ (l m : List α), l.Nodup → (∀ x ∈ l, x ∈ m) → l.length ≤ m.length
  | [], m, _, _ => by simp
  | x :: l, m, h, hs => by
    rw [List.nodup_cons] at h
    have hx := hs x (by simp)
    have := nodup_sub l (m.erase x) h.2 (fun y hy => (List.mem_erase_of_ne (fun e => h.1 (by rw [← e]; exact hy))).2 (hs y (by simp [hy])))
    rw [List.length_erase_of_mem hx] at this
    have := List.length_pos_of_mem hx
    simp only [List.length_cons]; omega
theorem asc_l1 (m : List Bool) (hm : m.length = 256) (kj : Str → Option Str) : ∀ (n x N : Nat) (l : Str), x + n = 256 → n < N → l.length ≤ x → i_ascending_l1 kj m N l (x : Int) = kj (l ++ asc (m.drop x) x) := by
  intro n
  induction n with
  | zero =>
    intro x N l h1 h2 h3
    obtain ⟨N, rfl⟩ := pos_fuel h2
    have hi : ¬ ((x : Int) < 256) := by omega
    rw [List.drop_eq_nil_of_le (by omega)]
    simp only [i_ascending_l1, hi, decide_false, cond_false, asc, List.append_nil]
  | succ n ih =>
    intro x N l h1 h2 h3
    obtain ⟨N, rfl⟩ := pos_fuel h2
    have hi : (x : Int) < 256 := by omega
    have hxl : x < m.length := by omega
    rw [drop_cons _ x hxl]
    simp only [i_ascending_l1, hi, decide_true, cond_true, withK_eq, idx_lt _ x hxl, Option.bind_some, w64_nat x (by omega), asc]
    cases m[x]
    · simp only [cond_false]
      exact ih (x + 1) N l (by omega) (by omega) (by omega)
    · simp only [cond_true]
      rw [app_some _ _ (by simp; unfold LIM; omega), Option.bind_some, ih (x + 1) N _ (by omega) (by omega) (by simp; omega)]
      simp
theorem asc_ok (m : List Bool) (hm : m.length = 256) (N : Nat) (hN : 300 < N) : i_ascending N m = some (asc m 0) := by
  have := asc_l1 m hm (fun l5 => some l5) 256 0 N [] (by omega) (by omega) (by simp)
  unfold i_ascending
  simp only [withK_eq]
  simpa using this
theorem list_l1 (s : Str) (hs : s.length ≤ 300) (kj : List Str → Option (List Str)) : ∀ (n x N : Nat) (l : List Str), x + n = s.length → n < N → l.length = x → ∃ r, i_letterList_l1 kj s N l (x : Int) = kj r ∧ r.length = s.length := by
  intro n
  induction n with
  | zero =>
    intro x N l h1 h2 h3
    obtain ⟨N, rfl⟩ := pos_fuel h2
    have hi : ¬ ((x : Int) < (s.length : Int)) := by omega
    simp only [i_letterList_l1, hi, decide_false, cond_false]
    exact ⟨l, rfl, by omega⟩
  | succ n ih =>
    intro x N l h1 h2 h3
    obtain ⟨N, rfl⟩ := pos_fuel h2
    have hi : (x : Int) < (s.length : Int) := by omega
    simp only [i_letterList_l1, hi, decide_true, cond_true, w64_nat x (by omega)]
    rw [sub_some s _ _ (by omega) (by omega) (by omega), Option.bind_some, app_some _ _ (by simp; unfold LIM; omega), Option.bind_some]
    exact ih (x + 1) N _ (by omega) (by omega) (by simp; omega)
theorem list_ok (s : Str) (hs : s.length ≤ 300) (N : Nat) (hN : 400 < N) : ∃ r, i_letterList N s = some r ∧ r.length = s.length := by
  obtain ⟨r, e, h⟩ := list_l1 s hs (fun l3 => some l3) s.length 0 N [] (by omega) (by omega) rfl
  exact ⟨r, by unfold i_letterList; simp only [withK_eq]; simpa using e, h⟩
theorem mgetO_msetV : ∀ (l : List (Str × Int)) (k s : Str) (v : Int), mgetO (msetV l k v) s = if s == k then some v else mgetO l s
  | [], k, s, v => by simp only [msetV, mgetO]; cases s == k <;> rfl
  | (a, b) :: r, k, s, v => by
    have ih := mgetO_msetV r k s v
    simp only [msetV]
    by_cases h : k == a
    · have e : k = a := by simpa using h
      subst e
      simp only [beq_self_eq_true, cond_true, mgetO]
      cases s == k <;> rfl
    · simp only [h, cond_false, mgetO, ih]
      cases hs : s == a
      · rfl
      · have e : s = a := by simpa using hs
        subst e
        have : (s == k) = false := by
          cases hc : s == k
          · rfl
          · have e : s = k := by simpa using hc
            subst e; simp at h
        simp [this]
def CT (p : List Seen) (c : Nat) : Prop := ∃ e1 ∈ p, ∃ e2 ∈ p, ∃ b : UInt8, e1.letter = [b] ∧ e2.letter = [b] ∧ b.toNat = c ∧ e1.kind ≠ e2.kind
def CI (p : List Seen) (m : List Bool) (mp : List (Str × Int)) : Prop := m.length = 256 ∧ (∀ s k, mgetO mp s = some k → ∃ e ∈ p, e.letter = s ∧ e.kind = k) ∧ ∀ c, m[c]? = some true → CT p c
theorem isL_one {s : Str} (h : isL s = true) : ∃ b, s = [b] := by
  match s, h with
  | [b], _ => exact ⟨b, rfl⟩
theorem con_l1 (p : List Seen) (hp : POK p) (kj : List Bool → Option (List Str × Int)) (Q : List Str × Int → Prop) (hk : ∀ m, m.length = 256 → (∀ c, m[c]? = some true → CT p c) → ∃ r, kj m = some r ∧ Q r) :
    ∀ (n i N : Nat) (m : List Bool) (mp : List (Str × Int)), i + n = p.length → n < N → CI p m mp → ∃ r, i_ContraryLetters_l1 kj p N m mp (i : Int) = some r ∧ Q r := by
  have hl := hp.1
  intro n
  induction n with
  | zero =>
    intro i N m mp h1 h2 h3
    obtain ⟨N, rfl⟩ := pos_fuel h2
    have hi : ¬ ((i : Int) < (p.length : Int)) := by omega
    simp only [i_ContraryLetters_l1, hi, decide_false, cond_false]
    exact hk m h3.1 h3.2.2
  | succ n ih =>
    intro i N m mp h1 h2 h3
    obtain ⟨N, rfl⟩ := pos_fuel h2
    have hil : i < p.length := by omega
    have hi : (i : Int) < (p.length : Int) := by omega
    have hmem := List.getElem_mem hil
    obtain ⟨f1, f2, f3⟩ := hp.2 _ hmem
    obtain ⟨b, hb⟩ := isL_one f1
    obtain ⟨c1, c2, c3⟩ := h3
    simp only [i_ContraryLetters_l1, hi, decide_true, cond_true, withK_eq, idx_lt _ i hil, Option.bind_some, w64_nat i (by omega)]
    cases hg : mgetO mp p[i].letter with
    | none =>
      simp only [Option.isSome_none, Bool.not_false, cond_true]
      refine ih (i + 1) N _ _ (by omega) (by omega) ⟨c1, fun s k hs => ?_, c3⟩
      rw [mgetO_msetV] at hs
      split at hs
      · next h =>
        have e : s = p[i].letter := by simpa using h
        cases hs
        exact ⟨_, hmem, e.symm, rfl⟩
      · exact c2 s k hs
    | some k =>
      simp only [Option.isSome_some, Bool.not_true, cond_false, Option.getD_some]
      by_cases hc : k = p[i].kind
      · have : (k != p[i].kind) = false := by simp [hc]
        rw [this, cond_false]
        exact ih (i + 1) N _ _ (by omega) (by omega) ⟨c1, c2, c3⟩
      · have : (k != p[i].kind) = true := by simp [hc]
        have hb1 : idx p[i].letter 0 = some b := by rw [hb]; rfl
        have hb2 := b.toNat_lt
        rw [this, cond_true, hb1, Option.bind_some, idx_lt m b.toNat (by omega), Option.bind_some]
        refine ih (i + 1) N _ _ (by omega) (by omega) ⟨by simpa using c1, c2, fun c h => ?_⟩
        rw [Int.toNat_natCast, List.getElem?_set] at h
        by_cases hcb : b.toNat = c
        · obtain ⟨e, e1, e2, e3⟩ := c2 _ k hg
          exact ⟨e, e1, _, hmem, b, by rw [e2, hb], hb, hcb, by rw [e3]; exact hc⟩
        · rw [if_neg hcb] at h
          exact c3 c h
def bad (w : Writer) : List Seen → Str
  | [] => []
  | x :: r => (if x.kind = kOf w.faults x.letter then [] else x.letter.take 1) ++ bad w r
theorem bad_len (w : Writer) : ∀ p, (bad w p).length ≤ agn w p
  | [] => by simp [bad, agn]
  | x :: r => by
    have := bad_len w r
    simp only [bad, agn, List.length_append]
    split <;> simp <;> omega
theorem bad_mem (w : Writer) (b : UInt8) : ∀ (p : List Seen) (e : Seen), e ∈ p → e.letter = [b] → e.kind ≠ kOf w.faults [b] → b ∈ bad w p
  | [], e, h, _, _ => by simp at h
  | x :: r, e, h, h1, h2 => by
    rcases List.mem_cons.1 h with h | h
    · subst h
      simp only [bad, h1, if_neg h2, List.mem_append]
      exact Or.inl (by simp)
    · simp only [bad, List.mem_append]
      exact Or.inr (bad_mem w b r e h h1 h2)
theorem con_ok (p : List Seen) (hp : POK p) (N : Nat) (hN : 1300 < N) : ∃ r, i_ContraryLetters N p = some r ∧ r.2 = 0 ∧ ∀ w, r.1.length ≤ agn w p := by
  unfold i_ContraryLetters
  simp only [seen_ok p hp N (by omega), Option.bind_some, Bool.not_true, cond_false, withK_eq]
  have hl := hp.1
  refine con_l1 p hp _ _ (fun m hm hc => ?_) p.length 0 N _ _ (by omega) (by omega) ⟨List.length_replicate, fun s k h => by simp [mgetO] at h, fun c h => by rw [List.getElem?_replicate] at h; split at h <;> simp at h⟩
  obtain ⟨r, e, hr⟩ := list_ok (asc m 0) (by have := asc_len m 0; omega) N (by omega)
  rw [asc_ok m hm N (by omega), Option.bind_some, e, Option.bind_some]
  refine ⟨_, rfl, rfl, fun w => ?_⟩
  show r.length ≤ _
  rw [hr]
  refine Nat.le_trans (nodup_sub _ (bad w p) (asc_nodup m 0 (by omega)) fun c hcm => ?_) (bad_len w p)
  obtain ⟨j, j1, j2⟩ := asc_mem m 0 c (by omega) hcm
  obtain ⟨e1, g1, e2, g2, b, g3, g4, g5, g6⟩ := hc j j1
  have : b = c := UInt8.toNat_inj.1 (by omega)
  subst this
  by_cases hx : e1.kind = kOf w.faults [b]
  · exact bad_mem w b p e2 g2 g4 (fun h => g6 (by rw [hx, h]))
  · exact bad_mem w b p e1 g1 g3 hx
end Go.Proofs.Ytdmnblhhmjbhnaa
