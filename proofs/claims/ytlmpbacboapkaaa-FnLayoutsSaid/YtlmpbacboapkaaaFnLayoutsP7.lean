/-
  Plain lemmas on these functions. No conditions but those that each states.
-/
import Derived.Test.YtlmpbacboapkaaaFnLayoutsP6
namespace Go.Proofs.Ytlmpbacboapkaaa
set_option linter.unusedVariables false
set_option linter.unusedSimpArgs false
/-! Valid layouts, and where letters lie. -/
def vr : Str → Str → Bool
  | _, [] => true
  | seen, c :: r => !(c == 47) && (!(decide (c ∈ seen)) && vr (seen ++ [c]) r)
def vq : Str → Str → Bool
  | _, [] => true
  | seen, c :: r => !(decide (c ∈ seen)) && vq (seen ++ [c]) r
def ro (w : Str) : Bool := !((w.length : Int) == 0) && (decide (w.length ≤ 12) && isT w 33)
def rs (w : Str) : Bool := (w.all fun c => isL [c] && !(c == 47)) && decide (1 ≤ w.length ∧ w.length ≤ 12)
def vls : Str → List Str → Bool
  | _, [] => true
  | seen, w :: r => (ro w && vr seen w) && vls (seen ++ w) r
def VL (rows : List Str) : Bool := decide (1 ≤ rows.length ∧ rows.length ≤ 4) && vls [] rows
theorem vr_iff : ∀ (w seen : Str), vr seen w = true ↔ (∀ c ∈ w, c ≠ 47 ∧ c ∉ seen) ∧ w.Nodup
  | [], seen => by simp [vr]
  | c :: r, seen => by
    have ih := vr_iff r (seen ++ [c])
    simp only [vr, Bool.and_eq_true, Bool.not_eq_true', beq_eq_false_iff_ne, decide_eq_false_iff_not, ih, List.nodup_cons, List.mem_append, List.mem_singleton, not_or]
    constructor
    · rintro ⟨h1, h2, h3, h4⟩
      refine ⟨fun d hd => ?_, fun hc => (h3 c hc).2.2 rfl, h4⟩
      rcases List.mem_cons.1 hd with rfl | hd
      · exact ⟨h1, h2⟩
      · exact ⟨(h3 d hd).1, (h3 d hd).2.1⟩
    · rintro ⟨h1, h2, h3⟩
      refine ⟨(h1 c List.mem_cons_self).1, (h1 c List.mem_cons_self).2, fun d hd => ⟨(h1 d (List.mem_cons_of_mem _ hd)).1, (h1 d (List.mem_cons_of_mem _ hd)).2, fun e => h2 (e ▸ hd)⟩, h3⟩
theorem vr_vq : ∀ (w seen : Str), (∀ c ∈ w, c ≠ 47) → vr seen w = vq seen w
  | [], _, _ => rfl
  | c :: r, seen, h => by
    have h1 := h c List.mem_cons_self
    rw [vr, vq, vr_vq r _ fun d hd => h d (List.mem_cons_of_mem _ hd), beq_eq_false_iff_ne.2 h1]
    rfl
theorem vr_47 : ∀ (w seen : Str), 47 ∈ w → vr seen w = false
  | [], _, h => by cases h
  | c :: r, seen, h => by
    rw [vr]
    rcases List.mem_cons.1 h with rfl | h
    · rfl
    · rw [vr_47 r _ h]; simp
theorem ro_rs (w seen : Str) : (ro w && vr seen w) = (rs w && vq seen w) := by
  by_cases h : 47 ∈ w
  · rw [vr_47 w seen h, Bool.and_false]
    have : rs w = false := by
      unfold rs
      rw [Bool.and_eq_false_iff]
      left
      rw [List.all_eq_false]
      exact ⟨47, h, by decide⟩
    rw [this]; rfl
  · have hn : ∀ c ∈ w, c ≠ 47 := fun c hc e => h (e ▸ hc)
    rw [vr_vq w seen hn]
    congr 1
    unfold ro rs isT
    have e1 : (w.all fun c => isL [c] && !(c == 47)) = (w.all fun c => decide (33 ≤ c.toNat) && decide (c.toNat ≤ 126)) := by
      rw [Bool.eq_iff_iff, List.all_eq_true, List.all_eq_true]
      refine ⟨fun g c hc => ?_, fun g c hc => ?_⟩
      · have := g c hc
        rw [Bool.and_eq_true] at this
        exact this.1
      · rw [Bool.and_eq_true]
        exact ⟨g c hc, by rw [beq_eq_false_iff_ne.2 (hn c hc)]; rfl⟩
    rw [e1, Bool.eq_iff_iff]
    simp only [Bool.and_eq_true, Bool.not_eq_true', beq_eq_false_iff_ne, decide_eq_true_eq]
    constructor
    · rintro ⟨a1, a2, a3⟩; exact ⟨a3, by omega, a2⟩
    · rintro ⟨a3, a1, a2⟩; exact ⟨by omega, a2, a3⟩
def RWo (w : Str) : Prop := 1 ≤ w.length ∧ w.length ≤ 12 ∧ ∀ c ∈ w, isL [c] = true ∧ c ≠ 47
theorem rs_iff (w : Str) : rs w = true ↔ RWo w := by
  unfold rs RWo
  rw [Bool.and_eq_true, List.all_eq_true, decide_eq_true_eq]
  simp only [Bool.and_eq_true, Bool.not_eq_true', beq_eq_false_iff_ne]
  exact ⟨fun ⟨a, b, c⟩ => ⟨b, c, a⟩, fun ⟨b, c, a⟩ => ⟨a, b, c⟩⟩
theorem ro_iff (w seen : Str) : (ro w && vr seen w) = true ↔ RWo w ∧ (∀ c ∈ w, c ∉ seen) ∧ w.Nodup := by
  constructor
  · intro h
    have h2 := h
    rw [ro_rs, Bool.and_eq_true] at h
    rw [Bool.and_eq_true] at h2
    have h3 := (vr_iff w seen).1 h2.2
    exact ⟨(rs_iff w).1 h.1, fun c hc => (h3.1 c hc).2, h3.2⟩
  · rintro ⟨h1, h2, h3⟩
    have hv : vr seen w = true := (vr_iff w seen).2 ⟨fun c hc => ⟨(h1.2.2 c hc).2, h2 c hc⟩, h3⟩
    have hq : vq seen w = true := by rw [← vr_vq w seen fun c hc => (h1.2.2 c hc).2]; exact hv
    rw [ro_rs, (rs_iff w).2 h1, hq]; rfl
theorem vls_iff : ∀ (rows : List Str) (seen : Str), vls seen rows = true ↔ (∀ w ∈ rows, RWo w) ∧ rows.flatten.Nodup ∧ ∀ c ∈ rows.flatten, c ∉ seen
  | [], seen => by simp [vls]
  | w :: r, seen => by
    have ih := vls_iff r (seen ++ w)
    rw [vls, Bool.and_eq_true, ro_iff, ih]
    simp only [List.flatten_cons, List.nodup_append, List.mem_append, not_or]
    constructor
    · rintro ⟨⟨a1, a2, a3⟩, b1, b2, b3⟩
      refine ⟨fun x hx => ?_, ⟨a3, b2, fun a ha b hb e => (b3 b hb).2 (e ▸ ha)⟩, fun c hc => ?_⟩
      · rcases List.mem_cons.1 hx with rfl | hx
        · exact a1
        · exact b1 x hx
      · rcases hc with hc | hc
        · exact a2 c hc
        · exact (b3 c hc).1
    · rintro ⟨a, ⟨b1, b2, b3⟩, c1⟩
      exact ⟨⟨a w List.mem_cons_self, fun c hc => c1 c (.inl hc), b1⟩, fun x hx => a x (List.mem_cons_of_mem _ hx), b2, fun c hc => ⟨c1 c (.inr hc), fun hw => b3 c hw c hc rfl⟩⟩
def V (rows : List Str) : Prop := (1 ≤ rows.length ∧ rows.length ≤ 4) ∧ (∀ w ∈ rows, RWo w) ∧ rows.flatten.Nodup
theorem VL_iff (rows : List Str) : VL rows = true ↔ V rows := by
  unfold VL V
  rw [Bool.and_eq_true, decide_eq_true_eq, vls_iff]
  simp
/-! the one side -/
theorem vl_l2 (w seen : Str) (hw : w.length ≤ 100) (kj : List Bool → Option Bool) : ∀ (q y N : Nat) (l : List Bool), y + q = w.length → q < N → MK l (seen ++ w.take y) → (vr (seen ++ w.take y) (w.drop y) = true → ∃ l', MK l' (seen ++ w) ∧ i_ValidLayout_l2 kj w N l (y : Int) = kj l') ∧ (vr (seen ++ w.take y) (w.drop y) = false → i_ValidLayout_l2 kj w N l (y : Int) = some false) := by
  intro q
  induction q with
  | zero =>
    intro y N l hy hN hm
    obtain ⟨N, rfl⟩ := pos_fuel hN
    rw [i_ValidLayout_l2, decide_eq_false (by omega : ¬ (y : Int) < (w.length : Int)), cond_false, List.drop_eq_nil_of_le (by omega)]
    rw [List.take_of_length_le (by omega)] at hm
    exact ⟨fun _ => ⟨l, hm, rfl⟩, fun h => by simp [vr] at h⟩
  | succ q ih =>
    intro y N l hy hN hm
    obtain ⟨N, rfl⟩ := pos_fuel hN
    have hlt : y < w.length := by omega
    have htk : seen ++ w.take (y + 1) = (seen ++ w.take y) ++ [w[y]] := by rw [List.take_succ_eq_append_getElem hlt, List.append_assoc]
    rw [i_ValidLayout_l2, decide_eq_true (by omega : (y : Int) < (w.length : Int)), cond_true, idx_lt w y hlt, List.drop_eq_getElem_cons hlt, vr]
    simp only [Option.bind_some]
    by_cases hc : w[y] = 47
    · rw [beq_iff_eq.2 hc]
      refine ⟨fun h => by simp at h, fun _ => ?_⟩
      rw [orO_true, Option.bind_some, cond_true]
    · rw [beq_eq_false_iff_ne.2 hc, hm.2 _ hc, orO_false]
      simp only [Option.bind_some, Bool.not_false, Bool.true_and]
      by_cases hp : w[y] ∈ seen ++ w.take y
      · rw [decide_eq_true hp]
        exact ⟨fun h => by simp at h, fun _ => rfl⟩
      · rw [decide_eq_false hp, cond_false, Int.toNat_natCast, w64_nat y (by omega), Bool.not_false, Bool.true_and, ← htk]
        exact ih (y + 1) N _ (by omega) (by omega) (by rw [htk]; exact hm.add _)
theorem vl_l1 (rows : List Str) (hr : rows.length ≤ 10) (hw : ∀ w ∈ rows, w.length ≤ 100) : ∀ (q x N : Nat) (l : List Bool), x + q = rows.length → q + 1200 < N → MK l (rows.take x).flatten → i_ValidLayout_l1 (some true) (Layout.mk rows) N l (x : Int) = some (vls (rows.take x).flatten (rows.drop x)) := by
  intro q
  induction q with
  | zero =>
    intro x N l hx hN hm
    obtain ⟨N, rfl⟩ := pos_fuel (show 0 < N by omega)
    rw [i_ValidLayout_l1, decide_eq_false (by show ¬ (x : Int) < (rows.length : Int); omega), cond_false, List.drop_eq_nil_of_le (by omega)]
    rfl
  | succ q ih =>
    intro x N l hx hN hm
    obtain ⟨N, rfl⟩ := pos_fuel (show 0 < N by omega)
    have hlt : x < rows.length := by omega
    have hwl := hw _ (List.getElem_mem hlt)
    have htk : (rows.take (x + 1)).flatten = (rows.take x).flatten ++ rows[x] := by rw [List.take_succ_eq_append_getElem hlt, List.flatten_append, List.flatten_singleton]
    rw [i_ValidLayout_l1, decide_eq_true (by show (x : Int) < (rows.length : Int); omega), cond_true]
    simp only [withK_n]
    rw [idx_lt rows x hlt, Option.bind_some, i_text rows[x] 33 12 (by omega) N (by omega), w64_nat x (by omega), List.drop_eq_getElem_cons hlt, vls]
    simp only [Option.bind_some]
    rw [orO_some, Option.bind_some]
    have e1 : (((rows[x].length : Int) == 0) || !(decide ((rows[x].length : Int) ≤ 12) && isT rows[x] (33 : UInt8).toNat)) = !(ro rows[x]) := by
      have e2 : decide ((rows[x].length : Int) ≤ 12) = decide (rows[x].length ≤ 12) := by rw [Bool.eq_iff_iff, decide_eq_true_eq, decide_eq_true_eq]; omega
      have e3 : (33 : UInt8).toNat = 33 := rfl
      rw [e2, e3]
      unfold ro
      cases ((rows[x].length : Int) == 0) <;> rfl
    rw [e1]
    cases hro : ro rows[x] with
    | false => rfl
    | true =>
      rw [Bool.not_true, cond_false, Bool.true_and]
      obtain ⟨g1, g2⟩ := vl_l2 rows[x] (rows.take x).flatten hwl (fun l14 => i_ValidLayout_l1 (some true) (Layout.mk rows) N l14 ((x + 1 : Nat) : Int)) rows[x].length 0 N l (by omega) (by omega) (by rw [List.take_zero, List.append_nil]; exact hm)
      rw [List.take_zero, List.append_nil, List.drop_zero] at g1 g2
      cases hv : vr (rows.take x).flatten rows[x] with
      | false => exact g2 hv
      | true =>
        obtain ⟨l', m1, m2⟩ := g1 hv
        rw [Bool.true_and, ← htk]
        refine (m2 : _ = _).trans ?_
        exact ih (x + 1) N l' (by omega) (by omega) (by rw [htk]; exact m1)
theorem ivalid (rows : List Str) (hr : rows.length ≤ 10) (hw : ∀ w ∈ rows, w.length ≤ 100) (N : Nat) (hN : 2000 < N) : i_ValidLayout N (Layout.mk rows) = some (VL rows) := by
  have := vl_l1 rows hr hw rows.length 0 N _ (by omega) (by omega) (by exact MK.zero)
  rw [show ((0 : Nat) : Int) = 0 from rfl, List.take_zero, List.flatten_nil, List.drop_zero] at this
  unfold i_ValidLayout i_between VL
  show ((andO (decide ((rows.length : Int) ≥ 1)) (some (decide ((rows.length : Int) ≤ 4)))).bind fun t4 => some t4).bind _ = _
  rw [andO_some, Option.bind_some, Option.bind_some, withK_n, this]
  have e : (decide ((rows.length : Int) ≥ 1) && decide ((rows.length : Int) ≤ 4)) = decide (1 ≤ rows.length ∧ rows.length ≤ 4) := by
    rw [Bool.eq_iff_iff, Bool.and_eq_true, decide_eq_true_eq, decide_eq_true_eq, decide_eq_true_eq]; omega
  rw [e]
  cases decide (1 ≤ rows.length ∧ rows.length ≤ 4) <;> rfl
/-! where a letter lies first -/
def fc (c : UInt8) : Str → Nat → Option Nat
  | [], _ => none
  | d :: w, k => if d = c then some k else fc c w (k + 1)
def fo (c : UInt8) : List Str → Nat → Option (Nat × Nat)
  | [], _ => none
  | w :: r, i => match fc c w 0 with
    | some k => some (i, k)
    | none => fo c r (i + 1)
theorem fc_notin (c : UInt8) : ∀ (A r : Str) (k : Nat), c ∉ A → fc c (A ++ r) k = fc c r (k + A.length)
  | [], _, _, _ => rfl
  | d :: A, r, k, h => by
    rw [List.mem_cons, not_or] at h
    rw [List.cons_append, fc, if_neg (fun e => h.1 e.symm), fc_notin c A r (k + 1) h.2, List.length_cons]
    congr 1; omega
theorem fc_in (c : UInt8) : ∀ (A r : Str) (k : Nat), c ∈ A → ∃ j, fc c (A ++ r) k = some j ∧ k ≤ j ∧ j < k + A.length
  | [], _, _, h => by cases h
  | d :: A, r, k, h => by
    rw [List.cons_append, fc]
    by_cases e : d = c
    · rw [if_pos e]; exact ⟨k, rfl, Nat.le_refl _, by simp⟩
    · rw [if_neg e]
      obtain ⟨j, h1, h2, h3⟩ := fc_in c A r (k + 1) ((List.mem_cons.1 h).resolve_left fun g => e g.symm)
      exact ⟨j, h1, by omega, by simp only [List.length_cons]; omega⟩
theorem fc_none (c : UInt8) (w : Str) (k : Nat) (h : c ∉ w) : fc c w k = none := by
  have := fc_notin c w [] k h
  rw [List.append_nil] at this
  exact this
theorem fo_notin (c : UInt8) : ∀ (P r : List Str) (i : Nat), c ∉ P.flatten → fo c (P ++ r) i = fo c r (i + P.length)
  | [], _, _, _ => rfl
  | w :: P, r, i, h => by
    rw [List.flatten_cons, List.mem_append, not_or] at h
    rw [List.cons_append, fo, fc_none c w 0 h.1]
    show fo c (P ++ r) (i + 1) = _
    rw [fo_notin c P r (i + 1) h.2, List.length_cons]
    congr 1; omega
theorem fo_in (c : UInt8) : ∀ (P r : List Str) (i : Nat), c ∈ P.flatten → ∃ i' k w, fo c (P ++ r) i = some (i', k) ∧ i ≤ i' ∧ i' < i + P.length ∧ (P ++ r)[i' - i]? = some w ∧ w[k]? = some c
  | [], _, _, h => by cases h
  | w :: P, r, i, h => by
    rw [List.cons_append, fo]
    by_cases hw : c ∈ w
    · obtain ⟨A, B, rfl, hA⟩ : ∃ A B, w = A ++ c :: B ∧ c ∉ A := by
        clear h
        induction w with
        | nil => cases hw
        | cons d w ih =>
          by_cases e : d = c
          · exact ⟨[], w, by rw [e]; rfl, by simp⟩
          · obtain ⟨A, B, e1, e2⟩ := ih ((List.mem_cons.1 hw).resolve_left fun g => e g.symm)
            exact ⟨d :: A, B, by rw [e1]; rfl, by simp only [List.mem_cons, not_or]; exact ⟨fun g => e g.symm, e2⟩⟩
      rw [fc_notin c A _ 0 hA, fc, if_pos rfl]
      refine ⟨i, 0 + A.length, A ++ c :: B, rfl, Nat.le_refl _, by simp, by simp, ?_⟩
      rw [Nat.zero_add, List.getElem?_append_right (Nat.le_refl _), Nat.sub_self]
      rfl
    · rw [fc_none c w 0 hw]
      rw [List.flatten_cons, List.mem_append] at h
      obtain ⟨i', k, v, h1, h2, h3, h4, h5⟩ := fo_in c P r (i + 1) (h.resolve_left hw)
      refine ⟨i', k, v, h1, by omega, by simp only [List.length_cons]; omega, ?_, h5⟩
      rw [show i' - i = (i' - (i + 1)) + 1 by omega]
      exact h4
theorem fo_none (c : UInt8) (rows : List Str) (i : Nat) (h : c ∉ rows.flatten) : fo c rows i = none := by
  have := fo_notin c rows [] i h
  rw [List.append_nil] at this
  exact this
theorem fo_at (c : UInt8) (P R : List Str) (A B : Str) : ∃ i k, fo c (P ++ (A ++ c :: B) :: R) 0 = some (i, k) ∧ ((i = P.length ∧ k = A.length) ↔ (c ∉ P.flatten ∧ c ∉ A)) := by
  by_cases hP : c ∈ P.flatten
  · obtain ⟨i, k, w, h1, _, h3, _⟩ := fo_in c P ((A ++ c :: B) :: R) 0 hP
    exact ⟨i, k, h1, ⟨fun h => by omega, fun h => absurd hP h.1⟩⟩
  · rw [fo_notin c P _ 0 hP, fo]
    by_cases hA : c ∈ A
    · obtain ⟨j, h1, h2, h3⟩ := fc_in c A (c :: B) 0 hA
      rw [h1]
      exact ⟨_, _, rfl, ⟨fun h => by omega, fun h => absurd hA h.2⟩⟩
    · rw [fc_notin c A _ 0 hA, fc, if_pos rfl]
      exact ⟨_, _, rfl, ⟨fun _ => ⟨hP, hA⟩, fun _ => ⟨by omega, by omega⟩⟩⟩
end Go.Proofs.Ytlmpbacboapkaaa
