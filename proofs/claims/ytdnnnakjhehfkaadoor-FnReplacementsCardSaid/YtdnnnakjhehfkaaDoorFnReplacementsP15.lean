/-
  Plain lemmas on these functions. No conditions but those that each states.
-/
import Derived.Test.YtdnnnakjhehfkaaDoorFnReplacementsP14
namespace Go.Proofs.YtdnnnakjhehfkaaDoor
set_option linter.unusedVariables false
set_option linter.unusedSimpArgs false
theorem Use_neg (l : List SparePart) (hv : VP l) (i N : Nat) (hi : i < l.length) (r : Int) (h : s_l24Use N l (i : Int) 1 = some r) (hN : 0 < N) (hr : r < 0) : l[i].stock = 0 := by
  obtain ⟨N, rfl⟩ := pos_fuel hN
  have hs := hv.stock _ (List.getElem_mem hi)
  by_cases c : l[i].stock < 1
  · omega
  · exfalso
    have h0 : (i : Int) ≥ 0 := by omega
    have : s_l24Use (N + 1) l (i : Int) 1 = some (i : Int) := by
      simp only [s_l24Use, withK_eq, s_l24Use_l1, h0, decide_true, andO_true, idx_lt l i hi, Option.bind_some, c, decide_false, cond_false]
    rw [this] at h
    have := Option.some.inj h
    omega
def deadI (l : List SparePart) (x : Int) : Prop := 0 ≤ x ∧ ∃ h : x.toNat < l.length, l[x.toNat].stock = 0
theorem Dead_l1 (l : List SparePart) (hv : VP l) : ∀ (n i N : Nat) (o : List Int), i + n = l.length → n + 50 < N → o.length ≤ i → (∀ x ∈ o, deadI l x) →
    ∃ r : List Int, r.length ≤ 40 ∧ (∀ x ∈ r, deadI l x) ∧ ∀ K, s_DeadParts_l1 K l N o (i : Int) = K r ∧ i_DeadParts_l1 K l N o (i : Int) = K r := by
  have h40 := hv.1
  intro n
  induction n with
  | zero =>
    intro i N o h1 h3 h4 hI
    obtain ⟨N, rfl⟩ := pos_fuel (by omega : 0 < N)
    have hi : ¬ ((i : Int) < (l.length : Int)) := by omega
    exact ⟨o, by omega, hI, fun K => by simp [s_DeadParts_l1, i_DeadParts_l1, hi]⟩
  | succ n ih =>
    intro i N o h1 h3 h4 hI
    obtain ⟨N, rfl⟩ := pos_fuel (by omega : 0 < N)
    have hi : (i : Int) < (l.length : Int) := by omega
    have hil : i < l.length := by omega
    obtain ⟨r, _, h5⟩ := Use_eq l hv (i : Int) 1 hi
    by_cases hr : r < 0
    · have hd := Use_neg l hv i N hil r (h5 N (by omega)).1 (by omega) hr
      obtain ⟨o', h6, h7', h7⟩ := ih (i + 1) N (o ++ [(i : Int)]) (by omega) (by omega) (by simp; omega) (fun x hx => by
        rcases List.mem_append.1 hx with hx | hx
        · exact hI x hx
        · obtain rfl := List.mem_singleton.1 hx
          exact ⟨by omega, by simpa using hil, by simpa using hd⟩)
      refine ⟨o', h6, h7', fun K => ?_⟩
      simp only [s_DeadParts_l1, i_DeadParts_l1, hi, decide_true, cond_true, withK_eq, h5 N (by omega), Option.bind_some, hr, w64_nat i (by omega)]
      rw [app_some _ _ (by simp; unfold LIM; omega)]
      exact h7 K
    · obtain ⟨o', h6, h7', h7⟩ := ih (i + 1) N o (by omega) (by omega) (by omega) hI
      refine ⟨o', h6, h7', fun K => ?_⟩
      simp only [s_DeadParts_l1, i_DeadParts_l1, hi, decide_true, cond_true, withK_eq, h5 N (by omega), Option.bind_some, hr, decide_false, cond_false, w64_nat i (by omega)]
      exact h7 K
theorem Dead_eq (N : Nat) (l : List SparePart) (ha : l.length ≤ LIM) (hN : 2 * l.length + 100 < N) : ∃ p : List Int × Int, p.1.length ≤ 40 ∧ (∀ x ∈ p.1, deadI l x) ∧ s_DeadParts N l = some p ∧ i_DeadParts N l = some p := by
  obtain ⟨t, h1, h2⟩ := ValidParts_eq l ha
  obtain ⟨h3, h4⟩ := h2 N hN
  cases t
  · exact ⟨([], 1), by simp, by simp, by simp [s_DeadParts, h3], by simp [i_DeadParts, h4]⟩
  · have hv := h1 rfl
    obtain ⟨r, h5, h5', h6⟩ := Dead_l1 l hv l.length 0 N [] (by omega) (by omega) (by simp) (by simp)
    refine ⟨(r, 0), h5, h5', ?_, ?_⟩
    · simp only [s_DeadParts, h3, Option.bind_some, Bool.not_true, cond_false, withK_eq]; exact (h6 _).1
    · simp only [i_DeadParts, h4, Option.bind_some, Bool.not_true, cond_false, withK_eq]; exact (h6 _).2
theorem SP_refl (x : SparePart) : SparePart.beq x x = true := by simp [SparePart.beq]
theorem Same_l1 (a : List SparePart) (ha : a.length ≤ LIM) : ∀ (n i N : Nat), i + n = a.length → n < N → s_SameParts_l1 (some true) a a N (i : Int) = some true := by
  intro n
  induction n with
  | zero =>
    intro i N h1 h2
    obtain ⟨N, rfl⟩ := pos_fuel h2
    have hi : ¬ ((i : Int) < (a.length : Int)) := by omega
    simp only [s_SameParts_l1, hi, decide_false, cond_false]
  | succ n ih =>
    intro i N h1 h2
    obtain ⟨N, rfl⟩ := pos_fuel h2
    have hi : (i : Int) < (a.length : Int) := by omega
    unfold LIM at ha
    simp only [s_SameParts_l1, hi, decide_true, cond_true, idx_lt a i (by omega), Option.bind_some, SP_refl, Bool.not_true, cond_false, w64_nat i (by omega)]
    exact ih (i + 1) N (by omega) (by omega)
theorem Same_refl (N : Nat) (a : List SparePart) (ha : a.length ≤ LIM) (hN : a.length < N) : s_SameParts N a a = some true := by
  have := Same_l1 a ha a.length 0 N (by omega) hN
  rw [show ((0 : Nat) : Int) = 0 from rfl] at this
  unfold s_SameParts
  simp only [bne_self_eq_false, cond_false, withK_eq, this]
theorem stk_back (l : List SparePart) (r : Nat) (h : r < l.length) (v : Int) (h' : r < (stk l r h v).length) : stk (stk l r h v) r h' l[r].stock = l := by
  apply List.ext_getElem
  · rw [length_stk, length_stk]
  · intro i h1 h2
    have hi : i < (stk l r h v).length := by rw [length_stk]; exact h2
    rw [get_stk (stk l r h v) r h' l[r].stock i hi, get_stk l r h v i h2]
    by_cases c : r = i
    · subst c; simp
    · rw [if_neg c, if_neg c]
theorem Back_eq (N : Nat) (l : List SparePart) (ha : l.length ≤ LIM) (hN : 2 * l.length + 200 < N) (hok : s_l24Ok N l = some true) (hv : VP l) (r : Int) (h0 : 0 ≤ r) (hr : r.toNat < l.length) (m : Int) (h1 : 1 ≤ m) (h2 : m ≤ 100000) (h3 : m ≤ l[r.toNat].stock) :
    i_BringParts N (stk l r.toNat hr (l[r.toNat].stock - m)) r m = some (l, 0) := by
  have hs := hv.stock _ (List.getElem_mem hr)
  obtain ⟨t, rfl, g2, g3⟩ := VP_stk l ha N (by omega) hok r.toNat hr (l[r.toNat].stock - m) (by omega) (by omega)
  have e0 : w64 ((l.length : Int) - 1) = (l.length : Int) - 1 := by unfold LIM at ha; exact w64_id (by omega) (by omega)
  have c1 : inr r 0 ((l.length : Int) - 1) = true := inr_iff.2 ⟨h0, by omega⟩
  have c2 : inr m 1 100000 = true := inr_iff.2 ⟨h1, h2⟩
  have hpc : i_partCode N (stk l r.toNat hr (l[r.toNat].stock - m)) r m = some 0 := by
    simp only [i_partCode, (g3 N (by omega)).2, Option.bind_some, Bool.not_true, cond_false, i_between_eq, length_stk, e0, c1, c2, orO_some, Bool.or_self]
  have hrl : r.toNat < (stk l r.toNat hr (l[r.toNat].stock - m)).length := by rw [length_stk]; exact hr
  have hk := idx_int (stk l r.toNat hr (l[r.toNat].stock - m)) r h0 (by omega)
  have hg := get_stk l r.toNat hr (l[r.toNat].stock - m) r.toNat hr
  rw [if_pos rfl] at hg
  have e1 : w64 (l[r.toNat].stock - m + m) = l[r.toNat].stock := by rw [w64_id (by omega) (by omega)]; omega
  have e2 : ¬ l[r.toNat].stock > 100000 := by omega
  unfold i_BringParts
  rw [hpc]
  simp only [Option.bind_some, bne_self_eq_false, cond_false, hk, hg, e1, e2, decide_false]
  rw [app_some [] _ (by rw [List.length_nil, length_stk]; omega)]
  simp only [Option.bind_some, List.nil_append, hk, hg, e1]
  have hb : (stk l r.toNat hr (l[r.toNat].stock - m)).set r.toNat ⟨((stk l r.toNat hr (l[r.toNat].stock - m))[r.toNat]).name, l[r.toNat].stock, ((stk l r.toNat hr (l[r.toNat].stock - m))[r.toNat]).target, ((stk l r.toNat hr (l[r.toNat].stock - m))[r.toNat]).days, ((stk l r.toNat hr (l[r.toNat].stock - m))[r.toNat]).instead⟩ = l := stk_back l r.toNat hr (l[r.toNat].stock - m) hrl
  simp only [hg] at hb
  rw [hb]
theorem f6ints_l1_eq (a : List Int) (ha : a.length ≤ LIM) : ∀ (n i N : Nat), i + n = a.length → n < N → w_f6ints_l1 (some true) a a N (i : Int) = some true := by
  intro n
  induction n with
  | zero =>
    intro i N h1 h3
    obtain ⟨N, rfl⟩ := pos_fuel h3
    have hi : ¬ ((i : Int) < (a.length : Int)) := by omega
    simp only [w_f6ints_l1, hi, decide_false, cond_false]
  | succ n ih =>
    intro i N h1 h3
    obtain ⟨N, rfl⟩ := pos_fuel h3
    have hi : (i : Int) < (a.length : Int) := by omega
    unfold LIM at ha
    simp only [w_f6ints_l1, hi, decide_true, cond_true, idx_lt a i (by omega), Option.bind_some, bne_self_eq_false, cond_false, w64_nat i (by omega)]
    exact ih (i + 1) N (by omega) (by omega)
theorem f6ints_eq {N : Nat} (a : List Int) (ha : a.length ≤ LIM) (hN : a.length < N) : w_f6ints N a a = some true := by
  unfold w_f6ints
  simp only [bne_self_eq_false, cond_false, withK_eq]
  exact f6ints_l1_eq a ha a.length 0 N (by omega) hN
theorem Rp_l1 (r7 : List SparePart × Int × Int) (r32 : List Int × Int) (hd : ∀ x ∈ r32.1, deadI r7.1 x) (ha : r32.1.length ≤ 40) (K : Option Bool) : ∀ (n i N : Nat), i + n = r32.1.length → n < N → w_FnReplacements_l1 K r7 r32 N (i : Int) = K := by
  intro n
  induction n with
  | zero =>
    intro i N h1 h3
    obtain ⟨N, rfl⟩ := pos_fuel h3
    have hi : ¬ ((i : Int) < (r32.1.length : Int)) := by omega
    simp only [w_FnReplacements_l1, hi, decide_false, cond_false]
  | succ n ih =>
    intro i N h1 h3
    obtain ⟨N, rfl⟩ := pos_fuel h3
    have hi : (i : Int) < (r32.1.length : Int) := by omega
    have hn : i < r32.1.length := by omega
    obtain ⟨d0, d1, d2⟩ := hd _ (List.getElem_mem hn)
    simp only [w_FnReplacements_l1, hi, decide_true, cond_true, idx_lt r32.1 i hn, Option.bind_some, idx_int r7.1 _ d0 (by omega), d2, bne_self_eq_false, cond_false, w64_nat i (by omega)]
    exact ih (i + 1) N (by omega) (by omega)
theorem Ask_ok (N : Nat) (code : List UInt8) (hN : 100 < N) : ∃ p : List SparePart × Int × Int, s_l24Ask N code = some p ∧ p.1.length ≤ 41 := by
  have hb : BIG = 1152921504606846976 := rfl
  obtain ⟨a1, s1, l, e1, b1, c1, d1⟩ := Bent_ok code 0 0 N (by omega) (by omega) (by omega)
  have e0 : s_l00From code = some ⟨code, 0, 0⟩ := rfl
  obtain ⟨v2, a2, s2, e2, b2, c2, _⟩ := pick_ok code a1 s1 (l.length : Int) b1 (by omega)
  obtain ⟨v3, a3, s3, e3, b3, c3⟩ := one_ok code a2 s2 12 (by omega) (by omega)
  have fin : ∀ (x y k : Int), 0 ≤ x → x ≤ 10000 → ∃ p : List SparePart × Int × Int, ((s_l00Src_one ⟨code, x, y⟩ 10).bind fun r23 => bif r23.1 then (s_l00Src_among ⟨code, r23.2.at_, r23.2.seed⟩ [0, 1, 100000, 100001]).bind fun r27 => some (l, k, r27.1) else (s_l00Src_pick ⟨code, r23.2.at_, r23.2.seed⟩ 15).bind fun r29 => some (l, k, w64 (1 + r29.1))) = some p ∧ p.1.length ≤ 41 := by
    intro x y k hx hx2
    obtain ⟨v4, a4, s4, e4, b4, c4⟩ := one_ok code x y 10 hx (by omega)
    simp only [e4, Option.bind_some]
    cases v4
    · obtain ⟨v5, a5, s5, e5, b5, c5, _⟩ := pick_ok code a4 s4 15 (by omega) (by omega)
      simp only [cond_false, e5, Option.bind_some]
      exact ⟨_, rfl, d1⟩
    · obtain ⟨v5, a5, s5, e5, b5, c5⟩ := among_ok code a4 s4 [0, 1, 100000, 100001] (by simp) (by omega) (by omega)
      simp only [cond_true, e5, Option.bind_some]
      exact ⟨_, rfl, d1⟩
  simp only [s_l24Ask, e0, e1, e2, e3, Option.bind_some, withK_eq]
  cases v3
  · exact fin _ _ _ (by omega) (by omega)
  · obtain ⟨v5, a5, s5, e5, b5, c5⟩ := among_ok code a3 s3 [(-1), (l.length : Int)] (by simp) (by omega) (by omega)
    simp only [cond_true, e5, Option.bind_some]
    exact fin _ _ _ (by omega) (by omega)
theorem DSame_ok (N : Nat) (code : List UInt8) (hN : 100 < N) : ∃ p : List SparePart × List SparePart, s_DrawSameParts N code = some p ∧ p.1.length ≤ 41 := by
  have hb : BIG = 1152921504606846976 := rfl
  obtain ⟨a1, s1, l, e1, b1, c1, d1⟩ := Draw_ok code 0 0 N (by omega) (by omega) (by omega)
  have e0 : s_l00From code = some ⟨code, 0, 0⟩ := rfl
  have ea : app [] l = some l := app_some [] l (by unfold LIM; simp; omega)
  have fin : ∀ (x y : Int) (l16 : List SparePart), 0 ≤ x → x ≤ 10000 → l16.length ≤ 41 → ∃ p : List SparePart × List SparePart, ((s_l00Src_one ⟨code, x, y⟩ 5).bind fun r37 => bif r37.1 then (app l16 [SparePart.mk [] 0 0 0 0]).bind fun l41 => some (l, l41) else some (l, l16)) = some p ∧ p.1.length ≤ 41 := by
    intro x y l16 hx hx2 hl
    obtain ⟨v4, a4, s4, e4, b4, c4⟩ := one_ok code x y 5 hx (by omega)
    simp only [e4, Option.bind_some]
    cases v4
    · exact ⟨_, rfl, by show l.length ≤ 41; omega⟩
    · rw [app_some l16 _ (by unfold LIM; simp; omega)]
      exact ⟨_, rfl, by show l.length ≤ 41; omega⟩
  simp only [s_DrawSameParts, e0, e1, Option.bind_some, withK_eq, ea]
  by_cases c : (l.length : Int) > 0
  · obtain ⟨v3, a3, s3, e3, b3, c3⟩ := one_ok code a1 s1 2 (by omega) (by omega)
    simp only [c, decide_true, cond_true, e3, Option.bind_some]
    cases v3
    · exact fin _ _ _ (by omega) (by omega) (by omega)
    · obtain ⟨v5, a5, s5, e5, b5, c5, _⟩ := pick_ok code a3 s3 2 (by omega) (by omega)
      simp only [cond_true, idx_int l 0 (by omega) (by omega), e5, Option.bind_some]
      exact fin _ _ _ (by omega) (by omega) (by rw [List.length_set]; omega)
  · simp only [c, decide_false, cond_false, Option.bind_some]
    exact fin _ _ _ (by omega) (by omega) (by omega)
theorem law_FnReplacements (code : List UInt8) (_ : wfL wfByte code) : ∃ N, w_FnReplacements N code = some true := by
  refine ⟨10000, ?_⟩
  obtain ⟨N, hN⟩ : ∃ N, N = 10000 := ⟨_, rfl⟩
  rw [← hN]
  unfold w_FnReplacements w_f6big
  simp only [Option.bind_some]
  cases decide ((code.length : Int) > 4096)
  case true => rfl
  rw [cond_false]
  obtain ⟨⟨l, k, m⟩, x1, hl⟩ := Ask_ok N code (by omega)
  have x1' : s_DrawTakeParts N code = some (l, k, m) := by simp only [s_DrawTakeParts, x1, Option.bind_some]
  have x1'' : s_DrawBringParts N code = some (l, k, m) := by simp only [s_DrawBringParts, x1, Option.bind_some]
  have hl' : l.length ≤ 41 := hl
  have ha : l.length ≤ LIM := by unfold LIM; omega
  obtain ⟨⟨d, e⟩, x2, hd⟩ := DSame_ok N code (by omega)
  have hd' : d.length ≤ 41 := hd
  obtain ⟨p, q, y1, y2, y3, y4, y5, y6, y7⟩ := TR_eq N l ha k m (by omega)
  obtain ⟨b, z0, z1, z2⟩ := BringParts_eq N l ha k m (by omega)
  obtain ⟨g, g0, g1, g2, g3⟩ := Dead_eq N l ha (by omega)
  obtain ⟨t, t1, t2⟩ := SameParts_eq d e (by unfold LIM; omega) (by omega : d.length < N)
  obtain ⟨s, hs⟩ := PartText_eq l ha k
  obtain ⟨s1, s2⟩ := hs N (by omega)
  obtain ⟨v, _, hv⟩ := ValidParts_eq l ha
  obtain ⟨v1, v2⟩ := hv N (by omega)
  have v1' : s_ValidParts N l = some v := by simp only [s_ValidParts, v1, Option.bind_some]
  have r1 := Same_refl N p.1 (by unfold LIM; omega) (by omega)
  have r2 := Same_refl N b.1 (by unfold LIM; omega) (by omega)
  have r3 := f6ints_eq (N := N) g.1 (by unfold LIM; omega) (by omega)
  simp only [x1', x1'', x2, Option.bind_some, y1, y2, y3, y4, z1, z2, g2, g3, t1, t2, s1, s2, v1', v2, r1, r2, r3, bne_self_eq_false, orO_some, Bool.not_true, Bool.or_self, cond_false, withK_eq, y6]
  have hq : (p.2.2 == 0 && q.1 != p.2.1) = false := by
    cases c : (p.2.2 == 0)
    · rfl
    · have := (y7 (by simpa using c)).2.2.1
      rw [this]; simp
  simp only [andO_some, Option.bind_some, hq, Bool.false_or, cond_false]
  have hA : ∀ K : Option Bool, (bif g.2 == 0 then w_FnReplacements_l1 K (l, k, m) g N 0 else K) = K := by
    intro K
    cases c : (g.2 == 0)
    · rfl
    · have := Rp_l1 (l, k, m) g g1 g0 K g.1.length 0 N (by omega) (by omega)
      rw [show ((0 : Nat) : Int) = 0 from rfl] at this
      exact this
  rw [hA]
  cases c : (p.2.2 != 0)
  · have c' : p.2.2 = 0 := by simpa using c
    obtain ⟨w1, w2, w3, w4, w5, w6, w7, w8, w9, w10⟩ := y7 c'
    have hk := idx_int l p.2.1 w4 (by omega)
    have n1 : ¬ l[p.2.1.toNat].stock < m := by omega
    have hp : p = (p.1, p.2.1, p.2.2) := rfl
    have hbk := Back_eq N l ha (by omega) w2 w1 p.2.1 w4 w7 m w5 w6 w8
    rw [← w9] at hbk
    have hw := fun K => w10 K p.1 p.2.2
    have r4 := Same_refl N l ha (by omega)
    rw [cond_false, hk, Option.bind_some]
    simp only [n1, decide_false, cond_false]
    rw [hp] at hw ⊢
    simp only [hbk, Option.bind_some, beq_self_eq_true, andO_true, r4]
    exact hw _
  · rfl
end Go.Proofs.YtdnnnakjhehfkaaDoor
