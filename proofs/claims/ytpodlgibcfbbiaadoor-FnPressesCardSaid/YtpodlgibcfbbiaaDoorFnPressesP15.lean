/-
  Plain lemmas on these functions. No conditions but those that each states.
-/
import Derived.Test.YtpodlgibcfbbiaaDoorFnPressesP14
namespace Go.Proofs.YtpodlgibcfbbiaaDoor
set_option linter.unusedVariables false
set_option linter.unusedSimpArgs false
/-! Presses compared, and as text. -/
theorem same_l1 : ∀ (N : Nat) (kj : Option Bool) (a b : List Press) (i : Int), i_SamePresses_l1 kj a b N i = s_SamePresses_l1 kj a b N i := by
  intro N
  induction N with
  | zero => intro kj a b i; rfl
  | succ N ih =>
    intro kj a b i
    simp only [i_SamePresses_l1, s_SamePresses_l1, ih]
theorem same_is (N : Nat) (a b : List Press) : i_SamePresses N a b = s_SamePresses N a b := by
  unfold i_SamePresses s_SamePresses
  simp only [withK_eq, same_l1]
theorem s_same_l1 (a b : List Press) (kj : Option Bool) (hk : kj = some true) (h : a.length = b.length) (hl : a.length ≤ 1000) : ∀ (n i N : Nat), i + n = a.length → n < N → ∃ v, s_SamePresses_l1 kj a b N (i : Int) = some v ∧ (a = b → v = true) := by
  intro n
  induction n with
  | zero =>
    intro i N hi hN
    obtain ⟨N, rfl⟩ := pos_fuel hN
    have hz : ¬ (i : Int) < (a.length : Int) := by omega
    simp only [s_SamePresses_l1, hz, decide_false, cond_false]
    exact ⟨true, hk, fun _ => rfl⟩
  | succ n ih =>
    intro i N hi hN
    obtain ⟨N, rfl⟩ := pos_fuel hN
    have hz : (i : Int) < (a.length : Int) := by omega
    simp only [s_SamePresses_l1, hz, decide_true, cond_true]
    rw [idx_lt a i (by omega), idx_lt b i (by omega), w64_nat i (by omega)]
    simp only [Option.bind_some]
    obtain ⟨v, e, hv⟩ := ih (i + 1) N (by omega) (by omega)
    rw [e]
    cases hb : Press.beq a[i] b[i]
    · refine ⟨false, rfl, fun hab => ?_⟩
      subst hab
      rw [show Press.beq a[i] a[i] = true by unfold Press.beq; simp] at hb
      cases hb
    · exact ⟨v, rfl, hv⟩
theorem s_same (a b : List Press) (hl : a.length ≤ 1000) (N : Nat) (hN : 1001 < N) : ∃ v, s_SamePresses N a b = some v ∧ (a = b → v = true) := by
  unfold s_SamePresses
  simp only [withK_eq]
  by_cases h : a.length = b.length
  · have hz : ((a.length : Int) != (b.length : Int)) = false := by simp [h]
    simp only [hz, cond_false]
    exact s_same_l1 a b _ rfl h hl a.length 0 N (by omega) (by omega)
  · have hz : ((a.length : Int) != (b.length : Int)) = true := by simp; omega
    simp only [hz, cond_true]
    exact ⟨false, rfl, fun e => absurd (by rw [e]) h⟩
/-- reading a press -/
def rpF (x : Bool) (s : Str) : Press × Bool := if (rdv s).2 && (decide (0 ≤ (rdv s).1) && decide ((rdv s).1 ≤ 39)) then (⟨(rdv s).1, x⟩, true) else (⟨0, false⟩, false)
def rp (s : Str) : Press × Bool := if s[0]? = some 94 then rpF true (s.drop 1) else rpF false s
theorem hat_test (s : Str) : (andO (decide ((List.length s : Int) > 0)) ((idx s 0).bind fun c12 => some (c12 == (94 : UInt8)))) = some (decide (s[0]? = some 94)) := by
  match s with
  | [] => rfl
  | c :: r =>
    have h1 : decide ((List.length (c :: r) : Int) > 0) = true := by simp
    have h2 : idx (c :: r) 0 = some c := rfl
    rw [h1, h2]
    simp only [andO_true, Option.bind_some, List.getElem?_cons_zero, Option.some.injEq]
    rfl
theorem rp_both (s : Str) (hs : s.length ≤ 900) (N : Nat) (hN : 100 ≤ N) : i_ReadPress N s = some (rp s) ∧ s_ReadPress N s = some (rp s) := by
  unfold i_ReadPress s_ReadPress
  simp only [withK_eq]
  rw [hat_test]
  simp only [Option.bind_some]
  have key : ∀ (x : Bool) (t : Str), t.length ≤ 900 → ((i_ReadDecimal N t).bind fun r17 =>
      (orO (!r17.2) ((i_between r17.1 0 39).bind fun r22 => some (!r22))).bind fun t19 => bif t19 then some ((Press.mk 0 false), false) else some ((Press.mk r17.1 x), true)) = some (rpF x t) ∧ ((s_l01Number N t).bind fun r17 =>
      (orO (!r17.2) ((s_l00In r17.1 0 39).bind fun r22 => some (!r22))).bind fun t19 => bif t19 then some ((Press.mk 0 false), false) else some ((Press.mk r17.1 x), true)) = some (rpF x t) := fun x t ht => by
    obtain ⟨e1, e2⟩ := Read_ok N t (by omega) hN
    rw [e1, e2]
    unfold i_between s_l00In rpF
    simp only [Option.bind_some, andO_some, orO_some, ge_iff_le]
    cases (rdv t).2 <;> cases decide (0 ≤ (rdv t).1) <;> cases decide ((rdv t).1 ≤ 39) <;> exact ⟨rfl, rfl⟩
  unfold rp
  by_cases h : s[0]? = some 94
  · have hlt := lt_of_some h
    have hsub : sub s 1 (s.length : Int) = some (s.drop 1) := by
      rw [sub_some s 1 _ (by omega) (by omega) (by omega)]
      refine congrArg some (List.take_of_length_le ?_)
      rw [List.length_drop]
      have : (1 : Int).toNat = 1 := rfl
      omega
    simp only [h, decide_true, cond_true, if_true, hsub, Option.bind_some]
    exact key true (s.drop 1) (by rw [List.length_drop]; omega)
  · simp only [h, decide_false, cond_false, if_false]
    exact key false s hs
/-- a press as text -/
def ptx (p : Press) : Str := if 0 ≤ p.key ∧ p.key ≤ 39 then (if p.shift then 94 :: Lib.itoa p.key else Lib.itoa p.key) else []
theorem ptx_both (p : Press) (h1 : -100 ≤ p.key) (h2 : p.key ≤ 100) (N : Nat) (hN : 30 < N) : i_PressText p = some (ptx p) ∧ s_PressText N p = some (ptx p) := by
  obtain ⟨e1, e2, e3, e4⟩ := Dec_eq N p.key (by omega) (by omega) hN
  unfold i_PressText s_PressText i_between s_l00In s_l02PressText ptx
  rw [e1, e2]
  simp only [Option.bind_some, andO_some, ge_iff_le]
  rw [cat_some _ _ (by unfold LIM; simp; omega)]
  by_cases h : 0 ≤ p.key ∧ p.key ≤ 39
  · have hb : (decide (0 ≤ p.key) && decide (p.key ≤ 39)) = true := by simp [h.1, h.2]
    rw [hb, if_pos h]
    cases p.shift <;> exact ⟨rfl, rfl⟩
  · have hb : (decide (0 ≤ p.key) && decide (p.key ≤ 39)) = false := by
      rw [Bool.eq_false_iff]
      simpa using h
    rw [hb, if_neg h]
    exact ⟨rfl, rfl⟩
theorem s_l02PressText_ok (p : Press) (h1 : -100 ≤ p.key) (h2 : p.key ≤ 100) (N : Nat) (hN : 30 < N) : ∃ v, s_l02PressText N p = some v ∧ v.length ≤ 30 := by
  obtain ⟨e1, e2, e3, e4⟩ := Dec_eq N p.key (by omega) (by omega) hN
  unfold s_l02PressText
  rw [e1]
  simp only [Option.bind_some]
  rw [cat_some _ _ (by unfold LIM; simp; omega)]
  cases p.shift
  · exact ⟨_, rfl, by omega⟩
  · exact ⟨_, rfl, by simp; omega⟩
theorem ptx_len (p : Press) (h1 : -100 ≤ p.key) (h2 : p.key ≤ 100) : (ptx p).length ≤ 30 := by
  obtain ⟨e1, e2, e3, e4⟩ := Dec_eq 100 p.key (by omega) (by omega) (by omega)
  unfold ptx
  split
  · split
    · simp; omega
    · omega
  · simp
theorem rp_ptx (p : Press) : (rp (ptx p)).2 = (ptx p != []) ∧ ((rp (ptx p)).2 = true → (rp (ptx p)).1 = p) := by
  unfold ptx
  by_cases h : 0 ≤ p.key ∧ p.key ≤ 39
  · rw [if_pos h]
    obtain ⟨u, hu⟩ := Int.eq_ofNat_of_zero_le h.1
    have hr : rdv (Lib.itoa p.key) = (p.key, true) := by rw [hu]; exact rdv_itoa u (by omega)
    have hne : Lib.itoa p.key ≠ [] := by
      intro e
      rw [e] at hr
      have : rdv [] = (0, false) := rfl
      rw [this] at hr
      exact Bool.false_ne_true (congrArg Prod.snd hr)
    have hF : ∀ x, rpF x (Lib.itoa p.key) = (⟨p.key, x⟩, true) := fun x => by
      unfold rpF
      rw [hr]
      simp [h.1, h.2]
    cases hs : p.shift
    · have h0 : ¬ (Lib.itoa p.key)[0]? = some 94 := by
        intro e
        rw [hu, itoa_nat] at e
        have := (dg_iff _).1 ((decDigits_ok u).1 94 (List.mem_of_getElem? e))
        have e94 : (94 : UInt8).toNat = 94 := rfl
        omega
      simp only [Bool.false_eq_true, if_false]
      unfold rp
      rw [if_neg h0, hF false]
      refine ⟨by simp [hne], fun _ => ?_⟩
      show (⟨p.key, false⟩ : Press) = p
      rw [← hs]
    · simp only [if_true]
      unfold rp
      rw [if_pos (by rfl), List.drop_one, List.tail_cons, hF true]
      refine ⟨by simp, fun _ => ?_⟩
      show (⟨p.key, true⟩ : Press) = p
      rw [← hs]
  · rw [if_neg h]
    exact ⟨rfl, fun e => by cases e⟩
theorem Spoil_okP {code : List UInt8} {hi : Int} (s : L00Src) (h : SrcAt code hi s) (hb : hi ≤ 1000000) (t : Str) (ht : t.length ≤ 150) : ∃ v, s_l01Spoil s t = some v ∧ v.1.length ≤ 160 := by
  unfold s_l01Spoil
  simp only [withK_eq]
  refine bindE (pickA 5 h (by omega)) fun v1 h1 => ?_
  refine condE (fun _ => ?_) fun _ => condE (fun _ => ?_) fun _ => ⟨_, rfl, by show t.length ≤ 160; omega⟩
  · have e : w64 ((t.length : Int) + 1) = (t.length : Int) + 1 := w64_id (by omega) (by omega)
    rw [e]
    refine bindE (pickA _ ⟨h.1, h1.1.2⟩ (by omega)) fun v2 h2 => ?_
    have a := h2.2.2 (by omega)
    have b := h2.2.1
    rw [sub_some t 0 v2.1 (by omega) (by omega) (by omega), Option.bind_some]
    refine bindE (textA _ (by simp) ⟨h.1, h2.1.2⟩ (by omega)) fun v3 h3 => ?_
    have : ∀ x ∈ ([[32], [48], [45], [120], [49], [57], [46]] : List Str), x.length ≤ 1 := by decide
    have hx := this _ h3.2
    have l1 : ((t.drop (0 : Int).toNat).take (v2.1.toNat - (0 : Int).toNat)).length ≤ 150 := by simp; omega
    rw [cat_some _ _ (by unfold LIM; omega), Option.bind_some, sub_some t v2.1 _ (by omega) (by omega) (by omega), Option.bind_some]
    have l2 : ((t.drop v2.1.toNat).take ((t.length : Int).toNat - v2.1.toNat)).length ≤ t.length - v2.1.toNat := by simp <;> omega
    have l3 : ((t.drop (0 : Int).toNat).take (v2.1.toNat - (0 : Int).toNat)).length ≤ v2.1.toNat := by simp; omega
    rw [cat_some _ _ (by unfold LIM; simp only [List.length_append]; omega), Option.bind_some]
    refine ⟨_, rfl, ?_⟩
    simp only [List.length_append]
    omega
  · refine condE (fun c => ?_) fun _ => ⟨_, rfl, by show t.length ≤ 160; omega⟩
    have hpos : 0 < t.length := List.length_pos_iff.2 (by simpa using c)
    refine bindE (pickA _ ⟨h.1, h1.1.2⟩ (by omega)) fun v2 h2 => ?_
    have a := h2.2.2 (by omega)
    have b := h2.2.1
    have e : w64 (v2.1 + 1) = v2.1 + 1 := w64_id (by omega) (by omega)
    rw [e, sub_some t 0 v2.1 (by omega) (by omega) (by omega), Option.bind_some, sub_some t (v2.1 + 1) _ (by omega) (by omega) (by omega), Option.bind_some]
    have l1 : ((t.drop (0 : Int).toNat).take (v2.1.toNat - (0 : Int).toNat)).length ≤ v2.1.toNat := by simp; omega
    have l2 : ((t.drop (v2.1 + 1).toNat).take ((t.length : Int).toNat - (v2.1 + 1).toNat)).length ≤ t.length - v2.1.toNat := by simp; omega
    rw [cat_some _ _ (by unfold LIM; omega), Option.bind_some]
    refine ⟨_, rfl, ?_⟩
    simp only [List.length_append]
    omega
theorem dptx (code : List UInt8) : ∃ v, s_DrawPressText code = some v ∧ -100 ≤ v.key ∧ v.key ≤ 100 := by
  unfold s_DrawPressText
  rw [fromA]
  simp only [Option.bind_some]
  refine bindE (pickA (code := code) (hi := 0) 42 ⟨rfl, by show (0 : Int) ≤ 0; omega, by show (0 : Int) ≤ 0; omega⟩ (by omega)) fun v1 h1 => ?_
  refine bindE (oneA (code := code) (hi := 2) 2 ⟨rfl, h1.1.2⟩ (by omega)) fun v2 h2 => ?_
  have a := h1.2.1
  have b := h1.2.2 (by omega)
  refine ⟨_, rfl, ?_, ?_⟩
  · show -100 ≤ w64 (v1.1 - 1); rw [w64_id (by omega) (by omega)]; omega
  · show w64 (v1.1 - 1) ≤ 100; rw [w64_id (by omega) (by omega)]; omega
theorem drdp (code : List UInt8) (N : Nat) (hN : 30 < N) : ∃ v, s_DrawReadPress N code = some v ∧ v.length ≤ 160 := by
  unfold s_DrawReadPress
  rw [fromA]
  simp only [Option.bind_some]
  refine bindE (pickA (code := code) (hi := 0) 40 ⟨rfl, by show (0 : Int) ≤ 0; omega, by show (0 : Int) ≤ 0; omega⟩ (by omega)) fun v1 h1 => ?_
  refine bindE (oneA (code := code) (hi := 2) 2 ⟨rfl, h1.1.2⟩ (by omega)) fun v2 h2 => ?_
  have a := h1.2.1
  have b := h1.2.2 (by omega)
  refine bindE (s_l02PressText_ok (Press.mk ((Press.mk v1.1 false).key) v2.1) (by show -100 ≤ v1.1; omega) (by show v1.1 ≤ 100; omega) N hN) fun t ht => ?_
  refine bindE (oneA (code := code) (hi := 4) 3 ⟨rfl, h2.2⟩ (by omega)) fun v3 h3 => ?_
  refine condE (fun _ => ?_) fun _ => ⟨_, rfl, by omega⟩
  exact bindE (Spoil_okP (code := code) (hi := 6) (L00Src.mk code v3.2.at_ v3.2.seed) ⟨rfl, h3.2⟩ (by omega) t (by omega)) fun v4 h4 => ⟨_, rfl, h4⟩
theorem dsame (code : List UInt8) (N : Nat) (hN : 6000 < N) : ∃ v, s_DrawSamePresses N code = some v ∧ v.1.length ≤ 215 := by
  unfold s_DrawSamePresses
  simp only [withK_eq]
  refine bindE (dpress code N hN) fun v1 h1 => ?_
  obtain ⟨_, _, h1⟩ := h1
  rw [fromA]
  simp only [Option.bind_some]
  refine appE (by unfold LIM; simp; omega) ?_
  simp only [List.nil_append]
  have tl : ∀ (l : List Press) (x y : Int), l.length ≤ 215 → 0 ≤ x → x ≤ 10 → ∃ r, ((s_l00Src_one (L00Src.mk code x y) 5).bind fun r36 =>
      bif r36.1 then (app l [(Press.mk 0 false)]).bind fun l40 => some (v1.2.2, l40) else some (v1.2.2, l)) = some r ∧ r.1.length ≤ 215 := fun l x y hl h0 h10 => by
    refine bindE (oneA (code := code) (hi := 10) 5 ⟨rfl, h0, h10⟩ (by omega)) fun v2 h2 => ?_
    refine condE (fun _ => ?_) fun _ => ⟨_, rfl, h1⟩
    refine appE (by unfold LIM; simp; omega) ?_
    exact ⟨_, rfl, h1⟩
  by_cases hpos : (v1.2.2.length : Int) > 0
  · simp only [hpos, decide_true, cond_true]
    obtain ⟨w, e, hw⟩ := oneA (code := code) (hi := 0) (s := L00Src.mk code (L00Src.mk code 0 0).at_ (L00Src.mk code 0 0).seed) 2 ⟨rfl, by show (0 : Int) ≤ 0; omega, by show (0 : Int) ≤ 0; omega⟩ (by omega)
    have hw2 := hw.2
    rw [e]
    simp only [Option.bind_some]
    refine condE (fun _ => ?_) fun _ => tl _ _ _ h1 hw2.1 (by have := hw2.2; omega)
    have hi0 : idx v1.2.2 0 = some _ := idx_lt v1.2.2 0 (by omega)
    rw [hi0]
    simp only [Option.bind_some]
    exact tl _ _ _ (by rw [List.length_set]; exact h1) hw2.1 (by have := hw2.2; omega)
  · simp only [hpos, decide_false, cond_false, Option.bind_some]
    exact tl _ 0 0 h1 (by omega) (by omega)
end Go.Proofs.YtpodlgibcfbbiaaDoor
