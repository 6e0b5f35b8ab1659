/-
  Plain lemmas on these functions. No conditions but those that each states.
-/
import Derived.Test.YtpodlgibcfbbiaaDoorFnPressesP15
namespace Go.Proofs.YtpodlgibcfbbiaaDoor
set_option linter.unusedVariables false
set_option linter.unusedSimpArgs false
/-! Presses for a text type it. -/
theorem okAs_pair (keys : List Key) : ∀ (as p : List Accent), okAs keys p as = true → ∀ a ∈ as, ∀ b ∈ p ++ as, b.mark = a.mark → b.letter = a.letter → b.made = a.made := by
  intro as
  induction as with
  | nil => intro p _ a ha; cases ha
  | cons x xs ih =>
    intro p h a ha b hb h1 h2
    simp only [okAs, Bool.and_eq_true] at h
    have hx : ∀ b ∈ p, b.mark = x.mark → b.letter = x.letter → False := fun b hb g1 g2 => by
      have h0 := h.1
      simp only [okA, Bool.and_eq_true, Bool.not_eq_true'] at h0
      have h3 := h0.2
      rw [Bool.eq_false_iff] at h3
      exact h3 (List.any_eq_true.2 ⟨b, hb, by simp [g1, g2]⟩)
    have hb' : b ∈ (p ++ [x]) ++ xs := by simpa using hb
    rcases List.mem_cons.1 ha with rfl | ha
    · rcases List.mem_append.1 hb with hb | hb
      · exact (hx b hb h1 h2).elim
      · rcases List.mem_cons.1 hb with rfl | hb
        · rfl
        · exact (ih (p ++ [a]) h.2 b hb a (by simp) h1.symm h2.symm).symm
    · exact ih (p ++ [x]) h.2 a ha b hb' h1 h2
theorem fold_stay (x y m : Str) : ∀ (as : List Accent), (∀ b ∈ as, b.mark = x → b.letter = y → b.made = m) → as.foldl (madeO x y) m = m := by
  intro as
  induction as with
  | nil => intro _; rfl
  | cons b bs ih =>
    intro h
    rw [List.foldl_cons]
    have : madeO x y m b = m := by
      unfold madeO
      split
      · rename_i hc
        simp only [Bool.and_eq_true, beq_iff_eq] at hc
        exact h b List.mem_cons_self hc.1 hc.2
      · rfl
    rw [this]
    exact ih fun c hc => h c (List.mem_cons_of_mem _ hc)
theorem fold_hit (x y m : Str) : ∀ (as : List Accent) (m0 : Str), (∀ b ∈ as, b.mark = x → b.letter = y → b.made = m) → (∃ a ∈ as, a.mark = x ∧ a.letter = y) → as.foldl (madeO x y) m0 = m := by
  intro as
  induction as with
  | nil => rintro m0 _ ⟨a, ha, _⟩; cases ha
  | cons b bs ih =>
    rintro m0 h ⟨a, ha, h1, h2⟩
    rw [List.foldl_cons]
    rcases List.mem_cons.1 ha with rfl | ha
    · have : madeO x y m0 a = m := by
        unfold madeO
        rw [h1, h2]
        simp only [beq_self_eq_true, Bool.and_self, if_true]
        exact h a List.mem_cons_self h1 h2
      rw [this]
      exact fold_stay x y m bs fun c hc => h c (List.mem_cons_of_mem _ hc)
    · exact ih _ (fun c hc => h c (List.mem_cons_of_mem _ hc)) ⟨a, ha, h1, h2⟩
theorem pr1_ok (keys : List Key) (c : Str) (h : hasK keys c = true) : InR keys (pr1 keys c) ∧ prt keys (pr1 keys c) = c ∧ ddP keys (pr1 keys c) = deadK keys c := by
  obtain ⟨j, k, e1, e2, e3, e4, e5⟩ := fndK_ge c keys 0 h
  have hlt := lt_of_some e2
  have hk : (pr1 keys c).key = (j : Int) := by show (fndK c 0 keys).1 = _; rw [e1, Nat.zero_add]
  have ht : (pr1 keys c).key.toNat = j := by rw [hk]; simp
  refine ⟨⟨by rw [hk]; omega, by rw [hk]; omega⟩, ?_, ?_⟩
  · unfold prt
    rw [ht, e2]
    show (if (fndK c 0 keys).2 then k.high else k.low) = c
    rw [e4]
    cases hlo : k.low == c
    · rw [hlo] at e3; simpa using e3
    · simpa using hlo
  · unfold ddP
    rw [ht, e2]
    exact e5
/-- what the presses of one letter do -/
theorem prs_do (keys : List Key) (as : List Accent) (hok : okKA keys as = true) (c : Str) (h : (prs keys as c).length ≠ 0) (o : Str) (r : List Press) : txo keys as o (prs keys as c ++ r) = txo keys as (o ++ c) r ∧ ∀ p ∈ prs keys as c, InR keys p := by
  obtain ⟨h1, h2, _, _⟩ := okKA_and hok
  unfold prs at h ⊢
  cases hc : (hasK keys c && !(deadK keys c))
  · rw [hc] at h
    simp only [Bool.false_eq_true, if_false] at h ⊢
    cases hf : as.find? (fun a => a.made == c) with
    | none => rw [hf] at h; simp at h
    | some a =>
      have ha := List.mem_of_find?_eq_some hf
      have hm : a.made = c := by have := List.find?_some hf; simpa using this
      have hA := okAs_made keys as [] h2 a ha
      obtain ⟨i1, p1, d1⟩ := pr1_ok keys a.mark hA.2.1
      obtain ⟨i2, p2, d2⟩ := pr1_ok keys a.letter hA.2.2.1
      have hdead : deadK keys a.mark = true := by
        have : ∀ (as p : List Accent), okAs keys p as = true → ∀ a ∈ as, deadK keys a.mark = true := by
          intro as
          induction as with
          | nil => intro p _ a ha; cases ha
          | cons x xs ih =>
            intro p h a ha
            simp only [okAs, okA, Bool.and_eq_true, Bool.not_eq_true'] at h
            rcases List.mem_cons.1 ha with rfl | ha
            · exact h.1.1.1.1.1.1.2
            · exact ih _ h.2 a ha
        exact this as [] h2 a ha
      have hmo : madeOf as (prt keys (pr1 keys a.mark)) (prt keys (pr1 keys a.letter)) = c := by
        rw [p1, p2]
        refine fold_hit a.mark a.letter c as [] (fun b hb g1 g2 => ?_) ⟨a, ha, rfl, rfl⟩
        rw [← hm]
        exact okAs_pair keys as [] h2 a ha b (by simpa using hb) g1 g2
      have hne : (c == []) = false := by
        have := isL_len hA.1
        rw [hm] at this
        rw [beq_eq_false_iff_ne]
        intro e
        rw [e] at this
        simp at this
      refine ⟨?_, ?_⟩
      · show txo keys as o (pr1 keys a.mark :: pr1 keys a.letter :: r) = _
        simp only [txo, d1, hdead, if_true, hmo, hne, Bool.false_eq_true, if_false]
      · intro p hp
        rcases List.mem_cons.1 hp with rfl | hp
        · exact i1
        · rw [List.mem_singleton.1 hp]; exact i2
  · simp only [Bool.and_eq_true, Bool.not_eq_true'] at hc
    obtain ⟨i1, p1, d1⟩ := pr1_ok keys c hc.1
    simp only [if_true]
    refine ⟨?_, ?_⟩
    · show txo keys as o (pr1 keys c :: r) = _
      rw [txo_n keys as o _ r (by rw [d1]; exact hc.2), p1]
    · intro p hp
      rw [List.mem_singleton.1 hp]; exact i1
def allP (keys : List Key) (as : List Accent) (t : Str) : List Press := t.flatMap fun c => prs keys as [c]
theorem pfo_all (keys : List Key) (as : List Accent) : ∀ (t : Str) (o : List Press), (∀ c ∈ t, (prs keys as [c]).length ≠ 0) → pfo keys as o t = (o ++ allP keys as t, 0) := by
  intro t
  induction t with
  | nil => intro o _; simp [pfo, allP]
  | cons c r ih =>
    intro o h
    have h1 := h c List.mem_cons_self
    have hz : (((prs keys as [c]).length : Int) == 0) = false := by rw [beq_eq_false_iff_ne]; omega
    simp only [pfo, hz, Bool.false_eq_true, if_false]
    rw [ih _ fun x hx => h x (List.mem_cons_of_mem _ hx)]
    simp [allP]
theorem pfo_none (keys : List Key) (as : List Accent) : ∀ (t : Str) (o : List Press), (pfo keys as o t).2 = 0 → ∀ c ∈ t, (prs keys as [c]).length ≠ 0 := by
  intro t
  induction t with
  | nil => intro o _ c hc; cases hc
  | cons x r ih =>
    intro o h c hc
    unfold pfo at h
    cases hz : (((prs keys as [x]).length : Int) == 0)
    · rw [hz] at h
      simp only [Bool.false_eq_true, if_false] at h
      rcases List.mem_cons.1 hc with rfl | hc
      · rw [beq_eq_false_iff_ne] at hz; omega
      · exact ih _ h c hc
    · rw [hz] at h
      simp at h
theorem txo_all (keys : List Key) (as : List Accent) (hok : okKA keys as = true) : ∀ (t o : Str), (∀ c ∈ t, (prs keys as [c]).length ≠ 0) → txo keys as o (allP keys as t) = (o ++ t, 0) ∧ ∀ p ∈ allP keys as t, InR keys p := by
  intro t
  induction t with
  | nil => intro o _; exact ⟨by simp [allP, txo], by simp [allP]⟩
  | cons c r ih =>
    intro o h
    obtain ⟨e1, e2⟩ := prs_do keys as hok [c] (h c List.mem_cons_self) o (allP keys as r)
    obtain ⟨f1, f2⟩ := ih (o ++ [c]) fun x hx => h x (List.mem_cons_of_mem _ hx)
    have he : allP keys as (c :: r) = prs keys as [c] ++ allP keys as r := by simp [allP]
    rw [he]
    refine ⟨by rw [e1, f1]; simp, fun p hp => ?_⟩
    rcases List.mem_append.1 hp with hp | hp
    · exact e2 p hp
    · exact f2 p hp
theorem allP_len (keys : List Key) (as : List Accent) : ∀ t : Str, (∀ c ∈ t, (prs keys as [c]).length ≠ 0) → t.length ≤ (allP keys as t).length ∧ (allP keys as t).length ≤ 2 * t.length := by
  intro t
  induction t with
  | nil => intro _; simp [allP]
  | cons c r ih =>
    intro h
    obtain ⟨f1, f2⟩ := ih fun x hx => h x (List.mem_cons_of_mem _ hx)
    have he : allP keys as (c :: r) = prs keys as [c] ++ allP keys as r := by simp [allP]
    have h1 := h c List.mem_cons_self
    have h2 := prs_len keys as [c]
    rw [he, List.length_append, List.length_cons]
    omega
theorem mis_mem (keys : List Key) (as : List Accent) (x : UInt8) : ∀ (t o : Str), x ∈ t.foldl (misF keys as) o ↔ x ∈ o ∨ (x ∈ t ∧ (prs keys as [x]).length = 0) := by
  intro t
  induction t with
  | nil => intro o; simp
  | cons c r ih =>
    intro o
    rw [List.foldl_cons, ih]
    unfold misF
    split
    · rename_i hz
      have hz : (prs keys as [c]).length = 0 := by have : ((prs keys as [c]).length : Int) = 0 := by simpa using hz
                                                   omega
      rw [putC_mem, List.mem_cons]
      constructor
      · rintro ((h | h) | h)
        · exact .inr ⟨.inl h, by rw [h]; exact hz⟩
        · exact .inl h
        · exact .inr ⟨.inr h.1, h.2⟩
      · rintro (h | ⟨h | h, h2⟩)
        · exact .inl (.inr h)
        · exact .inl (.inl h)
        · exact .inr ⟨h, h2⟩
    · rename_i hz
      have hz : (prs keys as [c]).length ≠ 0 := fun e => hz (by simp [e])
      rw [List.mem_cons]
      constructor
      · rintro (h | h)
        · exact .inl h
        · exact .inr ⟨.inr h.1, h.2⟩
      · rintro (h | ⟨h | h, h2⟩)
        · exact .inl h
        · rw [h] at h2; exact absurd h2 hz
        · exact .inr ⟨h, h2⟩
/-- found for all letters, or some are missing -/
theorem mis_pf (keys : List Key) (as : List Accent) (t : Str) (h : (misV keys as t).2 = 0) : ((pfV keys as t).2 == 0) = ((misV keys as t).1 == []) := by
  unfold misV pfV at *
  cases hok : okKA keys as
  · rw [hok] at h; simp at h
  · rw [hok] at h
    simp only [if_true] at h ⊢
    cases ht : (isT t 33 && decide ((t.length : Int) ≤ 100))
    · rw [ht] at h; simp at h
    · simp only [if_true]
      rw [Bool.eq_iff_iff, beq_iff_eq, beq_iff_eq]
      constructor
      · intro h0
        have := pfo_none keys as t [] h0
        rw [List.eq_nil_iff_forall_not_mem]
        intro x hx
        rcases (mis_mem keys as x t []).1 hx with g | g
        · cases g
        · exact this x g.1 g.2
      · intro h0
        refine congrArg Prod.snd (pfo_all keys as t [] fun c hc e => ?_)
        have : c ∈ t.foldl (misF keys as) [] := (mis_mem keys as c t []).2 (.inr ⟨hc, e⟩)
        rw [h0] at this
        cases this
theorem pf_tx (keys : List Key) (as : List Accent) (t : Str) (h : (pfV keys as t).2 = 0) : txV keys as (pfV keys as t).1 = (t, 0) ∧ t.length ≤ (pfV keys as t).1.length ∧ (pfV keys as t).1.length ≤ 2 * t.length := by
  unfold pfV at *
  cases hok : okKA keys as
  · rw [hok] at h; simp at h
  · rw [hok] at h
    simp only [if_true] at h ⊢
    cases ht : (isT t 33 && decide ((t.length : Int) ≤ 100))
    · rw [ht] at h; simp at h
    · rw [ht] at h
      simp only [if_true] at h ⊢
      have hp := pfo_none keys as t [] h
      rw [pfo_all keys as t [] hp]
      obtain ⟨f1, f2⟩ := txo_all keys as hok t [] hp
      obtain ⟨g1, g2⟩ := allP_len keys as t hp
      simp only [List.nil_append] at f1 ⊢
      refine ⟨?_, g1, g2⟩
      simp only [Bool.and_eq_true, decide_eq_true_eq] at ht
      unfold txV
      have hr : (allP keys as t).all (rng keys) = true := List.all_eq_true.2 fun p hp => rng_in.2 (f2 p hp)
      have hd : decide ((allP keys as t).length ≤ 200) = true := decide_eq_true (by have := ht.2; omega)
      rw [hok, hr, hd]
      exact f1
theorem beq_pressP (p : Press) : Press.beq p p = true := by unfold Press.beq; simp
theorem law_FnPresses (code : List UInt8) (_ : wfL wfByte code) : ∃ N, w_FnPresses N code = some true := by
  refine ⟨7000, ?_⟩
  obtain ⟨N, hN⟩ : ∃ N, N = 7000 := ⟨_, rfl⟩
  rw [← hN]
  unfold w_FnPresses w_f6big
  rw [Option.bind_some]
  cases (decide ((code.length : Int) > 4096))
  case true => rfl
  rw [cond_false]
  obtain ⟨d, x1, g1, g2, g3⟩ := dtext code N (by omega)
  obtain ⟨m1, m2⟩ := mis_both d.1 d.2.1 d.2.2 (by omega) (by omega) (by omega) N (by omega)
  obtain ⟨p, p1, p2, p3⟩ := dptx code
  obtain ⟨t1, t2⟩ := ptx_both p p2 p3 N (by omega)
  have tl := ptx_len p p2 p3
  obtain ⟨r1, r2⟩ := rp_both (ptx p) (by omega) N (by omega)
  obtain ⟨s, s1, s2⟩ := drdp code N (by omega)
  obtain ⟨u1, u2⟩ := rp_both s (by omega) N (by omega)
  obtain ⟨ab, a1, a2⟩ := dsame code N (by omega)
  obtain ⟨sv, b1, _⟩ := s_same ab.1 ab.2 (by omega) N (by omega)
  have hpl : (pfV d.1 d.2.1 d.2.2).1.length ≤ 300 := by
    unfold pfV
    have := pfo_len d.1 d.2.1 d.2.2 []
    simp only [List.length_nil] at this
    split
    · split
      · omega
      · simp
    · simp
  obtain ⟨sw, c1, c2⟩ := s_same (pfV d.1 d.2.1 d.2.2).1 (pfV d.1 d.2.1 d.2.2).1 (by omega) N (by omega)
  rw [c2 rfl] at c1
  have hT := i_txV d.1 d.2.1 (pfV d.1 d.2.1 d.2.2).1 (by omega) (by omega) (by omega) N (by omega)
  obtain ⟨q1, q2⟩ := rp_ptx p
  unfold s_DrawPressesFor s_ValidKeys
  rw [x1]
  simp only [Option.bind_some]
  rw [i_pf d.1 d.2.1 d.2.2 (by omega) (by omega) (by omega) N (by omega), s_pf d.1 d.2.1 d.2.2 (by omega) (by omega) (by omega) N (by omega), m1, m2, i_ltrs d.1 d.2.1 (by omega) (by omega) N (by omega), s_ltrs d.1 d.2.1 (by omega) (by omega) N (by omega), p1]
  simp only [Option.bind_some]
  rw [t1]
  simp only [Option.bind_some]
  rw [r1, s1]
  simp only [Option.bind_some]
  rw [u1, u2, a1]
  simp only [Option.bind_some]
  rw [c1, t2, same_is, b1, i_valid d.1 d.2.1 (by omega) (by omega) N (by omega), s_ok d.1 d.2.1 (by omega) (by omega) N (by omega), hT]
  have hq : ((rp (ptx p)).2 && !(Press.beq (rp (ptx p)).1 p)) = false := by
    cases h : (rp (ptx p)).2
    · rfl
    · rw [q2 h, beq_pressP]; rfl
  simp only [Option.bind_some, bne_self_eq_false, orO_some, andO_some, Bool.or_self, Bool.not_true, beq_pressP, ← q1, hq, cond_false]
  have hA : ((misV d.1 d.2.1 d.2.2).2 == 0 && ((pfV d.1 d.2.1 d.2.2).2 == 0) != ((misV d.1 d.2.1 d.2.2).1 == [])) = false := by
    cases h : (misV d.1 d.2.1 d.2.2).2 == 0
    · rfl
    · rw [mis_pf d.1 d.2.1 d.2.2 (by simpa using h)]; simp
  rw [hA]
  simp only [cond_false]
  cases h0 : ((pfV d.1 d.2.1 d.2.2).2 != 0)
  · obtain ⟨k1, k2, k3⟩ := pf_tx d.1 d.2.1 d.2.2 (by simpa using h0)
    rw [k1]
    have hw : w64 (2 * (d.2.2.length : Int)) = 2 * (d.2.2.length : Int) := w64_id (by omega) (by omega)
    have e1 : decide (((pfV d.1 d.2.1 d.2.2).1.length : Int) ≥ (d.2.2.length : Int)) = true := decide_eq_true (by omega)
    have e2 : decide (((pfV d.1 d.2.1 d.2.2).1.length : Int) ≤ 2 * (d.2.2.length : Int)) = true := decide_eq_true (by omega)
    simp only [cond_false, hw, e1, e2, beq_self_eq_true, Bool.and_self]
  · rfl
end Go.Proofs.YtpodlgibcfbbiaaDoor
