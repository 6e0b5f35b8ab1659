/-
  Plain lemmas on these functions. No conditions but those that each states.
-/
import Derived.Test.YtbgngihmpdneaaaFnLessonSetsP6
namespace Go.Proofs.Ytbgngihmpdneaaa
set_option linter.unusedVariables false
set_option linter.unusedSimpArgs false
/-! What is needed, directly and through others. -/
/-- valid lessons, as far as it matters for numbers -/
structure GL (L : List Lesson) : Prop where
  len : L.length ≤ 12
  need : ∀ x ∈ L, x.needs.Pairwise (· < ·) ∧ ∀ k ∈ x.needs, 0 ≤ k ∧ k < (L.length : Int)
  hrs : ∀ x ∈ L, 0 ≤ x.hours ∧ x.hours ≤ 100
  let_ : ∀ x ∈ L, x.letters.length ≤ 100
theorem risF_mem (n : Int) : ∀ (l : List Int) (p : Option Int), risF n p l = true → l.Pairwise (· < ·) ∧ (∀ k ∈ l, 0 ≤ k ∧ k < n) ∧ ∀ y, p = some y → ∀ k ∈ l, y < k
  | [], p, _ => ⟨List.Pairwise.nil, fun k hk => by simp at hk, fun y _ k hk => by simp at hk⟩
  | x :: r, p, h => by
    simp only [risF, Bool.and_eq_true] at h
    obtain ⟨h1, h2, h3⟩ := h
    obtain ⟨g1, g2, g3⟩ := risF_mem n r (some x) h3
    have h4 := inr_iff.1 h1
    refine ⟨List.pairwise_cons.2 ⟨fun k hk => g3 x rfl k hk, g1⟩, fun k hk => ?_, fun y hy k hk => ?_⟩
    · rcases List.mem_cons.1 hk with rfl | hk
      · omega
      · exact g2 k hk
    · subst hy
      have h5 : y < x := of_decide_eq_true h2
      rcases List.mem_cons.1 hk with rfl | hk
      · exact h5
      · exact Int.lt_trans h5 (g3 x rfl k hk)
theorem vl_all (n : Nat) : ∀ (L : List Lesson) (seen : List Str) (i : Nat), vl n seen i L = true → ∀ x ∈ L, nm x.name = true ∧ (isT x.letters 33 = true ∧ (x.letters.length : Int) ≤ 100) ∧ inr x.hours 0 100 = true ∧ ascB x.letters = true ∧ risB n x.needs = true
  | [], _, _, _, x, hx => by simp at hx
  | y :: L, seen, i, h, x, hx => by
    simp only [vl, okL, Bool.and_eq_true, decide_eq_true_eq] at h
    rcases List.mem_cons.1 hx with rfl | hx
    · exact ⟨h.1.1.1, h.1.1.2.1, h.1.1.2.2.1, h.1.1.2.2.2.1, h.1.1.2.2.2.2.1⟩
    · exact vl_all n L _ _ h.2 x hx
theorem gl_of {L : List Lesson} (h : vlL L = true) : GL L := by
  unfold vlL at h
  simp only [Bool.and_eq_true, decide_eq_true_eq] at h
  have h2 := vl_all _ L _ _ h.2
  refine ⟨by omega, fun x hx => ?_, fun x hx => ?_, fun x hx => ?_⟩
  · obtain ⟨g1, g2, _⟩ := risF_mem _ _ _ (h2 x hx).2.2.2.2
    exact ⟨g1, g2⟩
  · have := inr_iff.1 (h2 x hx).2.2.1
    omega
  · have := (h2 x hx).2.1.2
    omega
inductive Rch (L : List Lesson) (S : List Int) : Int → Prop
  | base {k : Int} : k ∈ S → Rch L S k
  | step {j k : Int} {x : Lesson} : Rch L S j → L[j.toNat]? = some x → k ∈ x.needs → Rch L S k
theorem Rch.sub {L : List Lesson} {S : List Int} {T : Int → Prop} (h1 : ∀ k ∈ S, T k) (h2 : ∀ j x, T j → L[j.toNat]? = some x → ∀ k ∈ x.needs, T k) {k : Int} (h : Rch L S k) : T k := by
  induction h with
  | base h => exact h1 _ h
  | step _ hx hk ih => exact h2 _ _ ih hx _ hk
theorem GL.at {L : List Lesson} (h : GL L) {j : Nat} {x : Lesson} (hx : L[j]? = some x) : x.needs.Pairwise (· < ·) ∧ ∀ k ∈ x.needs, 0 ≤ k ∧ k < (L.length : Int) := h.need x (List.mem_of_getElem? hx)
theorem sorted_le {n : Int} {l : List Int} (h : l.Pairwise (· < ·)) (hb : ∀ k ∈ l, 0 ≤ k ∧ k < n) (hn : 0 ≤ n) : (l.length : Int) ≤ n := by
  have key : ∀ (l : List Int) (a : Int), l.Pairwise (· < ·) → (∀ k ∈ l, a ≤ k ∧ k < n) → a ≤ n → (l.length : Int) ≤ n - a := by
    intro l
    induction l with
    | nil => intro a _ _ h; simp; omega
    | cons x l ih =>
      intro a h1 h2 h3
      rw [List.pairwise_cons] at h1
      have hx := h2 x (List.mem_cons_self ..)
      have := ih (x + 1) h1.2 (fun k hk => ⟨by have := h1.1 k hk; omega, (h2 k (List.mem_cons_of_mem _ hk)).2⟩) (by omega)
      simp only [List.length_cons]
      omega
  have := key l 0 h hb hn
  omega
theorem GL.nlen {L : List Lesson} (h : GL L) {x : Lesson} (hx : x ∈ L) : x.needs.length ≤ 12 := by
  obtain ⟨h1, h2⟩ := h.need x hx
  have := sorted_le h1 h2 (by omega)
  have := h.len
  omega
/-- marks of numbers -/
def cntF (t : List Bool) : Nat := (t.filter (fun b => !b)).length
theorem cntF_set : ∀ (t : List Bool) (i : Nat), t[i]? = some false → cntF (t.set i true) + 1 = cntF t
  | [], i, h => by simp at h
  | b :: t, 0, h => by simp at h; subst h; simp [cntF]
  | b :: t, i + 1, h => by
    have := cntF_set t i (by simpa using h)
    cases b <;> simp [cntF] at this ⊢ <;> omega
def Mk (t : List Bool) (k : Int) : Prop := t[k.toNat]? = some true
theorem mk_set {t : List Bool} {i k : Int} (hi : i.toNat < t.length) (hk : 0 ≤ k) (hi0 : 0 ≤ i) : Mk (t.set i.toNat true) k ↔ k = i ∨ Mk t k := by
  unfold Mk
  by_cases h : i.toNat = k.toNat
  · have e : k = i := by omega
    subst e
    rw [List.getElem?_set_self hi]; simp
  · rw [List.getElem?_set_ne h]
    have e : k ≠ i := fun e => h (by rw [e])
    simp [e]
theorem circ_end (L : List Lesson) (hL : GL L) (S : List Int) (hS0 : ∀ k ∈ S, 0 ≤ k) (t : List Bool) (hM : ∀ k : Int, 0 ≤ k → Mk t k → Rch L S k) (hS : ∀ k ∈ S, Mk t k) (hC : ∀ (j : Int) x, 0 ≤ j → Mk t j → L[j.toNat]? = some x → ∀ k ∈ x.needs, Mk t k) : ∀ k : Int, 0 ≤ k → (Mk t k ↔ Rch L S k) := fun k hk =>
  ⟨hM k hk, fun h => (Rch.sub (T := fun k => 0 ≤ k ∧ Mk t k) (fun k hk => ⟨hS0 k hk, hS k hk⟩) (fun j x hj hx k hk => ⟨((hL.at hx).2 k hk).1, hC j x hj.1 hj.2 hx k hk⟩) h).2⟩
theorem circ_l2 (L : List Lesson) (hL : GL L) (S : List Int) (hS0 : ∀ k ∈ S, 0 ≤ k) (kj : List Bool → Option Int) : ∀ (μ : Nat) (q : List Int) (t : List Bool) (N : Nat), 13 * cntF t + q.length ≤ μ → μ < N → μ ≤ 1000 → t.length = L.length → (∀ k ∈ q, 0 ≤ k ∧ k < (L.length : Int)) →
    (∀ k ∈ q, Rch L S k) → (∀ k : Int, 0 ≤ k → Mk t k → Rch L S k) → (∀ k ∈ S, k ∈ q ∨ Mk t k) → (∀ (j : Int) x, 0 ≤ j → Mk t j → L[j.toNat]? = some x → ∀ k ∈ x.needs, k ∈ q ∨ Mk t k) →
    ∃ t' : List Bool, t'.length = L.length ∧ (∀ k : Int, 0 ≤ k → (Mk t' k ↔ Rch L S k)) ∧ i_lessonCircle_l2 kj L N q t = kj t' := by
  intro μ
  induction μ with
  | zero =>
    intro q t N h1 h2 hq ht hb hR hM hS hC
    obtain ⟨N, rfl⟩ := pos_fuel h2
    have : q = [] := List.eq_nil_of_length_eq_zero (by omega)
    subst this
    exact ⟨t, ht, circ_end L hL S hS0 t hM (fun k hk => (hS k hk).resolve_left (by simp)) (fun j x h1 h2 h3 k hk => (hC j x h1 h2 h3 k hk).resolve_left (by simp)), by simp [i_lessonCircle_l2]⟩
  | succ μ ih =>
    intro q t N h1 h2 hq ht hb hR hM hS hC
    obtain ⟨N, rfl⟩ := pos_fuel h2
    cases q with
    | nil => exact ⟨t, ht, circ_end L hL S hS0 t hM (fun k hk => (hS k hk).resolve_left (by simp)) (fun j x h1 h2 h3 k hk => (hC j x h1 h2 h3 k hk).resolve_left (by simp)), by simp [i_lessonCircle_l2]⟩
    | cons k r =>
      have e1 : ((k :: r).length : Int) > 0 := by simp only [List.length_cons]; omega
      have e2 : idx (k :: r) 0 = some k := rfl
      have e3 : sub (k :: r) 1 ((k :: r).length : Int) = some r := by
        rw [sub_some _ _ _ (by omega) (by simp only [List.length_cons]; omega) (by omega)]
        simp
      obtain ⟨hk0, hk1⟩ := hb k (List.mem_cons_self ..)
      have hkl : k.toNat < t.length := by omega
      have hkL : k.toNat < L.length := by omega
      have e4 : idx t k = some t[k.toNat] := idx_int t k hk0 (by omega)
      have e5 : idx L k = some L[k.toNat] := idx_int L k hk0 (by omega)
      simp only [List.length_cons] at h1
      simp only [i_lessonCircle_l2, e1, decide_true, cond_true, e2, e3, e4, Option.bind_some]
      have hRk := hR k (List.mem_cons_self ..)
      cases hm : t[k.toNat] with
      | true =>
        have hMk : Mk t k := by unfold Mk; rw [List.getElem?_eq_getElem hkl, hm]
        simp only [cond_true]
        refine ih r t N (by omega) (by omega) (by omega) ht (fun j hj => hb j (List.mem_cons_of_mem _ hj)) (fun j hj => hR j (List.mem_cons_of_mem _ hj)) hM (fun j hj => ?_) (fun j x g1 g2 g3 i hi => ?_)
        · rcases hS j hj with h | h
          · rcases List.mem_cons.1 h with rfl | h
            · exact .inr hMk
            · exact .inl h
          · exact .inr h
        · rcases hC j x g1 g2 g3 i hi with h | h
          · rcases List.mem_cons.1 h with rfl | h
            · exact .inr hMk
            · exact .inl h
          · exact .inr h
      | false =>
        have hx : L[k.toNat]? = some L[k.toNat] := List.getElem?_eq_getElem hkL
        obtain ⟨n1, n2⟩ := hL.at hx
        have n3 := hL.nlen (List.getElem_mem hkL)
        have hc := cntF_set t k.toNat (by rw [List.getElem?_eq_getElem hkl, hm])
        have e6 : app r L[k.toNat].needs = some (r ++ L[k.toNat].needs) := app_some _ _ (by unfold LIM; omega)
        simp only [cond_false, Option.bind_some, e5, e6]
        have hset : ∀ i : Int, 0 ≤ i → (Mk (t.set k.toNat true) i ↔ i = k ∨ Mk t i) := fun i hi => mk_set hkl hi hk0
        refine ih (r ++ L[k.toNat].needs) (t.set k.toNat true) N (by rw [List.length_append]; omega) (by omega) (by omega) (by rw [List.length_set]; exact ht) (fun j hj => ?_) (fun j hj => ?_) (fun j h0 hj => ?_) (fun j hj => ?_) (fun j x g1 g2 g3 i hi => ?_)
        · rcases List.mem_append.1 hj with h | h
          · exact hb j (List.mem_cons_of_mem _ h)
          · exact n2 j h
        · rcases List.mem_append.1 hj with h | h
          · exact hR j (List.mem_cons_of_mem _ h)
          · exact .step hRk hx h
        · rcases (hset j h0).1 hj with rfl | h
          · exact hRk
          · exact hM j h0 h
        · have h0 := hS0 j hj
          rcases hS j hj with h | h
          · rcases List.mem_cons.1 h with rfl | h
            · exact .inr ((hset j h0).2 (.inl rfl))
            · exact .inl (List.mem_append_left _ h)
          · exact .inr ((hset j h0).2 (.inr h))
        · have h0 := ((hL.at g3).2 i hi).1
          rcases (hset j g1).1 g2 with rfl | h
          · rw [hx] at g3
            obtain rfl := Option.some.inj g3
            exact .inl (List.mem_append_right _ hi)
          · rcases hC j x g1 h g3 i hi with h | h
            · rcases List.mem_cons.1 h with rfl | h
              · exact .inr ((hset i h0).2 (.inl rfl))
              · exact .inl (List.mem_append_left _ h)
            · exact .inr ((hset i h0).2 (.inr h))
theorem cntF_le (t : List Bool) : cntF t ≤ t.length := by unfold cntF; exact List.length_filter_le _ _
/-- the other way: into their places until none is missing -/
theorem all_l2 (o : List Int) (ho : o.length ≤ 20) (x : Lesson) (hx : x.needs.length ≤ 20) (i0 : Int) (kj : List Int → Int → Option (List Int)) : ∀ (q k N : Nat), k + q = x.needs.length → q + 1001 < N →
    (s_l18All_l2 kj o x N i0 (k : Int) = kj o i0 ∧ ∀ v ∈ x.needs.drop k, v ∈ o) ∨ ∃ v ∈ x.needs, v ∉ o ∧ s_l18All_l2 kj o x N i0 (k : Int) = kj (putR v o) (-1) := by
  intro q
  induction q with
  | zero =>
    intro k N h1 h2
    obtain ⟨N, rfl⟩ := pos_fuel h2
    have hz : ¬ ((k : Int) < (x.needs.length : Int)) := by omega
    refine .inl ⟨by simp [s_l18All_l2, hz], fun v hv => ?_⟩
    rw [List.drop_of_length_le (by omega)] at hv
    simp at hv
  | succ q ih =>
    intro k N h1 h2
    obtain ⟨N, rfl⟩ := pos_fuel h2
    have hz : (k : Int) < (x.needs.length : Int) := by omega
    have hk : k < x.needs.length := by omega
    have e1 := (Has_eq N o x.needs[k] (by unfold LIM; omega) (by omega)).1
    simp only [s_l18All_l2, hz, decide_true, cond_true, idx_lt x.needs k hk, Option.bind_some, e1, Put_ok N o x.needs[k] (by omega) (by omega), w64_nat k (by omega)]
    cases h : o.any (· == x.needs[k]) with
    | true =>
      simp only [Bool.not_true, cond_false]
      rcases ih (k + 1) N (by omega) (by omega) with ⟨g1, g2⟩ | ⟨v, g1, g2, g3⟩
      · refine .inl ⟨g1, fun v hv => ?_⟩
        rw [drop_cons x.needs k hk] at hv
        rcases List.mem_cons.1 hv with rfl | hv
        · obtain ⟨y, hy, hyv⟩ := List.any_eq_true.1 h
          rw [beq_iff_eq] at hyv
          rw [← hyv]; exact hy
        · exact g2 v hv
      · exact .inr ⟨v, g1, g2, g3⟩
    | false =>
      simp only [Bool.not_false, cond_true]
      refine .inr ⟨x.needs[k], List.getElem_mem hk, fun hm => ?_, rfl⟩
      have := List.any_eq_false.1 h _ hm
      simp at this
theorem all_l1 (L : List Lesson) (hL : GL L) (S : List Int) (hS0 : ∀ k ∈ S, 0 ≤ k ∧ k < (L.length : Int)) (kj : List Int → Option (List Int)) : ∀ (μ : Nat) (o : List Int) (i N : Nat), (12 - o.length) * 14 + (o.length - i) ≤ μ → μ + 1100 < N → i ≤ o.length → o.Pairwise (· < ·) → (∀ k ∈ o, 0 ≤ k ∧ k < (L.length : Int)) → (∀ k ∈ o, Rch L S k) → (∀ k ∈ S, k ∈ o) →
    (∀ j x, j < i → ∀ v, o[j]? = some v → L[v.toNat]? = some x → ∀ k ∈ x.needs, k ∈ o) →
    ∃ o' : List Int, o'.Pairwise (· < ·) ∧ (∀ k ∈ o', 0 ≤ k ∧ k < (L.length : Int)) ∧ (∀ k, k ∈ o' ↔ Rch L S k) ∧ s_l18All_l1 kj L N o (i : Int) = kj o' := by
  intro μ
  induction μ with
  | zero =>
    intro o i N h1 h2 hi hs hb hR hS hC
    obtain ⟨N, rfl⟩ := pos_fuel h2
    have hz : ¬ ((i : Int) < (o.length : Int)) := by omega
    refine ⟨o, hs, hb, fun k => ⟨hR k, fun h => ?_⟩, by simp [s_l18All_l1, hz]⟩
    refine Rch.sub (T := fun k => k ∈ o) hS (fun j x hj hx k hk => ?_) h
    obtain ⟨m, hm, hmj⟩ := List.getElem_of_mem hj
    exact hC m x (by omega) j (by rw [List.getElem?_eq_getElem hm, hmj]) hx k hk
  | succ μ ih =>
    intro o i N h1 h2 hi hs hb hR hS hC
    obtain ⟨N, rfl⟩ := pos_fuel h2
    have hol : (o.length : Int) ≤ (L.length : Int) := sorted_le hs hb (by omega)
    have hL12 := hL.len
    by_cases hz : (i : Int) < (o.length : Int)
    · have hio : i < o.length := by omega
      obtain ⟨b1, b2⟩ := hb o[i] (List.getElem_mem hio)
      have hvl : o[i].toNat < L.length := by omega
      have hx : L[o[i].toNat]? = some L[o[i].toNat] := List.getElem?_eq_getElem hvl
      have e5 : idx L o[i] = some L[o[i].toNat] := idx_int L _ b1 (by omega)
      obtain ⟨n1, n2⟩ := hL.at hx
      have n3 := hL.nlen (List.getElem_mem hvl)
      simp only [s_l18All_l1, hz, decide_true, cond_true, withK_n, idx_lt o i hio, Option.bind_some, e5]
      rcases all_l2 o (by omega) L[o[i].toNat] (by omega) (i : Int) (fun l18 i20 => s_l18All_l1 kj L N l18 (w64 (i20 + 1))) L[o[i].toNat].needs.length 0 N (by omega) (by omega) with ⟨g1, g2⟩ | ⟨v, g1, g2, g3⟩
      · rw [show ((0 : Nat) : Int) = 0 from rfl] at g1
        rw [g1, w64_nat i (by omega)]
        refine ih o (i + 1) N (by omega) (by omega) (by omega) hs hb hR hS (fun j x hj v hv hx' k hk => ?_)
        by_cases hji : j = i
        · subst hji
          rw [List.getElem?_eq_getElem hio] at hv
          obtain rfl := Option.some.inj hv
          rw [hx] at hx'
          obtain rfl := Option.some.inj hx'
          exact g2 k hk
        · exact hC j x (by omega) v hv hx' k hk
      · rw [show ((0 : Nat) : Int) = 0 from rfl] at g3
        rw [g3, show w64 (-1 + 1) = ((0 : Nat) : Int) from rfl]
        have hlen : (putR v o).length = o.length + 1 := by
          have h5 := putR_len v o
          have hs' := putR_sorted v o hs
          have : o.length < (putR v o).length := by
            have hsub : ∀ z ∈ v :: o, z ∈ putR v o := fun z hz => (mem_putR v o z).2 (List.mem_cons.1 hz)
            have hnd : (v :: o).Nodup := List.nodup_cons.2 ⟨g2, hs.imp (fun h => by omega)⟩
            have := hnd.length_le_of_subset (fun z hz => hsub z hz)
            rw [List.length_cons] at this
            omega
          omega
        have hRv : Rch L S v := .step (hR _ (List.getElem_mem hio)) hx g1
        have hs' := putR_sorted v o hs
        have hb' : ∀ k ∈ putR v o, 0 ≤ k ∧ k < (L.length : Int) := fun k hk => by
          rcases (mem_putR v o k).1 hk with rfl | hk
          · exact n2 _ g1
          · exact hb k hk
        have hol' : ((putR v o).length : Int) ≤ (L.length : Int) := sorted_le hs' hb' (by omega)
        refine ih (putR v o) 0 N (by omega) (by omega) (by omega) hs' hb' (fun k hk => ?_) (fun k hk => (mem_putR v o k).2 (.inr (hS k hk))) (fun j x hj => by omega)
        rcases (mem_putR v o k).1 hk with rfl | hk
        · exact hRv
        · exact hR k hk
    · refine ⟨o, hs, hb, fun k => ⟨hR k, fun h => ?_⟩, by simp [s_l18All_l1, hz]⟩
      refine Rch.sub (T := fun k => k ∈ o) hS (fun j x hj hx k hk => ?_) h
      obtain ⟨m, hm, hmj⟩ := List.getElem_of_mem hj
      exact hC m x (by omega) j (by rw [List.getElem?_eq_getElem hm, hmj]) hx k hk
theorem all_ok (L : List Lesson) (hL : GL L) (S : List Int) (hs : S.Pairwise (· < ·)) (hS0 : ∀ k ∈ S, 0 ≤ k ∧ k < (L.length : Int)) (N : Nat) (hN : 2000 < N) : ∃ o : List Int, o.Pairwise (· < ·) ∧ (∀ k ∈ o, 0 ≤ k ∧ k < (L.length : Int)) ∧ (∀ k, k ∈ o ↔ Rch L S k) ∧ s_l18All N L S = some o := by
  have hl := sorted_le hs hS0 (by omega)
  have := hL.len
  unfold s_l18All s_l00Own
  rw [app_some _ _ (by unfold LIM; simp; omega)]
  simp only [List.nil_append, Option.bind_some, withK_n]
  exact all_l1 L hL S hS0 _ _ S 0 N (Nat.le_refl _) (by omega) (by omega) hs hS0 (fun k hk => .base hk) (fun k hk => hk) (fun j x hj => by omega)
/-- the first lesson that needs itself -/
theorem circ_both (L : List Lesson) (hL : GL L) : ∀ (q i N : Nat), i + q = L.length → q + 3000 < N → ∃ v : Int, i_lessonCircle_l1 (some (-1)) L N (i : Int) = some v ∧ s_l18Circle_l1 (some (-1)) L N (i : Int) = some v := by
  intro q
  induction q with
  | zero =>
    intro i N h1 h2
    obtain ⟨N, rfl⟩ := pos_fuel h2
    have hz : ¬ ((i : Int) < (L.length : Int)) := by omega
    exact ⟨-1, by simp [i_lessonCircle_l1, hz], by simp [s_l18Circle_l1, hz]⟩
  | succ q ih =>
    intro i N h1 h2
    obtain ⟨N, rfl⟩ := pos_fuel h2
    have hL12 := hL.len
    have hz : (i : Int) < (L.length : Int) := by omega
    have hi : i < L.length := by omega
    have hx : L[i]? = some L[i] := List.getElem?_eq_getElem hi
    obtain ⟨n1, n2⟩ := hL.at hx
    have n3 := hL.nlen (List.getElem_mem hi)
    obtain ⟨o, o1, o2, o3, o4⟩ := all_ok L hL L[i].needs n1 n2 N (by omega)
    have ol := sorted_le o1 o2 (by omega)
    obtain ⟨v, v1, v2⟩ := ih (i + 1) N (by omega) (by omega)
    have hrep : cntF (List.replicate L.length false) ≤ 12 := by have := cntF_le (List.replicate L.length false); rw [List.length_replicate] at this; omega
    have hno : ∀ k : Int, ¬ Mk (List.replicate L.length false) k := fun k h => by
      unfold Mk at h
      rw [List.getElem?_replicate] at h
      split at h
      · cases h
      · cases h
    obtain ⟨t', t1, t2, t3⟩ := circ_l2 L hL L[i].needs (fun k hk => (n2 k hk).1) (fun l24 => (idx l24 (i : Int)).bind fun e51 => bif e51 then some (i : Int) else i_lessonCircle_l1 (some (-1)) L N (w64 ((i : Int) + 1))) 200 L[i].needs (List.replicate L.length false) N (by omega) (by omega) (by omega) (by rw [List.length_replicate]) n2 (fun k hk => .base hk) (fun k _ h => (hno k h).elim) (fun k hk => .inl hk) (fun j x _ h => (hno j h).elim)
    have e1 : app ([] : List Int) L[i].needs = some L[i].needs := app_some _ _ (by unfold LIM; simp; omega)
    simp only [i_lessonCircle_l1, s_l18Circle_l1, hz, decide_true, cond_true, withK_n, mk_some _ _ (by unfold LIM; omega : L.length ≤ LIM), idx_lt L i hi, Option.bind_some, e1, o4, (Has_eq N o (i : Int) (by unfold LIM; omega) (by omega)).1]
    rw [t3, idx_lt t' i (by omega), w64_nat i (by omega)]
    simp only [Option.bind_some]
    have hiff : t'[i]'(by omega) = o.any (· == (i : Int)) := by
      have h3 := t2 (i : Int) (by omega)
      unfold Mk at h3
      rw [Int.toNat_natCast, List.getElem?_eq_getElem (by omega), ← o3] at h3
      rw [Bool.eq_iff_iff, List.any_eq_true]
      constructor
      · intro h
        exact ⟨(i : Int), h3.1 (by rw [h]), by simp⟩
      · rintro ⟨x, hx, hxi⟩
        rw [beq_iff_eq] at hxi
        subst hxi
        exact Option.some.inj (h3.2 hx)
    rw [hiff]
    cases o.any (· == (i : Int))
    · exact ⟨v, v1, v2⟩
    · exact ⟨_, rfl, rfl⟩
theorem circle_ok (L : List Lesson) (hL : GL L) (N : Nat) (hN : 4000 < N) : ∃ v : Int, i_lessonCircle N L = some v ∧ s_l18Circle N L = some v := by
  have := hL.len
  obtain ⟨v, h1, h2⟩ := circ_both L hL L.length 0 N (by omega) (by omega)
  exact ⟨v, by unfold i_lessonCircle; rw [withK_n]; exact h1, by unfold s_l18Circle; rw [withK_n]; exact h2⟩
end Go.Proofs.Ytbgngihmpdneaaa
