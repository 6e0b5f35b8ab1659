/-
  Plain lemmas on these functions. No conditions but those that each states.
-/
import Derived.Test.YtpodlgibcfbbiaaDoorFnPressesP12
namespace Go.Proofs.YtpodlgibcfbbiaaDoor
set_option linter.unusedVariables false
set_option linter.unusedSimpArgs false
/-! What presses type can be typed again. -/
theorem okKs_dead (c : Str) : ∀ (ks p : List Key) (k : Key), okKs p ks = true → k ∈ ks → (k.low == c || k.high == c) = true → hasK p c = false ∧ deadK ks c = k.dead := by
  intro ks
  induction ks with
  | nil => intro p k _ hk; cases hk
  | cons x xs ih =>
    intro p k h hk hc
    simp only [okKs, okB, Bool.and_eq_true, Bool.not_eq_true'] at h
    rcases List.mem_cons.1 hk with rfl | hk
    · refine ⟨?_, by simp only [deadK, hc, if_true]⟩
      rcases Bool.or_eq_true _ _ ▸ hc with h2 | h2
      · rw [← eq_of_beq h2]; exact h.1.1.2
      · rw [← eq_of_beq h2]; exact h.1.2
    · obtain ⟨g1, g2⟩ := ih _ k h.2 hk hc
      rw [hasK_snoc, Bool.or_eq_false_iff] at g1
      refine ⟨g1.1, ?_⟩
      simp only [deadK, g1.2]
      simpa using g2
theorem madeOf_mem (as : List Accent) (x y : Str) : ∀ m : Str, as.foldl (madeO x y) m = m ∨ ∃ a ∈ as, as.foldl (madeO x y) m = a.made := by
  induction as with
  | nil => intro m; exact .inl rfl
  | cons a as ih =>
    intro m
    rw [List.foldl_cons]
    rcases ih (madeO x y m a) with h | ⟨b, hb, h⟩
    · rw [h]
      unfold madeO
      split
      · exact .inr ⟨a, List.mem_cons_self, rfl⟩
      · exact .inl rfl
    · exact .inr ⟨b, List.mem_cons_of_mem _ hb, h⟩
def cst (keys : List Key) (as : List Accent) (t : Str) : Nat := (t.map fun c => (prs keys as [c]).length).sum
def Typ (keys : List Key) (as : List Accent) (u : Str) : Prop := isT u 33 = true ∧ ∀ c ∈ u, (prs keys as [c]).length ≠ 0
theorem isL_one {s : Str} (h : isL s = true) : ∃ c, s = [c] ∧ isT [c] 33 = true := by
  have := isL_len h
  match s, this with
  | [c], _ => exact ⟨c, rfl, by unfold isL at h; simpa [isT] using h⟩
theorem prt_has (keys : List Key) (p : Press) (h : InR keys p) : ∃ k ∈ keys, keys[p.key.toNat]? = some k ∧ (k.low == prt keys p || k.high == prt keys p) = true ∧ ddP keys p = k.dead ∧ (prt keys p = k.low ∨ prt keys p = k.high) := by
  have e : keys[p.key.toNat]? = some _ := List.getElem?_eq_getElem (by have := h.1; have := h.2; omega)
  refine ⟨_, List.mem_of_getElem? e, e, ?_, ?_, ?_⟩
  · unfold prt; rw [e]; cases p.shift <;> simp
  · unfold ddP; rw [e]
  · unfold prt; rw [e]; cases p.shift <;> simp
theorem prs_one (keys : List Key) (as : List Accent) (hok : okKA keys as = true) (p : Press) (h : InR keys p) (hd : ddP keys p = false) : ∃ c, prt keys p = [c] ∧ isT [c] 33 = true ∧ (prs keys as [c]).length = 1 := by
  obtain ⟨h1, h2, _, _⟩ := okKA_and hok
  obtain ⟨k, hk, _, h3, h4, h5⟩ := prt_has keys p h
  have hl := okKs_letters keys [] h1 k hk
  have hL : isL (prt keys p) = true := by
    rcases h5 with h5 | h5
    · rw [h5]; exact hl.1
    · rw [h5]; exact hl.2.1
  obtain ⟨c, e, hT⟩ := isL_one hL
  refine ⟨c, e, hT, ?_⟩
  rw [e] at h3
  have hdd := (okKs_dead [c] keys [] k h1 hk h3).2
  have hh : hasK keys [c] = true := List.any_eq_true.2 ⟨k, hk, h3⟩
  unfold prs
  rw [hh, hdd, ← h4, hd]
  rfl
theorem prs_two (keys : List Key) (as : List Accent) (hok : okKA keys as = true) (x y : Str) (hm : madeOf as x y ≠ []) : ∃ c, madeOf as x y = [c] ∧ isT [c] 33 = true ∧ (prs keys as [c]).length = 2 := by
  obtain ⟨h1, h2, _, _⟩ := okKA_and hok
  rcases madeOf_mem as x y [] with h | ⟨a, ha, h⟩
  · exact absurd h hm
  · have hA := okAs_made keys as [] h2 a ha
    obtain ⟨c, e, hT⟩ := isL_one hA.1
    refine ⟨c, h.trans e, hT, ?_⟩
    have hh := hA.2.2.2
    rw [e] at hh
    unfold prs
    rw [hh]
    cases hf : as.find? (fun a => a.made == [c]) with
    | none =>
      rw [List.find?_eq_none] at hf
      exact absurd (by rw [e]; simp) (hf a ha)
    | some b => rfl
theorem txo_typ (keys : List Key) (as : List Accent) (hok : okKA keys as = true) : ∀ (n : Nat) (list : List Press) (o : Str), list.length ≤ n → (∀ p ∈ list, InR keys p) → (txo keys as o list).2 = 0 → ∃ u, (txo keys as o list).1 = o ++ u ∧ Typ keys as u ∧ cst keys as u ≤ list.length := by
  intro n
  induction n using Nat.strongRecOn with
  | ind n ih =>
    intro list o hl hin h0
    match list, hl, hin, h0 with
    | [], _, _, _ => exact ⟨[], by simp [txo], ⟨rfl, by simp⟩, by simp [cst]⟩
    | p :: r, hl, hin, h0 =>
      cases hd : ddP keys p
      · rw [txo_n keys as o p r hd] at h0 ⊢
        obtain ⟨c, e, hT, hc⟩ := prs_one keys as hok p (hin p List.mem_cons_self) hd
        obtain ⟨u, e1, e2, e3⟩ := ih (n - 1) (by simp at hl; omega) r _ (by simp at hl; omega) (fun q hq => hin q (List.mem_cons_of_mem _ hq)) h0
        refine ⟨c :: u, by rw [e1, e]; simp, ⟨?_, ?_⟩, ?_⟩
        · have := e2.1; simp only [isT, List.all_cons, List.all_nil, Bool.and_true] at hT this ⊢; rw [hT, this]; rfl
        · intro x hx
          rcases List.mem_cons.1 hx with rfl | hx
          · omega
          · exact e2.2 x hx
        · simp only [cst, List.map_cons, List.sum_cons, List.length_cons] at e3 ⊢; omega
      · match r, hl, hin, h0 with
        | [], _, _, h0 => simp [txo, hd] at h0
        | q :: r', hl, hin, h0 =>
          by_cases hm : madeOf as (prt keys p) (prt keys q) = []
          · simp [txo, hd, hm] at h0
          · have hf : (madeOf as (prt keys p) (prt keys q) == []) = false := by rw [beq_eq_false_iff_ne]; exact hm
            obtain ⟨c, e, hT, hc⟩ := prs_two keys as hok _ _ hm
            have hx : txo keys as o (p :: q :: r') = txo keys as (o ++ madeOf as (prt keys p) (prt keys q)) r' := by simp [txo, hd, hf]
            rw [hx] at h0 ⊢
            obtain ⟨u, e1, e2, e3⟩ := ih (n - 2) (by simp at hl; omega) r' _ (by simp at hl; omega) (fun q' hq => hin q' (List.mem_cons_of_mem _ (List.mem_cons_of_mem _ hq))) h0
            refine ⟨c :: u, by rw [e1, e]; simp, ⟨?_, ?_⟩, ?_⟩
            · have := e2.1; simp only [isT, List.all_cons, List.all_nil, Bool.and_true] at hT this ⊢; rw [hT, this]; rfl
            · intro x hx
              rcases List.mem_cons.1 hx with rfl | hx
              · omega
              · exact e2.2 x hx
            · simp only [cst, List.map_cons, List.sum_cons, List.length_cons] at e3 ⊢; omega
theorem pfo_typ (keys : List Key) (as : List Accent) : ∀ (u : Str) (o : List Press), (∀ c ∈ u, (prs keys as [c]).length ≠ 0) → (pfo keys as o u).2 = 0 ∧ (pfo keys as o u).1.length = o.length + cst keys as u := by
  intro u
  induction u with
  | nil => intro o _; exact ⟨rfl, by simp [pfo, cst]⟩
  | cons c r ih =>
    intro o h
    have h1 := h c List.mem_cons_self
    have hz : (((prs keys as [c]).length : Int) == 0) = false := by rw [beq_eq_false_iff_ne]; omega
    obtain ⟨e1, e2⟩ := ih (o ++ prs keys as [c]) (fun x hx => h x (List.mem_cons_of_mem _ hx))
    have hx : pfo keys as o (c :: r) = pfo keys as (o ++ prs keys as [c]) r := by simp only [pfo, hz]; simp
    rw [hx]
    refine ⟨e1, ?_⟩
    rw [e2, List.length_append]
    simp only [cst, List.map_cons, List.sum_cons]
    omega
theorem tx_again (keys : List Key) (as : List Accent) (list : List Press) (h0 : (txV keys as list).2 = 0) (hl : ((txV keys as list).1.length : Int) ≤ 100) : (pfV keys as (txV keys as list).1).2 = 0 ∧ (pfV keys as (txV keys as list).1).1.length ≤ list.length := by
  unfold txV at *
  cases hok : okKA keys as
  · rw [hok] at h0; simp at h0
  · rw [hok] at h0 hl
    simp only [if_true] at h0 hl ⊢
    cases hr : (list.all (rng keys) && decide (list.length ≤ 200))
    · rw [hr] at h0; simp at h0
    · rw [hr] at h0 hl
      simp only [if_true] at h0 hl ⊢
      simp only [Bool.and_eq_true] at hr
      obtain ⟨u, e1, e2, e3⟩ := txo_typ keys as hok list.length list [] (Nat.le_refl _) (fun p hp => rng_in.1 (List.all_eq_true.1 hr.1 p hp)) h0
      rw [List.nil_append] at e1
      rw [e1] at hl ⊢
      unfold pfV
      have hl' : decide ((u.length : Int) ≤ 100) = true := decide_eq_true hl
      rw [hok, e2.1, hl']
      obtain ⟨g1, g2⟩ := pfo_typ keys as u [] e2.2
      simp only [List.length_nil, Nat.zero_add] at g2
      exact ⟨g1, by show (pfo keys as [] u).1.length ≤ _; omega⟩
end Go.Proofs.YtpodlgibcfbbiaaDoor
