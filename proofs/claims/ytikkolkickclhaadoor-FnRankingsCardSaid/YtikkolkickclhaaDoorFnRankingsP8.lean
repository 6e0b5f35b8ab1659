/-
  Plain lemmas on these functions. No conditions but those that each states.
-/
import Derived.Test.YtikkolkickclhaaDoorFnRankingsP7
namespace Go.Proofs.YtikkolkickclhaaDoor
set_option linter.unusedVariables false
set_option linter.unusedSimpArgs false
/-! Tables, their sums, and places filled one after another. -/
def isum : List Int → Int
  | [] => 0
  | x :: r => x + isum r
theorem isum_app : ∀ a b : List Int, isum (a ++ b) = isum a + isum b
  | [], b => by simp [isum]
  | x :: a, b => by simp only [List.cons_append, isum, isum_app a b]; omega
def tv (t : List Int) : Bool := (t.all fun v => inR v 0 100000) && decide (t.length ≤ 20)
theorem tv_facts {t : List Int} (h : tv t = true) : t.length ≤ 20 ∧ ∀ v ∈ t, 0 ≤ v ∧ v ≤ 100000 := by
  unfold tv at h
  rw [Bool.and_eq_true] at h
  refine ⟨by simpa using h.2, fun v hv => ?_⟩
  have := List.all_eq_true.1 h.1 v hv
  unfold inR at this
  simpa using this
/-- the sum of so many from a place on -/
def tsm (t : List Int) (a n : Nat) : Int := isum ((t.drop a).take n)
theorem tsm_succ (t : List Int) (a n : Nat) (h : a < t.length) : tsm t a (n + 1) = t[a] + tsm t (a + 1) n := by
  unfold tsm
  rw [drop_cons t a h, List.take_succ_cons]; rfl
theorem tsm_out (t : List Int) (a n : Nat) (h : t.length ≤ a) : tsm t a n = 0 := by
  unfold tsm
  rw [List.drop_eq_nil_of_le h, List.take_nil]; rfl
theorem tsm_zero (t : List Int) (a : Nat) : tsm t a 0 = 0 := by unfold tsm; rw [List.take_zero]; rfl
theorem tsm_add (t : List Int) (a n m : Nat) : tsm t a (n + m) = tsm t a n + tsm t (a + n) m := by
  unfold tsm
  rw [List.take_add, isum_app, List.drop_drop]
theorem tsm_bd (t : List Int) (ht : ∀ v ∈ t, 0 ≤ v ∧ v ≤ 100000) : ∀ n a : Nat, 0 ≤ tsm t a n ∧ tsm t a n ≤ 100000 * n
  | 0, a => by rw [tsm_zero]; omega
  | n + 1, a => by
    by_cases h : a < t.length
    · have := tsm_bd t ht n (a + 1)
      have h1 := ht _ (List.getElem_mem h)
      rw [tsm_succ t a n h]; omega
    · rw [tsm_out t a _ (by omega)]; omega
section
variable {t : List Int} (ht : ∀ v ∈ t, 0 ≤ v ∧ v ≤ 100000)
include ht
end
/-! places filled -/
def setAll {α : Type} : List α → List (Int × α) → List α
  | l, [] => l
  | l, (i, v) :: r => setAll (l.set i.toNat v) r
theorem setAll_app {α : Type} : ∀ (P Q : List (Int × α)) (l : List α), setAll l (P ++ Q) = setAll (setAll l P) Q
  | [], _, _ => rfl
  | (i, v) :: P, Q, l => by simp only [List.cons_append, setAll]; exact setAll_app P Q _
theorem setAll_len {α : Type} : ∀ (P : List (Int × α)) (l : List α), (setAll l P).length = l.length
  | [], _ => rfl
  | (i, v) :: P, l => by simp only [setAll]; rw [setAll_len P, List.length_set]
theorem setAll_not {α : Type} (k : Nat) : ∀ (P : List (Int × α)) (l : List α), (∀ x ∈ P, 0 ≤ x.1) → (k : Int) ∉ P.map (·.1) → (setAll l P)[k]? = l[k]?
  | [], _, _, _ => rfl
  | (i, v) :: P, l, h0, hk => by
    simp only [List.map_cons, List.mem_cons, not_or] at hk
    have h1 := h0 (i, v) List.mem_cons_self
    simp only at h1
    simp only [setAll]
    rw [setAll_not k P _ (fun x hx => h0 x (List.mem_cons_of_mem _ hx)) hk.2, List.getElem?_set_ne (by omega)]
theorem setAll_at {α : Type} (k : Nat) (u : α) : ∀ (P : List (Int × α)) (l : List α), (∀ x ∈ P, 0 ≤ x.1) → (P.map (·.1)).Nodup → k < l.length → ((k : Int), u) ∈ P → (setAll l P)[k]? = some u
  | (i, v) :: P, l, h0, hn, hl, hm => by
    simp only [List.map_cons, List.nodup_cons] at hn
    have h1 := h0 (i, v) List.mem_cons_self
    simp only at h1
    simp only [setAll]
    rcases List.mem_cons.1 hm with h | h
    · obtain ⟨rfl, rfl⟩ := Prod.mk.inj h
      rw [setAll_not k P _ (fun x hx => h0 x (List.mem_cons_of_mem _ hx)) hn.1, Int.toNat_natCast, List.getElem?_set_self hl]
    · exact setAll_at k u P _ (fun x hx => h0 x (List.mem_cons_of_mem _ hx)) hn.2 (by rw [List.length_set]; exact hl) h
theorem isum_set : ∀ (l : List Int) (k : Nat) (v : Int), l[k]? = some 0 → isum (l.set k v) = isum l + v
  | x :: l, 0, v, h => by
    simp only [List.getElem?_cons_zero, Option.some.injEq] at h
    subst h
    simp only [List.set_cons_zero, isum]; omega
  | x :: l, k + 1, v, h => by
    simp only [List.getElem?_cons_succ] at h
    simp only [List.set_cons_succ, isum, isum_set l k v h]; omega
theorem setAll_sum : ∀ (P : List (Int × Int)) (l : List Int), (∀ x ∈ P, 0 ≤ x.1) → (P.map (·.1)).Nodup → (∀ x ∈ P, l[x.1.toNat]? = some 0) → isum (setAll l P) = isum l + isum (P.map (·.2))
  | [], l, _, _, _ => by simp [setAll, isum]
  | (i, v) :: P, l, h0, hn, hz => by
    simp only [List.map_cons, List.nodup_cons] at hn
    have h1 := h0 (i, v) List.mem_cons_self
    simp only at h1
    have h2 := hz (i, v) List.mem_cons_self
    simp only at h2
    simp only [setAll, List.map_cons, isum]
    rw [setAll_sum P _ (fun x hx => h0 x (List.mem_cons_of_mem _ hx)) hn.2 (fun x hx => ?_), isum_set l _ v h2]
    · omega
    · have hx0 := h0 x (List.mem_cons_of_mem _ hx)
      rw [List.getElem?_set_ne (fun e => hn.1 ?_)]
      · exact hz x (List.mem_cons_of_mem _ hx)
      · have : i = x.1 := by omega
        rw [this]; exact List.mem_map.2 ⟨x, hx, rfl⟩
end Go.Proofs.YtikkolkickclhaaDoor
