/-
  Plain lemmas on these functions. No conditions but those that each states.
-/
import Derived.Test.YtdkhpbfciajaeaaFnTextCostsP2
namespace Go.Proofs.Ytdkhpbfciajaeaa
set_option linter.unusedVariables false
set_option linter.unusedSimpArgs false
/-! The next permutation. -/
/-- compared number by number -/
def lxle : List Int → List Int → Prop
  | [], _ => True
  | _ :: _, [] => False
  | a :: l, b :: m => a < b ∨ (a = b ∧ lxle l m)
theorem lx_antisymm : ∀ (l m : List Int), lxle l m → lxle m l → l = m
  | [], [], _, _ => rfl
  | [], _ :: _, _, h => h.elim
  | _ :: _, [], h, _ => h.elim
  | a :: l, b :: m, h, k => by
    rcases h with h | ⟨rfl, h⟩
    · rcases k with k | ⟨rfl, _⟩ <;> omega
    · rcases k with k | ⟨_, k⟩
      · omega
      · rw [lx_antisymm l m h k]
theorem lx_refl : ∀ l : List Int, lxle l l
  | [] => trivial
  | _ :: l => .inr ⟨rfl, lx_refl l⟩
theorem desc_max : ∀ (s m : List Int), s.Pairwise (fun a b => b ≤ a) → m.Perm s → lxle m s
  | [], m, _, hp => by rw [hp.eq_nil]; trivial
  | a :: s, m, h, hp => by
    cases m with
    | nil => have := hp.length_eq; simp at this
    | cons q m =>
      rw [List.pairwise_cons] at h
      have hq : q ∈ a :: s := hp.mem_iff.1 List.mem_cons_self
      have hqa : q ≤ a := by
        rcases List.mem_cons.1 hq with rfl | hq
        · exact Int.le_refl _
        · exact h.1 q hq
      by_cases e : q = a
      · subst e
        exact .inr ⟨rfl, desc_max s m h.2 hp.cons_inv⟩
      · exact .inl (by omega)
theorem asc_min : ∀ (s m : List Int), s.Pairwise (fun a b => a ≤ b) → m.Perm s → lxle s m
  | [], m, _, hp => trivial
  | a :: s, m, h, hp => by
    cases m with
    | nil => have := hp.length_eq; simp at this
    | cons q m =>
      rw [List.pairwise_cons] at h
      have hq : q ∈ a :: s := hp.mem_iff.1 List.mem_cons_self
      have hqa : a ≤ q := by
        rcases List.mem_cons.1 hq with rfl | hq
        · exact Int.le_refl _
        · exact h.1 q hq
      by_cases e : q = a
      · subst e
        exact .inr ⟨rfl, asc_min s m h.2 hp.cons_inv⟩
      · exact .inl (by omega)
/-- what comes next -/
def nxt (pre : List Int) (x : Int) (A : List Int) (y : Int) (B : List Int) : List Int := pre ++ y :: (B.reverse ++ x :: A.reverse)
/-- the parts of a list that has a next one -/
def Parts (l pre : List Int) (x : Int) (A : List Int) (y : Int) (B : List Int) : Prop :=
  l = pre ++ x :: (A ++ y :: B) ∧ x < y ∧ (∀ z ∈ B, z ≤ x) ∧ (A ++ y :: B).Pairwise (fun a b => b ≤ a)
theorem nxt_between (x y : Int) (A B : List Int) (hxy : x < y) (hB : ∀ z ∈ B, z ≤ x) (hd : (A ++ y :: B).Pairwise (fun a b => b ≤ a)) : ∀ (pre m : List Int), m.Perm (pre ++ x :: (A ++ y :: B)) → lxle m (pre ++ x :: (A ++ y :: B)) ∨ lxle (nxt pre x A y B) m
  | [], m, hp => by
    cases m with
    | nil => have := hp.length_eq; simp at this
    | cons q m =>
      simp only [List.nil_append] at hp ⊢
      have hdA := List.pairwise_append.1 hd
      by_cases h1 : q < x
      · exact .inl (.inl h1)
      · by_cases h2 : q = x
        · subst h2
          exact .inl (.inr ⟨rfl, desc_max _ m hd hp.cons_inv⟩)
        · have hq : q ∈ x :: (A ++ y :: B) := hp.mem_iff.1 List.mem_cons_self
          have hqy : y ≤ q := by
            rcases List.mem_cons.1 hq with h | h
            · exact absurd h h2
            · rcases List.mem_append.1 h with h | h
              · exact hdA.2.2 q h y List.mem_cons_self
              · rcases List.mem_cons.1 h with rfl | h
                · exact Int.le_refl _
                · have := hB q h; omega
          right
          unfold nxt
          by_cases h3 : q = y
          · subst h3
            refine .inr ⟨rfl, asc_min _ m ?_ ?_⟩
            · rw [List.pairwise_append]
              have hBp := (List.pairwise_cons.1 hdA.2.1)
              refine ⟨List.pairwise_reverse.2 hBp.2, ?_, fun a ha c hc => ?_⟩
              · rw [List.pairwise_cons]
                refine ⟨fun a ha => ?_, List.pairwise_reverse.2 hdA.1⟩
                have := hdA.2.2 a (List.mem_reverse.1 ha) q List.mem_cons_self
                omega
              · have h4 := hB a (List.mem_reverse.1 ha)
                rcases List.mem_cons.1 hc with rfl | hc
                · exact h4
                · have := hdA.2.2 c (List.mem_reverse.1 hc) q List.mem_cons_self
                  omega
            · have h5 : (q :: m).Perm (q :: (x :: (A ++ B))) := by
                refine hp.trans ?_
                refine (List.Perm.cons x List.perm_middle).trans ?_
                exact List.Perm.swap q x (A ++ B)
              refine h5.cons_inv.trans ?_
              refine List.Perm.trans ?_ List.perm_middle.symm
              refine List.Perm.cons x ?_
              exact List.perm_append_comm.trans ((List.reverse_perm B).symm.append (List.reverse_perm A).symm)
          · exact .inl (by omega)
  | p :: pre, m, hp => by
    cases m with
    | nil => have := hp.length_eq; simp at this
    | cons q m =>
      by_cases h1 : q < p
      · exact .inl (.inl h1)
      · by_cases h2 : q = p
        · subst h2
          rcases nxt_between x y A B hxy hB hd pre m (by simpa using hp.cons_inv) with h | h
          · exact .inl (.inr ⟨rfl, h⟩)
          · exact .inr (.inr ⟨rfl, h⟩)
        · exact .inr (.inl (by omega))
theorem nxt_perm (pre : List Int) (x : Int) (A : List Int) (y : Int) (B : List Int) : (nxt pre x A y B).Perm (pre ++ x :: (A ++ y :: B)) := by
  unfold nxt
  refine List.Perm.append_left pre ?_
  have h1 : (y :: (B.reverse ++ x :: A.reverse)).Perm (y :: (x :: (B ++ A))) := by
    refine List.Perm.cons y ?_
    refine List.perm_middle.trans ?_
    exact List.Perm.cons x ((List.reverse_perm B).append (List.reverse_perm A))
  refine h1.trans ?_
  refine (List.Perm.swap x y _).trans ?_
  refine List.Perm.cons x ?_
  refine (List.Perm.cons y List.perm_append_comm).trans ?_
  exact List.perm_middle.symm
/-- a number for a list -/
def vl (b : Nat) : List Int → Nat
  | [] => 0
  | a :: l => a.toNat * b ^ l.length + vl b l
def Dg (b : Nat) (l : List Int) : Prop := ∀ x ∈ l, 0 ≤ x ∧ x < b
theorem vl_lt (b : Nat) : ∀ l : List Int, Dg b l → vl b l < b ^ l.length
  | [], _ => by simp [vl]
  | a :: l, h => by
    have h1 := vl_lt b l fun x hx => h x (List.mem_cons_of_mem _ hx)
    have h2 := h a List.mem_cons_self
    have h3 : a.toNat + 1 ≤ b := by omega
    have h4 := Nat.mul_le_mul_right (b ^ l.length) h3
    simp only [vl, List.length_cons, Nat.pow_succ]
    rw [Nat.add_mul, Nat.one_mul, Nat.mul_comm b] at h4
    omega
theorem vl_nxt (b : Nat) (x y : Int) (A B : List Int) (hxy : x < y) : ∀ (pre : List Int), Dg b (pre ++ x :: (A ++ y :: B)) → vl b (pre ++ x :: (A ++ y :: B)) < vl b (nxt pre x A y B)
  | [], h => by
    unfold nxt
    simp only [List.nil_append, vl] at h ⊢
    have hl : (B.reverse ++ x :: A.reverse).length = (A ++ y :: B).length := by simp; omega
    have h1 := vl_lt b (A ++ y :: B) fun z hz => h z (List.mem_cons_of_mem _ hz)
    have h2 := h x List.mem_cons_self
    have h3 : x.toNat + 1 ≤ y.toNat := by omega
    have h4 := Nat.mul_le_mul_right (b ^ (A ++ y :: B).length) h3
    rw [Nat.add_mul, Nat.one_mul] at h4
    rw [hl]
    omega
  | p :: pre, h => by
    have ih := vl_nxt b x y A B hxy pre fun z hz => h z (List.mem_cons_of_mem _ hz)
    unfold nxt at ih ⊢
    simp only [List.cons_append, vl]
    have hl : (pre ++ y :: (B.reverse ++ x :: A.reverse)).length = (pre ++ x :: (A ++ y :: B)).length := by simp; omega
    rw [hl]
    omega
end Go.Proofs.Ytdkhpbfciajaeaa
