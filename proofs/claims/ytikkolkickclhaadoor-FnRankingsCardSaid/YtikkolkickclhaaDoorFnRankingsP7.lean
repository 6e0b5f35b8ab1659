/-
  Plain lemmas on these functions. No conditions but those that each states.
-/
import Derived.Test.YtikkolkickclhaaDoorFnRankingsP6
namespace Go.Proofs.YtikkolkickclhaaDoor
set_option linter.unusedVariables false
set_option linter.unusedSimpArgs false
/-! Results with one place: groups. -/
def gof (lt : Int → Int → Bool) : List (List Int) → List Int → List Int → List (List Int)
  | G, g, [] => G ++ [g]
  | G, g, x :: r => bif lt (g.headD 0) x then gof lt (G ++ [g]) [x] r else gof lt G (g ++ [x]) r
def grp (l : List Result) : List (List Int) := match ord l with
  | [] => []
  | x :: r => gof (bt l) [] [x] r
def tiesOf : Nat → List (List Int) → List Tied
  | _, [] => []
  | a, g :: r => ⟨(a : Int) + 1, g⟩ :: tiesOf (a + g.length) r
theorem ties_app : ∀ (G H : List (List Int)) (a : Nat), tiesOf a (G ++ H) = tiesOf a G ++ tiesOf (a + G.flatten.length) H
  | [], H, a => by simp [tiesOf]
  | g :: G, H, a => by
    simp only [List.cons_append, tiesOf, List.flatten_cons, List.length_append]
    rw [ties_app G H (a + g.length), Nat.add_assoc]
theorem set_last {α : Type} (b c : α) : ∀ (A : List α) (n : Nat), A.length = n → (A ++ [b]).set n c = A ++ [c]
  | [], n, h => by subst h; rfl
  | x :: A, n, h => by
    subst h
    simp only [List.cons_append, List.length_cons, List.set_cons_succ]
    rw [set_last b c A _ rfl]
theorem ties_len : ∀ (G : List (List Int)) (a : Nat), (tiesOf a G).length = G.length
  | [], _ => rfl
  | g :: G, a => by simp only [tiesOf, List.length_cons, ties_len G]
theorem gof_flat (lt : Int → Int → Bool) : ∀ (r : List Int) (G : List (List Int)) (g : List Int), (gof lt G g r).flatten = (G ++ [g]).flatten ++ r
  | [], G, g => by simp [gof]
  | x :: r, G, g => by
    simp only [gof]
    cases lt (g.headD 0) x
    · rw [cond_false, gof_flat lt r]; simp
    · rw [cond_true, gof_flat lt r]; simp
theorem grp_flat (l : List Result) : (grp l).flatten = ord l := by
  unfold grp
  split
  · next h => rw [h]; rfl
  · next x r h => rw [h, gof_flat]; simp
theorem gof_all (lt : Int → Int → Bool) (Q : List Int → Prop) (h1 : ∀ x, Q [x]) (h2 : ∀ g x, Q g → g ≠ [] → lt (g.headD 0) x = false → Q (g ++ [x])) : ∀ (r : List Int) (G : List (List Int)) (g : List Int), (∀ x ∈ G, Q x) → Q g → g ≠ [] → ∀ x ∈ gof lt G g r, Q x
  | [], G, g, hG, hg, _, x, hx => by
    simp only [gof, List.mem_append, List.mem_singleton] at hx
    rcases hx with hx | rfl
    · exact hG x hx
    · exact hg
  | y :: r, G, g, hG, hg, hn, x, hx => by
    simp only [gof] at hx
    cases hc : lt (g.headD 0) y with
    | true =>
      rw [hc, cond_true] at hx
      refine gof_all lt Q h1 h2 r _ _ (fun z hz => ?_) (h1 y) (by simp) x hx
      rcases List.mem_append.1 hz with hz | hz
      · exact hG z hz
      · rw [List.mem_singleton.1 hz]; exact hg
    | false =>
      rw [hc, cond_false] at hx
      exact gof_all lt Q h1 h2 r _ _ hG (h2 g y hg hn hc) (by simp) x hx
theorem grp_all (l : List Result) (Q : List Int → Prop) (h1 : ∀ x, Q [x]) (h2 : ∀ g x, Q g → g ≠ [] → bt l (g.headD 0) x = false → Q (g ++ [x])) : ∀ x ∈ grp l, Q x := by
  unfold grp
  split
  · intro x hx; cases hx
  · exact gof_all (bt l) Q h1 h2 _ [] _ (fun _ h => by cases h) (h1 _) (by simp)
theorem grp_ne (l : List Result) : ∀ g ∈ grp l, g ≠ [] := grp_all l (· ≠ []) (fun _ => by simp) (fun _ _ _ _ _ => by simp)
/-- the state of the loops -/
structure GI (l : List Result) (G : List (List Int)) (g : List Int) (y : Int) (i : Nat) : Prop where
  flat : (G ++ [g ++ [y]]).flatten = (ord l).take i
  eqv : ∀ x ∈ g ++ [y], bt l ((g ++ [y]).headD 0) x = false ∧ bt l x ((g ++ [y]).headD 0) = false
theorem GI.mem {l : List Result} {G : List (List Int)} {g : List Int} {y : Int} {i : Nat} (h : GI l G g y i) {x : Int} (hx : x ∈ g ++ [y]) : x ∈ (ord l).take i := by
  rw [← h.flat]
  exact List.mem_flatten.2 ⟨_, by simp, hx⟩
theorem GI.last {l : List Result} {G : List (List Int)} {g : List Int} {y : Int} {i : Nat} (h : GI l G g y i) (hi : i ≤ (ord l).length) (h0 : 0 < i) : (ord l)[i - 1]'(by omega) = y := by
  have e := h.flat
  have hl : ((G ++ [g ++ [y]]).flatten).length = i := by rw [e, List.length_take]; omega
  have h1 : ((ord l).take i)[i - 1]? = some y := by
    rw [← e]
    have e2 : (G ++ [g ++ [y]]).flatten = (G.flatten ++ g) ++ [y] := by simp
    rw [e2] at hl ⊢
    rw [List.length_append, List.length_singleton] at hl
    rw [List.getElem?_append_right (by omega), show i - 1 - (G.flatten ++ g).length = 0 by omega]
    rfl
  rw [List.getElem?_take_of_lt (by omega)] at h1
  exact (List.getElem?_eq_some_iff.1 h1).2
theorem GI.len {l : List Result} {G : List (List Int)} {g : List Int} {y : Int} {i : Nat} (h : GI l G g y i) (hi : i ≤ (ord l).length) : (G ++ [g ++ [y]]).flatten.length = i := by
  rw [h.flat, List.length_take]; omega
theorem GI.cmp {l : List Result} {G : List (List Int)} {g : List Int} {y : Int} {i : Nat} (h : GI l G g y i) (x : Int) : bt l y x = bt l ((g ++ [y]).headD 0) x := by
  obtain ⟨e1, e2⟩ := h.eqv y (by simp)
  cases h1 : bt l y x with
  | true =>
    cases h2 : bt l ((g ++ [y]).headD 0) x with
    | true => rfl
    | false => rw [bt_neg l _ _ _ h1 h2] at e2; cases e2
  | false =>
    cases h2 : bt l ((g ++ [y]).headD 0) x with
    | false => rfl
    | true => rw [bt_neg l _ _ _ h2 h1] at e1; cases e1
theorem ord_le (l : List Result) {i : Nat} (hi : i < (ord l).length) {a : Int} (ha : a ∈ (ord l).take i) : bt l (ord l)[i] a = false := by
  have hs := ord_srt l
  unfold Srt at hs
  rw [← List.take_append_drop i (ord l), List.pairwise_append] at hs
  refine hs.2.2 a ha _ ?_
  rw [drop_cons _ i hi]
  exact List.mem_cons_self
theorem GI.new {l : List Result} {G : List (List Int)} {g : List Int} {y : Int} {i : Nat} (h : GI l G g y i) (hi : i < (ord l).length) : GI l (G ++ [g ++ [y]]) [] (ord l)[i] (i + 1) := by
  refine ⟨?_, fun x hx => ?_⟩
  · rw [List.take_succ_eq_append_getElem hi, ← h.flat]; simp
  · simp only [List.nil_append, List.mem_singleton] at hx
    subst hx
    exact ⟨bt_irr _ _, bt_irr _ _⟩
theorem GI.more {l : List Result} {G : List (List Int)} {g : List Int} {y : Int} {i : Nat} (h : GI l G g y i) (hi : i < (ord l).length) (hc : bt l ((g ++ [y]).headD 0) (ord l)[i] = false) : GI l G (g ++ [y]) (ord l)[i] (i + 1) := by
  have hh : ((g ++ [y]) ++ [(ord l)[i]]).headD 0 = (g ++ [y]).headD 0 := by cases g <;> rfl
  refine ⟨?_, fun x hx => ?_⟩
  · rw [List.take_succ_eq_append_getElem hi, ← h.flat]; simp
  · rw [hh]
    rcases List.mem_append.1 hx with hx | hx
    · exact h.eqv x hx
    · rw [List.mem_singleton.1 hx]
      refine ⟨hc, ord_le l hi (h.mem ?_)⟩
      cases g <;> simp
theorem head_mem (g : List Int) (y : Int) : (g ++ [y]).headD 0 ∈ g ++ [y] ∧ idx (g ++ [y]) 0 = some ((g ++ [y]).headD 0) := by
  cases g <;> exact ⟨by simp, rfl⟩
section
variable {l : List Result} (hn : l.length ≤ 40)
include hn
theorem ties_l1 (kj : List Tied → Option (List Tied)) : ∀ (q i N : Nat) (G : List (List Int)) (g : List Int) (y : Int), i + q = (ord l).length → q < N → 0 < i → GI l G g y i → G.length ≤ i → (g ++ [y]).length ≤ i → i_ties_l1 kj l (ord l) N (tiesOf 0 (G ++ [g ++ [y]])) (i : Int) = kj (tiesOf 0 (gof (bt l) G (g ++ [y]) ((ord l).drop i))) := by
  have hol := ord_len l
  intro q
  induction q with
  | zero =>
    intro i N G g y h1 h2 h0 hI hG hg
    obtain ⟨N, rfl⟩ := pos_fuel h2
    have hz : ¬ (i : Int) < ((ord l).length : Int) := by omega
    rw [List.drop_eq_nil_of_le (by omega)]
    simp only [i_ties_l1, hz, decide_false, cond_false, gof]
  | succ q ih =>
    intro i N G g y h1 h2 h0 hI hG hg
    obtain ⟨N, rfl⟩ := pos_fuel h2
    have hi : i < (ord l).length := by omega
    have hz : (i : Int) < ((ord l).length : Int) := by omega
    obtain ⟨hm, hx0⟩ := head_mem g y
    have hm1 := ord_mem l (List.mem_of_mem_take (hI.mem hm))
    have hm2 := ord_mem l (List.getElem_mem hi)
    obtain ⟨a, ha⟩ : ∃ a : Nat, (g ++ [y]).headD 0 = a := ⟨((g ++ [y]).headD 0).toNat, by omega⟩
    obtain ⟨b, hb⟩ : ∃ b : Nat, (ord l)[i] = b := ⟨((ord l)[i]).toNat, by omega⟩
    have hal : a < l.length := by omega
    have hbl : b < l.length := by omega
    have tl : (tiesOf 0 (G ++ [g ++ [y]])).length = G.length + 1 := by rw [ties_len]; simp
    have z1 : w64 (((tiesOf 0 (G ++ [g ++ [y]])).length : Int) - 1) = (G.length : Int) := by rw [tl, w64_id (by omega) (by omega)]; omega
    have te : tiesOf 0 (G ++ [g ++ [y]]) = tiesOf 0 G ++ [⟨((0 + G.flatten.length : Nat) : Int) + 1, g ++ [y]⟩] := by rw [ties_app]; rfl
    have z2 : idx (tiesOf 0 (G ++ [g ++ [y]])) (G.length : Int) = some ⟨((0 + G.flatten.length : Nat) : Int) + 1, g ++ [y]⟩ := by
      rw [te, idx_nat, List.getElem?_append_right (by rw [ties_len]; exact Nat.le_refl _), ties_len, Nat.sub_self]; rfl
    have z0 : decide ((G.length : Int) ≥ 0) = true := decide_eq_true (by omega)
    rw [drop_cons _ i hi]
    simp only [i_ties_l1, hz, decide_true, cond_true, withK_n, idx_lt _ i hi, Option.bind_some, z1, z0, andO_true, z2, hx0, gof]
    rw [ha, hb]
    simp only [idx_lt l a hal, idx_lt l b hbl, Option.bind_some, (bt_at l a b hal hbl).1]
    cases hc : bt l a b with
    | true =>
      have e9 : w64 ((i : Int) + 1) = ((i + 1 : Nat) : Int) := w64_nat i (by omega)
      simp only [Bool.not_true, cond_false, cond_true]
      rw [app_some _ _ (by rw [tl]; simp; unfold LIM; omega), Option.bind_some, e9]
      have hI2 := hI.new hi
      rw [hb] at hI2
      have := ih (i + 1) N (G ++ [g ++ [y]]) [] b (by omega) (by omega) (by omega) hI2 (by simp; omega) (by simp)
      rw [ties_app _ [[] ++ [(b : Int)]], hI.len (by omega), Nat.zero_add] at this
      exact this
    | false =>
      simp only [Bool.not_false, cond_false, cond_true]
      rw [app_some _ _ (by simp at hg ⊢; unfold LIM; omega), Option.bind_some, w64_nat i (by omega), Int.toNat_natCast]
      have hI2 := hI.more hi (by rw [ha, hb]; exact hc)
      rw [hb] at hI2
      have := ih (i + 1) N G (g ++ [y]) b (by omega) (by omega) (by omega) hI2 (by omega) (by simp at hg ⊢; omega)
      rw [← this]
      congr 1
      rw [te, ties_app, set_last _ _ _ _ (ties_len G 0)]
      rfl
theorem groups_l1 (kj : List (List Int) → Option (List (List Int))) : ∀ (q i N : Nat) (G : List (List Int)) (g : List Int) (y : Int), i + q = (ord l).length → q < N → 0 < i → GI l G g y i → G.length ≤ i → (g ++ [y]).length ≤ i → s_l22Groups_l1 kj l (ord l) N (G ++ [g ++ [y]]) (i : Int) = kj (gof (bt l) G (g ++ [y]) ((ord l).drop i)) := by
  have hol := ord_len l
  intro q
  induction q with
  | zero =>
    intro i N G g y h1 h2 h0 hI hG hg
    obtain ⟨N, rfl⟩ := pos_fuel h2
    have hz : ¬ (i : Int) < ((ord l).length : Int) := by omega
    rw [List.drop_eq_nil_of_le (by omega)]
    simp only [s_l22Groups_l1, hz, decide_false, cond_false, gof]
  | succ q ih =>
    intro i N G g y h1 h2 h0 hI hG hg
    obtain ⟨N, rfl⟩ := pos_fuel h2
    have hi : i < (ord l).length := by omega
    have hz : (i : Int) < ((ord l).length : Int) := by omega
    have hm2 := ord_mem l (List.getElem_mem hi)
    have hm1 := ord_mem l (List.mem_of_mem_take (hI.mem (x := y) (by simp)))
    have hlast := hI.last (by omega) h0
    obtain ⟨a, rfl⟩ : ∃ a : Nat, y = a := ⟨y.toNat, by omega⟩
    obtain ⟨b, hb⟩ : ∃ b : Nat, (ord l)[i] = b := ⟨((ord l)[i]).toNat, by omega⟩
    have hal : a < l.length := by omega
    have hbl : b < l.length := by omega
    have tl : (G ++ [g ++ [(a : Int)]]).length = G.length + 1 := by simp
    have z1 : w64 (((G ++ [g ++ [(a : Int)]]).length : Int) - 1) = (G.length : Int) := by rw [tl, w64_id (by omega) (by omega)]; omega
    have z2 : idx (G ++ [g ++ [(a : Int)]]) (G.length : Int) = some (g ++ [(a : Int)]) := by
      rw [idx_nat, List.getElem?_append_right (Nat.le_refl _), Nat.sub_self]; rfl
    have z0 : decide ((i : Int) > 0) = true := decide_eq_true (by omega)
    have z3 : w64 ((i : Int) - 1) = ((i - 1 : Nat) : Int) := by rw [w64_id (by omega) (by omega)]; omega
    have hcmp := hI.cmp (b : Int)
    rw [drop_cons _ i hi]
    simp only [s_l22Groups_l1, hz, decide_true, cond_true, withK_n, z0, andO_true, z3, idx_lt _ (i - 1) (Nat.lt_of_le_of_lt (Nat.sub_le _ _) hi), hlast, idx_lt _ i hi, Option.bind_some, z1, z2, gof]
    rw [hb, ← hcmp]
    simp only [idx_lt l a hal, idx_lt l b hbl, Option.bind_some, (bt_at l a b hal hbl).2]
    cases hc : bt l a b with
    | true =>
      simp only [Bool.not_true, cond_false, cond_true]
      rw [app_some _ _ (by rw [tl]; simp; unfold LIM; omega), Option.bind_some, w64_nat i (by omega)]
      have hI2 := hI.new hi
      rw [hb] at hI2
      exact ih (i + 1) N (G ++ [g ++ [(a : Int)]]) [] b (by omega) (by omega) (by omega) hI2 (by simp; omega) (by simp)
    | false =>
      simp only [Bool.not_false, cond_false, cond_true]
      rw [app_some _ _ (by simp at hg ⊢; unfold LIM; omega), Option.bind_some, w64_nat i (by omega), Int.toNat_natCast]
      have hI2 := hI.more hi (by rw [hb, ← hcmp]; exact hc)
      rw [hb] at hI2
      have := ih (i + 1) N G (g ++ [(a : Int)]) b (by omega) (by omega) (by omega) hI2 (by omega) (by simp at hg ⊢; omega)
      rw [← this]
      congr 1
      rw [set_last _ _ _ _ rfl]
theorem ties_ok (N : Nat) (hN : 150 < N) : i_ties N l = some (tiesOf 0 (grp l)) ∧ s_l22Groups N l = some (grp l) := by
  have hol := ord_len l
  unfold i_ties s_l22Groups
  rw [withK_n, rank_i hn N (by omega), rank_s hn N hN, Option.bind_some, Option.bind_some, withK_n]
  unfold grp
  obtain ⟨N, rfl⟩ := pos_fuel hN
  match ho : ord l with
  | [] => exact ⟨rfl, rfl⟩
  | x :: r =>
    have hz : (0 : Int) < (((x :: r : List Int).length : Nat) : Int) := by simp only [List.length_cons]; omega
    have hI : GI l [] [] x 1 := ⟨by rw [ho]; rfl, fun z hz => by
      simp only [List.nil_append, List.mem_singleton] at hz
      subst hz; exact ⟨bt_irr _ _, bt_irr _ _⟩⟩
    have t1 := ties_l1 hn (fun l5 => some l5) ((ord l).length - 1) 1 N [] [] x (by rw [ho]; simp; omega) (by omega) (by omega) hI (by simp) (by simp)
    have t2 := groups_l1 hn (fun l5 => some l5) ((ord l).length - 1) 1 N [] [] x (by rw [ho]; simp; omega) (by omega) (by omega) hI (by simp) (by simp)
    rw [ho] at t1 t2
    have e1 : idx (x :: r) 0 = some x := rfl
    have e2 : w64 ((0 : Int) + 1) = ((1 : Nat) : Int) := w64_nat 0 (by omega)
    have e3 : decide (w64 (((([] : List Tied).length : Nat) : Int) - 1) ≥ 0) = false := by decide
    constructor
    · rw [i_ties_l1, decide_eq_true hz, cond_true, withK_n, e1, Option.bind_some, e3, andO_false, Option.bind_some, cond_false, app_some _ _ (by simp; unfold LIM; omega), Option.bind_some, e2]
      exact t1
    · rw [s_l22Groups_l1, decide_eq_true hz, cond_true, withK_n, e1]
      have e4 : decide ((0 : Int) > 0) = false := by decide
      rw [e4, andO_false, Option.bind_some, cond_false, Option.bind_some, app_some _ _ (by simp; unfold LIM; omega), Option.bind_some, e2]
      exact t2
end
end Go.Proofs.YtikkolkickclhaaDoor
