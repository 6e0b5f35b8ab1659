/-
  Plain lemmas on these functions. No conditions but those that each states.
-/
import Derived.Test.YtdnnnakjhehfkaaDoorFnReplacementsP9
namespace Go.Proofs.YtdnnnakjhehfkaaDoor
set_option linter.unusedVariables false
set_option linter.unusedSimpArgs false
/-! What a valid list is, both ways; a list with another stock. -/
theorem gd_of_ok (l : List SparePart) (ha : l.length ≤ LIM) (N : Nat) (hN : 2 * l.length + 100 < N) (h : s_l24Ok N l = some true) : (l.length : Int) ≤ 40 ∧ ∀ j, ∀ h : j < l.length, gdP l j h := by
  obtain ⟨t, h1, h2⟩ := ValidParts_eq l ha
  obtain ⟨h3, _⟩ := h2 N hN
  rw [h] at h3
  have hv := h1 (Option.some.inj h3).symm
  refine ⟨by have := hv.1; omega, fun j hj => Classical.byContradiction fun hc => ?_⟩
  have := s_l24Ok_bad (some (decide ((l.length : Int) ≤ 40))) l ha hv.instead l.length 0 N (by omega) (by omega) ⟨j, by omega, hj, hc⟩
  rw [show ((0 : Nat) : Int) = 0 from rfl] at this
  have e : s_l24Ok N l = s_l24Ok_l1 (some (decide ((l.length : Int) ≤ 40))) l N 0 := rfl
  rw [e, this] at h
  cases h
theorem ok_of_gd (l : List SparePart) (h40 : (l.length : Int) ≤ 40) (hg : ∀ j, ∀ h : j < l.length, gdP l j h) (N : Nat) (hN : 2 * l.length + 100 < N) : s_l24Ok N l = some true := by
  have ha : l.length ≤ LIM := by unfold LIM; omega
  have hl : ∀ e ∈ l, e.instead < l.length := fun e he => by
    obtain ⟨i, h1, rfl⟩ := List.getElem_of_mem he
    have := (hg i h1).1
    simp only [fok, Bool.and_eq_true, inr_iff] at this
    omega
  have := s_l24Ok_good (some (decide ((l.length : Int) ≤ 40))) l ha hl l.length 0 N (by omega) (by omega) (fun j _ h => hg j h)
  rw [show ((0 : Nat) : Int) = 0 from rfl] at this
  have e : s_l24Ok N l = s_l24Ok_l1 (some (decide ((l.length : Int) ≤ 40))) l N 0 := rfl
  rw [e, this]
  simp [h40]
def stk (l : List SparePart) (r : Nat) (h : r < l.length) (v : Int) : List SparePart := l.set r ⟨l[r].name, v, l[r].target, l[r].days, l[r].instead⟩
theorem length_stk (l : List SparePart) (r : Nat) (h : r < l.length) (v : Int) : (stk l r h v).length = l.length := by unfold stk; rw [List.length_set]
theorem get_stk (l : List SparePart) (r : Nat) (h : r < l.length) (v : Int) (j : Nat) (hj : j < l.length) : (stk l r h v)[j]'(by rw [length_stk]; exact hj) = if r = j then ⟨l[j].name, v, l[j].target, l[j].days, l[j].instead⟩ else l[j] := by
  unfold stk
  rw [List.getElem_set]
  by_cases c : r = j
  · subst c; simp
  · rw [if_neg c, if_neg c]
theorem nx_stk (l : List SparePart) (r : Nat) (h : r < l.length) (v : Int) (x : Int) : nx (stk l r h v) x = nx l x := by
  unfold nx stk
  rw [List.getElem?_set]
  by_cases c : r = x.toNat
  · subst c
    simp [h]
  · rw [if_neg c]
theorem alv_stk (l : List SparePart) (r : Nat) (h : r < l.length) (v : Int) : ∀ (n : Nat) (x : Int), alv (stk l r h v) n x = alv l n x
  | 0, _ => rfl
  | n + 1, x => by rw [alv, alv, nx_stk, alv_stk l r h v n]
theorem names_stk (l : List SparePart) (r : Nat) (h : r < l.length) (v : Int) : (stk l r h v).map (·.name) = l.map (·.name) := by
  apply List.ext_getElem
  · simp [length_stk]
  · intro i h1 h2
    have hi : i < l.length := by simpa using h2
    rw [List.getElem_map, List.getElem_map, get_stk l r h v i hi]
    split <;> rfl
theorem dst_map (l : List SparePart) (i : Nat) (n : Str) : dst l i n = ((l.map (·.name)).take i).all fun y => y != n := by
  unfold dst
  rw [← List.map_take, List.all_map]
  rfl
theorem gd_stk (l : List SparePart) (r : Nat) (h : r < l.length) (v : Int) (h0 : 0 ≤ v) (h1 : v ≤ 100000) (hg : ∀ j, ∀ h : j < l.length, gdP l j h) : ∀ j, ∀ hj : j < (stk l r h v).length, gdP (stk l r h v) j hj := by
  intro j hj
  have hj' : j < l.length := by rw [length_stk] at hj; exact hj
  obtain ⟨a, b, c⟩ := hg j hj'
  have e := get_stk l r h v j hj'
  have hv : inr v 0 100000 = true := inr_iff.2 ⟨h0, h1⟩
  have e1 : ((stk l r h v)[j]).name = l[j].name := by rw [e]; split <;> rfl
  have e2 : ((stk l r h v)[j]).instead = l[j].instead := by rw [e]; split <;> rfl
  refine ⟨?_, ?_, ?_⟩
  · simp only [fok, Bool.and_eq_true] at a ⊢
    rw [e1, e2, length_stk, e]
    refine ⟨a.1, ?_, ?_, ?_, a.2.2.2.2⟩
    · split
      · exact hv
      · exact a.2.1
    · split
      · exact a.2.2.1
      · exact a.2.2.1
    · split
      · exact a.2.2.2.1
      · exact a.2.2.2.1
  · rw [e1, dst_map, names_stk, ← dst_map]; exact b
  · rw [e2, length_stk, alv_stk]; exact c
theorem VP_stk (l : List SparePart) (ha : l.length ≤ LIM) (N : Nat) (hN : 2 * l.length + 100 < N) (hok : s_l24Ok N l = some true) (r : Nat) (h : r < l.length) (v : Int) (h0 : 0 ≤ v) (h1 : v ≤ 100000) : ∃ t : Bool, t = true ∧ VP (stk l r h v) ∧ ∀ N, 2 * l.length + 100 < N → s_l24Ok N (stk l r h v) = some t ∧ i_ValidParts N (stk l r h v) = some t := by
  obtain ⟨g1, g2⟩ := gd_of_ok l ha N hN hok
  obtain ⟨t, k1, k2⟩ := ValidParts_eq (stk l r h v) (by rw [length_stk]; exact ha)
  have := ok_of_gd (stk l r h v) (by rw [length_stk]; exact g1) (gd_stk l r h v h0 h1 g2) N (by rw [length_stk]; exact hN)
  have k3 := (k2 N (by rw [length_stk]; exact hN)).1
  rw [this] at k3
  have ht : t = true := (Option.some.inj k3).symm
  exact ⟨t, ht, k1 ht, fun M hM => k2 M (by rw [length_stk]; exact hM)⟩
/-- the part that is used, and the way to it -/
theorem Use_way (l : List SparePart) (k m : Int) (z x' : List SparePart) (w : Int) (hl : ∀ e ∈ l, e.instead < l.length) : ∀ (n : Nat) (x : Int), alv l n x = false → x < l.length →
    ∃ r : Int, r < l.length ∧ (∀ K N, n < N → s_l24Use_l1 K l m N x = K r ∧ i_usedPart_l1 K l m N x = K r) ∧
      (0 ≤ r → 0 ≤ x ∧ (∀ h : r.toNat < l.length, m ≤ l[r.toNat].stock) ∧ ∀ (K : Option Bool) N, n < N → w_FnReplacements_l2 K (l, k, m) (z, r, w) N x = K) := by
  intro n
  induction n with
  | zero =>
    intro x h1 h2
    simp only [alv, decide_eq_false_iff_not] at h1
    refine ⟨x, h2, fun K N hN => ?_, fun h => absurd h (by omega)⟩
    obtain ⟨N, rfl⟩ := pos_fuel hN
    simp [s_l24Use_l1, i_usedPart_l1, h1]
  | succ n ih =>
    intro x h1 h2
    by_cases hx : x ≥ 0
    · have hxl : x.toNat < l.length := by omega
      have hn : nx l x = l[x.toNat].instead := by unfold nx; rw [List.getElem?_eq_getElem hxl]
      rw [alv] at h1
      simp only [hx, decide_true, Bool.true_and, hn] at h1
      by_cases hs : l[x.toNat].stock < m
      · obtain ⟨r, h4, h5, h6⟩ := ih _ h1 (hl _ (List.getElem_mem _))
        refine ⟨r, h4, fun K N hN => ?_, fun hr => ?_⟩
        · obtain ⟨N, rfl⟩ := pos_fuel (show 0 < N by omega)
          simp only [s_l24Use_l1, i_usedPart_l1, hx, decide_true, andO_true, idx_int l x hx h2, Option.bind_some, hs, cond_true]
          exact h5 K N (by omega)
        · obtain ⟨h7, h8, h9⟩ := h6 hr
          refine ⟨hx, h8, fun K N hN => ?_⟩
          obtain ⟨N, rfl⟩ := pos_fuel (show 0 < N by omega)
          unfold w_FnReplacements_l2
          cases e : (x != r)
          · rfl
          · have a1 : ¬ l[x.toNat].stock ≥ m := by omega
            have a2 : ¬ l[x.toNat].instead < 0 := by omega
            simp only [cond_true, idx_int l x hx h2, Option.bind_some, a1, a2, decide_false, orO_some, Bool.or_self, cond_false]
            exact h9 K N (by omega)
      · refine ⟨x, h2, fun K N hN => ?_, fun hr => ⟨hx, fun _ => by omega, fun K N hN => ?_⟩⟩
        · obtain ⟨N, rfl⟩ := pos_fuel (show 0 < N by omega)
          simp only [s_l24Use_l1, i_usedPart_l1, hx, decide_true, andO_true, idx_int l x hx h2, Option.bind_some, hs, decide_false, cond_false, and_self]
        · obtain ⟨N, rfl⟩ := pos_fuel (show 0 < N by omega)
          simp only [w_FnReplacements_l2, bne_self_eq_false, cond_false]
    · refine ⟨x, h2, fun K N hN => ?_, fun h => absurd h (by omega)⟩
      obtain ⟨N, rfl⟩ := pos_fuel (show 0 < N by omega)
      simp only [s_l24Use_l1, i_usedPart_l1, hx, decide_false, andO_false, Option.bind_some, cond_false, and_self]
theorem TR_eq (N : Nat) (l : List SparePart) (ha : l.length ≤ LIM) (k m : Int) (hN : 2 * l.length + 200 < N) : ∃ (p : List SparePart × Int × Int) (q : Int × Int), s_TakeParts N l k m = some p ∧ i_TakeParts N l k m = some p ∧ s_ReplacementOf N l k m = some q ∧ i_ReplacementOf N l k m = some q ∧ p.1.length ≤ l.length ∧ q.2 = p.2.2 ∧
    (p.2.2 = 0 → VP l ∧ s_l24Ok N l = some true ∧ q.1 = p.2.1 ∧ 0 ≤ p.2.1 ∧ 1 ≤ m ∧ m ≤ 100000 ∧ ∃ h : p.2.1.toNat < l.length, m ≤ l[p.2.1.toNat].stock ∧ p.1 = stk l p.2.1.toNat h (l[p.2.1.toNat].stock - m) ∧ ∀ (K : Option Bool) (z : List SparePart) (w : Int), w_FnReplacements_l2 K (l, k, m) (z, p.2.1, w) N k = K) := by
  obtain ⟨c, h1, h2⟩ := Code_eq l ha k m
  obtain ⟨h3, h4⟩ := h2 N (by omega)
  by_cases hc : c = 0
  · obtain ⟨hv, h5, h6, h7, h8⟩ := h1 hc
    subst hc
    have hok : s_l24Ok N l = some true := by
      obtain ⟨t, _, k2⟩ := ValidParts_eq l ha
      have k3 := (k2 N (by omega)).1
      cases t
      · unfold s_l24Code at h3
        rw [k3] at h3
        simp at h3
      · exact k3
    obtain ⟨r, h9, h10⟩ := Use_eq l hv k m h6
    obtain ⟨h11, h12⟩ := h10 N (by omega)
    by_cases hr : r < 0
    · refine ⟨([], 0, 3), (0, 3), ?_, ?_, ?_, ?_, by simp, rfl, by intro e; simp at e⟩
      · simp [s_TakeParts, h3, h11, hr]
      · simp [i_TakeParts, i_ReplacementOf, h4, h12, hr]
      · simp [s_ReplacementOf, h3, h11, hr]
      · simp [i_ReplacementOf, h4, h12, hr]
    · have hk := idx_int l r (by omega) h9
      have hrl : r.toNat < l.length := by omega
      have hs := hv.stock _ (List.getElem_mem hrl)
      have e1 : w64 (0 - m) = -m := by rw [w64_id (by omega) (by omega)]; omega
      have e2 : w64 (l[r.toNat].stock + -m) = l[r.toNat].stock - m := by rw [w64_id (by omega) (by omega)]; omega
      have e3 : w64 (l[r.toNat].stock - m) = l[r.toNat].stock - m := w64_id (by omega) (by omega)
      refine ⟨(stk l r.toNat hrl (l[r.toNat].stock - m), r, 0), (r, 0), ?_, ?_, ?_, ?_, by rw [length_stk]; exact Nat.le_refl _, rfl, fun _ => ?_⟩
      · simp only [s_TakeParts, h3, h11, hr, Option.bind_some, bne_self_eq_false, cond_false, decide_false, s_l24Add_eq l ha r _ (by omega) h9, e1, e2]
        rfl
      · simp only [i_TakeParts, i_ReplacementOf, h4, h12, hr, Option.bind_some, bne_self_eq_false, cond_false, decide_false]
        rw [app_some [] l (by simpa using ha)]
        simp only [Option.bind_some, List.nil_append, hk, e3]
        rfl
      · simp only [s_ReplacementOf, h3, h11, hr, Option.bind_some, bne_self_eq_false, cond_false, decide_false]
      · simp only [i_ReplacementOf, h4, h12, hr, Option.bind_some, bne_self_eq_false, cond_false, decide_false]
      · have hw := fun z w => Use_way l k m z z w hv.instead l.length k (hv.alv k h6) h6
        have h40 := hv.1
        have hru : ∀ z w, ∃ r' : Int, r' = r ∧ (0 ≤ r' → 0 ≤ k ∧ (∀ h : r'.toNat < l.length, m ≤ l[r'.toNat].stock) ∧ ∀ (K : Option Bool) N, l.length < N → w_FnReplacements_l2 K (l, k, m) (z, r', w) N k = K) := by
          intro z w
          obtain ⟨r', g1, g2, g3⟩ := hw z w
          refine ⟨r', ?_, g3⟩
          have := (g2 some N (by omega)).1
          have e : s_l24Use N l k m = s_l24Use_l1 some l m N k := rfl
          rw [e, this] at h11
          exact Option.some.inj h11
        obtain ⟨r', rfl, g3⟩ := hru [] 0
        obtain ⟨_, g4, _⟩ := g3 (by omega)
        refine ⟨hv, hok, rfl, by show 0 ≤ r'; omega, h7, h8, hrl, g4 hrl, rfl, fun K z w => ?_⟩
        obtain ⟨r2, e, g5⟩ := hru z w
        subst e
        exact (g5 (by omega)).2.2 K N (by omega)
  · have e : (c != 0) = true := by simpa using hc
    refine ⟨([], 0, c), (0, c), ?_, ?_, ?_, ?_, by simp, rfl, fun h => absurd h hc⟩
    · simp only [s_TakeParts, h3, Option.bind_some, e, cond_true]
    · simp only [i_TakeParts, i_ReplacementOf, h4, Option.bind_some, e, cond_true]
    · simp only [s_ReplacementOf, h3, Option.bind_some, e, cond_true]
    · simp only [i_ReplacementOf, h4, Option.bind_some, e, cond_true]
end Go.Proofs.YtdnnnakjhehfkaaDoor
