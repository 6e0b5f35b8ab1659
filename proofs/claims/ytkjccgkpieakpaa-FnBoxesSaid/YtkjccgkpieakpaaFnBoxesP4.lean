/-
  Plain lemmas on these functions. No conditions but those that each states.
-/
import Derived.Test.YtkjccgkpieakpaaFnBoxesP3
namespace Go.Proofs.Ytkjccgkpieakpaa
set_option linter.unusedVariables false
set_option linter.unusedSimpArgs false
def mx (m : Int) (l : List Str) : Int := l.foldl (fun m e => imax m (e.length : Int)) m
theorem imax_ge (a b : Int) : a ≤ imax a b ∧ b ≤ imax a b := by unfold imax; split <;> omega
theorem imax_le {a b c : Int} (h1 : a ≤ c) (h2 : b ≤ c) : imax a b ≤ c := by unfold imax; split <;> omega
theorem mx_ge : ∀ (l : List Str) (m : Int), m ≤ mx m l ∧ ∀ e ∈ l, (e.length : Int) ≤ mx m l
  | [], m => ⟨Int.le_refl _, fun e h => by simp at h⟩
  | x :: l, m => by
    obtain ⟨h1, h2⟩ := mx_ge l (imax m (x.length : Int))
    have := imax_ge m (x.length : Int)
    have e : mx m (x :: l) = mx (imax m (x.length : Int)) l := rfl
    rw [e]
    refine ⟨by omega, fun y hy => ?_⟩
    rcases List.mem_cons.1 hy with rfl | hy
    · omega
    · exact h2 y hy
theorem mx_le (B : Int) : ∀ (l : List Str) (m : Int), m ≤ B → (∀ e ∈ l, (e.length : Int) ≤ B) → mx m l ≤ B
  | [], m, h, _ => h
  | x :: l, m, h, hl => mx_le B l _ (imax_le h (hl x (by simp))) (fun e he => hl e (by simp [he]))
theorem mx_some (w : Int) : ∀ (l : List Str) (m : Int), m ≤ w → (mx m l ≤ w ↔ ∀ e ∈ l, (e.length : Int) ≤ w) := fun l m hm =>
  ⟨fun h e he => by have := (mx_ge l m).2 e he; omega, fun h => mx_le w l m hm h⟩
theorem l00Max_eq (a b : Int) : s_l00Max a b = some (imax a b) := by
  unfold s_l00Max imax
  by_cases h : a > b
  · have : ¬ b > a := by omega
    simp [h, this]
  · by_cases h2 : b > a
    · simp [h, h2]
    · have : a = b := by omega
      subst this; simp
theorem longest_l1_eq (l : List Str) (ha : l.length ≤ 1000) (hl : ∀ e ∈ l, e.length ≤ 1000) : ∀ (n i N : Nat) (m : Int), i + n = l.length → n < N → ∀ K, i_longest_l1 K l N m (i : Int) = K (mx m (l.drop i)) := by
  intro n
  induction n with
  | zero =>
    intro i N m h1 h3 K
    obtain ⟨N, rfl⟩ := pos_fuel h3
    have hi : ¬ ((i : Int) < (l.length : Int)) := by omega
    have e2 : l.drop i = [] := List.drop_of_length_le (by omega)
    simp [i_longest_l1, hi, e2, mx]
  | succ n ih =>
    intro i N m h1 h3 K
    obtain ⟨N, rfl⟩ := pos_fuel h3
    have hi : (i : Int) < (l.length : Int) := by omega
    have hn : i < l.length := by omega
    simp only [i_longest_l1, hi, decide_true, cond_true, idx_lt l i hn, Option.bind_some, w64_nat i (by omega)]
    rw [ih (i + 1) N _ (by omega) (by omega) K, drop_cons l i hn]
    rfl
theorem longest_eq (N : Nat) (l : List Str) (ha : l.length ≤ 1000) (hl : ∀ e ∈ l, e.length ≤ 1000) (hN : l.length < N) : i_longest N l = some (mx 0 l) := by
  have := longest_l1_eq l ha hl l.length 0 N 0 (by omega) hN (fun m => some m)
  simpa [i_longest] using this
theorem areLines_l1_eq (l : List Str) (ha : l.length ≤ 1000) (hl : ∀ e ∈ l, e.length ≤ 1000) : ∀ (n i N : Nat), i + n = l.length → n + 1000 < N → ∀ K, i_areLines_l1 K l N (i : Int) = bif (l.drop i).all okT then K else some false := by
  intro n
  induction n with
  | zero =>
    intro i N h1 h3 K
    obtain ⟨N, rfl⟩ := pos_fuel (by omega : 0 < N)
    have hi : ¬ ((i : Int) < (l.length : Int)) := by omega
    have e2 : l.drop i = [] := List.drop_of_length_le (by omega)
    simp [i_areLines_l1, hi, e2]
  | succ n ih =>
    intro i N h1 h3 K
    obtain ⟨N, rfl⟩ := pos_fuel (by omega : 0 < N)
    have hi : (i : Int) < (l.length : Int) := by omega
    have hn : i < l.length := by omega
    have hle := hl _ (List.getElem_mem hn)
    obtain ⟨_, ht⟩ := Text_eq N l[i] (by unfold LIM; omega) (by omega)
    simp only [i_areLines_l1, hi, decide_true, cond_true, idx_lt l i hn, Option.bind_some, ht, w64_nat i (by omega)]
    rw [ih (i + 1) N (by omega) (by omega) K, drop_cons l i hn, List.all_cons]
    cases okT l[i] <;> rfl
def okL (l : List Str) : Bool := l.all okT && decide ((l.length : Int) ≤ 30)
theorem areLines_eq (N : Nat) (l : List Str) (ha : l.length ≤ 1000) (hl : ∀ e ∈ l, e.length ≤ 1000) (hN : l.length + 1000 < N) : i_areLines N l = some (okL l) := by
  have := areLines_l1_eq l ha hl l.length 0 N (by omega) hN (some (decide ((l.length : Int) ≤ 30)))
  rw [show ((0 : Nat) : Int) = 0 from rfl, List.drop_zero] at this
  unfold i_areLines okL
  simp only [withK_eq, this]
  cases l.all okT <;> rfl
theorem lines_l1_eq (l : List Str) (ha : l.length ≤ 1000) (hl : ∀ e ∈ l, e.length ≤ 1000) : ∀ (n i N : Nat) (m : Int), i + n = l.length → n + 1000 < N → ∀ K, s_l10Lines_l1 K l N m (i : Int) = bif (l.drop i).all okT then K (mx m (l.drop i)) else some (-1) := by
  intro n
  induction n with
  | zero =>
    intro i N m h1 h3 K
    obtain ⟨N, rfl⟩ := pos_fuel (by omega : 0 < N)
    have hi : ¬ ((i : Int) < (l.length : Int)) := by omega
    have e2 : l.drop i = [] := List.drop_of_length_le (by omega)
    simp [s_l10Lines_l1, hi, e2, mx]
  | succ n ih =>
    intro i N m h1 h3 K
    obtain ⟨N, rfl⟩ := pos_fuel (by omega : 0 < N)
    have hi : (i : Int) < (l.length : Int) := by omega
    have hn : i < l.length := by omega
    have hle := hl _ (List.getElem_mem hn)
    obtain ⟨ht, _⟩ := Text_eq N l[i] (by unfold LIM; omega) (by omega)
    simp only [s_l10Lines_l1, hi, decide_true, cond_true, idx_lt l i hn, Option.bind_some, ht, l00Max_eq, w64_nat i (by omega)]
    rw [ih (i + 1) N _ (by omega) (by omega) K, drop_cons l i hn, List.all_cons]
    cases okT l[i] <;> rfl
theorem lines_eq (N : Nat) (l : List Str) (ha : l.length ≤ 1000) (hl : ∀ e ∈ l, e.length ≤ 1000) (hN : l.length + 1000 < N) : s_l10Lines N l = some (bif okL l then mx 0 l else -1) := by
  have h := fun K => lines_l1_eq l ha hl l.length 0 N 0 (by omega) hN K
  rw [show ((0 : Nat) : Int) = 0 from rfl] at h
  simp only [List.drop_zero] at h
  unfold s_l10Lines okL
  simp only [withK_eq, h]
  have e : decide ((l.length : Int) > 30) = !(decide ((l.length : Int) ≤ 30)) := by simp [← Int.not_le]
  rw [e]
  cases l.all okT <;> cases decide ((l.length : Int) ≤ 30) <;> rfl
theorem okL_facts {l : List Str} (h : okL l = true) : l.length ≤ 30 ∧ (∀ e ∈ l, okT e = true ∧ e.length ≤ 100) ∧ 0 ≤ mx 0 l ∧ mx 0 l ≤ 100 := by
  unfold okL at h
  rw [Bool.and_eq_true, decide_eq_true_eq, List.all_eq_true] at h
  have h2 : ∀ e ∈ l, okT e = true ∧ e.length ≤ 100 := fun e he => ⟨h.1 e he, okT_len (h.1 e he)⟩
  exact ⟨by omega, h2, (mx_ge l 0).1, mx_le 100 l 0 (by omega) (fun e he => by have := (h2 e he).2; omega)⟩
/-- a line of a box -/
def bxl (r : Int) (e : Str) : Str := [124, 32] ++ e ++ List.replicate (r - e.length).toNat 32 ++ [32, 124]
def bxr (r : Int) : Str := [43] ++ List.replicate (r + 2).toNat 45 ++ [43]
theorem Box_l1_eq (l : List Str) (r : Int) (ha : l.length ≤ 1000) (hl : ∀ e ∈ l, e.length ≤ 1000) (hr0 : 0 ≤ r) (hr : r ≤ 1000) : ∀ (n i N : Nat) (o : List Str), i + n = l.length → n + 1100 < N → o.length = i + 1 → (∀ K, i_BoxLines_l1 K l r N o (i : Int) = K (o ++ (l.drop i).map (bxl r))) ∧ ∀ K, s_BoxLines_l1 K l r N o (i : Int) = K (o ++ (l.drop i).map (bxl r)) := by
  intro n
  induction n with
  | zero =>
    intro i N o h1 h3 h4
    obtain ⟨N, rfl⟩ := pos_fuel (by omega : 0 < N)
    have hi : ¬ ((i : Int) < (l.length : Int)) := by omega
    have e2 : l.drop i = [] := List.drop_of_length_le (by omega)
    exact ⟨fun K => by simp [i_BoxLines_l1, hi, e2], fun K => by simp [s_BoxLines_l1, hi, e2]⟩
  | succ n ih =>
    intro i N o h1 h3 h4
    obtain ⟨N, rfl⟩ := pos_fuel (by omega : 0 < N)
    have hi : (i : Int) < (l.length : Int) := by omega
    have hn : i < l.length := by omega
    have hle := hl _ (List.getElem_mem hn)
    obtain ⟨h5, h6⟩ := ih (i + 1) N (o ++ [bxl r l[i]]) (by omega) (by omega) (by simp; omega)
    have er : o ++ [bxl r l[i]] ++ (l.drop (i + 1)).map (bxl r) = o ++ (l.drop i).map (bxl r) := by rw [drop_cons l i hn, List.map_cons]; simp only [List.append_assoc, List.cons_append, List.nil_append]
    have ew : w64 (r - (l[i].length : Int)) = r - (l[i].length : Int) := w64_id (by omega) (by omega)
    have e1 := repeat_eq N 32 (r - (l[i].length : Int)) (by omega) (by omega) (by omega)
    have e2 := blanks_eq N (r - (l[i].length : Int)) (by omega) (by omega) (by omega)
    have c1 : cat [124, 32] l[i] = some ([124, 32] ++ l[i]) := cat_some _ _ (by simp; unfold LIM; omega)
    have c2 : cat ([124, 32] ++ l[i]) (List.replicate (r - (l[i].length : Int)).toNat 32) = some ([124, 32] ++ l[i] ++ List.replicate (r - (l[i].length : Int)).toNat 32) := cat_some _ _ (by simp; unfold LIM; omega)
    have c3 : cat ([124, 32] ++ l[i] ++ List.replicate (r - (l[i].length : Int)).toNat 32) [32, 124] = some (bxl r l[i]) := cat_some _ _ (by simp; unfold LIM; omega)
    have ea : app o [bxl r l[i]] = some (o ++ [bxl r l[i]]) := app_some _ _ (by simp; unfold LIM; omega)
    refine ⟨fun K => ?_, fun K => ?_⟩
    · simp only [i_BoxLines_l1, hi, decide_true, cond_true, idx_lt l i hn, Option.bind_some, c1, ew, e1, c2, c3, ea, w64_nat i (by omega)]
      rw [h5, er]
    · simp only [s_BoxLines_l1, hi, decide_true, cond_true, idx_lt l i hn, Option.bind_some, c1, ew, e2, c2, c3, ea, w64_nat i (by omega)]
      rw [h6, er]
theorem Box_eq (N : Nat) (l : List Str) (ha : l.length ≤ 1000) (hl : ∀ e ∈ l, e.length ≤ 1000) (hN : l.length + 2000 < N) : ∃ p : List Str × Int, i_BoxLines N l = some p ∧ s_BoxLines N l = some p ∧ p.1.length ≤ 1002 ∧ (p.2 = 0 → okL l = true ∧ p.1 = [bxr (mx 0 l)] ++ l.map (bxl (mx 0 l)) ++ [bxr (mx 0 l)]) := by
  have h1 := areLines_eq N l ha hl (by omega)
  have h2 := lines_eq N l ha hl (by omega)
  have h3 := longest_eq N l ha hl (by omega)
  unfold i_BoxLines s_BoxLines
  simp only [h1, h2, h3, Option.bind_some]
  cases hk : okL l
  · exact ⟨([], 2), rfl, rfl, by simp, fun h => by simp at h⟩
  · obtain ⟨g1, g2, g3, g4⟩ := okL_facts hk
    have e1 : w64 (mx 0 l + 4) = mx 0 l + 4 := w64_id (by omega) (by omega)
    have e2 : w64 (mx 0 l + 2) = mx 0 l + 2 := w64_id (by omega) (by omega)
    have n0 : ¬ mx 0 l < 0 := by omega
    simp only [Bool.not_true, cond_false, cond_true, e1, n0, decide_false, e2]
    by_cases g : mx 0 l > 96
    · have : mx 0 l + 4 > 100 := by omega
      exact ⟨([], 5), by simp [this], by simp [g], by simp, fun h => by simp at h⟩
    · have : ¬ mx 0 l + 4 > 100 := by omega
      have r1 := repeat_eq N 45 (mx 0 l + 2) (by omega) (by omega) (by omega)
      have r2 := rule_eq N 45 (mx 0 l + 2) (by omega) (by omega) (by omega)
      have c1 : cat [43] (List.replicate (mx 0 l + 2).toNat 45) = some ([43] ++ List.replicate (mx 0 l + 2).toNat 45) := cat_some _ _ (by simp; unfold LIM; omega)
      have c2 : cat ([43] ++ List.replicate (mx 0 l + 2).toNat 45) [43] = some (bxr (mx 0 l)) := cat_some _ _ (by simp; unfold LIM; omega)
      obtain ⟨h5, h6⟩ := Box_l1_eq l (mx 0 l) ha hl g3 (by omega) l.length 0 N [bxr (mx 0 l)] (by omega) (by omega) rfl
      rw [show ((0 : Nat) : Int) = 0 from rfl] at h5 h6
      have ea : app ([bxr (mx 0 l)] ++ l.map (bxl (mx 0 l))) [bxr (mx 0 l)] = some ([bxr (mx 0 l)] ++ l.map (bxl (mx 0 l)) ++ [bxr (mx 0 l)]) := app_some _ _ (by simp; unfold LIM; omega)
      refine ⟨([bxr (mx 0 l)] ++ l.map (bxl (mx 0 l)) ++ [bxr (mx 0 l)], 0), ?_, ?_, by simp; omega, fun _ => by simp⟩
      · simp only [this, decide_false, cond_false, r1, c1, c2, Option.bind_some, withK_eq]
        rw [h5, List.drop_zero, ea]; rfl
      · simp only [g, decide_false, cond_false, r2, c1, c2, Option.bind_some, withK_eq]
        rw [h6, List.drop_zero, ea]; rfl
theorem bxl_len {r : Int} {e : Str} (h : (e.length : Int) ≤ r) : ((bxl r e).length : Int) = r + 4 := by unfold bxl; simp; omega
theorem bxr_len {r : Int} (h : 0 ≤ r) : ((bxr r).length : Int) = r + 4 := by unfold bxr; simp; omega
end Go.Proofs.Ytkjccgkpieakpaa
