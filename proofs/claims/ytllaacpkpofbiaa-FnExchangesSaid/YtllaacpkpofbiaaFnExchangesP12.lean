/-
  Plain lemmas on these functions. No conditions but those that each states.
-/
import Derived.Test.YtllaacpkpofbiaaFnExchangesP11
namespace Go.Proofs.Ytllaacpkpofbiaa
set_option linter.unusedVariables false
set_option linter.unusedSimpArgs false
/-! The distance. -/
def dk (B : List Str) (x y : Nat) (c : UInt8) : Nat := match fo c B 0 with
  | some (i, k) => ((i - x) + (x - i)) + ((k - y) + (y - k))
  | none => 0
def dw (B : List Str) (x : Nat) : Str → Nat → Nat
  | [], _ => 0
  | c :: w, y => dk B x y c + dw B x w (y + 1)
def dz (B : List Str) : List Str → Nat → Nat
  | [], _ => 0
  | w :: r, x => dw B x w 0 + dz B r (x + 1)
theorem abs_i (n : Int) (h0 : -100000 ≤ n) (h1 : n ≤ 100000) : i_absolute (w64 n) = some (n.natAbs : Int) ∧ s_l00Size (w64 n) = some (n.natAbs : Int) := by
  rw [w64_id (by omega) (by omega)]
  unfold i_absolute s_l00Size
  by_cases h : n < 0
  · rw [decide_eq_true h, cond_true, w64_id (by omega) (by omega)]
    rw [show (0 - n) = (n.natAbs : Int) by omega]
    exact ⟨rfl, rfl⟩
  · rw [decide_eq_false h, cond_false]
    rw [show (n.natAbs : Int) = n by omega]
    exact ⟨rfl, rfl⟩
theorem di_l2 (A B : List Str) (hB : B.length ≤ 10 ∧ ∀ w ∈ B, w.length ≤ 100) (x : Nat) (hx : x ≤ 10) (w : Str) (ha : idx A (x : Int) = some w) (hw : w.length ≤ 100) (hin : ∀ c ∈ w, c ∈ B.flatten) (kj : Int → Option (Int × Int)) : ∀ (q y N D : Nat), y + q = w.length → q + 400 < N → D + 400 * q ≤ 1000000 →
    i_DistanceOf_l2 kj (Layout.mk B) (x : Int) w N (D : Int) (y : Int) = kj ((D + dw B x (w.drop y) y : Nat) : Int) ∧ s_DistanceOf_l2 kj (Layout.mk A) (Layout.mk B) (x : Int) N (D : Int) (y : Int) = kj ((D + dw B x (w.drop y) y : Nat) : Int) ∧ dw B x (w.drop y) y ≤ 400 * q := by
  have ha' : idx (Layout.mk A).rows (x : Int) = some w := ha
  intro q
  induction q with
  | zero =>
    intro y N D hy hN hD
    obtain ⟨N, rfl⟩ := pos_fuel (show 0 < N by omega)
    rw [i_DistanceOf_l2, s_DistanceOf_l2, ha', Option.bind_some, decide_eq_false (by omega : ¬ (y : Int) < (w.length : Int)), cond_false, cond_false, List.drop_eq_nil_of_le (by omega), dw]
    exact ⟨rfl, rfl, Nat.le_refl _⟩
  | succ q ih =>
    intro y N D hy hN hD
    obtain ⟨N, rfl⟩ := pos_fuel (show 0 < N by omega)
    have hlt : y < w.length := by omega
    obtain ⟨i, k, v, f1, f2, f3, f4⟩ := (fo_mem w[y] B).1 (hin _ (List.getElem_mem hlt))
    have hk : k < 100 := by
      have h1 := List.mem_of_getElem? f3
      have h2 := hB.2 v h1
      have h3 := (List.getElem?_eq_some_iff.1 f4).1
      omega
    have hi := hB.1
    have hdk : dk B x y w[y] = ((i - x) + (x - i)) + ((k - y) + (y - k)) := by unfold dk; rw [f1]
    obtain ⟨a1, a2⟩ := abs_i ((i : Int) - x) (by omega) (by omega)
    obtain ⟨b1, b2⟩ := abs_i ((k : Int) - y) (by omega) (by omega)
    have hsum : w64 ((D : Int) + w64 ((((i : Int) - x).natAbs : Int) + (((k : Int) - y).natAbs : Int))) = ((D + dk B x y w[y] : Nat) : Int) := by
      rw [hdk, w64_id (x := (((i : Int) - x).natAbs : Int) + _) (by omega) (by omega), w64_id (by omega) (by omega)]
      omega
    obtain ⟨g1, g2, g3⟩ := ih (y + 1) N (D + dk B x y w[y]) (by omega) (by omega) (by omega)
    rw [i_DistanceOf_l2, s_DistanceOf_l2, ha', Option.bind_some, decide_eq_true (by omega : (y : Int) < (w.length : Int)), cond_true, cond_true]
    simp only [Option.bind_some]
    rw [idx_lt w y hlt, Option.bind_some, Option.bind_some, show i_Layout_spot N (Layout.mk (Layout.mk B).rows) w[y] = some ((i : Int), (k : Int), true) by rw [show (Layout.mk (Layout.mk B).rows) = Layout.mk B from rfl, ispot B hB.1 hB.2 _ N (by omega), f1]; rfl, show s_l06At N (Layout.mk B).rows w[y] = some ((i : Int), (k : Int)) by rw [show (Layout.mk B).rows = B from rfl, sat B hB.1 hB.2 _ N (by omega), f1]; rfl]
    simp only [Option.bind_some]
    rw [a1, a2]
    simp only [Option.bind_some]
    rw [b1, b2]
    simp only [Option.bind_some]
    rw [hsum, w64_nat y (by omega), g1, g2, List.drop_eq_getElem_cons hlt, dw, Nat.add_assoc]
    exact ⟨rfl, rfl, by omega⟩
theorem di_l1 (A B : List Str) (hA : A.length ≤ 10 ∧ ∀ w ∈ A, w.length ≤ 100) (hB : B.length ≤ 10 ∧ ∀ w ∈ B, w.length ≤ 100) (hin : ∀ c ∈ A.flatten, c ∈ B.flatten) (kj : Int → Option (Int × Int)) : ∀ (q x N D : Nat), x + q = A.length → q + 700 < N → D + 40000 * q ≤ 1000000 →
    i_DistanceOf_l1 kj (Layout.mk A) (Layout.mk B) N (D : Int) (x : Int) = kj ((D + dz B (A.drop x) x : Nat) : Int) ∧ s_DistanceOf_l1 kj (Layout.mk A) (Layout.mk B) N (D : Int) (x : Int) = kj ((D + dz B (A.drop x) x : Nat) : Int) := by
  intro q
  induction q with
  | zero =>
    intro x N D hx hN hD
    obtain ⟨N, rfl⟩ := pos_fuel (show 0 < N by omega)
    rw [i_DistanceOf_l1, s_DistanceOf_l1, decide_eq_false (by show ¬ (x : Int) < (A.length : Int); omega), cond_false, cond_false, List.drop_eq_nil_of_le (show A.length ≤ x by omega), dz]
    exact ⟨rfl, rfl⟩
  | succ q ih =>
    intro x N D hx hN hD
    obtain ⟨N, rfl⟩ := pos_fuel (show 0 < N by omega)
    have hlt : x < A.length := by omega
    have hm := List.getElem_mem hlt
    have hwl := hA.2 _ hm
    have e1 : idx (Layout.mk A).rows (x : Int) = some A[x] := idx_lt A x hlt
    have hA1 := hA.1
    have l2 := fun kj => di_l2 A B hB x (by omega) A[x] (idx_lt A x hlt) hwl (fun c hc => hin c (List.mem_flatten.2 ⟨_, hm, hc⟩)) kj A[x].length 0 N D (by omega) (by omega) (by omega)
    simp only [List.drop_zero] at l2
    rw [show ((0 : Nat) : Int) = 0 from rfl] at l2
    have hle := (l2 kj).2.2
    obtain ⟨g1, g2⟩ := ih (x + 1) N (D + dw B x A[x] 0) (by omega) (by omega) (by omega)
    rw [i_DistanceOf_l1, s_DistanceOf_l1, decide_eq_true (by show (x : Int) < (A.length : Int); omega), cond_true, cond_true]
    simp only [withK_n]
    rw [e1, Option.bind_some, (l2 _).1, (l2 _).2.1, w64_nat x (by omega), g1, g2, List.drop_eq_getElem_cons hlt, dz, Nat.add_assoc]
    exact ⟨rfl, rfl⟩
theorem fo_self (P S : List Str) (p v : Str) (c : UInt8) (hn : (P ++ (p ++ c :: v) :: S).flatten.Nodup) : fo c (P ++ (p ++ c :: v) :: S) 0 = some (P.length, p.length) := by
  obtain ⟨i, k, f1, f2⟩ := fo_at c P S p v
  rw [List.flatten_append, List.flatten_cons, List.nodup_append] at hn
  have h1 : c ∉ P.flatten := fun g => hn.2.2 c g c (by simp) rfl
  have h2 : c ∉ p := fun g => by
    have := hn.2.1
    rw [List.append_assoc, List.nodup_append] at this
    exact this.2.2 c g c (by simp) rfl
  have := f2.2 ⟨h1, h2⟩
  rw [f1, this.1, this.2]
theorem dw_zero (P S : List Str) (w : Str) (hn : (P ++ w :: S).flatten.Nodup) : ∀ (v u p : Str), w = p ++ v → u.length = v.length → (∀ c ∈ u, c ∈ (P ++ w :: S).flatten) → (dw (P ++ w :: S) P.length u p.length = 0 ↔ u = v)
  | [], [], p, _, _, _ => ⟨fun _ => rfl, fun _ => rfl⟩
  | [], _ :: _, _, _, h, _ => by cases h
  | _ :: _, [], _, _, h, _ => by cases h
  | c :: v, d :: u, p, hw, h, hin => by
    have hn' := hn
    rw [hw] at hn'
    have hs := fo_self P S p v c hn'
    rw [← hw] at hs
    have ih := dw_zero P S w hn v u (p ++ [c]) (by rw [hw, List.append_assoc]; rfl) (by simpa using h) (fun x hx => hin x (List.mem_cons_of_mem _ hx))
    rw [List.length_append, List.length_singleton] at ih
    rw [dw, Nat.add_eq_zero_iff, ih]
    obtain ⟨i, k, z, f1, _, f3, f4⟩ := (fo_mem d (P ++ w :: S)).1 (hin d List.mem_cons_self)
    have hd : dk (P ++ w :: S) P.length p.length d = 0 ↔ d = c := by
      unfold dk
      rw [f1]
      show ((i - P.length) + (P.length - i)) + ((k - p.length) + (p.length - k)) = 0 ↔ _
      constructor
      · intro g
        have gi : i = P.length := by omega
        have gk : k = p.length := by omega
        subst gi gk
        rw [List.getElem?_append_right (Nat.le_refl _), Nat.sub_self] at f3
        have : z = w := by simpa using f3.symm
        rw [this, hw, List.getElem?_append_right (Nat.le_refl _), Nat.sub_self] at f4
        simpa using f4.symm
      · intro g
        subst g
        rw [hs] at f1
        injection f1 with f1
        injection f1 with g1 g2
        omega
    rw [hd, List.cons.injEq]
theorem dz_zero (B : List Str) (hn : B.flatten.Nodup) : ∀ (S R P : List Str), B = P ++ S → R.map List.length = S.map List.length → (∀ c ∈ R.flatten, c ∈ B.flatten) → (dz B R P.length = 0 ↔ R = S)
  | [], [], P, _, _, _ => ⟨fun _ => rfl, fun _ => rfl⟩
  | [], _ :: _, _, _, h, _ => by cases h
  | _ :: _, [], _, _, h, _ => by cases h
  | w :: S, x :: R, P, hb, h, hin => by
    rw [List.map_cons, List.map_cons] at h
    injection h with h1 h2
    have ih := dz_zero B hn S R (P ++ [w]) (by rw [hb, List.append_assoc]; rfl) h2 (fun c hc => hin c (by rw [List.flatten_cons]; exact List.mem_append_right _ hc))
    rw [List.length_append, List.length_singleton] at ih
    have := dw_zero P S w (hb ▸ hn) w x [] rfl h1 (fun c hc => hb ▸ hin c (by rw [List.flatten_cons]; exact List.mem_append_left _ hc))
    rw [← hb] at this
    rw [dz, Nat.add_eq_zero_iff, ih, List.cons.injEq, ← this]
    rfl
theorem dist_ok (A B : List Str) (h : Sm A B) (N : Nat) (hN : 3000 < N) : ∃ D : Nat, (D = 0 ↔ A = B) ∧ i_DistanceOf_l1 (fun (sum12 : Int) => some (sum12, (0 : Int))) (Layout.mk A) (Layout.mk B) N 0 0 = some ((D : Int), 0) ∧ s_DistanceOf_l1 (fun (sum12 : Int) => some (sum12, (0 : Int))) (Layout.mk A) (Layout.mk B) N 0 0 = some ((D : Int), 0) := by
  obtain ⟨hA, hB, hl, hin⟩ := h
  have h4 := hA.1.2
  have := di_l1 A B (V_b hA) (V_b hB) hin (fun (sum12 : Int) => some (sum12, (0 : Int))) A.length 0 N 0 (by omega) (by omega) (by omega)
  rw [show ((0 : Nat) : Int) = 0 from rfl, List.drop_zero, Nat.zero_add] at this
  exact ⟨dz B A 0, dz_zero B hB.2.2 B A [] rfl hl hin, this.1, this.2⟩
end Go.Proofs.Ytllaacpkpofbiaa
