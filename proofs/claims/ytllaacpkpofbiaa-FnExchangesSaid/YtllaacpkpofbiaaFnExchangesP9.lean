/-
  Plain lemmas on these functions. No conditions but those that each states.
-/
import Derived.Test.YtllaacpkpofbiaaFnExchangesP8
namespace Go.Proofs.Ytllaacpkpofbiaa
set_option linter.unusedVariables false
set_option linter.unusedSimpArgs false
/-! The two loops that print the plan. -/
theorem chg_len (a b : UInt8) (rows : List Str) : (chg a b rows).map List.length = rows.map List.length := by
  unfold chg
  rw [List.map_map]
  exact List.map_congr_left fun w _ => by show (w.map _).length = _; rw [List.length_map]
theorem sw_keep {a b : UInt8} {p : Str} (ha : a ∉ p) (hb : b ∉ p) : p.map (sw1 a b) = p := by
  conv => rhs; rw [← List.map_id p]
  refine List.map_congr_left fun c hc => ?_
  unfold sw1
  rw [if_neg fun (e : c = a) => ha (e ▸ hc), if_neg fun (e : c = b) => hb (e ▸ hc)]; rfl
theorem chg_keep {a b : UInt8} : ∀ {P : List Str}, a ∉ P.flatten → b ∉ P.flatten → chg a b P = P
  | [], _, _ => rfl
  | w :: P, ha, hb => by
    rw [List.flatten_cons, List.mem_append, not_or] at ha hb
    show w.map _ :: chg a b P = _
    rw [sw_keep ha.1 hb.1, chg_keep ha.2 hb.2]
theorem shape_b {A B : List Str} (h : A.map List.length = B.map List.length) (hB : B.length ≤ 10 ∧ ∀ w ∈ B, w.length ≤ 100) : A.length ≤ 10 ∧ ∀ w ∈ A, w.length ≤ 100 := by
  refine ⟨?_, fun w hw => ?_⟩
  · have := congrArg List.length h
    rw [List.length_map, List.length_map] at this
    omega
  · have : w.length ∈ B.map List.length := h ▸ List.mem_map.2 ⟨w, hw, rfl⟩
    obtain ⟨v, hv, e⟩ := List.mem_map.1 this
    rw [← e]; exact hB.2 v hv
theorem idx_mid {α : Type} (P : List α) (w : α) (S : List α) : idx (P ++ w :: S) (P.length : Int) = some w := by
  rw [idx_nat, List.getElem?_append_right (Nat.le_refl _), Nat.sub_self]; rfl
theorem pl_l2 (P S : List Str) (w : Str) (hB : (P ++ w :: S).length ≤ 10 ∧ ∀ x ∈ P ++ w :: S, x.length ≤ 100) (hn : (P ++ w :: S).flatten.Nodup) (ki ks : List Str → List Str → Option (List Str)) :
    ∀ (v p u : Str) (R acc : List Str) (N : Nat), w = p ++ v → u.length = v.length → R.map List.length = S.map List.length → (P ++ (p ++ u) :: R).flatten.Nodup → v.length + 400 < N → acc.length + v.length ≤ 2000 →
    ∃ R' acc', R'.map List.length = S.map List.length ∧ (P ++ w :: R').flatten.Nodup ∧ acc'.length ≤ acc.length + v.length ∧ acc ++ fp (u ++ R.flatten) (v ++ S.flatten) = acc' ++ fp R'.flatten S.flatten ∧
      i_exchangePlan_l2 ki (Layout.mk (P ++ w :: S)) (P.length : Int) w N (P ++ (p ++ u) :: R) acc (p.length : Int) = ki (P ++ w :: R') acc' ∧
      s_l06Plan_l2 ks (Layout.mk (P ++ w :: S)) (P.length : Int) N (P ++ (p ++ u) :: R) acc (p.length : Int) = ks (P ++ w :: R') acc'
  | [], p, u, R, acc, N, hw, hu, hR, hc, hN, ha => by
    obtain ⟨N, rfl⟩ := pos_fuel (show 0 < N by omega)
    have hu0 : u = [] := List.eq_nil_of_length_eq_zero hu
    have hix : idx (Layout.mk (P ++ w :: S)).rows (P.length : Int) = some w := idx_mid P w S
    subst hu0
    rw [List.append_nil] at hw hc
    subst hw
    refine ⟨R, acc, hR, hc, Nat.le_refl _, rfl, ?_, ?_⟩
    · rw [i_exchangePlan_l2, decide_eq_false (by omega : ¬ (w.length : Int) < (w.length : Int)), cond_false, List.append_nil]
    · rw [s_l06Plan_l2, hix, Option.bind_some, decide_eq_false (by omega : ¬ (w.length : Int) < (w.length : Int)), cond_false, List.append_nil]
  | c :: v, p, [], R, acc, N, hw, hu, hR, hc, hN, ha => by cases hu
  | c :: v, p, d :: u, R, acc, N, hw, hu, hR, hc, hN, ha => by
    obtain ⟨N, rfl⟩ := pos_fuel (show 0 < N by omega)
    have hix : idx (Layout.mk (P ++ w :: S)).rows (P.length : Int) = some w := idx_mid P w S
    have hiw : idx w (p.length : Int) = some c := by rw [hw]; exact idx_mid p c v
    have hic : idx (P ++ (p ++ d :: u) :: R) (P.length : Int) = some (p ++ d :: u) := idx_mid P _ R
    have hid : idx (p ++ d :: u) (p.length : Int) = some d := idx_mid p d u
    have hwl : w.length = p.length + (v.length + 1) := by rw [hw, List.length_append, List.length_cons]
    have hw1 := hB.2 w (List.mem_append_right _ List.mem_cons_self)
    have hp1 : (p ++ [c]).length = p.length + 1 := by rw [List.length_append]; rfl
    have hul : u.length = v.length := by simpa using hu
    rw [List.length_cons] at hN ha
    rw [i_exchangePlan_l2, s_l06Plan_l2, hix, Option.bind_some, decide_eq_true (by omega : (p.length : Int) < (w.length : Int)), cond_true, cond_true]
    simp only [withK_n]
    rw [hic]
    simp only [Option.bind_some]
    rw [hid]
    simp only [Option.bind_some]
    rw [hiw]
    simp only [Option.bind_some]
    rw [w64_nat p.length (by omega), List.cons_append, List.cons_append, fp_cons]
    by_cases e : d = c
    · have e1 : (d != c) = false := by rw [e]; simp
      rw [e1, cond_false, cond_false, if_pos e]
      have := pl_l2 P S w hB hn ki ks v (p ++ [c]) u R acc N (by rw [hw, List.append_assoc]; rfl) hul hR (by rw [List.append_assoc]; rw [e] at hc; exact hc) (by omega) (by omega)
      rw [hp1, show p ++ [c] ++ u = p ++ d :: u by rw [e, List.append_assoc]; rfl] at this
      obtain ⟨R', acc', a1, a2, a3, a4, a5, a6⟩ := this
      exact ⟨R', acc', a1, a2, by rw [List.length_cons]; omega, a4, a5, a6⟩
    · have e1 : (d != c) = true := bne_iff_ne.2 e
      rw [e1, cond_true, cond_true, if_neg e]
      have hshape : (P ++ (p ++ d :: u) :: R).map List.length = (P ++ w :: S).map List.length := by
        rw [List.map_append, List.map_append, List.map_cons, List.map_cons, hR, hwl, List.length_append, List.length_cons, hul]
      have hcb := shape_b hshape hB
      obtain ⟨x1, x2⟩ := change_ok d c _ hcb.1 hcb.2 N (by omega)
      have hdp : d ∉ P.flatten ∧ d ∉ p := by
        rw [List.flatten_append, List.flatten_cons, List.nodup_append] at hc
        refine ⟨fun g => hc.2.2 d g d (by simp) rfl, fun g => ?_⟩
        have := hc.2.1
        rw [List.append_assoc, List.nodup_append] at this
        exact this.2.2 d g d (by simp) rfl
      have hcp : c ∉ P.flatten ∧ c ∉ p := by
        rw [hw, List.flatten_append, List.flatten_cons, List.nodup_append] at hn
        refine ⟨fun g => hn.2.2 c g c (by simp) rfl, fun g => ?_⟩
        have := hn.2.1
        rw [List.append_assoc, List.nodup_append] at this
        exact this.2.2 c g c (by simp) rfl
      have hsd : sw1 d c d = c := by unfold sw1; rw [if_pos rfl]
      have hch : chg d c (P ++ (p ++ d :: u) :: R) = P ++ (p ++ c :: u.map (sw1 d c)) :: chg d c R := by
        show (P ++ (p ++ d :: u) :: R).map _ = _
        rw [List.map_append, List.map_cons, List.map_append, List.map_cons, hsd, sw_keep hdp.2 hcp.2]
        show chg d c P ++ _ = _
        rw [chg_keep hdp.1 hcp.1]
        rfl
      have := pl_l2 P S w hB hn ki ks v (p ++ [c]) (u.map (sw1 d c)) (chg d c R) (acc ++ [[d, c]]) N (by rw [hw, List.append_assoc]; rfl) (by rw [List.length_map, hul]) ((chg_len d c R).trans hR) (by
        rw [List.append_assoc, List.singleton_append, ← hch]
        show ((P ++ (p ++ d :: u) :: R).map fun w => w.map (sw1 d c)).flatten.Nodup
        rw [flat_map]
        exact nodup_sw hc d c) (by omega) (by rw [List.length_append, List.length_singleton]; omega)
      rw [hp1, List.append_assoc p, List.singleton_append, ← hch] at this
      obtain ⟨R', acc', a1, a2, a3, a4, a5, a6⟩ := this
      have ap : app acc [[d, c]] = some (acc ++ [[d, c]]) := app_some _ _ (by unfold LIM; rw [List.length_singleton]; omega)
      rw [x1, x2, ap]
      simp only [Option.bind_some]
      refine ⟨R', acc', a1, a2, by rw [List.length_append, List.length_singleton] at a3; rw [List.length_cons]; omega, ?_, a5, a6⟩
      rw [← a4, List.append_assoc, List.singleton_append, List.map_append]
      show _ = acc ++ [d, c] :: fp (_ ++ ((R.map fun w => w.map (sw1 d c)).flatten)) _
      rw [flat_map]
theorem pl_l1 (B : List Str) (hB : B.length ≤ 10 ∧ ∀ x ∈ B, x.length ≤ 100) (hn : B.flatten.Nodup) : ∀ (S P R acc : List Str) (N : Nat), B = P ++ S → R.map List.length = S.map List.length → (P ++ R).flatten.Nodup → S.length + 600 < N → acc.length + 101 * S.length ≤ 2000 →
    i_exchangePlan_l1 (fun l => some l) (Layout.mk B) N (P ++ R) acc (P.length : Int) = some (acc ++ fp R.flatten S.flatten) ∧ s_l06Plan_l1 (fun l => some l) (Layout.mk B) N (P ++ R) acc (P.length : Int) = some (acc ++ fp R.flatten S.flatten)
  | [], P, R, acc, N, hb, hR, hc, hN, ha => by
    obtain ⟨N, rfl⟩ := pos_fuel (show 0 < N by omega)
    rw [List.append_nil] at hb
    subst hb
    rw [i_exchangePlan_l1, s_l06Plan_l1, decide_eq_false (by show ¬ (B.length : Int) < (B.length : Int); omega), cond_false, cond_false, List.flatten_nil, fp_nil, List.append_nil]
    exact ⟨rfl, rfl⟩
  | w :: S, P, [], acc, N, hb, hR, hc, hN, ha => by cases hR
  | w :: S, P, x :: R, acc, N, hb, hR, hc, hN, ha => by
    obtain ⟨N, rfl⟩ := pos_fuel (show 0 < N by omega)
    rw [List.map_cons, List.map_cons] at hR
    injection hR with hR1 hR2
    have hw1 : w.length ≤ 100 := hB.2 w (hb ▸ List.mem_append_right _ List.mem_cons_self)
    rw [List.length_cons] at hN ha
    have hlt : P.length < B.length := by rw [hb, List.length_append, List.length_cons]; omega
    have hix : idx (Layout.mk B).rows (P.length : Int) = some w := by rw [hb]; exact idx_mid P w S
    rw [i_exchangePlan_l1, s_l06Plan_l1, decide_eq_true (by show (P.length : Int) < (B.length : Int); omega), cond_true, cond_true]
    simp only [withK_n]
    rw [hix, Option.bind_some, w64_nat P.length (by omega)]
    have l2 := fun ki ks => pl_l2 P S w (hb ▸ hB) (hb ▸ hn) ki ks w [] x R acc N rfl hR1 hR2 hc (by omega) (by omega)
    rw [← hb, List.length_nil, List.nil_append, show ((0 : Nat) : Int) = 0 from rfl] at l2
    obtain ⟨R', acc', a1, a2, a3, a4, a5, a6⟩ := l2 (fun l20 l22 => i_exchangePlan_l1 (fun l => some l) (Layout.mk B) N l20 l22 ((P.length + 1 : Nat) : Int)) (fun l29 l31 => s_l06Plan_l1 (fun l => some l) (Layout.mk B) N l29 l31 ((P.length + 1 : Nat) : Int))
    have := pl_l1 B hB hn S (P ++ [w]) R' acc' N (by rw [hb, List.append_assoc]; rfl) a1 (by rw [List.append_assoc]; exact a2) (by omega) (by omega)
    rw [List.length_append, List.length_singleton, List.append_assoc, List.singleton_append] at this
    rw [List.flatten_cons, List.flatten_cons, a4]
    exact ⟨a5.trans this.1, a6.trans this.2⟩
theorem plan_ok (A B : List Str) (h : Sm A B) (N : Nat) (hN : 3000 < N) : i_exchangePlan N (Layout.mk A) (Layout.mk B) = some (fp A.flatten B.flatten) ∧ s_l06Plan N (Layout.mk A) (Layout.mk B) = some (fp A.flatten B.flatten) := by
  obtain ⟨hA, hB, hl, _⟩ := h
  have hb := V_b hB
  have hb4 := hB.1.2
  have := pl_l1 B hb hB.2.2 B [] A [] N rfl hl hA.2.2 (by omega) (by rw [List.length_nil]; omega)
  rw [List.length_nil, List.nil_append, List.nil_append, show ((0 : Nat) : Int) = 0 from rfl] at this
  unfold i_exchangePlan s_l06Plan
  have ap : app [] (Layout.mk A).rows = some A := by rw [app_some _ _ (by have := (V_b hA).1; unfold LIM; show 0 + A.length ≤ _; omega)]; rfl
  rw [ap, Option.bind_some]
  simp only [withK_n]
  exact this
end Go.Proofs.Ytllaacpkpofbiaa
