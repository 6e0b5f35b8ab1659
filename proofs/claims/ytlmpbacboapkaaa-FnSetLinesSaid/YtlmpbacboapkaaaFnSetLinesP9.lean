/-
  Plain lemmas on these functions. No conditions but those that each states.
-/
import Derived.Test.YtlmpbacboapkaaaFnSetLinesP8
namespace Go.Proofs.Ytlmpbacboapkaaa
set_option linter.unusedVariables false
set_option linter.unusedSimpArgs false
/-! The law. -/
theorem lw_l1 (ws : List Str) (W : Int) (hl : ws.length ≤ 100) (kj : Option Bool) : ∀ (q x N : Nat), x + q = ws.length → q < N → w_FnSetLines_l1 kj (ws, W) (ws, 0) N (x : Int) = kj := by
  intro q
  induction q with
  | zero =>
    intro x N hx hN
    obtain ⟨N, rfl⟩ := pos_fuel hN
    rw [w_FnSetLines_l1, decide_eq_false (by omega : ¬ (x : Int) < (ws.length : Int)), cond_false]
  | succ q ih =>
    intro x N hx hN
    obtain ⟨N, rfl⟩ := pos_fuel hN
    have hlt : x < ws.length := by omega
    have hne : (ws[x] != ws[x]) = false := by simp
    rw [w_FnSetLines_l1, decide_eq_true (by omega : (x : Int) < (ws.length : Int)), cond_true, idx_lt ws x hlt, Option.bind_some, Option.bind_some, hne, cond_false, w64_nat x (by omega)]
    exact ih (x + 1) N (by omega) (by omega)
theorem lw_l2 (ws : List Str) (W : Nat) (h1 : 1 ≤ W) (h2 : W ≤ 80) (R : List (List Str)) (hR : R.length ≤ 40) (hs : ∀ l ∈ R, SG W l) (htw : ∀ l ∈ R, TW l ∧ ∀ x ∈ l, (x.length : Int) ≤ (W : Int)) (kj : Option Bool) : ∀ (q x N : Nat), x + 1 + q = R.length ∨ (q = 0 ∧ R.length ≤ x + 1) → q + 2000 < N → x ≤ 100 → w_FnSetLines_l2 kj (ws, (W : Int)) (outs W R, 0) N (x : Int) = kj := by
  have hol := outs_len W R
  obtain ⟨o1, _⟩ := outs_ok W h2 R hs
  intro q
  induction q with
  | zero =>
    intro x N hx hN h100
    obtain ⟨N, rfl⟩ := pos_fuel (show 0 < N by omega)
    rw [w_FnSetLines_l2, w64_nat x (by omega), decide_eq_false (by show ¬ ((x + 1 : Nat) : Int) < ((outs W R).length : Int); omega), cond_false]
  | succ q ih =>
    intro x N hx hN h100
    obtain ⟨N, rfl⟩ := pos_fuel (show 0 < N by omega)
    have hx1 : x + 1 < R.length := by omega
    have hlt : x < (outs W R).length := by omega
    have hm : R[x] ∈ R := List.getElem_mem (show x < R.length by omega)
    have hg := outs_get W R x hx1
    obtain ⟨e1, e2, e3, e4, e5⟩ := set_ok W R[x] (hs _ hm)
    obtain ⟨t1, t2⟩ := htw _ hm
    have hix : idx (outs W R) (x : Int) = some (setL W R[x]) := by rw [idx_lt _ x hlt, hg]
    have hsub : sub (outs W R) (x : Int) ((x + 1 : Nat) : Int) = some [setL W R[x]] := by
      rw [sub_some _ _ _ (by omega) (by omega) (by omega), Int.toNat_natCast, Int.toNat_natCast, List.drop_eq_getElem_cons hlt, show x + 1 - x = 1 by omega, hg]
      rfl
    have hw : i_WordsOfLines N [setL W R[x]] = some (R[x], 0) := by
      rw [words_of _ (by simp) (fun s hs' => by rw [List.mem_singleton.1 hs']; exact ⟨by omega, e2⟩) N (by omega)]
      simp [e3]
    obtain ⟨s1, s2, s3⟩ := hs _ hm
    have hwk := WK_tl R[x] s2
    have hpos : 0 < R[x].length := List.length_pos_iff.2 s1
    have hsl : i_SetLine N R[x] (W : Int) = some (setL W R[x], 0) := by
      have e0 : ((R[x].length : Int) == 0) = false := by rw [beq_eq_false_iff_ne]; omega
      unfold i_SetLine
      rw [vt_ok t1 (W : Int) (by omega) (by omega) t2 N (by omega), Option.bind_some, Bool.not_true, cond_false, (ll_ok R[x] (by omega) (by omega) N (by omega)).1, Option.bind_some, imax_id (by omega), decide_eq_false (by omega), cond_false, e0, cond_false, setLine_ok W h2 _ (hs _ hm) N (by omega), Option.bind_some]
    have z0 : ((0 : Int) != 0) = false := rfl
    have z1 : (((setL W R[x]).length : Int) != (W : Int)) = false := by rw [e1]; simp
    have z2 : (setL W R[x] != setL W R[x]) = false := by simp
    rw [w_FnSetLines_l2, w64_nat x (by omega), decide_eq_true (by show ((x + 1 : Nat) : Int) < ((outs W R).length : Int); omega), cond_true]
    dsimp only
    rw [hsub, Option.bind_some, hw, Option.bind_some]
    dsimp only
    rw [hsl, Option.bind_some, hix]
    dsimp only
    simp only [Option.bind_some, z0, z1, z2, orO_false, even_ok _ (by omega) e4 e5 N (by omega), Bool.not_true, cond_false]
    exact ih (x + 1) N (by omega) (by omega) (by omega)
theorem law_FnSetLines (code more : List UInt8) (_ : wfL wfByte code) (_ : wfL wfByte more) : ∃ N, w_FnSetLines N code more = some true := by
  refine ⟨20000, ?_⟩
  obtain ⟨N, hN⟩ : ∃ N, N = 20000 := ⟨_, rfl⟩
  rw [← hN]
  unfold w_FnSetLines
  have hw : ∃ q, w_a2Long code more = some q := by
    unfold w_a2Long
    simp only [orO_some, Option.bind_some]
    exact ⟨_, rfl⟩
  obtain ⟨q, hq⟩ := hw
  rw [hq, Option.bind_some]
  cases q
  case true => rfl
  rw [cond_false]
  obtain ⟨ws, Wi, e1, h, w1, w2, hf⟩ := words_ok code N (by omega)
  obtain ⟨W, rfl⟩ := Int.eq_ofNat_of_zero_le (show 0 ≤ Wi by omega)
  have hl := h.1
  rw [e1, Option.bind_some]
  dsimp only
  have z0 : ((0 : Int) != 0) = false := rfl
  by_cases hne : ws = []
  · subst hne
    have a1 : s_A2Breaks N more [] (W : Int) = some [] := by
      have hsf := sfirst_ok h (W : Int) N (by omega)
      rw [show toI (FB [] (W : Int)) = [] from rfl] at hsf
      obtain ⟨M, rfl⟩ : ∃ M, N = M + 1 := ⟨N - 1, by omega⟩
      unfold s_A2Breaks
      rw [fromA, Option.bind_some, hsf, Option.bind_some, withK_n, s_A2Breaks_l1]
      rfl
    have a2 : i_SetText N [] (W : Int) [] = some ([], 0) := by
      obtain ⟨M, rfl⟩ : ∃ M, N = M + 1 := ⟨N - 1, by omega⟩
      unfold i_SetText i_linesCode i_areBreaks
      have hlb : i_linesBy (M + 1) [] [] = some [] := rfl
      rw [vt_ok h (W : Int) (by omega) (by omega) hf (M + 1) (by omega), Option.bind_some, Bool.not_true, cond_false, withK_n, i_areBreaks_l1]
      have e : decide ((0 : Int) < (([] : List Int).length : Int)) = false := rfl
      rw [e, cond_false, Option.bind_some, Bool.not_true, cond_false, withK_n, hlb, Option.bind_some, i_linesCode_l1]
      have e2 : decide ((0 : Int) < (([] : List (List Str)).length : Int)) = false := rfl
      rw [e2, cond_false, Option.bind_some, z0, cond_false, Option.bind_some, withK_n, i_SetText_l1]
      rfl
    have a3 := words_of [] (by simp) (fun s hs => by cases hs) N (by omega)
    rw [a1, Option.bind_some, a2, Option.bind_some]
    dsimp only
    rw [a3, Option.bind_some]
    have hl1 := lw_l1 [] (W : Int) (by simp) (w_FnSetLines_l2 (some true) ([], (W : Int)) ([], 0) N 0) 0 0 N rfl (by omega)
    have hl2 : w_FnSetLines_l2 (some true) ([], (W : Int)) ([], 0) N 0 = some true := by
      obtain ⟨M, rfl⟩ : ∃ M, N = M + 1 := ⟨N - 1, by omega⟩
      rw [w_FnSetLines_l2]
      rfl
    rw [show ((0 : Nat) : Int) = 0 from rfl, hl2] at hl1
    simp only [withK_n, List.flatMap_nil, List.length_nil, bne_self_eq_false, orO_false, Option.bind_some]
    rw [show decide (((0 : Nat) : Int) > 0) = false from rfl, andO_false, Option.bind_some, Option.bind_some, cond_false, hl2]
    exact hl1
  · have hpos : 0 < ws.length := List.length_pos_iff.2 hne
    obtain ⟨bs, e2, hp⟩ := breaks_ok h (W : Int) hpos hf more N (by omega)
    obtain ⟨s1, s2, s3⟩ := lb_sg h W bs hp
    have hlen := hp.len
    obtain ⟨o1, o2⟩ := outs_ok W (by omega) (lb ws bs) s1
    have hol := outs_len W (lb ws bs)
    have htx := setText_ok h W (by omega) (by omega) hf bs hp N (by omega)
    have hwo := words_of (outs W (lb ws bs)) (by omega) o1 N (by omega)
    rw [o2, s3] at hwo
    have htw : ∀ l ∈ lb ws bs, TW l ∧ ∀ x ∈ l, (x.length : Int) ≤ (W : Int) := fun l hl' => by
      have hsub : ∀ x ∈ l, x ∈ ws := fun x hx => by rw [← s3]; exact List.mem_flatten.2 ⟨l, hl', hx⟩
      have hsg := s1 l hl'
      have := WK_tl l hsg.2.1
      have := hsg.2.2
      exact ⟨⟨by omega, fun x hx => h.2 x (hsub x hx)⟩, fun x hx => hf x (hsub x hx)⟩
    have hl2 := lw_l2 ws W (by omega) (by omega) (lb ws bs) (by omega) s1 htw (some true) bs.length 0 N (by omega) (by omega) (by omega)
    rw [show ((0 : Nat) : Int) = 0 from rfl] at hl2
    have hl1 := lw_l1 ws (W : Int) (by omega) (some true) ws.length 0 N (by omega) (by omega)
    rw [show ((0 : Nat) : Int) = 0 from rfl] at hl1
    rw [e2, Option.bind_some, htx, Option.bind_some]
    dsimp only
    rw [hwo, Option.bind_some]
    dsimp only
    have z1 : ((ws.length : Int) != (ws.length : Int)) = false := by simp
    have ht2 : (toI bs).length = bs.length := by simp [toI]
    have z2 : (((outs W (lb ws bs)).length : Int) != w64 (((toI bs).length : Int) + 1)) = false := by
      rw [hol, s2, ht2, w64_nat _ (by omega)]; simp
    rw [z0, z1, z2]
    simp only [orO_false, Option.bind_some, andO_some, Bool.and_false, cond_false, withK_n]
    rw [hl2]
    exact hl1
end Go.Proofs.Ytlmpbacboapkaaa
