/-
  Plain lemmas on these functions. No conditions but those that each states.
-/
import Derived.Test.YthmocnbnlpdggaaFnSeenLettersP11
namespace Go.Proofs.Ythmocnbnlpdggaa
set_option linter.unusedVariables false
set_option linter.unusedSimpArgs false
theorem Se_l1 (p : Str × Str) (hlen : p.1.length = p.2.length) (hl : p.1.length ≤ 60) : ∀ (n i N m : Nat), i + n = p.1.length → n < N → m ≤ i → ∀ K, w_FnSeenLetters_l1 K p N (m : Int) (i : Int) = K ((m + (wrl p.1 p.2 i (60 - i)).length : Nat) : Int) := by
  intro n
  induction n with
  | zero =>
    intro i N m h1 h3 hm K
    obtain ⟨N, rfl⟩ := pos_fuel h3
    have hi : ¬ ((i : Int) < (p.1.length : Int)) := by omega
    have e : (wrl p.1 p.2 i (60 - i)).length = 0 := by
      rw [wrl_len]
      exact dc_out _ _ _ _ (fun j h1 h2 => ⟨ch_out _ _ (by omega), ch_out _ _ (by omega)⟩)
    simp [w_FnSeenLetters_l1, hi, e]
  | succ n ih =>
    intro i N m h1 h3 hm K
    obtain ⟨N, rfl⟩ := pos_fuel h3
    have hi : (i : Int) < (p.1.length : Int) := by omega
    have hn : i < p.1.length := by omega
    have hn2 : i < p.2.length := by omega
    have c1 : ch p.1 i = p.1[i] := by
      unfold ch; rw [if_pos ⟨by omega, by omega⟩, Int.toNat_natCast, List.getD_eq_getElem?_getD, List.getElem?_eq_getElem hn]; rfl
    have c2 : ch p.2 i = p.2[i] := by
      unfold ch; rw [if_pos ⟨by omega, by omega⟩, Int.toNat_natCast, List.getD_eq_getElem?_getD, List.getElem?_eq_getElem hn2]; rfl
    have e : (wrl p.1 p.2 i (60 - i)).length = (bif p.1[i] != p.2[i] then 1 else 0) + (wrl p.1 p.2 (i + 1) (60 - (i + 1))).length := by
      rw [show 60 - i = (60 - (i + 1)) + 1 by omega]
      simp only [wrl, List.length_append, c1, c2]
      cases (p.1[i] != p.2[i]) <;> rfl
    simp only [w_FnSeenLetters_l1, hi, decide_true, cond_true, withK_eq, idx_lt p.1 i hn, idx_lt p.2 i hn2, Option.bind_some, w64_nat i (by omega), w64_nat m (by omega)]
    rw [ih (i + 1) N (m + 1) (by omega) (by omega) (by omega) K, ih (i + 1) N m (by omega) (by omega) (by omega) K, e]
    cases (p.1[i] != p.2[i]) with
    | false => simp
    | true => simp; congr 1; omega
theorem law_FnSeenLetters (code : List UInt8) (_ : wfL wfByte code) : ∃ N, w_FnSeenLetters N code = some true := by
  obtain ⟨N, hN⟩ : ∃ N, N = 30000 := ⟨_, rfl⟩
  refine ⟨N, ?_⟩
  unfold w_FnSeenLetters
  have hb : BIG = 1152921504606846976 := rfl
  by_cases hbig : (code.length : Int) > 4096
  · simp [w_f6big, hbig]
  -- the draws
  obtain ⟨a1, s1, l, e1, b1, c1, d1⟩ := OBent_ok code 0 0 N (by omega) (by omega) (by omega)
  obtain ⟨u, a2, s2, e2, b2, c2, d2⟩ := text_mem code a1 s1 [[99], [111], [73], [108], [45], [32], []] (by simp) b1 (by omega)
  obtain ⟨t, a3, s3, e3, b3, c3, d3⟩ := text_mem code a2 s2 [[47], [45], [39], [124], [32], [127]] (by simp) (by omega) (by omega)
  have hu : u.length ≤ 100 := by
    simp only [List.mem_cons, List.not_mem_nil, or_false] at d2
    rcases d2 with rfl | rfl | rfl | rfl | rfl | rfl | rfl <;> decide
  have ht : t.length ≤ 100 := by
    simp only [List.mem_cons, List.not_mem_nil, or_false] at d3
    rcases d3 with rfl | rfl | rfl | rfl | rfl | rfl <;> decide
  have x1 : s_DrawSeenOver N code = some (l, u, t) := by simp only [s_DrawSeenOver, s_l00From, Option.bind_some, e1, e2, e3]
  obtain ⟨w, e4, _, w2, w3⟩ := OTwo_ok code N (by omega)
  have x2 : s_DrawWrongPlaces N code = some w.2 := by simp only [s_DrawWrongPlaces, e4, Option.bind_some]
  obtain ⟨f, x3, f1, f2⟩ := SDraw_ok code N (by omega)
  obtain ⟨P, x4, P1, P2⟩ := WDraw_ok code N (by omega)
  obtain ⟨o1, g1, r1, k1, k2, k3, k4⟩ := text_mem code 0 0 [[99], [111], [32], []] (by simp) (by omega) (by omega)
  obtain ⟨o2, g2, r2, k5, k6, k7, k8⟩ := text_mem code g1 r1 [[47], [45], [45, 45]] (by simp) (by omega) (by omega)
  obtain ⟨o3, g3, r3, k9, k10, k11, k12⟩ := text_mem code g2 r2 [[48], [99], [47]] (by simp) (by omega) (by omega)
  have q1 : o1.length ≤ 100 := by
    simp only [List.mem_cons, List.not_mem_nil, or_false] at k4
    rcases k4 with rfl | rfl | rfl | rfl <;> decide
  have q2 : o2.length ≤ 100 := by
    simp only [List.mem_cons, List.not_mem_nil, or_false] at k8
    rcases k8 with rfl | rfl | rfl <;> decide
  have q3 : o3.length ≤ 100 := by
    simp only [List.mem_cons, List.not_mem_nil, or_false] at k12
    rcases k12 with rfl | rfl | rfl <;> decide
  obtain ⟨X, hX⟩ : ∃ X : Over, X = ⟨o1, o2, o3⟩ := ⟨_, rfl⟩
  have x5 : s_DrawOverText code = some X := by simp only [s_DrawOverText, s_l00From, Option.bind_some, k1, k5, k9, hX]
  obtain ⟨R, x6, R1⟩ := RDraw_ok code
  -- the functions
  obtain ⟨p, p1, p2, p3⟩ := SeenOver_eq N l u t (by omega) hu ht (by omega)
  obtain ⟨q, qq1, qq2, qq3, qq4, qq5⟩ := Wrong_eq N w.2.1 w.2.2 (by omega) (by omega) (by omega)
  obtain ⟨h, h1, h2, h3⟩ := Shift_eq N f.1 f.2.1 f.2.2 (by omega) (by omega) (by omega)
  obtain ⟨v, v1, v2, v3⟩ := Worn_eq N P (by omega) (fun e he => by have := P2 e he; omega) (by omega)
  obtain ⟨z1, z2⟩ := Cat4 N X (by rw [hX]; exact q1) (by rw [hX]; exact q2) (by rw [hX]; exact q3) (by omega)
  obtain ⟨y, y1, y2⟩ := Read_eq N R (by omega) (by omega)
  have fq := f6ints_eq (N := N) q.1 (by unfold LIM; omega) (by omega)
  have fv := f6ints_eq (N := N) v.1 (by unfold LIM; omega) (by omega)
  have hback : ∃ b : Over × Bool, i_ReadOver N (bif one X then X.under ++ [60] ++ X.top ++ [61] ++ X.seen else []) = some b ∧ b.2 = ((bif one X then X.under ++ [60] ++ X.top ++ [61] ++ X.seen else []) != []) ∧ (b.2 && !(Over.beq b.1 X)) = false := by
    cases ho : one X
    · exact ⟨_, Nil_no N, rfl, rfl⟩
    · refine ⟨_, Back_ok N X ho (by omega), ?_, ?_⟩
      · simp
      · rw [beq_self' X]; rfl
  obtain ⟨bk, bk1, bk2, bk3⟩ := hback
  simp only [w_f6big, hbig, decide_false, Option.bind_some, cond_false, x1, x2, x3, x4, x5, x6, p1, p2, qq1, qq2, h1, h2, v1, v2, z1, z2, y1, y2, bk1, bne_self_eq_false, orO_some, orO_false, andO_some, fq, fv, Bool.not_true, Bool.or_false, withK_eq, bk3, beq_self' y.1, Bool.or_self]
  rw [← bk2]
  simp only [bne_self_eq_false, cond_false]
  -- the last part
  have hlast : (bif p.2 == 1 || p.2 == 2 then some true else (i_SeenOver N l u u).bind fun r143 => (i_SeenOver N l [32] t).bind fun r145 => some (r143.2 == 0 && r143.1 == u && r145.2 == 0 && r145.1 == t)) = some true := by
    cases hp : (p.2 == 1 || p.2 == 2)
    · rcases p3 with (g | g) | ⟨hR, hv, hu1, ht1⟩
      · rw [g] at hp; simp at hp
      · rw [g] at hp; simp at hp
      · obtain ⟨cu, rfl, hcu⟩ := one1_iff hu1
        obtain ⟨ct, rfl, hct⟩ := one1_iff ht1
        have n1 : (sn l cu cu != 0) = true := by
          have : sn l cu cu = cu := by unfold sn; simp
          rw [this]; simpa using pr_nz hcu
        have v1 : sn l cu cu = cu := by unfold sn; simp
        have v2 : sn l 32 ct = ct := by
          unfold sn
          by_cases e : ct = 32
          · subst e; rfl
          · have c1 : ((32 : UInt8) == ct) = false := by simpa using Ne.symm e
            have c2 : (ct == 32) = false := by simpa using e
            simp [c1, c2]
        have n2 : (ct != 0) = true := by simpa using pr_nz hct
        have n3 : (cu != 0) = true := by simpa using pr_nz hcu
        rw [SeenOk N l hR hv cu cu hcu hcu (by omega), SeenOk N l hR hv 32 ct (by decide) hct (by omega), v1, v2, n2, n3]
        simp
    · rfl
  rw [hlast]
  have hmid : (bif q.2 == 0 && (w.2.1.length : Int) == (w.2.2.length : Int) then w_FnSeenLetters_l1 (fun count124 => bif count124 != (q.1.length : Int) then some false else some true) w.2 N 0 0 else some true) = some true := by
    cases hc : (q.2 == 0 && (w.2.1.length : Int) == (w.2.2.length : Int))
    · rfl
    · rw [Bool.and_eq_true, beq_iff_eq, beq_iff_eq] at hc
      obtain ⟨ta, tb⟩ := qq4 hc.1
      have la := (okT_iff.1 ta).1
      have := Se_l1 w.2 (by omega) (by omega) w.2.1.length 0 N 0 (by omega) (by omega) (by omega) (fun count124 => bif count124 != (q.1.length : Int) then some false else some true)
      rw [show ((0 : Nat) : Int) = 0 from rfl] at this
      rw [cond_true, this, qq5 ta tb]
      simp
  rw [hmid]
  by_cases hz : h.2.2 = 0
  · obtain ⟨ta, tb, m0, m1, m2, m3, m4⟩ := h3 hz
    obtain ⟨q', q'1, _, _, _, q'5⟩ := Wrong_eq N f.1 f.2.1 (by omega) (by omega) (by omega)
    have hq' := q'5 ta tb
    have e0 : (h.2.2 == 0) = true := by simpa using hz
    have ew : w64 (0 - f.2.2) = -f.2.2 := by rw [w64_id (by omega) (by omega)]; omega
    have n1 : ¬ (h.2.1 > ((wrl f.1 f.2.1 0 60).length : Int)) := by omega
    have n2 : ¬ (h.1 < -f.2.2) := by omega
    have n3 : ¬ (h.1 > f.2.2) := by omega
    simp only [e0, cond_true, q'1, Option.bind_some, hq', bne_self_eq_false, n1, n2, n3, ew, decide_false, Bool.or_self, cond_false]
  · have e0 : (h.2.2 == 0) = false := by simpa using hz
    simp only [e0, cond_false, Bool.or_self]
end Go.Proofs.Ythmocnbnlpdggaa
