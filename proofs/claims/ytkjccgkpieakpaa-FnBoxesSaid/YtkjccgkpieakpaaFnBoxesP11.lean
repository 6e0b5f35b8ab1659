/-
  Plain lemmas on these functions. No conditions but those that each states.
-/
import Derived.Test.YtkjccgkpieakpaaFnBoxesP10
namespace Go.Proofs.Ytkjccgkpieakpaa
set_option linter.unusedVariables false
set_option linter.unusedSimpArgs false
theorem law_FnBoxes (code : List UInt8) (_ : wfL wfByte code) : ∃ N, w_FnBoxes N code = some true := by
  obtain ⟨N, hN⟩ : ∃ N, N = 30000 := ⟨_, rfl⟩
  refine ⟨N, ?_⟩
  unfold w_FnBoxes
  have hb : BIG = 1152921504606846976 := rfl
  by_cases hbig : (code.length : Int) > 4096
  · simp [w_f6big, hbig]
  obtain ⟨d, a1, s1, y1, y2, y3, d1, d2⟩ := Some_ok code 0 0 N (by omega) (by omega) (by omega)
  obtain ⟨wd, a2, s2, z1, _, _⟩ := LWidth_ok code a1 s1 y2 (by omega)
  have x1 : s_DrawBoxLines N code = some d := by simp only [s_DrawBoxLines, s_l00From, Option.bind_some, y1]
  have x2 : s_DrawCentreBlock N code = some (d, wd) := by simp only [s_DrawCentreBlock, s_l00From, Option.bind_some, y1, z1]
  obtain ⟨t, x3, t1, t2⟩ := Tpage_ok code N (by omega)
  obtain ⟨rl, a3, s3, y4, y5, y6, _⟩ := text_mem code 0 0 [[45], [61], [95], [42], [], [32], [45, 45]] (by simp) (by omega) (by omega)
  obtain ⟨rw_, a4, s4, y7, _, _⟩ := LWidth_ok code a3 s3 (by omega) (by omega)
  have x4 : s_DrawRuleLine code = some (rl, rw_) := by simp only [s_DrawRuleLine, s_l00From, Option.bind_some, y4, y7]
  obtain ⟨p, p1, p2, p3, p4⟩ := Box_eq N d (by omega) (fun e he => by have := d2 e he; omega) (by omega)
  obtain ⟨q, q1, q2, q3, q4⟩ := Block_eq N d wd (by omega) (fun e he => by have := d2 e he; omega) (by omega)
  obtain ⟨u, u1, u2, u3, u4⟩ := Title_eq N t.1 t.2.1 t.2.2 (by omega) (fun e he => by have := t2 e he; omega) (by omega)
  obtain ⟨v, v1, v2, v3⟩ := Rule_eq N rl rw_ (by omega)
  have fp := f6texts_eq (N := N) p.1 (by unfold LIM; omega) (by omega)
  have fq := f6texts_eq (N := N) q.1 (by unfold LIM; omega) (by omega)
  have fu := f6texts_eq (N := N) u.1 (by unfold LIM; omega) (by omega)
  have hv : (v.2 == 0 && (v.1.length : Int) != rw_) = false := by
    by_cases h : v.2 = 0
    · have := v3 h; simp [this]
    · have : (v.2 == 0) = false := by simpa using h
      rw [this]; rfl
  simp only [w_f6big, hbig, decide_false, Option.bind_some, cond_false, x1, x2, x3, x4, p1, p2, q1, q2, u1, u2, v1, v2, bne_self_eq_false, orO_some, orO_false, andO_some, fp, fq, fu, Bool.not_true, Bool.or_false, withK_eq, hv]
  -- the box
  have hbox : (bif p.2 != 0 then some true else w_FnBoxes_l3 ((andO ((p.1.length : Int) == w64 ((d.length : Int) + 2)) ((idx p.1 0).bind fun e126 => (idx p.1 (w64 ((p.1.length : Int) - 1))).bind fun e128 => some (e126 == e128))).bind fun t123 => some t123) p N 0) = some true := by
    by_cases h : p.2 = 0
    · obtain ⟨g1, g2⟩ := p4 h
      obtain ⟨g3, g4, g5, g6⟩ := okL_facts g1
      have hlen : p.1.length = d.length + 2 := by rw [g2]; simp
      have hall : ∀ e ∈ p.1, (e.length : Int) = mx 0 d + 4 := by
        intro e he
        rw [g2] at he
        simp only [List.append_assoc, List.cons_append, List.nil_append, List.mem_cons, List.mem_append, List.mem_map, List.not_mem_nil, or_false] at he
        rcases he with rfl | ⟨x, hx, rfl⟩ | rfl
        · exact bxr_len g5
        · exact bxl_len ((mx_ge d 0).2 x hx)
        · exact bxr_len g5
      have e0 : (p.2 != 0) = false := by simpa using h
      rw [e0, cond_false]
      have hx : w_FnBoxes_l3 _ p N 0 = _ := Bx_l3 ((andO ((p.1.length : Int) == w64 ((d.length : Int) + 2)) ((idx p.1 0).bind fun e126 => (idx p.1 (w64 ((p.1.length : Int) - 1))).bind fun e128 => some (e126 == e128))).bind fun t123 => some t123) p (mx 0 d + 4) (by omega) hall p.1.length 0 N (by omega) (by omega)
      rw [hx]
      have e1 : w64 ((d.length : Int) + 2) = d.length + 2 := w64_id (by omega) (by omega)
      have e2 : w64 ((p.1.length : Int) - 1) = ((d.length + 1 : Nat) : Int) := by rw [hlen, w64_id (by omega) (by omega)]; omega
      have e3 : ((p.1.length : Int) == (d.length : Int) + 2) = true := by rw [hlen]; simp
      have i0 : idx p.1 0 = some (bxr (mx 0 d)) := by rw [g2]; rfl
      have i1 : idx p.1 ((d.length + 1 : Nat) : Int) = some (bxr (mx 0 d)) := by
        rw [idx_nat, g2, List.getElem?_append_right (by simp)]
        simp
      simp only [e1, e2, e3, i0, i1, andO_true, Option.bind_some, beq_self_eq_true]
    · have e0 : (p.2 != 0) = true := by simpa using h
      rw [e0]; rfl
  rw [hbox]
  have hblock : (bif q.2 == 0 then w_FnBoxes_l2 (some true) (d, wd) q N 0 else some true) = some true := by
    by_cases h : q.2 = 0
    · obtain ⟨g1, g2, g3, g4, g5⟩ := q4 h
      obtain ⟨g6, g7, g8, g9⟩ := okL_facts g1
      have e0 : (q.2 == 0) = true := by simpa using h
      rw [e0, cond_true]
      exact Bx_l2 (some true) (d, wd) q ((wd - mx 0 d) / 2) (by show d.length ≤ 1000; omega) (by omega) (by omega) (fun e he => by
        have := (mx_ge d 0).2 e he
        show (e.length : Int) + (wd - mx 0 d) / 2 ≤ wd
        omega) (by show wd ≤ 1000; omega) g5 d.length 0 N (by show 0 + d.length = d.length; omega) (by omega)
    · have e0 : (q.2 == 0) = false := by simpa using h
      rw [e0]; rfl
  rw [hblock]
  by_cases h : u.2 = 0
  · obtain ⟨g1, g2, g3, g4, g5, g6⟩ := u4 h
    have e0 : (u.2 == 0) = true := by simpa using h
    have hlen : (u.1.length : Int) = t.2.2 := by rw [g6]; unfold tit; simp; omega
    have e1 : ((u.1.length : Int) != t.2.2) = false := by simp [hlen]
    have hw : ∀ e ∈ u.1, (e.length : Int) ≤ t.2.1 := by
      intro e he
      rw [g6] at he
      unfold tit at he
      simp only [List.mem_append, List.mem_replicate, List.mem_map] at he
      rcases he with (⟨_, rfl⟩ | ⟨x, hx, rfl⟩) | ⟨_, rfl⟩
      · simp; omega
      · have := g5 x hx
        unfold cen; simp; omega
      · simp; omega
    have hc : u.1.countP (fun e => tr e != []) ≤ t.1.length := by
      rw [g6]; unfold tit
      rw [List.countP_append, List.countP_append]
      have z : ∀ k, (List.replicate k ([] : Str)).countP (fun e => tr e != []) = 0 := fun k => by
        rw [List.countP_eq_zero]; intro e he
        rw [List.mem_replicate] at he
        rw [he.2, tr_nil]; simp
      rw [z, z]
      have := List.countP_le_length (p := fun e => tr e != []) (l := t.1.map (fun e => cen e t.2.1))
      simp at this ⊢
      omega
    rw [e0, cond_true, e1, cond_false]
    have hx := Bx_l1 t u (by omega) hw (by omega) u.1.length 0 N 0 (by omega) (by omega) (by omega)
    rw [show ((0 : Nat) : Int) = 0 from rfl] at hx
    rw [hx]
    have : ¬ (((0 + (u.1.drop 0).countP (fun e => tr e != []) : Nat) : Int) > (t.1.length : Int)) := by
      rw [List.drop_zero]; omega
    simp only [this, decide_false, cond_false]
  · have e0 : (u.2 == 0) = false := by simpa using h
    rw [e0]; rfl
end Go.Proofs.Ytkjccgkpieakpaa
