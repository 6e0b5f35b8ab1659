/-
  Plain lemmas on these functions. No conditions but those that each states.
-/
import Derived.Test.YtoojddajhalimaaFnWordStartsP7
namespace Go.Proofs.Ytoojddajhalimaa
set_option linter.unusedVariables false
set_option linter.unusedSimpArgs false
theorem f6texts_l1_eq (a : List Str) (ha : a.length ≤ LIM) : ∀ (n i N : Nat), i + n = a.length → n < N → w_f6texts_l1 (some true) a a N (i : Int) = some true := by
  intro n
  induction n with
  | zero =>
    intro i N h1 h3
    obtain ⟨N, rfl⟩ := pos_fuel h3
    have hi : ¬ ((i : Int) < (a.length : Int)) := by omega
    simp only [w_f6texts_l1, hi, decide_false, cond_false]
  | succ n ih =>
    intro i N h1 h3
    obtain ⟨N, rfl⟩ := pos_fuel h3
    have hi : (i : Int) < (a.length : Int) := by omega
    have hn : i < a.length := by omega
    unfold LIM at ha
    simp only [w_f6texts_l1, hi, decide_true, cond_true, idx_lt a i hn, Option.bind_some, bne_self_eq_false, cond_false, w64_nat i (by omega)]
    exact ih (i + 1) N (by omega) (by omega)
theorem f6texts_eq {N : Nat} (a : List Str) (ha : a.length ≤ LIM) (hN : a.length < N) : w_f6texts N a a = some true := by
  unfold w_f6texts
  simp only [bne_self_eq_false, cond_false, withK_eq]
  exact f6texts_l1_eq a ha a.length 0 N (by omega) hN
theorem shorts_app {l : List Str} {e : Str} (h1 : ∀ e ∈ l, e.length ≤ 120) (h2 : e.length ≤ 120) : ∀ x ∈ l ++ [e], x.length ≤ 120 := fun x hx => by
  rcases List.mem_append.1 hx with hx | hx
  · exact h1 x hx
  · simp at hx; subst hx; exact h2
theorem WDraw_l1 (code : List UInt8) : ∀ (k N : Nat) (s1 : L00Src) (at_ seed B : Int) (l : List Str), s1.code = code → 0 ≤ at_ → at_ + 2 * k ≤ B → B < BIG → l.length + k ≤ 8 → (∀ e ∈ l, e.length ≤ 120) → k + 1100 < N →
    ∃ a sd l', a ≤ B ∧ 0 ≤ a ∧ l'.length ≤ 8 ∧ (∀ e ∈ l', e.length ≤ 120) ∧ ∀ K, s_l16DrawWords_l1 K s1 N at_ seed l (k : Int) = K a sd l' := by
  intro k
  induction k with
  | zero =>
    intro N s1 at_ seed B l hs h0 h1 h2 h3 hl h4
    obtain ⟨N, rfl⟩ := pos_fuel (by omega : 0 < N)
    exact ⟨at_, seed, l, by omega, h0, by omega, hl, fun K => by simp [s_l16DrawWords_l1]⟩
  | succ k ih =>
    intro N s1 at_ seed B l hs h0 h1 h2 h3 hl h4
    obtain ⟨N, rfl⟩ := pos_fuel (by omega : 0 < N)
    subst hs
    have hk : (((k + 1 : Nat) : Int) > 0) := by omega
    have hkk : w64 (((k + 1 : Nat) : Int) - 1) = (k : Int) := by rw [w64_id (by omega) (by omega)]; omega
    obtain ⟨v1, a1, s1', e1, b1, c1, d1⟩ := text_mem s1.code at_ seed [[98, 97, 114], [98, 97, 114, 107], [98, 97, 114, 110], [98, 97, 115, 101], [98, 101, 108, 108], [99, 97, 114, 114, 105, 97, 103, 101], [99, 97, 114, 98, 111, 110], [99, 97, 114, 100], [99, 97, 114, 101], [107, 101, 121]] (by simp) h0 (by omega)
    have l1 : v1.length ≤ 120 := by
      simp only [List.mem_cons, List.not_mem_nil, or_false] at d1
      rcases d1 with rfl | rfl | rfl | rfl | rfl | rfl | rfl | rfl | rfl | rfl <;> decide
    have ea : app [] l = some l := by rw [app_some _ _ (by simp; unfold LIM; omega)]; rfl
    have eb : app l [v1] = some (l ++ [v1]) := app_some _ _ (by simp; unfold LIM; omega)
    have hs := shorts_app hl l1
    obtain ⟨t, _, ht⟩ := list_eq (l ++ [v1]) (by simp; omega) (fun e he => by have := hs e he; omega)
    obtain ⟨ho, _⟩ := ht N (by simp; omega)
    cases t
    · obtain ⟨a', sd', l', i1, i2, i3, i4, i5⟩ := ih N s1 a1 s1' B l rfl (by omega) (by omega) h2 (by omega) hl (by omega)
      refine ⟨a', sd', l', i1, i2, i3, i4, fun K => ?_⟩
      simp only [s_l16DrawWords_l1, hk, decide_true, cond_true, withK_eq, e1, Option.bind_some, ea, eb, ho, cond_false, hkk]
      exact i5 K
    · obtain ⟨a', sd', l', i1, i2, i3, i4, i5⟩ := ih N s1 a1 s1' B (l ++ [v1]) rfl (by omega) (by omega) h2 (by simp; omega) hs (by omega)
      refine ⟨a', sd', l', i1, i2, i3, i4, fun K => ?_⟩
      simp only [s_l16DrawWords_l1, hk, decide_true, cond_true, withK_eq, e1, Option.bind_some, ea, eb, ho, hkk]
      exact i5 K
theorem WDraw_l2 (r : Int × L00Src) : ∀ (k N : Nat) (l : List Str), l.length + k ≤ 31 → (∀ e ∈ l, e.length ≤ 120) → k < N → ∃ l', l'.length ≤ 31 ∧ (∀ e ∈ l', e.length ≤ 120) ∧ ∀ K, s_l16DrawWords_l2 K r N l (k : Int) = K r.2.at_ r.2.seed l' := by
  intro k
  induction k with
  | zero =>
    intro N l h1 hl h2
    obtain ⟨N, rfl⟩ := pos_fuel h2
    exact ⟨l, by omega, hl, fun K => by simp [s_l16DrawWords_l2]⟩
  | succ k ih =>
    intro N l h1 hl h2
    obtain ⟨N, rfl⟩ := pos_fuel h2
    have hk : (((k + 1 : Nat) : Int) > 0) := by omega
    have hkk : w64 (((k + 1 : Nat) : Int) - 1) = (k : Int) := by rw [w64_id (by omega) (by omega)]; omega
    obtain ⟨l', i1, i2, i3⟩ := ih N (l ++ [[(97 : UInt8) + (UInt8.ofInt (Int.tdiv (UInt8.toNat (UInt8.ofInt (List.length l : Int)) : Int) 26)), (97 : UInt8) + (UInt8.ofInt (Int.tmod (UInt8.toNat (UInt8.ofInt (List.length l : Int)) : Int) 26))]]) (by simp; omega) (shorts_app hl (by simp)) (by omega)
    refine ⟨l', i1, i2, fun K => ?_⟩
    simp only [s_l16DrawWords_l2, hk, decide_true, cond_true]
    rw [app_some _ _ (by simp; unfold LIM; omega), Option.bind_some, hkk]
    exact i3 K
theorem WDraw_ok (code : List UInt8) (at_ seed : Int) (N : Nat) (hN : 2000 < N) (h0 : 0 ≤ at_) (h1 : at_ + 1000 < BIG) : ∃ l a sd, s_l16DrawWords N ⟨code, at_, seed⟩ = some (l, ⟨code, a, sd⟩) ∧ 0 ≤ a ∧ a ≤ at_ + 100 ∧ l.length ≤ 31 ∧ ∀ e ∈ l, e.length ≤ 120 := by
  obtain ⟨v, a1, s1, e1, b1, c1, d1, f1⟩ := pick_ok code at_ seed 9 h0 (by omega)
  have f1 := f1 (by omega)
  obtain ⟨k, rfl⟩ := Int.eq_ofNat_of_zero_le d1
  obtain ⟨a2, s2, l2, i1, i2, i3, i4, i5⟩ := WDraw_l1 code k N ⟨code, at_, seed⟩ a1 s1 (at_ + 50) [] rfl (by omega) (by omega) (by omega) (by simp; omega) (by simp) (by omega)
  obtain ⟨v3, a3, s3, e3, b3, c3, _, _⟩ := pick_ok code a2 s2 20 (by omega) (by omega)
  obtain ⟨t4, a4, s4, e4, b4, c4, d4⟩ := text_mem code a3 s3 [[], [66, 97, 114], [97, 98, 99, 100, 101, 102, 103, 104, 105, 106, 107, 108, 109, 110, 111, 112, 113, 114, 115, 116, 117, 118, 119, 120, 121, 122, 97, 98, 99, 100], [97, 98, 99, 100, 101, 102, 103, 104, 105, 106, 107, 108, 109, 110, 111, 112, 113, 114, 115, 116, 117, 118, 119, 120, 121, 122, 97, 98, 99, 100, 101]] (by simp) (by omega) (by omega)
  have l4 : t4.length ≤ 120 := by
    simp only [List.mem_cons, List.not_mem_nil, or_false] at d4
    rcases d4 with rfl | rfl | rfl | rfl <;> decide
  obtain ⟨v5, a5, s5, e5, b5, c5, d5, f5⟩ := pick_ok code a3 s3 2 (by omega) (by omega)
  have f5 := f5 (by omega)
  obtain ⟨k5, hk5⟩ := Int.eq_ofNat_of_zero_le (by omega : 0 ≤ 30 + v5)
  have ew : w64 (k5 : Int) = (k5 : Int) := w64_id (by omega) (by omega)
  obtain ⟨l6, j1, j2, j3⟩ := WDraw_l2 (v5, ⟨code, a5, s5⟩) k5 N [] (by simp; omega) (by simp) (by omega)
  have ea : app l2 [t4] = some (l2 ++ [t4]) := app_some _ _ (by simp; unfold LIM; omega)
  simp only [s_l16DrawWords, withK_eq, e1, Option.bind_some]
  rw [i5]
  simp only [e3, Option.bind_some, e4, ea, e5, hk5, ew, j3]
  cases (v3 == 0)
  · cases (v3 == 1)
    · exact ⟨_, _, _, rfl, by omega, by omega, by omega, i4⟩
    · exact ⟨_, _, _, rfl, by show 0 ≤ a5; omega, by show a5 ≤ at_ + 100; omega, j1, j2⟩
  · exact ⟨_, _, _, rfl, by omega, by omega, by simp; omega, shorts_app i4 l4⟩
theorem sml_take {s : Str} {n : Nat} (h : smw s = true) (hn : 1 ≤ n) (hl : n ≤ s.length) : smw (s.take n) = true := by
  obtain ⟨h1, h2, h3⟩ := smw_iff.1 h
  exact smw_iff.2 ⟨fun c hc => h1 c (List.mem_of_mem_take hc), by simp; omega, by simp; omega⟩
theorem Ws_l1 (W : List Str) (hW : Wd W) (r13 : List Str × Int) (hok : ∀ N, 6000 < N → i_areDifferentWords N W = some true) (hlen : r13.1.length = W.length) (hq : ∀ j (h1 : j < r13.1.length) (h2 : j < W.length), ∃ q, Least W j W[j] q ∧ r13.1[j] = W[j].take q) :
    ∀ (n i N : Nat), i + n = W.length → n + 7000 < N → w_FnWordStarts_l1 (some true) W r13 N (i : Int) = some true := by
  have hl := hW.len
  have hwl : ∀ w ∈ W, w.length ≤ 1000 := fun w hw => by have := (smw_iff.1 (hW.word w hw)).2; omega
  intro n
  induction n with
  | zero =>
    intro i N h1 h3
    obtain ⟨N, rfl⟩ := pos_fuel (by omega : 0 < N)
    have hi : ¬ ((i : Int) < (W.length : Int)) := by omega
    simp only [w_FnWordStarts_l1, hi, decide_false, cond_false]
  | succ n ih =>
    intro i N h1 h3
    obtain ⟨N, rfl⟩ := pos_fuel (by omega : 0 < N)
    have hi : (i : Int) < (W.length : Int) := by omega
    have hn : i < W.length := by omega
    have hm : i < r13.1.length := by omega
    have hw := List.getElem_mem hn
    obtain ⟨s1, s2, s3⟩ := smw_iff.1 (hW.word _ hw)
    obtain ⟨q, q1, q2⟩ := hq i hm hn
    have hu : (r13.1[i]).length = q := by rw [q2, List.length_take]; exact Nat.min_eq_left q1.le
    obtain ⟨p, p1, _, _, p4⟩ := WordFor_eq N W r13.1[i] (by omega) hwl (by have := q1.le; omega) (by omega)
    have hp := p4 ⟨true, rfl, hok N (by omega)⟩ (by rw [q2]; exact sml_take (hW.word _ hw) q1.pos q1.le)
    rw [q2, wf_least hW hn q1] at hp
    have hih := ih (i + 1) N (by omega) (by omega)
    simp only [w_FnWordStarts_l1, hi, decide_true, cond_true, withK_eq, idx_lt W i hn, idx_lt r13.1 i hm, Option.bind_some, p1, hp, bne_self_eq_false, orO_some, Bool.or_self, cond_false, w64_nat i (by omega), hih]
    by_cases g : ((r13.1[i]).length : Int) < 2
    · simp only [g, decide_true, cond_true]
    · have ql := q1.le
      have ew : w64 (((r13.1[i]).length : Int) - 1) = ((q - 1 : Nat) : Int) := by rw [hu, w64_id (by omega) (by omega)]; omega
      have es : sub r13.1[i] 0 ((q - 1 : Nat) : Int) = some (W[i].take (q - 1)) := by
        rw [sub_take _ _ (by omega), q2, List.take_take, Nat.min_eq_left (by omega)]
      obtain ⟨p', p1', _, p3', _⟩ := WordFor_eq N W (W[i].take (q - 1)) (by omega) hwl (by simp; omega) (by omega)
      have hne : (p'.2 == 3) = false := by
        have : p'.2 ≠ 3 := by
          rcases p3' with (h | h) | h
          · omega
          · omega
          · rw [h]; exact wf_three hw (pre_take _ _)
        simpa using this
      simp only [g, decide_false, cond_false, ew, es, Option.bind_some, p1', hne]
theorem law_FnWordStarts (code : List UInt8) (_ : wfL wfByte code) : ∃ N, w_FnWordStarts N code = some true := by
  obtain ⟨N, hN⟩ : ∃ N, N = 30000 := ⟨_, rfl⟩
  refine ⟨N, ?_⟩
  unfold w_FnWordStarts
  have hb : BIG = 1152921504606846976 := rfl
  by_cases hbig : (code.length : Int) > 4096
  · simp [w_f6big, hbig]
  obtain ⟨W, a1, s1, e1, b1, c1, d1, d2⟩ := WDraw_ok code 0 0 N (by omega) (by omega) (by omega)
  obtain ⟨u, a2, s2, e2, b2, c2, d3⟩ := text_mem code a1 s1 [[98], [98, 97], [98, 97, 114], [98, 97, 114, 107], [99, 97], [99, 97, 114], [107], [122], [], [75]] (by simp) b1 (by omega)
  have hu : u.length ≤ 30 := by
    simp only [List.mem_cons, List.not_mem_nil, or_false] at d3
    rcases d3 with rfl | rfl | rfl | rfl | rfl | rfl | rfl | rfl | rfl | rfl <;> decide
  have x1 : s_DrawShortestStarts N code = some W := by simp only [s_DrawShortestStarts, s_l00From, Option.bind_some, e1]
  have x2 : s_DrawWordFor N code = some (W, u) := by simp only [s_DrawWordFor, s_l00From, Option.bind_some, e1, e2]
  have hwl : ∀ w ∈ W, w.length ≤ 1000 := fun w hw => by have := d2 w hw; omega
  obtain ⟨p, p1, p2, p3, p4⟩ := Starts_eq N W (by omega) hwl (by omega)
  obtain ⟨r, r1, r2, r3, _⟩ := WordFor_eq N W u (by omega) hwl (by omega) (by omega)
  have fp := f6texts_eq (N := N) p.1 (by unfold LIM; omega) (by omega)
  simp only [w_f6big, hbig, decide_false, Option.bind_some, cond_false, x1, x2, p1, p2, r1, r2, bne_self_eq_false, orO_some, orO_false, fp, Bool.not_true, Bool.or_false, withK_eq]
  have hr : ((andO (r.2 == 0) ((orO (decide ((r.1.length : Int) < (u.length : Int))) ((sub r.1 0 (u.length : Int)).bind fun s41 => some (s41 != u))).bind fun t38 => some t38)) : Option Bool) = some false := by
    by_cases h : r.2 = 0
    · have hw : r = wf W u := by
        rcases r3 with (g | g) | g
        · omega
        · omega
        · exact g
      have hp := wf_zero (hw ▸ h)
      rw [← hw] at hp
      have hl := pre_len hp
      have ht := pre_iff hp
      have n1 : ¬ (r.1.length : Int) < (u.length : Int) := by omega
      rw [sub_take _ _ hl, ht]
      simp [h, n1]
    · have : (r.2 == 0) = false := by simpa using h
      rw [this]; rfl
  rw [hr]
  simp only [Option.bind_some, cond_false]
  by_cases h : p.2 = 0
  · obtain ⟨g1, g2, g3⟩ := p4 h
    have e0 : (p.2 != 0) = false := by simpa using h
    simp only [e0, cond_false]
    obtain ⟨t, t1, t2⟩ := list_eq W (by omega) hwl
    have ht : t = true := by
      cases t
      · have := (t2 N (by omega)).2
        simp only [i_ShortestStarts, this, Option.bind_some, Bool.not_false, cond_true] at p1
        have : p = ([], 1) := (Option.some.inj p1).symm
        rw [this] at h; simp at h
      · rfl
    subst ht
    exact Ws_l1 W g1 p (fun M hM => (t2 M (by omega)).2) g2 g3 W.length 0 N (by omega) (by omega)
  · have e0 : (p.2 != 0) = true := by simpa using h
    simp only [e0, cond_true]
end Go.Proofs.Ytoojddajhalimaa
