/-
  Plain lemmas on these functions. No conditions but those that each states.
-/
import Derived.Test.YtpmanofdlhlkdaaFnTableColumnsP7
namespace Go.Proofs.Ytpmanofdlhlkdaa
set_option linter.unusedVariables false
set_option linter.unusedSimpArgs false
/-! Stops, gaps and numbers. -/
def colB (ws : List Int) : Bool := ws.all (fun w => inr w 0 120) && inr (ws.length : Int) 1 12
theorem col_l1 (ws : List Int) (hl : ws.length ≤ 1000) (kj : Option Bool) : ∀ (q x N : Nat), x + q = ws.length → q < N →
    i_areWidths_l1 kj ws N (x : Int) = (bif (ws.drop x).all (fun w => inr w 0 120) then kj else some false) ∧ s_l08Columns_l1 kj ws N (x : Int) = (bif (ws.drop x).all (fun w => inr w 0 120) then kj else some false) := by
  intro q
  induction q with
  | zero =>
    intro x N h1 h2
    obtain ⟨N, rfl⟩ := pos_fuel h2
    have hz : ¬ (x : Int) < (ws.length : Int) := by omega
    rw [List.drop_of_length_le (by omega)]
    simp only [i_areWidths_l1, s_l08Columns_l1, hz, decide_false, cond_false, List.all_nil, cond_true]
    exact ⟨trivial, trivial⟩
  | succ q ih =>
    intro x N h1 h2
    obtain ⟨N, rfl⟩ := pos_fuel h2
    have hz : (x : Int) < (ws.length : Int) := by omega
    have hx : x < ws.length := by omega
    obtain ⟨i1, i2⟩ := ih (x + 1) N (by omega) (by omega)
    rw [drop_cons _ x hx, List.all_cons]
    simp only [i_areWidths_l1, s_l08Columns_l1, hz, decide_true, cond_true, idx_lt ws x hx, Option.bind_some, i_between_eq, s_l00In_eq, w64_nat x (by omega), i1, i2]
    cases inr ws[x] 0 120 <;> exact ⟨rfl, rfl⟩
theorem col_ok (ws : List Int) (hl : ws.length ≤ 1000) (N : Nat) (hN : 1000 < N) : i_areWidths N ws = some (colB ws) ∧ s_l08Columns N ws = some (colB ws) := by
  obtain ⟨h1, h2⟩ := col_l1 ws hl (some (inr (ws.length : Int) 1 12)) ws.length 0 N (by omega) (by omega)
  rw [show ((0 : Nat) : Int) = 0 from rfl, List.drop_zero] at h1 h2
  unfold i_areWidths s_l08Columns colB
  simp only [withK_n, i_between_eq, s_l00In_eq, Option.bind_some]
  rw [h1, h2]
  cases ws.all (fun w => inr w 0 120) <;> exact ⟨rfl, rfl⟩
theorem col_p {ws : List Int} (h : colB ws = true) : 1 ≤ ws.length ∧ ws.length ≤ 12 ∧ ∀ w ∈ ws, 0 ≤ w ∧ w ≤ 120 := by
  unfold colB at h
  rw [Bool.and_eq_true] at h
  have := inr_iff.1 h.2
  exact ⟨by omega, by omega, fun w hw => inr_iff.1 (List.all_eq_true.1 h.1 w hw)⟩
def stL (gap : Int) : Int → List Int → List Int
  | _, [] => []
  | a, w :: r => a :: stL gap (a + (w + gap)) r
def stE (gap : Int) : Int → List Int → Int
  | a, [] => a
  | a, w :: r => stE gap (a + (w + gap)) r
theorem stL_len (gap : Int) : ∀ (ws : List Int) (a : Int), (stL gap a ws).length = ws.length
  | [], _ => rfl
  | w :: r, a => by simp [stL, stL_len gap r]
theorem stL_step (gap : Int) : ∀ (ws : List Int) (a : Int) (i : Nat) (h : i + 1 < ws.length), (stL gap a ws)[i + 1]'(by rw [stL_len]; exact h) - (stL gap a ws)[i]'(by rw [stL_len]; omega) = ws[i] + gap
  | [], _, i, h => by simp at h
  | [w], _, i, h => by simp at h
  | w :: v :: r, a, 0, h => by simp [stL]; omega
  | w :: v :: r, a, i + 1, h => by
    have := stL_step gap (v :: r) (a + (w + gap)) i (by simpa using h)
    simpa [stL] using this
theorem stL_bd (gap : Int) (hg : 0 ≤ gap ∧ gap ≤ 120) : ∀ (ws : List Int) (a : Int), (∀ w ∈ ws, 0 ≤ w ∧ w ≤ 120) → 0 ≤ a → (∀ x ∈ stL gap a ws, 0 ≤ x ∧ x ≤ a + 240 * ws.length)
  | [], _, _, _ => fun x hx => by cases hx
  | w :: r, a, h, h0 => fun x hx => by
    have hw := h w (List.mem_cons_self ..)
    rcases List.mem_cons.1 hx with rfl | hx
    · simp only [List.length_cons]; omega
    · have := stL_bd gap hg r (a + (w + gap)) (fun y hy => h y (List.mem_cons_of_mem _ hy)) (by omega) x hx
      simp only [List.length_cons]; omega
theorem st_l1 (ws : List Int) (hl : ws.length ≤ 12) (gap : Int) (hg : 0 ≤ gap ∧ gap ≤ 120) (hw : ∀ w ∈ ws, 0 ≤ w ∧ w ≤ 120) (Ki Ks : List Int → Int → Option (List Int × Int)) : ∀ (q x N : Nat) (o : List Int) (a : Int), x + q = ws.length → q < N → o.length = x → 0 ≤ a → a ≤ 200 + 240 * x →
    i_StopsFor_l1 Ki ws gap N o a (x : Int) = Ki (o ++ stL gap a (ws.drop x)) (stE gap a (ws.drop x)) ∧ s_StopsFor_l1 Ks ws gap N o a (x : Int) = Ks (o ++ stL gap a (ws.drop x)) (stE gap a (ws.drop x)) ∧ 0 ≤ stE gap a (ws.drop x) ∧ stE gap a (ws.drop x) ≤ 4000 := by
  intro q
  induction q with
  | zero =>
    intro x N o a h1 h2 h3 h4 h5
    obtain ⟨N, rfl⟩ := pos_fuel h2
    have hz : ¬ (x : Int) < (ws.length : Int) := by omega
    rw [List.drop_of_length_le (by omega)]
    simp only [i_StopsFor_l1, s_StopsFor_l1, hz, decide_false, cond_false, stL, stE, List.append_nil]
    exact ⟨trivial, trivial, by omega, by omega⟩
  | succ q ih =>
    intro x N o a h1 h2 h3 h4 h5
    obtain ⟨N, rfl⟩ := pos_fuel h2
    have hz : (x : Int) < (ws.length : Int) := by omega
    have hx : x < ws.length := by omega
    have hb := hw _ (List.getElem_mem hx)
    have e1 : w64 (ws[x] + gap) = ws[x] + gap := w64_id (by omega) (by omega)
    have e2 : w64 (a + (ws[x] + gap)) = a + (ws[x] + gap) := w64_id (by omega) (by omega)
    have ea : app o [a] = some (o ++ [a]) := app_some _ _ (by unfold LIM; simp; omega)
    obtain ⟨i1, i2, i3, i4⟩ := ih (x + 1) N (o ++ [a]) (a + (ws[x] + gap)) (by omega) (by omega) (by simp; omega) (by omega) (by omega)
    rw [drop_cons _ x hx]
    simp only [i_StopsFor_l1, s_StopsFor_l1, hz, decide_true, cond_true, idx_lt ws x hx, Option.bind_some, ea, e1, e2, w64_nat x (by omega), stL, stE]
    simp only [List.append_assoc, List.singleton_append] at i1 i2
    exact ⟨i1, i2, i3, i4⟩
theorem stops_ok (ws : List Int) (hl : ws.length ≤ 100) (left gap : Int) (N : Nat) (hN : 2000 < N) : ∃ v : List Int × Int, i_StopsFor N ws left gap = some v ∧ s_StopsFor N ws left gap = some v ∧ v.1.length ≤ 100 ∧ (v.2 = 0 → v.1 = stL gap left ws ∧ ws.length ≤ 12 ∧ (∀ w ∈ ws, 0 ≤ w ∧ w ≤ 120) ∧ 0 ≤ gap ∧ gap ≤ 120 ∧ ∀ x ∈ stL gap left ws, 0 ≤ x ∧ x ≤ 5000) := by
  obtain ⟨c1, c2⟩ := col_ok ws (by omega) N (by omega)
  unfold i_StopsFor s_StopsFor
  simp only [c1, c2, i_isColumn_eq, i_between_eq, s_l00In_eq, Option.bind_some, orO_some, withK_n]
  cases h : (!colB ws || !inr left 0 119 || !inr gap 1 120) with
  | true => exact ⟨([], 2), rfl, rfl, by simp, by simp⟩
  | false =>
    have hc : colB ws = true := by cases hq : colB ws with | true => rfl | false => rw [hq] at h; cases h
    have hL : inr left 0 119 = true := by cases hq : inr left 0 119 with | true => rfl | false => rw [hq] at h; simp at h
    have hG : inr gap 1 120 = true := by cases hq : inr gap 1 120 with | true => rfl | false => rw [hq] at h; simp at h
    obtain ⟨p1, p2, p3⟩ := col_p hc
    have q1 := inr_iff.1 hL
    have q2 := inr_iff.1 hG
    simp only [cond_false]
    have hst := fun Ki Ks => st_l1 ws p2 gap (by omega) p3 Ki Ks ws.length 0 N [] left (by omega) (by omega) rfl (by omega) (by omega)
    simp only [List.nil_append, List.drop_zero] at hst
    rw [show ((0 : Nat) : Int) = 0 from rfl] at hst
    rw [(hst _ (fun _ _ => none)).1, (hst (fun _ _ => none) _).2.1]
    obtain ⟨t, _, t2⟩ := Rack_eq (stL gap left ws) (by rw [stL_len]; unfold LIM; omega)
    obtain ⟨t3, t4⟩ := t2 N (by rw [stL_len]; omega)
    rw [t3, t4]
    simp only [Option.bind_some, orO_some]
    have hb := stL_bd gap (by omega) ws left p3 (by omega)
    cases t <;> cases decide (w64 (stE gap left ws - gap) > 120)
    · exact ⟨([], 5), rfl, rfl, by simp, by simp⟩
    · exact ⟨([], 5), rfl, rfl, by simp, by simp⟩
    · exact ⟨(stL gap left ws, 0), rfl, rfl, by show (stL gap left ws).length ≤ 100; rw [stL_len]; omega, fun _ => ⟨rfl, p2, p3, by omega, by omega, fun x hx => by have := hb x hx; omega⟩⟩
    · exact ⟨([], 5), rfl, rfl, by simp, by simp⟩
/-! the widest gap -/
theorem isum_bd : ∀ (ws : List Int), (∀ w ∈ ws, 0 ≤ w ∧ w ≤ 120) → 0 ≤ isum ws ∧ isum ws ≤ 120 * ws.length
  | [], _ => by simp [isum]
  | w :: r, h => by
    have h1 := h w (List.mem_cons_self ..)
    have h2 := isum_bd r (fun x hx => h x (List.mem_cons_of_mem _ hx))
    simp only [isum, List.length_cons]; omega
theorem sm_l1 (ws : List Int) (hl : ws.length ≤ 12) (hw : ∀ w ∈ ws, 0 ≤ w ∧ w ≤ 120) (Ki : Int → Option (Int × Int)) (Ks : Int → Option Int) : ∀ (q x N : Nat) (a b : Int), x + q = ws.length → q < N → -2000 ≤ a - isum (ws.drop x) → a ≤ 2000 → 0 ≤ b → b ≤ 120 * x →
    i_WidestGap_l1 Ki ws N a (x : Int) = Ki (a - isum (ws.drop x)) ∧ s_l00Sum_l1 Ks ws N b (x : Int) = Ks (b + isum (ws.drop x)) := by
  intro q
  induction q with
  | zero =>
    intro x N a b h1 h2 h3 h4 h5 h6
    obtain ⟨N, rfl⟩ := pos_fuel h2
    have hz : ¬ (x : Int) < (ws.length : Int) := by omega
    rw [List.drop_of_length_le (by omega)]
    simp only [i_WidestGap_l1, s_l00Sum_l1, hz, decide_false, cond_false, isum, Int.sub_zero, Int.add_zero]
    exact ⟨trivial, trivial⟩
  | succ q ih =>
    intro x N a b h1 h2 h3 h4 h5 h6
    obtain ⟨N, rfl⟩ := pos_fuel h2
    have hz : (x : Int) < (ws.length : Int) := by omega
    have hx : x < ws.length := by omega
    have hb := hw _ (List.getElem_mem hx)
    rw [drop_cons _ x hx] at h3 ⊢
    have hs := isum_bd (ws.drop (x + 1)) (fun w hw' => hw w (List.mem_of_mem_drop hw'))
    simp only [isum] at h3 ⊢
    have e1 : w64 (a - ws[x]) = a - ws[x] := w64_id (by omega) (by omega)
    have e2 : w64 (b + ws[x]) = b + ws[x] := w64_id (by omega) (by omega)
    obtain ⟨i1, i2⟩ := ih (x + 1) N (a - ws[x]) (b + ws[x]) (by omega) (by omega) (by omega) (by omega) (by omega) (by omega)
    simp only [i_WidestGap_l1, s_l00Sum_l1, hz, decide_true, cond_true, idx_lt ws x hx, Option.bind_some, e1, e2, w64_nat x (by omega), i1, i2]
    refine ⟨?_, ?_⟩
    · congr 1; omega
    · congr 1; omega
theorem gap_ok (ws : List Int) (hl : ws.length ≤ 100) (left right : Int) (N : Nat) (hN : 2000 < N) : ∃ v : Int × Int, i_WidestGap N ws left right = some v ∧ s_WidestGap N ws left right = some v ∧ (v.2 = 0 → ws.length ≤ 12 ∧ 2 ≤ ws.length ∧ (∀ w ∈ ws, 0 ≤ w ∧ w ≤ 120) ∧ 0 ≤ left ∧ left ≤ right ∧ right ≤ 120 ∧ 1 ≤ v.1 ∧ v.1 ≤ 120 ∧
    ((ws.length : Int) - 1) * v.1 ≤ right - left - isum ws ∧ right - left - isum ws < ((ws.length : Int) - 1) * v.1 + ((ws.length : Int) - 1)) := by
  obtain ⟨c1, c2⟩ := col_ok ws (by omega) N (by omega)
  unfold i_WidestGap s_WidestGap
  simp only [c1, c2, s_l00In_eq, Option.bind_some, orO_some, withK_n]
  have e : (!colB ws || decide (left < 0) || decide (left > right) || decide (right > 120)) = (!colB ws || !inr left 0 120 || !inr right left 120) := by
    rw [Bool.eq_iff_iff]
    have h1 : (inr left 0 120 = true ↔ 0 ≤ left ∧ left ≤ 120) := inr_iff
    have h2 : (inr right left 120 = true ↔ left ≤ right ∧ right ≤ 120) := inr_iff
    simp only [Bool.or_eq_true, Bool.not_eq_true', decide_eq_true_eq, ← Bool.not_eq_true, h1, h2]
    constructor
    · rintro (((h | h) | h) | h)
      · exact .inl (.inl h)
      · exact .inl (.inr (by omega))
      · exact .inr (by omega)
      · exact .inr (by omega)
    · rintro ((h | h) | h)
      · exact .inl (.inl (.inl h))
      · by_cases h3 : left < 0
        · exact .inl (.inl (.inr h3))
        · by_cases h4 : right > 120
          · exact .inr h4
          · exact .inl (.inr (by omega))
      · by_cases h4 : right > 120
        · exact .inr h4
        · exact .inl (.inr (by omega))
  rw [e]
  cases h : (!colB ws || !inr left 0 120 || !inr right left 120) with
  | true => exact ⟨(0, 2), rfl, rfl, by simp⟩
  | false =>
    have hc : colB ws = true := by cases hq : colB ws with | true => rfl | false => rw [hq] at h; cases h
    have hL : inr left 0 120 = true := by cases hq : inr left 0 120 with | true => rfl | false => rw [hq] at h; simp at h
    have hR : inr right left 120 = true := by cases hq : inr right left 120 with | true => rfl | false => rw [hq] at h; simp at h
    obtain ⟨p1, p2, p3⟩ := col_p hc
    have q1 := inr_iff.1 hL
    have q2 := inr_iff.1 hR
    have hs := isum_bd ws p3
    simp only [cond_false]
    cases h1 : ((ws.length : Int) == 1) with
    | true => exact ⟨(0, 6), rfl, rfl, by simp⟩
    | false =>
      have hl2 : 2 ≤ ws.length := by
        have : ¬ (ws.length : Int) = 1 := by simpa using h1
        omega
      have e1 : w64 (right - left) = right - left := w64_id (by omega) (by omega)
      have e2 : w64 ((ws.length : Int) - 1) = (ws.length : Int) - 1 := w64_id (by omega) (by omega)
      have e3 : w64 (right - left - isum ws) = right - left - isum ws := w64_id (by omega) (by omega)
      obtain ⟨i1, _⟩ := sm_l1 ws p2 p3 (fun room19 => bif decide (room19 < (w64 ((List.length ws : Int) - 1))) then some (0, 5) else (quoO room19 (w64 ((List.length ws : Int) - 1))).bind fun q31 => some (q31, 0)) (fun s => some s) ws.length 0 N (right - left) 0 (by omega) (by omega) (by rw [List.drop_zero]; omega) (by omega) (by omega) (by omega)
      obtain ⟨_, i2⟩ := sm_l1 ws p2 p3 (fun _ => none) (fun s => some s) ws.length 0 N (right - left) 0 (by omega) (by omega) (by rw [List.drop_zero]; omega) (by omega) (by omega) (by omega)
      rw [show ((0 : Nat) : Int) = 0 from rfl, List.drop_zero] at i1 i2
      rw [Int.zero_add] at i2
      have hsum : s_l00Sum N ws = some (isum ws) := by unfold s_l00Sum; rw [withK_n]; exact i2
      simp only [cond_false, e1]
      rw [i1, hsum]
      simp only [Option.bind_some, e2, e3]
      by_cases hlt : right - left - isum ws < (ws.length : Int) - 1
      · simp only [hlt, decide_true, cond_true]
        exact ⟨(0, 5), rfl, rfl, by simp⟩
      · simp only [hlt, decide_false, cond_false]
        obtain ⟨k, hk⟩ : ∃ k : Int, k = (ws.length : Int) - 1 := ⟨_, rfl⟩
        obtain ⟨r, hr⟩ : ∃ r : Int, r = right - left - isum ws := ⟨_, rfl⟩
        rw [← hk, ← hr] at hlt ⊢
        have hk1 : 1 ≤ k := by omega
        have hr1 : r ≤ 120 := by omega
        have hd : r.tdiv k = r / k := Int.tdiv_eq_ediv_of_nonneg (by omega)
        have hm1 : k * (r / k) ≤ r := Int.mul_ediv_self_le (by omega)
        have hm2 : r < k * (r / k) + k := by
          have := Int.lt_mul_ediv_self_add (x := r) (k := k) (by omega)
          exact this
        have hq1 : 1 ≤ r / k := (Int.le_ediv_iff_mul_le (by omega)).2 (by omega)
        have hq2 : r / k ≤ r := Int.ediv_le_self _ (by omega)
        have hw : w64 (r / k) = r / k := w64_id (by omega) (by omega)
        have hq : quoO r k = some (r / k) := by
          unfold quoO
          rw [if_neg (by omega), hd]
          first
            | exact congrArg some hw
            | rfl
        rw [hq]
        exact ⟨(r / k, 0), rfl, rfl, fun _ => ⟨p2, hl2, p3, by omega, by omega, by omega, hq1, by show r / k ≤ 120; omega, hm1, hm2⟩⟩
/-! numbers -/
def dpt : Str → Nat
  | [] => 0
  | c :: r => if c == 46 then 0 else dpt r + 1
theorem dpt_le : ∀ s : Str, dpt s ≤ s.length
  | [] => by simp [dpt]
  | c :: r => by
    have := dpt_le r
    unfold dpt; split
    · simp
    · simp; omega
theorem pt_l1 (s : Str) (hs : s.length ≤ 1000) : ∀ (q i N : Nat), i + q = s.length → q < N → s_l08Point_l1 (some (s.length : Int)) s N (i : Int) = some ((i + dpt (s.drop i) : Nat) : Int) ∧ w_f6point_l1 (some (s.length : Int)) s N (i : Int) = some ((i + dpt (s.drop i) : Nat) : Int) := by
  intro q
  induction q with
  | zero =>
    intro i N h1 h2
    obtain ⟨N, rfl⟩ := pos_fuel h2
    have hz : ¬ (i : Int) < (s.length : Int) := by omega
    rw [List.drop_of_length_le (by omega)]
    have e : s.length = i := by omega
    simp only [s_l08Point_l1, w_f6point_l1, hz, decide_false, cond_false, dpt, Nat.add_zero]
    exact ⟨congrArg some (by omega), congrArg some (by omega)⟩
  | succ q ih =>
    intro i N h1 h2
    obtain ⟨N, rfl⟩ := pos_fuel h2
    have hz : (i : Int) < (s.length : Int) := by omega
    have hi : i < s.length := by omega
    obtain ⟨i1, i2⟩ := ih (i + 1) N (by omega) (by omega)
    rw [drop_cons _ i hi]
    simp only [s_l08Point_l1, w_f6point_l1, hz, decide_true, cond_true, idx_lt s i hi, Option.bind_some, w64_nat i (by omega), i1, i2, dpt]
    cases (s[i] == 46) with
    | true => simp
    | false => simp; omega
theorem point_ok (s : Str) (hs : s.length ≤ 1000) (N : Nat) (hN : 1000 < N) : s_l08Point N s = some (dpt s : Int) ∧ w_f6point N s = some (dpt s : Int) := by
  have h := pt_l1 s hs s.length 0 N (by omega) (by omega)
  rw [show ((0 : Nat) : Int) = 0 from rfl, List.drop_zero, Nat.zero_add] at h
  unfold s_l08Point w_f6point
  rw [withK_n, withK_n]
  exact h
theorem pt_blk : ∀ (k : Nat) (s : Str), dpt (List.replicate k 32 ++ s) = k + dpt s
  | 0, s => by simp
  | k + 1, s => by
    rw [List.replicate_succ, List.cons_append]
    have : ((32 : UInt8) == 46) = false := rfl
    simp only [dpt, this, Bool.false_eq_true, if_false, pt_blk k s]
    omega
def L16 : List Str := [[48], [49, 50], [45, 51], [52, 46, 53, 48], [49, 48, 48, 46, 48, 53], [45, 48, 46, 53], [55, 46, 49, 50, 53], [49, 50, 51, 52, 53, 54], [], [45], [49, 46], [46, 53], [49, 46, 50, 46, 51], [120], [49, 50, 51, 52, 53, 54, 55, 56, 57, 48, 49, 50, 51, 52, 53, 54, 55, 56, 57, 48, 49, 50, 51, 52, 53, 54, 46, 55, 56, 57], [49, 50, 51, 52, 53, 54, 55, 56, 57, 48, 49, 50, 51, 52, 53, 54, 55, 56, 57, 48, 49, 50, 51, 52, 53, 54, 55, 46, 56, 57, 48, 49]]
theorem l16_len : ∀ s ∈ L16, s.length ≤ 40 := by decide
set_option maxRecDepth 100000 in
theorem num16 (M : Nat) : ∀ s ∈ L16, ∃ ok : Bool, i_pointOf (M + 60) s = some (bif ok then (dpt s : Int) else 0, ok) ∧ s_l08Number (M + 60) s = some ok := by
  intro s hs
  simp only [L16, List.mem_cons, List.not_mem_nil, or_false] at hs
  rcases hs with rfl | rfl | rfl | rfl | rfl | rfl | rfl | rfl | rfl | rfl | rfl | rfl | rfl | rfl | rfl | rfl
  · exact ⟨true, by rfl, by rfl⟩
  · exact ⟨true, by rfl, by rfl⟩
  · exact ⟨true, by rfl, by rfl⟩
  · exact ⟨true, by rfl, by rfl⟩
  · exact ⟨true, by rfl, by rfl⟩
  · exact ⟨true, by rfl, by rfl⟩
  · exact ⟨true, by rfl, by rfl⟩
  · exact ⟨true, by rfl, by rfl⟩
  · exact ⟨false, by rfl, by rfl⟩
  · exact ⟨false, by rfl, by rfl⟩
  · exact ⟨false, by rfl, by rfl⟩
  · exact ⟨false, by rfl, by rfl⟩
  · exact ⟨false, by rfl, by rfl⟩
  · exact ⟨false, by rfl, by rfl⟩
  · exact ⟨true, by rfl, by rfl⟩
  · exact ⟨true, by rfl, by rfl⟩
end Go.Proofs.Ytpmanofdlhlkdaa
