/-
  Plain lemmas on these functions. No conditions but those that each states.
-/
import Derived.Test.YtpmanofdlhlkdaaFnTableColumnsP8
namespace Go.Proofs.Ytpmanofdlhlkdaa
set_option linter.unusedVariables false
set_option linter.unusedSimpArgs false
/-! Numbers one below the other. -/
theorem num_ok (N : Nat) (hN : 100 < N) (s : Str) (hs : s ∈ L16) : ∃ ok : Bool, i_pointOf N s = some (bif ok then (dpt s : Int) else 0, ok) ∧ s_l08Number N s = some ok := by
  obtain ⟨M, rfl⟩ : ∃ M, N = M + 60 := ⟨N - 60, by omega⟩
  exact num16 M s hs
theorem al_l1 (l : List Str) (hl : l.length ≤ 100) (Ki Ks : Option (List Str × Int)) : ∀ (q x N : Nat), x + q = l.length → q < N →
    i_AlignNumbers_l1 Ki l N (x : Int) = (bif (l.drop x).all (fun s => decide ((s.length : Int) ≤ 30)) then Ki else some ([], 2)) ∧ s_AlignNumbers_l1 Ks l N (x : Int) = (bif (l.drop x).all (fun s => decide ((s.length : Int) ≤ 30)) then Ks else some ([], 2)) := by
  intro q
  induction q with
  | zero =>
    intro x N h1 h2
    obtain ⟨N, rfl⟩ := pos_fuel h2
    have hz : ¬ (x : Int) < (l.length : Int) := by omega
    rw [List.drop_of_length_le (by omega)]
    simp only [i_AlignNumbers_l1, s_AlignNumbers_l1, hz, decide_false, cond_false, List.all_nil, cond_true]
    exact ⟨trivial, trivial⟩
  | succ q ih =>
    intro x N h1 h2
    obtain ⟨N, rfl⟩ := pos_fuel h2
    have hz : (x : Int) < (l.length : Int) := by omega
    have hx : x < l.length := by omega
    obtain ⟨i1, i2⟩ := ih (x + 1) N (by omega) (by omega)
    have e : decide ((l[x].length : Int) > 30) = !(decide ((l[x].length : Int) ≤ 30)) := by rw [Bool.eq_iff_iff]; simp
    rw [drop_cons _ x hx, List.all_cons]
    simp only [i_AlignNumbers_l1, s_AlignNumbers_l1, hz, decide_true, cond_true, idx_lt l x hx, Option.bind_some, e, w64_nat x (by omega), i1, i2]
    cases decide ((l[x].length : Int) ≤ 30) <;> exact ⟨rfl, rfl⟩
theorem al_l2 (l : List Str) (hl : l.length ≤ 100) (h16 : ∀ s ∈ l, s ∈ L16) (Ki : List Int → Int → Option (List Str × Int)) (Ks : Int → Option (List Str × Int)) (Q : Prop) (hbad : Q) (hgood : ∀ most : Int, 0 ≤ most → most ≤ 40 → (∀ s ∈ l, (dpt s : Int) ≤ most) → Q) : ∀ (q x N : Nat) (o : List Int) (most : Int), x + q = l.length → q + 1200 < N → o = (l.take x).map (fun s => (dpt s : Int)) → 0 ≤ most → most ≤ 40 → (∀ s ∈ l.take x, (dpt s : Int) ≤ most) →
    (i_AlignNumbers_l2 Ki l N o most (x : Int) = some ([], 7) ∧ s_AlignNumbers_l2 Ks l N most (x : Int) = some ([], 7)) ∨
    ∃ most' : Int, 0 ≤ most' ∧ most' ≤ 40 ∧ (∀ s ∈ l, (dpt s : Int) ≤ most') ∧ i_AlignNumbers_l2 Ki l N o most (x : Int) = Ki (l.map (fun s => (dpt s : Int))) most' ∧ s_AlignNumbers_l2 Ks l N most (x : Int) = Ks most' := by
  have _ := hbad
  have _ := hgood
  intro q
  induction q with
  | zero =>
    intro x N o most h1 h2 h3 h4 h5 h6
    obtain ⟨N, rfl⟩ := pos_fuel h2
    have hz : ¬ (x : Int) < (l.length : Int) := by omega
    rw [List.take_of_length_le (by omega)] at h3 h6
    subst h3
    exact .inr ⟨most, h4, h5, h6, by simp only [i_AlignNumbers_l2, hz, decide_false, cond_false], by simp only [s_AlignNumbers_l2, hz, decide_false, cond_false]⟩
  | succ q ih =>
    intro x N o most h1 h2 h3 h4 h5 h6
    obtain ⟨N, rfl⟩ := pos_fuel h2
    have hz : (x : Int) < (l.length : Int) := by omega
    have hx : x < l.length := by omega
    have hm := h16 _ (List.getElem_mem hx)
    have hsl := l16_len _ hm
    obtain ⟨ok, k1, k2⟩ := num_ok N (by omega) _ hm
    have k3 := (point_ok l[x] (by omega) N (by omega)).1
    have hpl := dpt_le l[x]
    have hol : o.length = x := by rw [h3, List.length_map, List.length_take]; omega
    have ea : app o [(dpt l[x] : Int)] = some (o ++ [(dpt l[x] : Int)]) := app_some _ _ (by unfold LIM; simp; omega)
    simp only [i_AlignNumbers_l2, s_AlignNumbers_l2, hz, decide_true, cond_true, idx_lt l x hx, Option.bind_some, k1, k2, k3]
    cases ok with
    | false => exact .inl ⟨rfl, rfl⟩
    | true =>
      simp only [Bool.not_true, cond_false, cond_true, ea, Option.bind_some, imax_eq, smax_eq, w64_nat x (by omega)]
      have hmx := mx_l most (dpt l[x] : Int)
      refine ih (x + 1) N _ (mx most (dpt l[x] : Int)) (by omega) (by omega) ?_ (by omega) (by unfold mx; split <;> omega) (fun s hs => ?_)
      · rw [h3, List.take_succ_eq_append_getElem hx, List.map_append]; rfl
      · rw [List.take_succ_eq_append_getElem hx] at hs
        rcases List.mem_append.1 hs with hs | hs
        · exact Int.le_trans (h6 s hs) hmx.1
        · rw [List.mem_singleton.1 hs]; exact hmx.2
def alo (most : Int) (s : Str) : Str := List.replicate (most - (dpt s : Int)).toNat 32 ++ s
theorem al_l3 (l : List Str) (hl : l.length ≤ 100) (h16 : ∀ s ∈ l, s ∈ L16) (most : Int) (hm : 0 ≤ most ∧ most ≤ 40) (hp : ∀ s ∈ l, (dpt s : Int) ≤ most) (Ki Ks : List Str → Option (List Str × Int)) : ∀ (q x N : Nat) (o : List Str), x + q = l.length → q + 1200 < N → o.length = x →
    i_AlignNumbers_l3 Ki l (l.map (fun s => (dpt s : Int))) most N o (x : Int) = Ki (o ++ (l.drop x).map (alo most)) ∧ s_AlignNumbers_l3 Ks l most N o (x : Int) = Ks (o ++ (l.drop x).map (alo most)) := by
  intro q
  induction q with
  | zero =>
    intro x N o h1 h2 h3
    obtain ⟨N, rfl⟩ := pos_fuel h2
    have hz : ¬ (x : Int) < (l.length : Int) := by omega
    rw [List.drop_of_length_le (by omega)]
    simp only [i_AlignNumbers_l3, s_AlignNumbers_l3, hz, decide_false, cond_false, List.map_nil, List.append_nil]
    exact ⟨trivial, trivial⟩
  | succ q ih =>
    intro x N o h1 h2 h3
    obtain ⟨N, rfl⟩ := pos_fuel h2
    have hz : (x : Int) < (l.length : Int) := by omega
    have hx : x < l.length := by omega
    have hsl := l16_len _ (h16 _ (List.getElem_mem hx))
    have hpx := hp _ (List.getElem_mem hx)
    have k3 := (point_ok l[x] (by omega) N (by omega)).1
    have e0 : idx (l.map (fun s => (dpt s : Int))) (x : Int) = some (dpt l[x] : Int) := by rw [idx_lt _ x (by rw [List.length_map]; exact hx), List.getElem_map]
    have e1 : w64 (most - (dpt l[x] : Int)) = most - dpt l[x] := w64_id (by omega) (by omega)
    have r1 := repeat_eq N 32 (most - dpt l[x]) (by omega) (by omega) (by omega)
    have r2 := blanks_eq N (most - dpt l[x]) (by omega) (by omega) (by omega)
    have ec : cat (List.replicate (most - (dpt l[x] : Int)).toNat 32) l[x] = some (alo most l[x]) := cat_some _ _ (by unfold LIM; rw [List.length_replicate]; omega)
    have ea : app o [alo most l[x]] = some (o ++ [alo most l[x]]) := app_some _ _ (by unfold LIM; simp; omega)
    obtain ⟨i1, i2⟩ := ih (x + 1) N (o ++ [alo most l[x]]) (by omega) (by omega) (by simp; omega)
    simp only [List.append_assoc, List.singleton_append] at i1 i2
    rw [drop_cons _ x hx, List.map_cons]
    simp only [i_AlignNumbers_l3, s_AlignNumbers_l3, hz, decide_true, cond_true, idx_lt l x hx, Option.bind_some, e0, k3, e1, r1, r2, ec, ea, w64_nat x (by omega)]
    exact ⟨i1, i2⟩
theorem align_ok (l : List Str) (hl : l.length ≤ 100) (h16 : ∀ s ∈ l, s ∈ L16) (N : Nat) (hN : 2000 < N) : ∃ v : List Str × Int, i_AlignNumbers N l = some v ∧ s_AlignNumbers N l = some v ∧ v.1.length ≤ 100 ∧ (v.2 = 0 → ∃ most : Int, ∀ s ∈ v.1, s.length ≤ 200 ∧ (dpt s : Int) = most) := by
  have h1 := fun Ki Ks => al_l1 l hl Ki Ks l.length 0 N (by omega) (by omega)
  simp only [List.drop_zero] at h1
  rw [show ((0 : Nat) : Int) = 0 from rfl] at h1
  unfold i_AlignNumbers s_AlignNumbers
  simp only [withK_n]
  rw [(h1 _ none).1, (h1 none _).2]
  cases decide ((l.length : Int) > 40) with
  | true =>
    refine ⟨([], 2), rfl, ?_, by simp, by simp⟩
    cases l.all (fun s => decide ((s.length : Int) ≤ 30)) <;> rfl
  | false =>
    cases l.all (fun s => decide ((s.length : Int) ≤ 30)) with
    | false => exact ⟨([], 2), rfl, rfl, by simp, by simp⟩
    | true =>
      simp only [cond_false, cond_true]
      rcases al_l2 l hl h16 (fun l16 most18 => i_AlignNumbers_l3 (fun l39 => some (l39, 0)) l l16 most18 N [] 0) (fun most15 => s_AlignNumbers_l3 (fun l39 => some (l39, 0)) l most15 N [] 0) True trivial (fun _ _ _ _ => trivial) l.length 0 N [] 0 (by omega) (by omega) (by simp) (by omega) (by omega) (fun s hs => by simp at hs) with ⟨g1, g2⟩ | ⟨most, m1, m2, m3, g1, g2⟩
      · rw [show ((0 : Nat) : Int) = 0 from rfl] at g1 g2
        rw [g1, g2]
        exact ⟨([], 7), rfl, rfl, by simp, by simp⟩
      · rw [show ((0 : Nat) : Int) = 0 from rfl] at g1 g2
        rw [g1, g2]
        obtain ⟨a1, a2⟩ := al_l3 l hl h16 most ⟨m1, m2⟩ m3 (fun l39 => some (l39, 0)) (fun l39 => some (l39, 0)) l.length 0 N [] (by omega) (by omega) rfl
        rw [show ((0 : Nat) : Int) = 0 from rfl, List.drop_zero] at a1 a2
        rw [a1, a2]
        refine ⟨(l.map (alo most), 0), rfl, rfl, by simp; omega, fun _ => ⟨most, fun s hs => ?_⟩⟩
        obtain ⟨y, hy, rfl⟩ := List.mem_map.1 hs
        have h2 := l16_len _ (h16 y hy)
        have h3 := m3 y hy
        refine ⟨?_, ?_⟩
        · unfold alo; rw [List.length_append, List.length_replicate]; omega
        · unfold alo; rw [pt_blk]; omega
theorem start_ok (s : Str) (hs : s ∈ L16) (col : Int) (N : Nat) (hN : 2000 < N) : ∃ v : Int × Int, i_DecimalStart N s col = some v ∧ s_DecimalStart N s col = some v := by
  have hsl := l16_len _ hs
  obtain ⟨ok, k1, k2⟩ := num_ok N (by omega) _ hs
  have k3 := (point_ok s (by omega) N (by omega)).1
  have hpl := dpt_le s
  unfold i_DecimalStart s_DecimalStart
  simp only [i_isColumn_eq, s_l00In_eq, Option.bind_some, orO_some, k1, k2, k3]
  cases h : (!inr col 0 119 || decide ((s.length : Int) > 30)) with
  | true => exact ⟨(0, 2), rfl, rfl⟩
  | false =>
    have hc : inr col 0 119 = true := by cases hq : inr col 0 119 with | true => rfl | false => rw [hq] at h; cases h
    have hcb := inr_iff.1 hc
    cases ok with
    | false => exact ⟨(0, 7), rfl, rfl⟩
    | true =>
      simp only [cond_false, cond_true, Bool.not_true]
      have e1 : w64 (col - (dpt s : Int)) = col - dpt s := w64_id (by omega) (by omega)
      have e2 : decide ((dpt s : Int) > col) = decide (col - (dpt s : Int) < 0) := by rw [Bool.eq_iff_iff]; simp; omega
      rw [e1, e2]
      cases decide (col - (dpt s : Int) < 0)
      · exact ⟨_, rfl, rfl⟩
      · exact ⟨_, rfl, rfl⟩
/-! the draws -/
def C8 : List Str := [[], [97], [105, 110, 107], [49, 50], [114, 105, 98, 98, 111, 110], [120, 45, 114, 97, 121], [52, 46, 53, 48], [116, 111, 116, 97, 108]]
theorem c8_len : ∀ s ∈ C8, s.length ≤ 40 := by decide
theorem cell_ok {code : List UInt8} {hi : Int} {s : L00Src} (h : SrcAt code hi s) (hb : hi ≤ 1000000) : ∃ v, s_l08Cell s = some v ∧ SrcAt code (hi + 2) v.2 ∧ v.1.length ≤ 40 := by
  obtain ⟨hc, h0, h1⟩ := h
  unfold s_l08Cell
  refine bindE (textA (code := code) (hi := hi) C8 (by decide) ⟨hc, h0, h1⟩ (by omega)) fun v g => ⟨_, rfl, ⟨hc, g.1.2.1, g.1.2.2⟩, c8_len _ g.2⟩
theorem tb_l2 {code : List UInt8} (s : L00Src) (hs : s.code = code) (kj : List Str → Int → Int → Option (List (List Str) × L00Src)) (Q : List (List Str) × L00Src → Prop) : ∀ (n N : Nat) (a sd hi : Int) (l : List Str), n < N → 0 ≤ a → a ≤ hi → hi + 2 * n ≤ 1000000 → l.length + n ≤ 20 → (∀ c ∈ l, c.length ≤ 40) →
    (∀ a' sd' l', 0 ≤ a' → a' ≤ hi + 2 * n → l'.length = l.length + n → (∀ c ∈ l', c.length ≤ 40) → ∃ r, kj l' a' sd' = some r ∧ Q r) → ∃ r, s_l08Table_l2 kj s N l a sd (n : Int) = some r ∧ Q r := by
  intro n
  induction n with
  | zero =>
    intro N a sd hi l hN h0 h1 h2 h3 h4 k
    obtain ⟨N, rfl⟩ := pos_fuel hN
    have hz : ¬ ((0 : Nat) : Int) > 0 := by omega
    simp only [s_l08Table_l2, hz, decide_false, cond_false]
    exact k a sd l h0 (by omega) (by omega) h4
  | succ n ih =>
    intro N a sd hi l hN h0 h1 h2 h3 h4 k
    obtain ⟨N, rfl⟩ := pos_fuel hN
    have hz : ((n + 1 : Nat) : Int) > 0 := by omega
    have e2 : w64 (((n + 1 : Nat) : Int) - 1) = (n : Int) := by rw [w64_id (by omega) (by omega)]; omega
    simp only [s_l08Table_l2, hz, decide_true, cond_true, e2]
    refine bindE (cell_ok (code := code) (hi := hi) ⟨hs, h0, h1⟩ (by omega)) fun v g => ?_
    refine appE (by unfold LIM; simp; omega) ?_
    refine ih N _ _ (hi + 2) _ (by omega) g.1.2.1 g.1.2.2 (by omega) (by simp; omega) (fun c hc => ?_) (fun a' sd' l' w1 w2 w3 w4 => k a' sd' l' w1 (by omega) (by simp at w3; omega) w4)
    rcases List.mem_append.1 hc with hc | hc
    · exact h4 c hc
    · rw [List.mem_singleton.1 hc]; exact g.2
def RowsOk (n : Nat) (rows : List (List Str)) : Prop := ∀ r ∈ rows, r.length = n ∧ ∀ c ∈ r, c.length ≤ 40
theorem tb_l1 {code : List UInt8} (s : L00Src) (hs : s.code = code) (m : Nat) (hm : m ≤ 15) (kj : Int → Int → List (List Str) → Option (List (List Str) × L00Src)) (Q : List (List Str) × L00Src → Prop) : ∀ (n N : Nat) (a sd hi : Int) (l : List (List Str)), n + 30 < N → 0 ≤ a → a ≤ hi → hi + 40 * n ≤ 1000000 → l.length + n ≤ 50 → RowsOk m l →
    (∀ a' sd' l', 0 ≤ a' → a' ≤ hi + 40 * n → l'.length = l.length + n → RowsOk m l' → ∃ r, kj a' sd' l' = some r ∧ Q r) → ∃ r, s_l08Table_l1 kj s (m : Int) N a sd l (n : Int) = some r ∧ Q r := by
  intro n
  induction n with
  | zero =>
    intro N a sd hi l hN h0 h1 h2 h3 h4 k
    obtain ⟨N, rfl⟩ := pos_fuel hN
    have hz : ¬ ((0 : Nat) : Int) > 0 := by omega
    simp only [s_l08Table_l1, hz, decide_false, cond_false]
    exact k a sd l h0 (by omega) (by omega) h4
  | succ n ih =>
    intro N a sd hi l hN h0 h1 h2 h3 h4 k
    obtain ⟨N, rfl⟩ := pos_fuel hN
    have hz : ((n + 1 : Nat) : Int) > 0 := by omega
    have e2 : w64 (((n + 1 : Nat) : Int) - 1) = (n : Int) := by rw [w64_id (by omega) (by omega)]; omega
    simp only [s_l08Table_l1, hz, decide_true, cond_true, withK_n, e2]
    refine tb_l2 (code := code) s hs _ Q m N a sd hi [] (by omega) h0 h1 (by omega) (by simp; omega) (fun c hc => by cases hc) fun a' sd' l' w1 w2 w3 w4 => ?_
    refine appE (by unfold LIM; simp; omega) ?_
    refine ih N a' sd' (hi + 40) _ (by omega) w1 (by omega) (by omega) (by simp; omega) (fun r hr => ?_) (fun a2 sd2 l2 z1 z2 z3 z4 => k a2 sd2 l2 z1 (by omega) (by simp at z3; omega) z4)
    rcases List.mem_append.1 hr with hr | hr
    · exact h4 r hr
    · rw [List.mem_singleton.1 hr]; exact ⟨by simpa using w3, w4⟩
def T3 : List Str := [[127], [49, 50, 51, 52, 53, 54, 55, 56, 57, 48, 49, 50, 51, 52, 53, 54, 55, 56, 57, 48, 49, 50, 51, 52, 53, 54, 55, 56, 57, 48], [49, 50, 51, 52, 53, 54, 55, 56, 57, 48, 49, 50, 51, 52, 53, 54, 55, 56, 57, 48, 49, 50, 51, 52, 53, 54, 55, 56, 57, 48, 49]]
theorem t3_len : ∀ s ∈ T3, s.length ≤ 40 := by decide
theorem dTable {code : List UInt8} {hi : Int} {s : L00Src} (h : SrcAt code hi s) (hb : hi ≤ 1000) (N : Nat) (hN : 300 < N) : ∃ v, s_l08Table N s = some v ∧ SrcAt code (hi + 5000) v.2 ∧ SzT v.1 := by
  obtain ⟨hc, h0, h1⟩ := h
  unfold s_l08Table
  simp only [withK_n]
  refine bindE (pickA (code := code) (hi := hi) 4 ⟨hc, h0, h1⟩ (by omega)) fun v g => ?_
  obtain ⟨p, hp⟩ := Int.eq_ofNat_of_zero_le g.2.1
  have gp := g.2.2 (by omega)
  rw [hp] at gp ⊢
  refine bindE (oneA (code := code) (hi := hi + 2) 20 ⟨hc, g.1.2.1, g.1.2.2⟩ (by omega)) fun v2 g2 => ?_
  have rest : ∀ (a sd : Int) (n : Nat), 0 ≤ a → a ≤ hi + 20 → 1 ≤ n → n ≤ 15 → ∃ r, ((s_l00Src_pick (L00Src.mk s.code a sd) 4).bind fun r18 =>
      (s_l00Src_one (L00Src.mk s.code r18.2.at_ r18.2.seed) 20).bind fun r25 =>
      bif r25.1 then
        (s_l00Src_among (L00Src.mk s.code r25.2.at_ r25.2.seed) [0, 40, 41]).bind fun r29 =>
        s_l08Table_l1 (fun (x31 : Int) (x32 : Int) (l33 : List (List Str)) =>
          bif decide (r29.1 > 0) then
          (s_l00Src_pick (L00Src.mk s.code x31 x32) r29.1).bind fun r86 =>
          (idx l33 r86.1).bind fun e88 =>
          (s_l00Src_pick (L00Src.mk s.code r86.2.at_ r86.2.seed) 16).bind fun r92 =>
          bif (r92.1 == 0) then
          (s_l00Src_text (L00Src.mk s.code r92.2.at_ r92.2.seed) T3).bind fun r96 =>
          (idx e88 0).bind fun e98 =>
          some (List.set l33 (Int.toNat r86.1) (List.set e88 (Int.toNat 0) r96.1), L00Src.mk s.code r96.2.at_ r96.2.seed)
          else
          bif (r92.1 == 1) then
          (idx l33 0).bind fun e102 =>
          (sub e102 1 (List.length e102 : Int)).bind fun l106 =>
          (idx l33 0).bind fun e108 =>
          some (List.set l33 (Int.toNat 0) l106, L00Src.mk s.code r92.2.at_ r92.2.seed)
          else
          some (l33, L00Src.mk s.code r92.2.at_ r92.2.seed)
          else
          some (l33, L00Src.mk s.code x31 x32)) s (n : Int) N r29.2.at_ r29.2.seed ([] : List (List Str)) r29.1
      else
        s_l08Table_l1 (fun (x31 : Int) (x32 : Int) (l33 : List (List Str)) =>
          bif decide (w64 (1 + r18.1) > 0) then
          (s_l00Src_pick (L00Src.mk s.code x31 x32) (w64 (1 + r18.1))).bind fun r86 =>
          (idx l33 r86.1).bind fun e88 =>
          (s_l00Src_pick (L00Src.mk s.code r86.2.at_ r86.2.seed) 16).bind fun r92 =>
          bif (r92.1 == 0) then
          (s_l00Src_text (L00Src.mk s.code r92.2.at_ r92.2.seed) T3).bind fun r96 =>
          (idx e88 0).bind fun e98 =>
          some (List.set l33 (Int.toNat r86.1) (List.set e88 (Int.toNat 0) r96.1), L00Src.mk s.code r96.2.at_ r96.2.seed)
          else
          bif (r92.1 == 1) then
          (idx l33 0).bind fun e102 =>
          (sub e102 1 (List.length e102 : Int)).bind fun l106 =>
          (idx l33 0).bind fun e108 =>
          some (List.set l33 (Int.toNat 0) l106, L00Src.mk s.code r92.2.at_ r92.2.seed)
          else
          some (l33, L00Src.mk s.code r92.2.at_ r92.2.seed)
          else
          some (l33, L00Src.mk s.code x31 x32)) s (n : Int) N r25.2.at_ r25.2.seed ([] : List (List Str)) (w64 (1 + r18.1))) = some r ∧ SrcAt code (hi + 5000) r.2 ∧ SzT r.1 := by
    intro a sd n k0 k1 k2 k3
    have tail : ∀ (many : Nat) (a2 sd2 : Int), many ≤ 41 → 0 ≤ a2 → a2 ≤ hi + 40 → ∃ r, s_l08Table_l1 (fun (x31 : Int) (x32 : Int) (l33 : List (List Str)) =>
          bif decide ((many : Int) > 0) then
          (s_l00Src_pick (L00Src.mk s.code x31 x32) (many : Int)).bind fun r86 =>
          (idx l33 r86.1).bind fun e88 =>
          (s_l00Src_pick (L00Src.mk s.code r86.2.at_ r86.2.seed) 16).bind fun r92 =>
          bif (r92.1 == 0) then
          (s_l00Src_text (L00Src.mk s.code r92.2.at_ r92.2.seed) T3).bind fun r96 =>
          (idx e88 0).bind fun e98 =>
          some (List.set l33 (Int.toNat r86.1) (List.set e88 (Int.toNat 0) r96.1), L00Src.mk s.code r96.2.at_ r96.2.seed)
          else
          bif (r92.1 == 1) then
          (idx l33 0).bind fun e102 =>
          (sub e102 1 (List.length e102 : Int)).bind fun l106 =>
          (idx l33 0).bind fun e108 =>
          some (List.set l33 (Int.toNat 0) l106, L00Src.mk s.code r92.2.at_ r92.2.seed)
          else
          some (l33, L00Src.mk s.code r92.2.at_ r92.2.seed)
          else
          some (l33, L00Src.mk s.code x31 x32)) s (n : Int) N a2 sd2 ([] : List (List Str)) (many : Int) = some r ∧ SrcAt code (hi + 5000) r.2 ∧ SzT r.1 := by
      intro many a2 sd2 hm q0 q1
      refine tb_l1 (code := code) s hc n k3 _ _ many N a2 sd2 (hi + 40) [] (by omega) q0 q1 (by omega) (by simp; omega) (fun r hr => by cases hr) fun a' sd' l' w1 w2 w3 w4 => ?_
      simp only [List.length_nil, Nat.zero_add] at w3
      have hsz : SzT l' := ⟨by omega, fun r hr => ⟨by have := (w4 r hr).1; omega, (w4 r hr).2⟩⟩
      refine condE (fun hpos => ?_) (fun _ => ⟨_, rfl, ⟨hc, w1, by show a' ≤ _; omega⟩, hsz⟩)
      have hmp : 0 < many := by have := of_decide_eq_true hpos; omega
      refine bindE (pickA (code := code) (hi := hi + 2000) (many : Int) ⟨hc, w1, by show a' ≤ _; omega⟩ (by omega)) fun v3 g3 => ?_
      obtain ⟨p3, hp3⟩ := Int.eq_ofNat_of_zero_le g3.2.1
      have gp3 := g3.2.2 (by omega)
      rw [hp3] at gp3 ⊢
      rw [idx_lt l' p3 (by omega), Option.bind_some]
      have hr3 := w4 _ (List.getElem_mem (show p3 < l'.length by omega))
      refine bindE (pickA (code := code) (hi := hi + 2002) 16 ⟨hc, g3.1.2.1, by have := g3.1.2.2; show v3.2.at_ ≤ _; omega⟩ (by omega)) fun v4 g4 => ?_
      refine condE (fun _ => bindE (textA (code := code) (hi := hi + 2004) T3 (by decide) ⟨hc, g4.1.2.1, by have := g4.1.2.2; show v4.2.at_ ≤ _; omega⟩ (by omega)) fun v5 g5 => ?_) (fun _ => condE (fun _ => ?_) (fun _ => ⟨_, rfl, ⟨hc, g4.1.2.1, by have := g4.1.2.2; show v4.2.at_ ≤ _; omega⟩, hsz⟩))
      · rw [show (0 : Int) = ((0 : Nat) : Int) from rfl, idx_lt _ 0 (by omega), Option.bind_some]
        refine ⟨_, rfl, ⟨hc, g5.1.2.1, by have := g5.1.2.2; show v5.2.at_ ≤ _; omega⟩, by show (List.set _ _ _).length ≤ 50; rw [List.length_set]; omega, fun r hr => ?_⟩
        rcases List.mem_or_eq_of_mem_set hr with hr | hr
        · exact hsz.2 r hr
        · rw [hr]
          refine ⟨by rw [List.length_set]; omega, fun c hc => ?_⟩
          rcases List.mem_or_eq_of_mem_set hc with hc | hc
          · exact hr3.2 c hc
          · rw [hc]; exact t3_len _ g5.2
      · have hr0 := w4 _ (List.getElem_mem (show 0 < l'.length by omega))
        rw [show (0 : Int) = ((0 : Nat) : Int) from rfl, idx_lt l' 0 (by omega), Option.bind_some, sub_some _ 1 _ (by omega) (by omega) (by omega), Option.bind_some, Option.bind_some]
        refine ⟨_, rfl, ⟨hc, g4.1.2.1, by have := g4.1.2.2; show v4.2.at_ ≤ _; omega⟩, by show (List.set _ _ _).length ≤ 50; rw [List.length_set]; omega, fun r hr => ?_⟩
        rcases List.mem_or_eq_of_mem_set hr with hr | hr
        · exact hsz.2 r hr
        · rw [hr]
          refine ⟨by rw [List.length_take, List.length_drop]; omega, fun c hc => hr0.2 c (List.mem_of_mem_drop (List.mem_of_mem_take hc))⟩
    refine bindE (pickA (code := code) (hi := hi + 20) 4 ⟨hc, k0, k1⟩ (by omega)) fun v3 g3 => ?_
    refine bindE (oneA (code := code) (hi := hi + 22) 20 ⟨hc, g3.1.2.1, by have := g3.1.2.2; show v3.2.at_ ≤ _; omega⟩ (by omega)) fun v4 g4 => ?_
    refine condE (fun _ => bindE (amongA (code := code) (hi := hi + 24) [0, 40, 41] (by decide) ⟨hc, g4.2.1, by have := g4.2.2; show v4.2.at_ ≤ _; omega⟩ (by omega)) fun v5 g5 => ?_) (fun _ => ?_)
    · have hm : ∃ many : Nat, v5.1 = (many : Int) ∧ many ≤ 41 := by
        have := g5.2
        simp only [List.mem_cons, List.not_mem_nil, or_false] at this
        rcases this with h | h | h
        · exact ⟨0, h, by omega⟩
        · exact ⟨40, h, by omega⟩
        · exact ⟨41, h, by omega⟩
      obtain ⟨many, hm1, hm2⟩ := hm
      rw [hm1]
      exact tail many _ _ hm2 g5.1.2.1 (by have := g5.1.2.2; omega)
    · obtain ⟨p3, hp3⟩ := Int.eq_ofNat_of_zero_le g3.2.1
      have gp3 := g3.2.2 (by omega)
      rw [hp3] at gp3 ⊢
      have e : w64 (1 + (p3 : Int)) = ((1 + p3 : Nat) : Int) := by rw [w64_id (by omega) (by omega)]; omega
      rw [e]
      exact tail (1 + p3) _ _ (by omega) g4.2.1 (by have := g4.2.2; omega)
  refine condE (fun _ => bindE (pickA (code := code) (hi := hi + 4) 2 ⟨hc, g2.2.1, by have := g2.2.2; show v2.2.at_ ≤ _; omega⟩ (by omega)) fun v3 g3 => ?_) (fun _ => ?_)
  · obtain ⟨p3, hp3⟩ := Int.eq_ofNat_of_zero_le g3.2.1
    have gp3 := g3.2.2 (by omega)
    rw [hp3] at gp3 ⊢
    have e : w64 (12 + (p3 : Int)) = ((12 + p3 : Nat) : Int) := by rw [w64_id (by omega) (by omega)]; omega
    rw [e]
    exact rest _ _ (12 + p3) g3.1.2.1 (by have := g3.1.2.2; omega) (by omega) (by omega)
  · have e : w64 (1 + (p : Int)) = ((1 + p : Nat) : Int) := by rw [w64_id (by omega) (by omega)]; omega
    rw [e]
    exact rest _ _ (1 + p) g2.2.1 (by have := g2.2.2; omega) (by omega) (by omega)
end Go.Proofs.Ytpmanofdlhlkdaa
