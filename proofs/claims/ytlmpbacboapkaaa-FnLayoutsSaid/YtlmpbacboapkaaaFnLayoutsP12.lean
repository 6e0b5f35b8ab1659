/-
  Plain lemmas on these functions. No conditions but those that each states.
-/
import Derived.Test.YtlmpbacboapkaaaFnLayoutsP11
namespace Go.Proofs.Ytlmpbacboapkaaa
set_option linter.unusedVariables false
set_option linter.unusedSimpArgs false
theorem ds_l1 {code : List UInt8} (r13 : Str) (h13 : r13.length ≤ 100) (kj : Int → Int → Str → Option (Layout × Str)) (Q : Layout × Str → Prop) : ∀ (n N : Nat) (a sd hi : Int) (t : Str), n < N → 0 ≤ a → a ≤ hi → hi + 2 * n ≤ 1000000 → t.length + n ≤ 50 →
    (∀ a' sd' t', 0 ≤ a' → a' ≤ hi + 2 * n → t'.length ≤ 50 → ∃ r, kj a' sd' t' = some r ∧ Q r) → ∃ r, s_DrawRowShares_l1 kj code r13 N a sd t (n : Int) = some r ∧ Q r := by
  intro n
  induction n with
  | zero =>
    intro N a sd hi t hN h0 h1 h2 h3 k
    obtain ⟨N, rfl⟩ := pos_fuel hN
    have hz : ¬ ((0 : Nat) : Int) > 0 := by omega
    simp only [s_DrawRowShares_l1, hz, decide_false, andO_false, Option.bind_some, cond_false]
    exact k a sd t h0 (by omega) (by omega)
  | succ n ih =>
    intro N a sd hi t hN h0 h1 h2 h3 k
    obtain ⟨N, rfl⟩ := pos_fuel hN
    have hz : ((n + 1 : Nat) : Int) > 0 := by omega
    have e2 : w64 (((n + 1 : Nat) : Int) - 1) = (n : Int) := by rw [w64_id (by omega) (by omega)]; omega
    simp only [s_DrawRowShares_l1, hz, decide_true, andO_true, Option.bind_some, withK_eq, e2]
    refine condE (fun hne => ?_) fun _ => k a sd t h0 (by omega) (by omega)
    have hpos : 0 < r13.length := by
      cases r13 with
      | nil => cases hne
      | cons => simp
    refine bindE (pickA (code := code) (hi := hi) (s := L00Src.mk code a sd) (r13.length : Int) ⟨rfl, h0, h1⟩ (by omega)) fun v g => ?_
    have gc := g.2.2 (by omega)
    obtain ⟨p, hp⟩ := Int.eq_ofNat_of_zero_le g.2.1
    rw [hp] at gc ⊢
    rw [idx_lt r13 p (by omega), Option.bind_some]
    refine condE (fun _ => ?_) fun _ => ?_
    · rw [w64_nat p (by omega), sub1 r13 p (by omega), Option.bind_some, cat_some _ _ (by unfold LIM; simp; omega), Option.bind_some]
      exact ih N _ _ (hi + 2) _ (by omega) g.1.2.1 g.1.2.2 (by omega) (by simp; omega) (fun a' sd' t' w1 w2 w3 => k a' sd' t' w1 (by omega) w3)
    · exact ih N _ _ (hi + 2) _ (by omega) g.1.2.1 g.1.2.2 (by omega) (by omega) (fun a' sd' t' w1 w2 w3 => k a' sd' t' w1 (by omega) w3)
theorem ds_l2 (r : Int × L00Src) (h0 : 0 ≤ r.1) (h1 : r.1 ≤ 1) (kj : Str → Option (Layout × Str)) : ∀ (q N : Nat) (t : Str), t.length + q = 101 → q < N → ∃ t', s_DrawRowShares_l2 kj r N t = kj t' ∧ t'.length ≤ 101 := by
  intro q
  induction q with
  | zero =>
    intro N t ht hN
    obtain ⟨N, rfl⟩ := pos_fuel hN
    rw [s_DrawRowShares_l2, w64_id (by omega) (by omega), decide_eq_false (by omega), cond_false]
    exact ⟨t, rfl, by omega⟩
  | succ q ih =>
    intro N t ht hN
    obtain ⟨N, rfl⟩ := pos_fuel hN
    rw [s_DrawRowShares_l2, w64_id (by omega) (by omega)]
    by_cases hc : (t.length : Int) < 100 + r.1
    · rw [decide_eq_true hc, cond_true, cat_some _ _ (by unfold LIM; simp; omega), Option.bind_some]
      exact ih N _ (by simp; omega) (by omega)
    · rw [decide_eq_false hc, cond_false]
      exact ⟨t, rfl, by omega⟩
theorem dshares (code : List UInt8) (N : Nat) (hN : 300 < N) : ∃ r, s_DrawRowShares N code = some r ∧ (BL r.1 ∧ r.2.length ≤ 300) := by
  unfold s_DrawRowShares
  rw [fromA, Option.bind_some]
  refine bindE (bent_ok (code := code) (hi := 0) (s := L00Src.mk code 0 0) ⟨rfl, Int.le_refl _, Int.le_refl _⟩ (by omega) N (by omega)) fun v g => ?_
  have hB := g.2
  rw [show s_l06Text N (Layout.mk v.1.rows) = some (Lib.join v.1.rows [47]) from stext v.1.rows hB.b.1 hB.b.2 N (by omega), Option.bind_some]
  have hl := hB.text
  simp only [withK_eq]
  refine bindE (pickA (code := code) (hi := 0 + 200) (s := L00Src.mk code v.2.at_ v.2.seed) 20 ⟨rfl, g.1.2⟩ (by omega)) fun v2 k2 => ?_
  have kc := k2.2.2 (by omega)
  obtain ⟨p, hp⟩ := Int.eq_ofNat_of_zero_le k2.2.1
  rw [hp] at kc ⊢
  refine ds_l1 (code := code) _ hl _ (fun r => BL r.1 ∧ r.2.length ≤ 300) p N _ _ (0 + 200 + 2) [] (by omega) k2.1.2.1 k2.1.2.2 (by omega) (by simp; omega) fun a' sd' t' w1 w2 w3 => ?_
  refine bindE (pickA (code := code) (hi := 300) (s := L00Src.mk code a' sd') 12 ⟨rfl, w1, by show a' ≤ 300; omega⟩ (by omega)) fun v3 k3 => ?_
  refine condE (fun _ => ?_) fun _ => condE (fun _ => ?_) fun _ => ⟨_, rfl, hB, by show t'.length ≤ 300; omega⟩
  · refine bindE (textA (code := code) (hi := 300 + 2) (s := L00Src.mk code v3.2.at_ v3.2.seed) _ (by decide) ⟨rfl, k3.1.2⟩ (by omega)) fun v4 k4 => ?_
    have hv4 : v4.1.length ≤ 2 := by
      have : ∀ x ∈ ([[126], [32], [127]] : List Str), x.length ≤ 2 := by decide
      exact this _ k4.2
    rw [cat_some _ _ (by unfold LIM; omega), Option.bind_some]
    exact ⟨_, rfl, hB, by show (t' ++ v4.1).length ≤ 300; rw [List.length_append]; omega⟩
  · refine bindE (pickA (code := code) (hi := 300 + 2) (s := L00Src.mk code v3.2.at_ v3.2.seed) 2 ⟨rfl, k3.1.2⟩ (by omega)) fun v4 k4 => ?_
    have kc4 := k4.2.2 (by omega)
    obtain ⟨t2, e, h⟩ := ds_l2 v4 k4.2.1 (by omega) (fun text44 => some (Layout.mk v.1.rows, text44)) (101 - t'.length) N t' (by omega) (by omega)
    rw [e]
    exact ⟨_, rfl, hB, by show t2.length ≤ 300; omega⟩
/-! what is the same as itself -/
theorem sm_l1 (rows : List Str) (hr : rows.length ≤ 10) (kj : Option Bool) : ∀ (q x N : Nat), x + q = rows.length → q < N → s_SameLayout_l1 kj (Layout.mk rows) (Layout.mk rows) N (x : Int) = kj := by
  intro q
  induction q with
  | zero =>
    intro x N hx hN
    obtain ⟨N, rfl⟩ := pos_fuel hN
    rw [s_SameLayout_l1, decide_eq_false (by show ¬ (x : Int) < (rows.length : Int); omega), cond_false]
  | succ q ih =>
    intro x N hx hN
    obtain ⟨N, rfl⟩ := pos_fuel hN
    have hlt : x < rows.length := by omega
    have hne : (rows[x] != rows[x]) = false := by simp
    rw [s_SameLayout_l1, decide_eq_true (by show (x : Int) < (rows.length : Int); omega), cond_true, idx_lt rows x hlt, Option.bind_some, Option.bind_some, hne, cond_false, w64_nat x (by omega)]
    exact ih (x + 1) N (by omega) (by omega)
theorem same_ok (rows : List Str) (hr : rows.length ≤ 10) (N : Nat) (hN : 20 < N) : s_SameLayout N (Layout.mk rows) (Layout.mk rows) = some true := by
  unfold s_SameLayout
  have hne : (((Layout.mk rows).rows.length : Int) != ((Layout.mk rows).rows.length : Int)) = false := by simp
  rw [hne, cond_false, withK_n]
  exact sm_l1 rows hr (some true) rows.length 0 N (by omega) (by omega)
theorem fi_l1 (l : List Int) (hl : l.length ≤ 100) (kj : Option Bool) : ∀ (q x N : Nat), x + q = l.length → q < N → w_f6ints_l1 kj l l N (x : Int) = kj := by
  intro q
  induction q with
  | zero =>
    intro x N hx hN
    obtain ⟨N, rfl⟩ := pos_fuel hN
    rw [w_f6ints_l1, decide_eq_false (by omega : ¬ (x : Int) < (l.length : Int)), cond_false]
  | succ q ih =>
    intro x N hx hN
    obtain ⟨N, rfl⟩ := pos_fuel hN
    have hlt : x < l.length := by omega
    have hne : (l[x] != l[x]) = false := by simp
    rw [w_f6ints_l1, decide_eq_true (by omega : (x : Int) < (l.length : Int)), cond_true, idx_lt l x hlt, Option.bind_some, Option.bind_some, hne, cond_false, w64_nat x (by omega)]
    exact ih (x + 1) N (by omega) (by omega)
theorem ints_ok (l : List Int) (hl : l.length ≤ 100) (N : Nat) (hN : 200 < N) : w_f6ints N l l = some true := by
  unfold w_f6ints
  have hne : ((l.length : Int) != (l.length : Int)) = false := by simp
  rw [hne, cond_false, withK_n]
  exact fi_l1 l hl (some true) l.length 0 N (by omega) (by omega)
theorem fs_l1 (l : List Int) (hl : l.length ≤ 100) (hb : ∀ v ∈ l, 0 ≤ v ∧ v ≤ 300) (kj : Int → Option Int) : ∀ (q x N : Nat) (s : Int), x + q = l.length → q < N → 0 ≤ s → s ≤ 300 * x → w_f6sum_l1 kj l N s (x : Int) = kj (s + isum (l.drop x)) := by
  intro q
  induction q with
  | zero =>
    intro x N s hx hN h0 h1
    obtain ⟨N, rfl⟩ := pos_fuel hN
    rw [w_f6sum_l1, decide_eq_false (by omega : ¬ (x : Int) < (l.length : Int)), cond_false, List.drop_eq_nil_of_le (by omega)]
    simp only [isum, Int.add_zero]
  | succ q ih =>
    intro x N s hx hN h0 h1
    obtain ⟨N, rfl⟩ := pos_fuel hN
    have hlt : x < l.length := by omega
    have hv := hb _ (List.getElem_mem hlt)
    rw [w_f6sum_l1, decide_eq_true (by omega : (x : Int) < (l.length : Int)), cond_true, idx_lt l x hlt, Option.bind_some, w64_nat x (by omega), w64_id (by omega) (by omega), List.drop_eq_getElem_cons hlt, isum, ← Int.add_assoc]
    exact ih (x + 1) N _ (by omega) (by omega) (by omega) (by omega)
theorem sum_ok (l : List Int) (hl : l.length ≤ 100) (hb : ∀ v ∈ l, 0 ≤ v ∧ v ≤ 300) (N : Nat) (hN : 200 < N) : w_f6sum N l = some (isum l) := by
  unfold w_f6sum
  rw [withK_n]
  have := fs_l1 l hl hb (fun s => some s) l.length 0 N 0 (by omega) (by omega) (Int.le_refl _) (by omega)
  rw [show ((0 : Nat) : Int) = 0 from rfl, List.drop_zero, Int.zero_add] at this
  exact this
theorem law_FnLayouts (code : List UInt8) (_ : wfL wfByte code) : ∃ N, w_FnLayouts N code = some true := by
  refine ⟨20000, ?_⟩
  obtain ⟨N, hN⟩ : ∃ N, N = 20000 := ⟨_, rfl⟩
  rw [← hN]
  unfold w_FnLayouts w_f6big
  rw [Option.bind_some]
  cases decide ((code.length : Int) > 4096)
  case true => rfl
  rw [cond_false]
  obtain ⟨t, e1, h1⟩ := dfault code N (by omega)
  obtain ⟨f1, f2⟩ := fault_ok t (by omega) N (by omega)
  obtain ⟨rd, e2, e3, hrd⟩ := read_ok t (by omega) N (by omega)
  obtain ⟨⟨x, p, q⟩, e4, hx⟩ := dexch code N (by omega)
  obtain ⟨xr, e5, e6, hxl, hx0, _⟩ := exch_ok x.rows (BL.b hx).1 (BL.b hx).2 p q N (by omega)
  obtain ⟨⟨d, le⟩, e7, hd⟩ := dspot code N (by omega)
  obtain ⟨sp, e8, e9, hsp⟩ := spot_ok d.rows (BL.b hd).1 (BL.b hd).2 le N (by omega)
  obtain ⟨m1, m2⟩ := mirror_ok d.rows (BL.b hd).1 (BL.b hd).2 N (by omega)
  obtain ⟨⟨y, note⟩, e10, hy, hnote⟩ := dshares code N (by omega)
  obtain ⟨sh, e11, e12, hs0, hsl, hsv⟩ := shares_ok y.rows (BL.b hy).1 (BL.b hy).2 note hnote N (by omega)
  obtain ⟨t1, t2⟩ := ltext d.rows (BL.b hd).1 (BL.b hd).2 N (by omega)
  have v1 := ivalid d.rows (BL.b hd).1 (BL.b hd).2 N (by omega)
  have v2 : s_ValidLayout N (Layout.mk d.rows) = some (VL d.rows) := by
    unfold s_ValidLayout
    rw [show s_l06Ok N (Layout.mk (Layout.mk d.rows).rows) = some (VL d.rows) from svalid d.rows (BL.b hd).1 (BL.b hd).2 N (by omega)]
    rfl
  have hsf : s_LayoutFault N t = some (FT t) := by unfold s_LayoutFault; rw [f2, Option.bind_some]
  have hrl : rd.1.rows.length ≤ 10 ∧ (rd.2 = ((FT t).1 == 0)) ∧ (rd.2 = true → rd.1.rows = spl t [] ∧ V (spl t [])) := by
    rw [hrd]
    by_cases h0 : (FT t).1 = 0
    · have hV := fault_V t h0
      have hb : ((FT t).1 != 0) = false := by rw [h0]; rfl
      rw [hb, cond_false]
      exact ⟨(V_b hV).1, (beq_iff_eq.2 h0).symm, fun _ => ⟨rfl, hV⟩⟩
    · have hb : ((FT t).1 != 0) = true := bne_iff_ne.2 h0
      rw [hb, cond_true]
      exact ⟨by simp, (beq_eq_false_iff_ne.2 h0).symm, fun h => by cases h⟩
  have hml : (bif VL d.rows then (Layout.mk (mir d.rows), (0 : Int)) else (Layout.mk [], 1)).1.rows.length ≤ 10 := by
    cases VL d.rows with
    | false => simp
    | true => show (mir d.rows).length ≤ 10; unfold mir; have := (BL.b hd).1; simpa using this
  have s1 := same_ok rd.1.rows hrl.1 N (by omega)
  have s2 := same_ok xr.1.rows hxl N (by omega)
  have s3 := same_ok _ hml N (by omega)
  have s4 := ints_ok sh.1 (by omega) N (by omega)
  rw [e1, Option.bind_some, f1, Option.bind_some, hsf, Option.bind_some, e2, Option.bind_some, e3, Option.bind_some, e4, Option.bind_some]
  dsimp only
  rw [e5, Option.bind_some, e6, Option.bind_some, e7, Option.bind_some]
  dsimp only
  rw [e8, Option.bind_some, e9, Option.bind_some, m1, Option.bind_some, m2, Option.bind_some, e10, Option.bind_some]
  dsimp only
  rw [e11, Option.bind_some, e12, Option.bind_some, s1, s2, s3, s4, t1, t2, v1, v2]
  have zi : ∀ a : Int, (a != a) = false := fun a => by simp
  have zb : ∀ a : Bool, (a != a) = false := fun a => by cases a <;> rfl
  have zs : ∀ a : Str, (a != a) = false := fun a => by simp
  simp only [zi, zb, zs, orO_false, Option.bind_some, Bool.not_true, cond_false]
  obtain ⟨g1, g2⟩ := ft_rng t [] 1 0 0
  have p1 : (orO (rd.2 != ((FT t).1 == 0)) ((andO rd.2 ((i_LayoutText N (Layout.mk rd.1.rows)).bind fun r133 => some (r133 != t))).bind fun t130 => some t130)) = some false := by
    rw [← hrl.2.1, zb, orO_false]
    cases hr2 : rd.2 with
    | false => rfl
    | true =>
      obtain ⟨q1, q2⟩ := hrl.2.2 hr2
      rw [q1, andO_true, (ltext (spl t []) (V_b q2).1 (V_b q2).2 N (by omega)).1, (VL_iff _).2 q2, cond_true, Option.bind_some, spl_join, List.nil_append, zs]
      rfl
  have p2 : decide ((FT t).2 < 0) = false := decide_eq_false (by unfold FT; omega)
  have p3 : decide ((FT t).2 > (t.length : Int)) = false := decide_eq_false (by unfold FT; omega)
  rw [p1, Option.bind_some, orO_some, p2, Option.bind_some, Bool.or_self, orO_some, p3, Bool.or_self, Option.bind_some, cond_false, withK_n]
  have pS : (andO (sp.2.2 == 0) ((idx d.rows sp.1).bind fun e159 => (idx e159 sp.2.1).bind fun c161 => (idx le 0).bind fun c163 => some (c161 != c163))) = some false := by
    by_cases h0 : sp.2.2 = 0
    · obtain ⟨c, i, k, w, q1, q2, q3, q4⟩ := hsp h0
      rw [q1, q2]
      have i1 : idx d.rows (i : Int) = some w := by rw [idx_nat]; exact q3
      have i2 : idx w (k : Int) = some c := by rw [idx_nat]; exact q4
      have i3 : idx ([c] : Str) 0 = some c := rfl
      show (andO true ((idx d.rows (i : Int)).bind _)) = _
      rw [andO_true, i1, Option.bind_some]
      show ((idx w (k : Int)).bind _) = _
      rw [i2, Option.bind_some, i3, Option.bind_some]
      simp
    · rw [beq_eq_false_iff_ne.2 h0]; rfl
  have pM : ∀ kj : Option Bool, (bif ((bif VL d.rows then (Layout.mk (mir d.rows), (0 : Int)) else (Layout.mk [], 1)).2 == 0) then (i_MirrorLayout N (Layout.mk (bif VL d.rows then (Layout.mk (mir d.rows), (0 : Int)) else (Layout.mk [], 1)).1.rows)).bind fun r169 => (orO (r169.2 != 0) ((s_SameLayout N (Layout.mk r169.1.rows) (Layout.mk d.rows)).bind fun r177 => some (!r177))).bind fun t174 => bif t174 then some false else kj else kj) = kj := fun kj => by
    cases hv : VL d.rows with
    | false => rfl
    | true =>
      have hV := V_mir ((VL_iff _).1 hv)
      show (i_MirrorLayout N (Layout.mk (mir d.rows))).bind _ = kj
      rw [(mirror_ok (mir d.rows) (V_b hV).1 (V_b hV).2 N (by omega)).1, (VL_iff _).2 hV, cond_true, Option.bind_some, mir_mir]
      show (orO ((0 : Int) != 0) ((s_SameLayout N (Layout.mk d.rows) (Layout.mk d.rows)).bind _)).bind _ = kj
      rw [same_ok d.rows (BL.b hd).1 N (by omega)]
      rfl
  have pE : ∀ kj : Option Bool, (bif (xr.2 == 0) then (i_ExchangeLetters N (Layout.mk xr.1.rows) p q).bind fun r145 => (orO (r145.2 != 0) ((s_SameLayout N (Layout.mk r145.1.rows) (Layout.mk x.rows)).bind fun r153 => some (!r153))).bind fun t150 => bif t150 then some false else kj else kj) = kj := fun kj => by
    by_cases h0 : xr.2 = 0
    · obtain ⟨a, b, q1, q2, hV, ha, hb, q3⟩ := hx0 h0
      have hV2 := V_chg hV ha hb
      obtain ⟨c1, c2⟩ := chg_mem ha hb
      obtain ⟨r, r1, _, _, _, r4⟩ := exch_ok (chg a b x.rows) (V_b hV2).1 (V_b hV2).2 p q N (by omega)
      have r5 := r4 a b q1 q2 hV2 c1 c2
      rw [chg_chg] at r5
      rw [q3]
      show (i_ExchangeLetters N (Layout.mk (chg a b x.rows)) p q).bind _ = kj
      rw [r1, Option.bind_some, r5]
      show (orO ((0 : Int) != 0) ((s_SameLayout N (Layout.mk x.rows) (Layout.mk x.rows)).bind _)).bind _ = kj
      rw [same_ok x.rows (BL.b hx).1 N (by omega)]
      rfl
    · rw [beq_eq_false_iff_ne.2 h0]; rfl
  have pR : (orO (sh.2 != 0) ((w_f6sum N sh.1).bind fun r183 => some (r183 == (note.length : Int)))) = some true := by
    rw [sum_ok sh.1 (by omega) hsv N (by omega), Option.bind_some, orO_some]
    by_cases h0 : sh.2 = 0
    · rw [hs0 h0]; simp
    · rw [bne_iff_ne.2 h0]; rfl
  rw [pE, pS, Option.bind_some, cond_false, withK_n, pM, pR]
  rfl
end Go.Proofs.Ytlmpbacboapkaaa
