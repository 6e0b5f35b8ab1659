/-
  Plain lemmas on these functions. No conditions but those that each states.
-/
import Derived.Test.YtdkhpbfciajaeaaFnTextCostsP8
namespace Go.Proofs.Ytdkhpbfciajaeaa
set_option linter.unusedVariables false
set_option linter.unusedSimpArgs false
/-! Validity, and the best layout. -/
theorem bet_ok (n lo hi : Int) (h1 : lo ≤ n) (h2 : n ≤ hi) : i_between n lo hi = some true := by
  unfold i_between
  rw [decide_eq_true (by omega : n ≥ lo), decide_eq_true h2]; rfl
theorem vb_l1 (bd : List Place) (hb : BL bd) (kj : Option Bool) : ∀ (q i N : Nat), i + q = bd.length → q < N → i_ValidBoard_l1 kj bd N (i : Int) = kj := by
  have h5 := hb.2.1
  intro q
  induction q with
  | zero =>
    intro i N hi hN
    obtain ⟨N, rfl⟩ := pos_fuel hN
    have hz : ¬ (i : Int) < (bd.length : Int) := by omega
    simp only [i_ValidBoard_l1, hz, decide_false, cond_false]
  | succ q ih =>
    intro i N hi hN
    obtain ⟨N, rfl⟩ := pos_fuel hN
    have hz : (i : Int) < (bd.length : Int) := by omega
    have hlt : i < bd.length := by omega
    have h := hb.2.2 _ (List.getElem_mem hlt)
    simp only [i_ValidBoard_l1, hz, decide_true, cond_true]
    rw [idx_lt bd i hlt, Option.bind_some, bet_ok _ _ _ h.1 h.2.1, bet_ok _ _ _ h.2.2.1 h.2.2.2.1, bet_ok _ _ _ (by omega) (by omega)]
    simp only [Option.bind_some, Bool.not_true, orO_false, cond_false]
    rw [w64_nat i (by omega)]
    exact ih (i + 1) N (by omega) (by omega)
theorem vb_ok (bd : List Place) (hb : BL bd) (N : Nat) (hN : 20 < N) : i_ValidBoard N bd = some true := by
  have h5 := hb.2.1
  have h1 := hb.1
  unfold i_ValidBoard
  rw [bet_ok _ _ _ (by omega) (by omega), Option.bind_some]
  simp only [Bool.not_true, cond_false, withK_eq]
  have := vb_l1 bd hb (some true) bd.length 0 N (by omega) (by omega)
  rw [show ((0 : Nat) : Int) = 0 from rfl] at this
  exact this
theorem it_l1 (s : Str) (hc : ∀ c ∈ s, 32 ≤ c.toNat ∧ c.toNat ≤ 126) (hl : s.length ≤ 100) : ∀ (n i N : Nat), i + n = s.length → n < N → i_isText_l1 (some true) s 32 N (i : Int) = some true := by
  intro n
  induction n with
  | zero =>
    intro i N hi hN
    obtain ⟨N, rfl⟩ := pos_fuel hN
    have hz : ¬ (i : Int) < (s.length : Int) := by omega
    simp only [i_isText_l1, hz, decide_false, cond_false]
  | succ n ih =>
    intro i N hi hN
    obtain ⟨N, rfl⟩ := pos_fuel hN
    have hz : (i : Int) < (s.length : Int) := by omega
    have hlt : i < s.length := by omega
    have hci := hc _ (List.getElem_mem hlt)
    have d1 : decide (s[i] < (32 : UInt8)) = false := decide_eq_false (by rw [UInt8.lt_iff_toNat_lt]; show ¬ s[i].toNat < 32; omega)
    have d2 : decide (s[i] > (126 : UInt8)) = false := decide_eq_false (by show ¬ (126 : UInt8) < s[i]; rw [UInt8.lt_iff_toNat_lt]; show ¬ 126 < s[i].toNat; omega)
    simp only [i_isText_l1, hz, decide_true, cond_true, idx_lt s i hlt, Option.bind_some, d1, d2, orO_false, cond_false]
    rw [w64_nat i (by omega)]
    exact ih (i + 1) N (by omega) (by omega)
theorem it_ok (s : Str) (hc : ∀ c ∈ s, 32 ≤ c.toNat ∧ c.toNat ≤ 126) (hl : s.length ≤ 6) (N : Nat) (hN : 100 < N) : i_isText N s 32 6 = some true := by
  unfold i_isText
  rw [decide_eq_false (by omega), cond_false]
  simp only [withK_eq]
  exact it_l1 s hc (by omega) s.length 0 N (by omega) (by omega)
/-- a table marks letters -/
def Tb (t : List Bool) (s : List UInt8) : Prop := t.length = 256 ∧ ∀ c : UInt8, t[c.toNat]?.getD false = decide (c ∈ s)
theorem Tb.nil : Tb (List.replicate 256 false) [] := ⟨List.length_replicate, fun c => by
  have : c.toNat < 256 := c.toNat_lt
  rw [List.getElem?_replicate, if_pos this]
  rfl⟩
theorem Tb.put {t : List Bool} {s : List UInt8} (h : Tb t s) (c : UInt8) : Tb (t.set c.toNat true) (s ++ [c]) := by
  obtain ⟨h1, h2⟩ := h
  refine ⟨by rw [List.length_set]; exact h1, fun x => ?_⟩
  have hc : c.toNat < t.length := by rw [h1]; exact c.toNat_lt
  by_cases e : c.toNat = x.toNat
  · have e2 : x = c := (UInt8.toNat_inj.1 e).symm
    subst e2
    rw [List.getElem?_set_self hc]
    simp
  · rw [List.getElem?_set_ne e, h2 x]
    have e2 : x ≠ c := fun g => e (by rw [g])
    simp [e2]
theorem Tb.idx {t : List Bool} {s : List UInt8} (h : Tb t s) (c : UInt8) : idx t (c.toNat : Int) = some (decide (c ∈ s)) := by
  have hc : c.toNat < t.length := by rw [h.1]; exact c.toNat_lt
  rw [idx_lt t c.toNat hc, ← h.2 c, List.getElem?_eq_getElem hc]
  rfl
theorem bl_l1 (L : Str) (hL : L.Nodup) (hl : L.length ≤ 100) : ∀ (q i N : Nat) (t : List Bool), i + q = L.length → q < N → Tb t (L.take i) → i_isBoardLayout_l1 (some true) L N t (i : Int) = some true := by
  intro q
  induction q with
  | zero =>
    intro i N t hi hN ht
    obtain ⟨N, rfl⟩ := pos_fuel hN
    have hz : ¬ (i : Int) < (L.length : Int) := by omega
    simp only [i_isBoardLayout_l1, hz, decide_false, cond_false]
  | succ q ih =>
    intro i N t hi hN ht
    obtain ⟨N, rfl⟩ := pos_fuel hN
    have hz : (i : Int) < (L.length : Int) := by omega
    have hlt : i < L.length := by omega
    have hni : L[i] ∉ L.take i := fun hm => by
      obtain ⟨j, hj, e⟩ := List.getElem_of_mem hm
      rw [List.length_take] at hj
      rw [List.getElem_take] at e
      exact List.pairwise_iff_getElem.1 hL j i (by omega) hlt (by omega) e
    simp only [i_isBoardLayout_l1, hz, decide_true, cond_true, idx_lt L i hlt, Option.bind_some, ht.idx, decide_eq_false hni, cond_false, Int.toNat_natCast]
    rw [w64_nat i (by omega)]
    refine ih (i + 1) N _ (by omega) (by omega) ?_
    rw [List.take_succ_eq_append_getElem hlt]
    exact ht.put _
theorem bl_ok (bd : List Place) (hb : BL bd) (L : Str) (hL : LY bd.length L) (N : Nat) (hN : 200 < N) : i_isBoardLayout N bd L = some true := by
  have h5 := hb.2.1
  obtain ⟨h1, h2, h3⟩ := hL
  unfold i_isBoardLayout
  have c1 : ((L.length : Int) != (bd.length : Int)) = false := by rw [h1]; simp
  rw [c1, orO_false, it_ok L h3 (by omega) N (by omega)]
  simp only [Option.bind_some, Bool.not_true, cond_false, withK_eq]
  exact bl_l1 L h2 (by omega) L.length 0 N _ (by omega) (by omega) Tb.nil
def TT (t L : Str) : Prop := t.length ≤ 19 ∧ ∀ c ∈ t, c ∈ L
theorem so_ok (bd : List Place) (hb : BL bd) (L t : Str) (hL : LY bd.length L) (ht : TT t L) (N : Nat) (hN : 300 < N) : i_strokesOf N bd L t = some (pls L t, 0) := by
  have h5 := hb.2.1
  unfold i_strokesOf
  rw [vb_ok bd hb N (by omega), Option.bind_some]
  simp only [Bool.not_true, cond_false]
  rw [bl_ok bd hb L hL N (by omega), Option.bind_some]
  simp only [Bool.not_true, cond_false]
  rw [places_ok L t hL.2.1 (by rw [hL.1]; omega) ht.1 ht.2 N (by omega), Option.bind_some]
  rfl
def cst (bd : List Place) (t L : Str) : Int := ct bd (pls L t)
theorem cst_rng (bd : List Place) (hb : BL bd) (L t : Str) (hL : LY bd.length L) (ht : TT t L) : 0 ≤ cst bd t L ∧ cst bd t L ≤ 1000 := by
  have := ct_rng bd hb (pls L t) (pls_in _ L t hL.1 ht.2)
  have h2 : (pls L t).length = t.length := by simp [pls]
  have := ht.1
  unfold cst; omega
theorem pc_ok (bd : List Place) (hb : BL bd) (L t : Str) (hL : LY bd.length L) (ht : TT t L) (N : Nat) (hN : 300 < N) : i_placesCost N bd (pls L t) = some (cst bd t L) :=
  cost_ok bd hb _ (pls_in _ L t hL.1 ht.2) (by have := ht.1; simp [pls]; omega) N (by omega)
theorem tc_ok (bd : List Place) (hb : BL bd) (L t : Str) (hL : LY bd.length L) (ht : TT t L) (N : Nat) (hN : 300 < N) : i_TextCost N bd L t = some (cst bd t L, 0) := by
  unfold i_TextCost
  rw [so_ok bd hb L t hL ht N hN, Option.bind_some]
  simp only [bne_self_eq_false, cond_false]
  rw [pc_ok bd hb L t hL ht N hN, Option.bind_some]
/-- letters as numbers and back -/
def nums (L : Str) : List Int := L.map fun c => (c.toNat : Int)
def bts (l : List Int) : Str := l.map UInt8.ofInt
theorem bts_nums (L : Str) : bts (nums L) = L := by
  unfold bts nums
  rw [List.map_map]
  conv => rhs; rw [← List.map_id L]
  refine List.map_congr_left fun c _ => UInt8.toNat_inj.1 ?_
  have h := c.toNat_lt
  simp [UInt8.ofInt, UInt8.toNat_ofNat']
  omega
theorem bts_perm {l : List Int} {L : Str} (h : l.Perm (nums L)) : (bts l).Perm L := by
  have := h.map UInt8.ofInt
  rwa [show (nums L).map UInt8.ofInt = L from bts_nums L] at this
theorem dg_perm {l : List Int} {L : Str} (h : l.Perm (nums L)) : Dg 256 l := fun x hx => by
  obtain ⟨c, _, rfl⟩ := List.mem_map.1 (h.mem_iff.1 hx)
  have := c.toNat_lt
  exact ⟨by omega, by show (c.toNat : Int) < 256; omega⟩
theorem be_l3 (l : List Int) (hl : l.length ≤ 100) (kj : List UInt8 → Option (Str × Int × Int)) : ∀ (q i N : Nat), i + q = l.length → q < N → i_BestLayout_l3 kj l N (bts (l.take i)) (i : Int) = kj (bts l) := by
  intro q
  induction q with
  | zero =>
    intro i N hi hN
    obtain ⟨N, rfl⟩ := pos_fuel hN
    have hz : ¬ (i : Int) < (l.length : Int) := by omega
    simp only [i_BestLayout_l3, hz, decide_false, cond_false]
    rw [List.take_of_length_le (by omega)]
  | succ q ih =>
    intro i N hi hN
    obtain ⟨N, rfl⟩ := pos_fuel hN
    have hz : (i : Int) < (l.length : Int) := by omega
    have hlt : i < l.length := by omega
    simp only [i_BestLayout_l3, hz, decide_true, cond_true]
    rw [idx_lt l i hlt, Option.bind_some, app_some _ _ (by unfold LIM bts; simp; omega), Option.bind_some, w64_nat i (by omega)]
    have e3 : bts (l.take i) ++ [UInt8.ofInt l[i]] = bts (l.take (i + 1)) := by
      unfold bts; rw [List.take_succ_eq_append_getElem hlt, List.map_append]; rfl
    rw [e3]
    exact ih (i + 1) N (by omega) (by omega)
/-- what is known of the best so far -/
def SB (bd : List Place) (t lay best : Str) (least : Int) : Prop := (least = -1 ∧ best = []) ∨ (0 ≤ least ∧ best.Perm lay ∧ cst bd t best = least)
theorem be_l2 (bd : List Place) (hb : BL bd) (lay t : Str) (hL : LY bd.length lay) (ht : TT t lay) : ∀ (d : Nat) (l : List Int) (best : Str) (least : Int) (N : Nat), l.Perm (nums lay) → 256 ^ l.length ≤ d + vl 256 l → d + 1000 < N → SB bd t lay best least → (∀ m : List Int, m.Perm (nums lay) → lxle m l → m ≠ l → 0 ≤ least ∧ least ≤ cst bd t (bts m)) →
    ∃ b c, i_BestLayout_l2 bd t N l best least = some (b, c, 0) ∧ 0 ≤ c ∧ b.Perm lay ∧ cst bd t b = c ∧ ∀ m : List Int, m.Perm (nums lay) → c ≤ cst bd t (bts m) := by
  have h5 := hb.2.1
  have h1 := hb.1
  intro d
  induction d with
  | zero =>
    intro l best least N hp hd
    have := vl_lt 256 l (dg_perm hp)
    omega
  | succ d ih =>
    intro l best least N hp hd hN hs hm
    obtain ⟨N, rfl⟩ := pos_fuel (show 0 < N by omega)
    have hll : l.length = lay.length := by rw [hp.length_eq]; simp [nums]
    have hly := hL.1
    have hbp := bts_perm hp
    have hLb := hL.perm hbp
    have htb : TT t (bts l) := ⟨ht.1, fun c hc => hbp.mem_iff.2 (ht.2 c hc)⟩
    have hcr := cst_rng bd hb _ t hLb htb
    simp only [i_BestLayout_l2, withK_eq]
    have e3 := be_l3 l (by omega) (fun l35 => (i_placesOf N l35 t).bind fun r49 => (i_placesCost N bd r49.1).bind fun r56 => (orO (decide (least < 0)) (some (decide (r56 < least)))).bind fun t58 =>
      bif t58 then (i_nextPermutation N l).bind fun r62 => bif !r62.1 then some (l35, r56, 0) else i_BestLayout_l2 bd t N r62.2 l35 r56
      else (i_nextPermutation N l).bind fun r62 => bif !r62.1 then some (best, least, 0) else i_BestLayout_l2 bd t N r62.2 best least) l.length 0 N (by omega) (by omega)
    rw [show ((0 : Nat) : Int) = 0 from rfl, show bts (l.take 0) = [] from rfl] at e3
    rw [e3, places_ok _ t hLb.2.1 (by rw [hLb.1]; omega) htb.1 htb.2 N (by omega), Option.bind_some, pc_ok bd hb _ t hLb htb N (by omega), Option.bind_some, orO_some, Option.bind_some]
    have fin : ∀ (b' : Str) (c' : Int), 0 ≤ c' → b'.Perm lay → cst bd t b' = c' → (∀ m : List Int, m.Perm (nums lay) → lxle m l → c' ≤ cst bd t (bts m)) →
        ∃ b c, ((i_nextPermutation N l).bind fun r62 => bif !r62.1 then some (b', c', 0) else i_BestLayout_l2 bd t N r62.2 b' c') = some (b, c, 0) ∧ 0 ≤ c ∧ b.Perm lay ∧ cst bd t b = c ∧ ∀ m : List Int, m.Perm (nums lay) → c ≤ cst bd t (bts m) := fun b' c' q0 q1 q2 q3 => by
      rcases np_next 256 l (dg_perm hp) (by omega) (by omega) N (by omega) with ⟨n1, n2⟩ | ⟨l', n1, n2, n3, n4⟩
      · rw [n1, Option.bind_some]
        exact ⟨b', c', rfl, q0, q1, q2, fun m hm2 => q3 m hm2 (n2 m (hm2.trans hp.symm))⟩
      · rw [n1, Option.bind_some]
        simp only [Bool.not_true, cond_false]
        refine ih l' b' c' N (n2.trans hp) (by rw [n2.length_eq]; omega) (by omega) (.inr ⟨q0, q1, q2⟩) fun m g1 g2 g3 => ⟨q0, ?_⟩
        rcases n4 m (g1.trans hp.symm) with g4 | g4
        · exact q3 m g1 g4
        · exact absurd (lx_antisymm m l' g2 g4) g3
    by_cases hc : least < 0 ∨ cst bd t (bts l) < least
    · have : (decide (least < 0) || decide (cst bd t (bts l) < least)) = true := by
        rw [Bool.or_eq_true]; exact hc.imp decide_eq_true decide_eq_true
      rw [this, cond_true]
      refine fin _ _ hcr.1 hbp rfl fun m g1 g2 => ?_
      by_cases hml : m = l
      · rw [hml]; exact Int.le_refl _
      · have := hm m g1 g2 hml; omega
    · have hc1 : ¬ least < 0 := fun h => hc (.inl h)
      have hc2 : ¬ cst bd t (bts l) < least := fun h => hc (.inr h)
      rw [decide_eq_false hc1, decide_eq_false hc2]
      simp only [Bool.or_self, cond_false]
      rcases hs with ⟨rfl, _⟩ | ⟨s1, s2, s3⟩
      · omega
      · refine fin _ _ s1 s2 s3 fun m g1 g2 => ?_
        by_cases hml : m = l
        · rw [hml]; omega
        · exact (hm m g1 g2 hml).2
theorem be_l1 (lay : Str) (hl : lay.length ≤ 100) (kj : List Int → Option (Str × Int × Int)) : ∀ (q i N : Nat), i + q = lay.length → q < N → i_BestLayout_l1 kj lay N (nums (lay.take i)) (i : Int) = kj (nums lay) := by
  intro q
  induction q with
  | zero =>
    intro i N hi hN
    obtain ⟨N, rfl⟩ := pos_fuel hN
    have hz : ¬ (i : Int) < (lay.length : Int) := by omega
    simp only [i_BestLayout_l1, hz, decide_false, cond_false]
    rw [List.take_of_length_le (by omega)]
  | succ q ih =>
    intro i N hi hN
    obtain ⟨N, rfl⟩ := pos_fuel hN
    have hz : (i : Int) < (lay.length : Int) := by omega
    have hlt : i < lay.length := by omega
    simp only [i_BestLayout_l1, hz, decide_true, cond_true]
    rw [idx_lt lay i hlt, Option.bind_some, app_some _ _ (by unfold LIM nums; simp; omega), Option.bind_some, w64_nat i (by omega)]
    have e3 : nums (lay.take i) ++ [(lay[i].toNat : Int)] = nums (lay.take (i + 1)) := by
      unfold nums; rw [List.take_succ_eq_append_getElem hlt, List.map_append]; rfl
    rw [e3]
    exact ih (i + 1) N (by omega) (by omega)
theorem best_ok (bd : List Place) (hb : BL bd) (lay t : Str) (hL : LY bd.length lay) (ht : TT t lay) (N : Nat) (hN : 256 ^ 5 + 2000 < N) : ∃ b c, i_BestLayout N bd lay t = some (b, c, 0) ∧ b.Perm lay ∧ cst bd t b = c ∧ c ≤ cst bd t lay := by
  have h5 := hb.2.1
  have h1 := hb.1
  have hly := hL.1
  have hN2 : 2000 < N := Nat.lt_of_le_of_lt (Nat.le_add_left _ _) hN
  unfold i_BestLayout
  rw [so_ok bd hb lay t hL ht N (by omega), Option.bind_some]
  simp only [bne_self_eq_false, cond_false, withK_eq]
  have e1 := be_l1 lay (by omega) (fun l13 => (srtO (fun i j dk => i_BestLayout_c1 i j dk) l13).bind fun l29 => i_BestLayout_l2 bd t N l29 [] (-1)) lay.length 0 N (by omega) (by omega)
  rw [show ((0 : Nat) : Int) = 0 from rfl, show nums (lay.take 0) = [] from rfl] at e1
  have hlt : ∀ x y : Int, i_BestLayout_c1 0 1 [x, y] = some (decide (x < y)) := fun x y => by
    unfold i_BestLayout_c1; rw [idx2_0, Option.bind_some, idx2_1, Option.bind_some]
  rw [e1, srtO_some _ _ (by simp [nums]; omega) (fun x _ y _ => by show (i_BestLayout_c1 0 1 [x, y]).isSome = true; rw [hlt]; rfl), Option.bind_some]
  have hp : (isort (ltOf fun i j dk => i_BestLayout_c1 i j dk) (nums lay)).Perm (nums lay) := isort_perm _ _
  have hsorted : (isort (ltOf fun i j dk => i_BestLayout_c1 i j dk) (nums lay)).Pairwise (fun a b => a ≤ b) := by
    refine isort_pw _ (fun a b : Int => a ≤ b) (fun a b c h k => Int.le_trans h k) _ (List.pairwise_of_forall fun a b => ?_)
    have : ltOf (fun i j dk => i_BestLayout_c1 i j dk) b a = decide (b < a) := by unfold ltOf; show (i_BestLayout_c1 0 1 [b, a]).getD false = _; rw [hlt]; rfl
    rw [this]
    exact ⟨fun h => by have := of_decide_eq_true h; omega, fun h => by have := of_decide_eq_false h; omega⟩
  generalize isort (ltOf fun i j dk => i_BestLayout_c1 i j dk) (nums lay) = l0 at hp hsorted
  have hl0 : l0.length = lay.length := by rw [hp.length_eq]; simp [nums]
  have hpow : 256 ^ l0.length ≤ 256 ^ 5 := Nat.pow_le_pow_right (by omega) (by omega)
  obtain ⟨b, c, g1, g2, g3, g4, g5⟩ := be_l2 bd hb lay t hL ht (256 ^ 5) l0 [] (-1) N hp (by omega) (by omega) (.inl ⟨rfl, rfl⟩) fun m q1 q2 q3 => by
    have := asc_min l0 m hsorted (q1.trans hp.symm)
    exact absurd (lx_antisymm m l0 q2 this) q3
  refine ⟨b, c, g1, g3, g4, ?_⟩
  have := g5 (nums lay) (List.Perm.refl _)
  rwa [bts_nums] at this
end Go.Proofs.Ytdkhpbfciajaeaa
