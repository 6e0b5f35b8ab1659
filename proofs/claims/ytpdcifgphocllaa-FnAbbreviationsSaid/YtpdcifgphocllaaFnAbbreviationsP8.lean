/-
  Plain lemmas on these functions. No conditions but those that each states.
-/
import Derived.Test.YtpdcifgphocllaaFnAbbreviationsP7
namespace Go.Proofs.Ytpdcifgphocllaa
set_option linter.unusedVariables false
set_option linter.unusedSimpArgs false
/-! Which are useful. -/
theorem mgetO_msetV (l : List (Str × Int)) (k s : Str) (v : Int) : mgetO (msetV l k v) s = if k == s then some v else mgetO l s := by
  induction l with
  | nil =>
    simp only [msetV, mgetO]
    by_cases e : k = s
    · subst e; simp
    · have e2 : (s == k) = false := by simpa using fun h : s = k => e h.symm
      have e3 : (k == s) = false := by simpa using e
      rw [e2, e3]; rfl
  | cons p r ih =>
    obtain ⟨a, b⟩ := p
    simp only [msetV]
    by_cases h : k = a
    · subst h
      simp only [beq_self_eq_true, cond_true, mgetO]
      by_cases e : k = s
      · subst e; simp
      · have e2 : (s == k) = false := by simpa using fun h : s = k => e h.symm
        have e3 : (k == s) = false := by simpa using e
        rw [e2, e3]; rfl
    · have h2 : (k == a) = false := by simpa using h
      simp only [h2, cond_false, mgetO]
      by_cases e : s = a
      · subst e
        have e3 : (k == s) = false := by simpa using h
        rw [beq_self_eq_true, e3]; rfl
      · have e2 : (s == a) = false := by simpa using e
        rw [e2, cond_false, cond_false, ih]
/-- what an abbreviation saves over the words -/
def gn (W : List Str) (x : Abbr) : Int := ((W.countP (fun w => w == x.long) * (x.long.length - x.short.length) : Nat) : Int)
def sv (l : List Abbr) (W : List Str) (i : Int) : Int := match idx l i with | some x => gn W x | none => 0
def bg (l : List Abbr) (W : List Str) (i j : Int) : Bool := decide (sv l W i > sv l W j)
theorem bg_neg (l : List Abbr) (W : List Str) : ∀ x y z, bg l W x y = true → bg l W z y = false → bg l W x z = true := fun x y z => by
  unfold bg
  rw [decide_eq_true_eq, decide_eq_false_iff_not, decide_eq_true_eq]
  omega
theorem bg_asym (l : List Abbr) (W : List Str) : ∀ x y, bg l W x y = true → bg l W y x = false := fun x y => by
  unfold bg
  rw [decide_eq_true_eq, decide_eq_false_iff_not]
  omega
def MpC (mp : List (Str × Int)) (W : List Str) : Prop := ∀ s, Option.getD (mgetO mp s) (0 : Int) = ((W.countP (fun w => w == s) : Nat) : Int)
theorem uf_i1 (kj : List (Str × Int) → Option (List Int × Int)) (r : List Str × Int) (hW : r.1.length ≤ 201) (Q : Option (List Int × Int) → Prop) (hk : ∀ mp, MpC mp r.1 → Q (kj mp)) :
    ∀ (q x N : Nat) (mp : List (Str × Int)), x + q = r.1.length → q < N → MpC mp (r.1.take x) → Q (i_UsefulAbbrs_l1 kj r N mp (x : Int)) := by
  intro q
  induction q with
  | zero =>
    intro x N mp h1 h2 h3
    obtain ⟨N, rfl⟩ := pos_fuel h2
    have hz : ¬ (x : Int) < (r.1.length : Int) := by omega
    rw [List.take_of_length_le (by omega)] at h3
    simp only [i_UsefulAbbrs_l1, hz, decide_false, cond_false]
    exact hk mp h3
  | succ q ih =>
    intro x N mp h1 h2 h3
    obtain ⟨N, rfl⟩ := pos_fuel h2
    have hx : x < r.1.length := by omega
    have hz : (x : Int) < (r.1.length : Int) := by omega
    have hc := List.countP_le_length (p := fun w => w == r.1[x]) (l := r.1.take x)
    rw [List.length_take] at hc
    simp only [i_UsefulAbbrs_l1, hz, decide_true, cond_true, idx_lt _ x hx, Option.bind_some, w64_nat x (by omega)]
    refine ih (x + 1) N _ (by omega) (by omega) fun s => ?_
    rw [mgetO_msetV, h3 r.1[x], w64_nat _ (by omega), List.take_succ_eq_append_getElem hx, List.countP_append]
    by_cases e : r.1[x] = s
    · rw [if_pos (by simpa using e), ← e]; simp
    · rw [if_neg (by simpa using e), h3 s]
      have : (r.1[x] == s) = false := by simpa using e
      simp [this]
section
variable {l : List Abbr} (h : VL l) {W : List Str} (hW : W.length ≤ 201)
include h hW
theorem gn_le (x : Abbr) (hx : x ∈ l) : W.countP (fun w => w == x.long) * (x.long.length - x.short.length) ≤ 6030 := by
  obtain ⟨a1, a2, a3⟩ := vA_facts (h.v x hx)
  have hc := List.countP_le_length (p := fun w => w == x.long) (l := W)
  exact Nat.mul_le_mul (show _ ≤ 201 by omega) (show _ ≤ 30 by omega)
omit hW in
theorem df_ok (x : Abbr) (hx : x ∈ l) : w64 ((x.long.length : Int) - (x.short.length : Int)) = ((x.long.length - x.short.length : Nat) : Int) ∧ 0 < x.long.length - x.short.length ∧ x.long.length - x.short.length ≤ 30 := by
  obtain ⟨a1, a2, a3⟩ := vA_facts (h.v x hx)
  refine ⟨?_, by omega, by omega⟩
  rw [w64_id (by omega) (by omega)]; omega
theorem c1_ok (mp : List (Str × Int)) (hm : MpC mp W) (i : Nat) (hi : i < l.length) : i_UsefulAbbrs_c1 (i : Int) mp l = some (sv l W (i : Int)) := by
  have hx := List.getElem_mem hi
  have hg := gn_le h hW _ hx
  unfold i_UsefulAbbrs_c1 sv
  simp only [idx_lt l i hi, Option.bind_some]
  rw [(df_ok h _ hx).1, hm, ← Int.natCast_mul]
  unfold gn
  rw [w64_id (by omega) (by omega)]
omit h hW in
theorem sv_at (i : Nat) (hi : i < l.length) : sv l W (i : Int) = gn W l[i] := by unfold sv; rw [idx_lt l i hi]
omit h hW in
theorem sv_pos (i : Int) : 0 ≤ sv l W i := by
  unfold sv
  cases idx l i with
  | none => exact Int.le_refl _
  | some x => exact Int.natCast_nonneg _
omit h hW in
/-- the numbers of those that save -/
def kp (l : List Abbr) (W : List Str) (n : Nat) : List Int := (rng n).filter fun i => decide (sv l W i > 0)
omit h hW in
theorem kp_succ (n : Nat) : kp l W (n + 1) = if sv l W (n : Int) > 0 then kp l W n ++ [(n : Int)] else kp l W n := by
  unfold kp
  rw [rng_succ, List.filter_append]
  by_cases c : sv l W (n : Int) > 0
  · simp [c]
  · simp [c]
omit h hW in
theorem kp_len (n : Nat) : (kp l W n).length ≤ n := by
  have := List.length_filter_le (fun i => decide (sv l W i > 0)) (rng n)
  rw [rng_len] at this
  exact this
omit h hW in
theorem kp_mem {n : Nat} {x : Int} (hx : x ∈ kp l W n) : x ∈ rng n := (List.mem_filter.1 hx).1
theorem uf_i2 (kj : List Int → Option (List Int × Int)) (mp : List (Str × Int)) (hm : MpC mp W) : ∀ (q x N : Nat), x + q = l.length → q < N → i_UsefulAbbrs_l2 kj l mp N (kp l W x) (x : Int) = kj (kp l W l.length) := by
  have hn := h.n
  intro q
  induction q with
  | zero =>
    intro x N h1 h2
    obtain ⟨N, rfl⟩ := pos_fuel h2
    have hz : ¬ (x : Int) < (l.length : Int) := by omega
    have e : x = l.length := by omega
    simp only [i_UsefulAbbrs_l2, hz, decide_false, cond_false]
    rw [e]
  | succ q ih =>
    intro x N h1 h2
    obtain ⟨N, rfl⟩ := pos_fuel h2
    have hx : x < l.length := by omega
    have hz : (x : Int) < (l.length : Int) := by omega
    have ih := ih (x + 1) N (by omega) (by omega)
    have hl := kp_len (l := l) (W := W) x
    rw [kp_succ] at ih
    simp only [i_UsefulAbbrs_l2, hz, decide_true, cond_true, withK_n, c1_ok h hW mp hm x hx, Option.bind_some, w64_nat x (by omega)]
    by_cases c : sv l W (x : Int) > 0
    · rw [if_pos c] at ih
      rw [decide_eq_true c, cond_true, app_some _ _ (by simp; unfold LIM; omega), Option.bind_some]
      exact ih
    · rw [if_neg c] at ih
      rw [decide_eq_false c, cond_false]
      exact ih
theorem c2_ok (mp : List (Str × Int)) (hm : MpC mp W) (x y : Int) (hx : x ∈ rng l.length) (hy : y ∈ rng l.length) : i_UsefulAbbrs_c2 0 1 mp l [x, y] = some (bg l W x y) := by
  rw [rng_mem] at hx hy
  obtain ⟨i, rfl⟩ : ∃ i : Nat, x = i := ⟨x.toNat, by omega⟩
  obtain ⟨j, rfl⟩ : ∃ j : Nat, y = j := ⟨y.toNat, by omega⟩
  have e0 : idx [(i : Int), (j : Int)] 0 = some (i : Int) := rfl
  have e1 : idx [(i : Int), (j : Int)] 1 = some (j : Int) := rfl
  unfold i_UsefulAbbrs_c2 bg
  simp only [e0, e1, Option.bind_some, c1_ok h hW mp hm i (by omega), c1_ok h hW mp hm j (by omega)]
theorem uf_s2 (kj : Int → Option (List Int × Int)) (c : Int) (i : Nat) (hi : i < l.length) : ∀ (q k N n : Nat), k + q = W.length → q < N → n + q ≤ 201 → s_UsefulAbbrs_l2 kj l (W, c) (i : Int) N ((n * ((l[i]).long.length - (l[i]).short.length) : Nat) : Int) (k : Int) = kj (((n + (W.drop k).countP (fun w => w == (l[i]).long)) * ((l[i]).long.length - (l[i]).short.length) : Nat) : Int) := by
  obtain ⟨d1, d2, d3⟩ := df_ok h _ (List.getElem_mem hi)
  intro q
  induction q with
  | zero =>
    intro k N n h1 h2 h3
    obtain ⟨N, rfl⟩ := pos_fuel h2
    have hz : ¬ (k : Int) < (W.length : Int) := by omega
    rw [List.drop_eq_nil_of_le (by omega)]
    simp only [s_UsefulAbbrs_l2, hz, decide_false, cond_false, List.countP_nil, Nat.add_zero]
  | succ q ih =>
    intro k N n h1 h2 h3
    obtain ⟨N, rfl⟩ := pos_fuel h2
    have hk : k < W.length := by omega
    have hz : (k : Int) < (W.length : Int) := by omega
    have hm : n * ((l[i]).long.length - (l[i]).short.length) ≤ 6030 := Nat.mul_le_mul (show n ≤ 201 by omega) d3
    rw [drop_cons _ k hk, List.countP_cons]
    simp only [s_UsefulAbbrs_l2, hz, decide_true, cond_true, withK_n, idx_lt W k hk, idx_lt l i hi, Option.bind_some, w64_nat k (by omega), d1]
    cases hc : W[k] == (l[i]).long with
    | true =>
      have ih := ih (k + 1) N (n + 1) (by omega) (by omega) (by omega)
      rw [cond_true, w64_id (by omega) (by omega), ← Int.natCast_add, ← Nat.succ_mul, if_pos rfl]
      rw [show n + (List.countP (fun w => w == (l[i]).long) (W.drop (k + 1)) + 1) = n + 1 + List.countP (fun w => w == (l[i]).long) (W.drop (k + 1)) by omega]
      exact ih
    | false =>
      rw [cond_false, if_neg (by simp), Nat.add_zero]
      exact ih (k + 1) N n (by omega) (by omega) (by omega)
theorem uf_s1 (kj : List Int → Option (List Int × Int)) (c : Int) : ∀ (q x N : Nat), x + q = l.length → q + 300 < N → s_UsefulAbbrs_l1 kj l (W, c) N ((l.take x).map (gn W)) (x : Int) = kj (l.map (gn W)) := by
  have hn := h.n
  intro q
  induction q with
  | zero =>
    intro x N h1 h2
    obtain ⟨N, rfl⟩ := pos_fuel h2
    have hz : ¬ (x : Int) < (l.length : Int) := by omega
    rw [List.take_of_length_le (by omega)]
    simp only [s_UsefulAbbrs_l1, hz, decide_false, cond_false]
  | succ q ih =>
    intro x N h1 h2
    obtain ⟨N, rfl⟩ := pos_fuel h2
    have hx : x < l.length := by omega
    have hz : (x : Int) < (l.length : Int) := by omega
    have ih := ih (x + 1) N (by omega) (by omega)
    have h2' := fun kj => uf_s2 h hW kj c x hx W.length 0 N 0 (by omega) (by omega) (by omega)
    simp only [Nat.zero_mul, Nat.zero_add, List.drop_zero, show ((0 : Nat) : Int) = 0 from rfl] at h2'
    have hlt : ((l.take x).map (gn W)).length = x := by rw [List.length_map, List.length_take]; omega
    rw [List.take_succ_eq_append_getElem hx, List.map_append] at ih
    simp only [s_UsefulAbbrs_l1, hz, decide_true, cond_true, withK_n, h2', w64_nat x (by omega)]
    rw [app_some _ _ (by rw [hlt]; simp; unfold LIM; omega), Option.bind_some]
    exact ih
omit h hW in
theorem sv_map (i : Nat) (hi : i < l.length) : idx (l.map (gn W)) (i : Int) = some (sv l W (i : Int)) := by
  rw [sv_at i hi, idx_lt _ i (by rw [List.length_map]; exact hi), List.getElem_map]
omit h hW in
theorem uf_s4 (i : Nat) (hi : i < l.length) (kj : Int → Option (List Int × Int)) : ∀ (acc post : List Int) (N : Nat), acc.length < N → acc.length ≤ 40 → (∀ x ∈ acc, x ∈ rng l.length) → s_UsefulAbbrs_l4 kj (l.map (gn W)) (acc.reverse ++ post) (i : Int) N (acc.length : Int) = kj (insP (bg l W) (i : Int) acc : Nat)
  | [], post, N, h1, _, _ => by
    obtain ⟨N, rfl⟩ := pos_fuel h1
    simp [s_UsefulAbbrs_l4, insP]
  | y :: r, post, N, h1, h2, h3 => by
    obtain ⟨N, rfl⟩ := pos_fuel h1
    have hy := h3 y List.mem_cons_self
    rw [rng_mem] at hy
    obtain ⟨j, rfl⟩ : ∃ j : Nat, y = j := ⟨y.toNat, by omega⟩
    have hj : j < l.length := by omega
    simp only [List.length_cons] at h1 h2
    have z0 : decide (((r.length + 1 : Nat) : Int) > 0) = true := decide_eq_true (by omega)
    have z1 : w64 (((r.length + 1 : Nat) : Int) - 1) = (r.length : Int) := by rw [w64_id (by omega) (by omega)]; omega
    have z2 : idx (((j : Int) :: r).reverse ++ post) (r.length : Int) = some (j : Int) := by
      rw [idx_nat, List.reverse_cons, List.append_assoc, List.getElem?_append_right (by simp)]
      simp
    have ih := uf_s4 i hi kj r ((j : Int) :: post) N (by omega) (by omega) (fun x hx => h3 x (List.mem_cons_of_mem _ hx))
    have eb : decide (sv l W (j : Int) < sv l W (i : Int)) = bg l W (i : Int) (j : Int) := rfl
    simp only [s_UsefulAbbrs_l4, List.length_cons, z0, andO_some, Bool.true_and, sv_map i hi, sv_map j hj, Option.bind_some, z1, z2, eb, insP]
    cases bg l W (i : Int) (j : Int) with
    | true =>
      rw [cond_true, cond_true, ← ih, List.reverse_cons, List.append_assoc]; rfl
    | false => rfl
omit hW in
theorem uf_s3 (kj : List Int → Option (List Int × Int)) : ∀ (q i N : Nat), i + q = l.length → q + 50 < N → s_UsefulAbbrs_l3 kj l (l.map (gn W)) N (isortB (bg l W) [] (kp l W i)).reverse (i : Int) = kj (isort (bg l W) (kp l W l.length)) := by
  have hn := h.n
  intro q
  induction q with
  | zero =>
    intro i N h1 h2
    obtain ⟨N, rfl⟩ := pos_fuel h2
    have hz : ¬ (i : Int) < (l.length : Int) := by omega
    have e : i = l.length := by omega
    simp only [s_UsefulAbbrs_l3, hz, decide_false, cond_false]
    rw [e]; rfl
  | succ q ih =>
    intro i N h1 h2
    obtain ⟨N, rfl⟩ := pos_fuel h2
    have hi : i < l.length := by omega
    have hz : (i : Int) < (l.length : Int) := by omega
    have ih := ih (i + 1) N (by omega) (by omega)
    rw [kp_succ] at ih
    have hps := sv_pos (l := l) (W := W) (i : Int)
    simp only [s_UsefulAbbrs_l3, hz, decide_true, cond_true, withK_n, sv_map i hi, Option.bind_some, w64_nat i (by omega)]
    by_cases c : sv l W (i : Int) > 0
    · have cz : (sv l W (i : Int) == 0) = false := by rw [beq_eq_false_iff_ne]; omega
      rw [if_pos c] at ih
      have hpm := isortB_perm (bg l W) (kp l W i) []
      rw [List.append_nil] at hpm
      have hlen : (isortB (bg l W) [] (kp l W i)).length ≤ i := by rw [hpm.length_eq]; exact kp_len i
      have hm : ∀ x ∈ isortB (bg l W) [] (kp l W i), x ∈ rng l.length := fun x hx => by
        have := kp_mem (hpm.mem_iff.1 hx)
        rw [rng_mem] at this ⊢
        omega
      have e1 : isortB (bg l W) [] (kp l W i ++ [(i : Int)]) = insB (bg l W) (i : Int) (isortB (bg l W) [] (kp l W i)) := by
        rw [isortB_append]; rfl
      rw [e1] at ih
      generalize isortB (bg l W) [] (kp l W i) = acc at *
      have hp := insP_le (bg l W) (i : Int) acc
      have hrl : acc.reverse.length = acc.length := by simp
      have hs2 := fun kj => uf_s4 (W := W) i hi kj acc [] N (by omega) (by omega) hm
      have hcut := insP_cut (bg l W) (i : Int) acc []
      simp only [List.append_nil] at hs2 hcut
      simp only [cz, cond_false, hrl, hs2]
      have hsub0 : sub acc.reverse 0 ((insP (bg l W) (i : Int) acc : Nat) : Int) = some (acc.reverse.take (insP (bg l W) (i : Int) acc)) := by
        rw [sub_some _ _ _ (by omega) (by omega) (by omega)]; simp
      have hsub1 : sub acc.reverse ((insP (bg l W) (i : Int) acc : Nat) : Int) (acc.length : Int) = some (acc.reverse.drop (insP (bg l W) (i : Int) acc)) := by
        rw [sub_some _ _ _ (by omega) (by omega) (by omega), Int.toNat_natCast, Int.toNat_natCast, List.take_of_length_le (by simp)]
      rw [hsub0, hsub1]
      generalize hA : acc.reverse.take (insP (bg l W) (i : Int) acc) = A at *
      generalize hB : acc.reverse.drop (insP (bg l W) (i : Int) acc) = B at *
      have hAB : A.length + B.length = acc.length := by rw [← hA, ← hB, List.length_take, List.length_drop]; simp; omega
      unfold s_l00Own
      simp only [Option.bind_some]
      rw [app_some [] A (by simp; unfold LIM; omega)]
      simp only [List.nil_append, Option.bind_some]
      rw [app_some A _ (by simp; unfold LIM; omega)]
      simp only [Option.bind_some]
      rw [app_some _ B (by simp; unfold LIM; omega), Option.bind_some, List.append_assoc, List.singleton_append, hcut]
      exact ih
    · have cz : (sv l W (i : Int) == 0) = true := by rw [beq_iff_eq]; omega
      rw [if_neg c] at ih
      rw [cz, cond_true]
      exact ih
end
theorem use_ok (l : List Abbr) (hl : l.length ≤ 1000) (hz : ∀ x ∈ l, SzA x) (t : Str) (ht : t.length ≤ 900) (N : Nat) (hN : 3000 < N) : ∃ (r : List Int) (c : Int), i_UsefulAbbrs N l t = some (r, c) ∧ s_UsefulAbbrs N l t = some (r, c) ∧ r.length ≤ 30 := by
  obtain ⟨W, c, a1, a2, a3, a4⟩ := code_ok l hl hz t ht N hN
  unfold i_UsefulAbbrs s_UsefulAbbrs
  rw [a1, a2]
  simp only [Option.bind_some]
  rcases a3 with ⟨rfl, hV, hW⟩ | hc
  · have hWl := hW.len
    have hn := hV.n
    have z : ((0 : Int) != 0) = false := rfl
    rw [z]
    simp only [cond_false, withK_n]
    have hkl := kp_len (l := l) (W := W) l.length
    refine ⟨isort (bg l W) (kp l W l.length), 0, ?_, ?_, ?_⟩
    · have := uf_i1 (fun mp12 => i_UsefulAbbrs_l2 (fun l24 => (srtS (fun i j dk => i_UsefulAbbrs_c2 i j mp12 l dk) l24).bind fun l44 => some (l44, 0)) l mp12 N [] 0) (W, 0) hWl (fun o => o = some (isort (bg l W) (kp l W l.length), 0)) (fun mp hm => ?_) W.length 0 N [] (by show 0 + W.length = W.length; omega) (by omega) (fun s => rfl)
      · exact this
      · have e := fun kj => uf_i2 hV hWl kj mp hm l.length 0 N (by omega) (by omega)
        rw [show kp l W 0 = [] from rfl, show ((0 : Nat) : Int) = 0 from rfl] at e
        rw [e, srtS_some _ (bg l W) _ (by omega) (fun x hx y hy => c2_ok hV hWl mp hm x y (kp_mem hx) (kp_mem hy)) (bg_neg l W) (bg_asym l W)]
        rfl
    · have e1 := fun kj => uf_s1 hV hWl kj 0 l.length 0 N (by omega) (by omega)
      have e3 := fun kj => uf_s3 hV (W := W) kj l.length 0 N (by omega) (by omega)
      rw [show (isortB (bg l W) [] (kp l W 0)).reverse = [] from rfl, show ((0 : Nat) : Int) = 0 from rfl] at e3
      simp only [List.take_zero, List.map_nil, show ((0 : Nat) : Int) = 0 from rfl] at e1
      rw [e1, e3]
    · have := (isort_perm (bg l W) (kp l W l.length)).length_eq
      omega
  · have z : (c != 0) = true := by simpa using hc
    rw [z]
    exact ⟨[], c, rfl, rfl, by simp⟩
end Go.Proofs.Ytpdcifgphocllaa
