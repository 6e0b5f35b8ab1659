/-
  Plain lemmas on these functions. No conditions but those that each states.
-/
import Derived.Test.YtlmpbacboapkaaaFnSetLinesP4
namespace Go.Proofs.Ytlmpbacboapkaaa
set_option linter.unusedVariables false
set_option linter.unusedSimpArgs false
/-! Lines of words. -/
theorem withK_n {A B : Type} (k : A) (b : A → B) : withK k b = b k := Eq.trans rfl rfl
def tl : List Str → Nat
  | [] => 0
  | x :: r => x.length + tl r
theorem tl_app : ∀ a b : List Str, tl (a ++ b) = tl a + tl b
  | [], b => by simp [tl]
  | x :: a, b => by simp only [List.cons_append, tl, tl_app a b]; omega
def PW (ws : List Str) (k : Nat) : Int := (tl (ws.take k) : Int) + k
def seg (ws : List Str) (i k : Nat) : List Str := (ws.drop i).take (k - i)
theorem PW_seg (ws : List Str) {i k : Nat} (h : i ≤ k) : PW ws k = PW ws i + tl (seg ws i k) + (k - i : Nat) := by
  unfold PW seg
  have : ws.take k = ws.take i ++ (ws.drop i).take (k - i) := by
    conv => lhs; rw [show k = i + (k - i) by omega]
    rw [List.take_add]
  rw [this, tl_app]; omega
theorem PW_mono (ws : List Str) {i k : Nat} (h : i ≤ k) : PW ws i ≤ PW ws k := by
  rw [PW_seg ws h]; omega
def TW (ws : List Str) : Prop := ws.length ≤ 40 ∧ ∀ x ∈ ws, 1 ≤ x.length ∧ x.length ≤ 80 ∧ ∀ c ∈ x, 33 ≤ c.toNat ∧ c.toNat ≤ 126
theorem tl_le : ∀ l : List Str, (∀ x ∈ l, x.length ≤ 80) → tl l ≤ 80 * l.length
  | [], _ => Nat.le_refl _
  | x :: r, h => by
    have h1 := h x List.mem_cons_self
    have h2 := tl_le r fun y hy => h y (List.mem_cons_of_mem _ hy)
    simp only [tl, List.length_cons]; omega
theorem seg_b {ws : List Str} (h : TW ws) (i k : Nat) : (seg ws i k).length ≤ 40 ∧ tl (seg ws i k) ≤ 3200 := by
  have h1 : (seg ws i k).length ≤ 40 := by
    unfold seg
    rw [List.length_take, List.length_drop]
    have := h.1; omega
  have h2 := tl_le (seg ws i k) fun x hx => (h.2 x (List.mem_of_mem_drop (List.mem_of_mem_take hx))).2.1
  exact ⟨h1, by omega⟩
theorem seg_len (ws : List Str) {i k : Nat} (hik : i ≤ k) (hk : k ≤ ws.length) : (seg ws i k).length = k - i := by
  unfold seg
  rw [List.length_take, List.length_drop]; omega
theorem sub_seg (ws : List Str) {i k : Nat} (hik : i ≤ k) (hk : k ≤ ws.length) : sub ws (i : Int) (k : Int) = some (seg ws i k) := by
  rw [sub_some ws _ _ (by omega) (by omega) (by omega), Int.toNat_natCast, Int.toNat_natCast]
  rfl
theorem one_len {ws : List Str} (i : Nat) (hi : i < ws.length) : PW ws (i + 1) - PW ws i - 1 = ws[i].length := by
  rw [PW_seg ws (Nat.le_succ i)]
  have : seg ws i (i + 1) = [ws[i]] := by
    unfold seg
    rw [List.drop_eq_getElem_cons hi, show i + 1 - i = 1 by omega]
    rfl
  rw [this]
  simp only [tl]; omega
theorem ll_l1 (l : List Str) (hl : l.length ≤ 50) (kj : Int → Option Int) : ∀ (q x N : Nat) (n : Int), x + q = l.length → q < N → -1 ≤ n → n + tl (l.drop x) ≤ 100000 → i_lineLength_l1 kj l N n (x : Int) = kj (n + tl (l.drop x)) ∧ s_l09Long_l1 kj l N n (x : Int) = kj (n + tl (l.drop x)) := by
  intro q
  induction q with
  | zero =>
    intro x N n hx hN h0 h1
    obtain ⟨N, rfl⟩ := pos_fuel hN
    rw [i_lineLength_l1, s_l09Long_l1, decide_eq_false (by omega : ¬ (x : Int) < (l.length : Int)), cond_false, cond_false, List.drop_eq_nil_of_le (by omega)]
    simp [tl]
  | succ q ih =>
    intro x N n hx hN h0 h1
    obtain ⟨N, rfl⟩ := pos_fuel hN
    have hlt : x < l.length := by omega
    rw [List.drop_eq_getElem_cons hlt, tl] at h1 ⊢
    obtain ⟨g1, g2⟩ := ih (x + 1) N (n + (l[x].length : Int)) (by omega) (by omega) (by omega) (by omega)
    rw [i_lineLength_l1, s_l09Long_l1, decide_eq_true (by omega : (x : Int) < (l.length : Int)), cond_true, cond_true, idx_lt l x hlt, Option.bind_some, Option.bind_some, w64_id (x := n + (l[x].length : Int)) (by omega) (by omega), w64_nat x (by omega), g1, g2]
    have : n + (l[x].length : Int) + (tl (l.drop (x + 1)) : Int) = n + ((l[x].length + tl (l.drop (x + 1)) : Nat) : Int) := by omega
    rw [this]
    exact ⟨rfl, rfl⟩
theorem ll_ok (l : List Str) (hl : l.length ≤ 50) (ht : tl l ≤ 5000) (N : Nat) (hN : 100 < N) : i_lineLength N l = some (imax ((l.length : Int) - 1 + tl l) 0) ∧ s_l09Long N l = some (imax ((l.length : Int) - 1 + tl l) 0) := by
  have h := fun kj => ll_l1 l hl kj l.length 0 N ((l.length : Int) - 1) (by omega) (by omega) (by omega) (by rw [List.drop_zero]; omega)
  rw [show ((0 : Nat) : Int) = 0 from rfl, List.drop_zero] at h
  unfold i_lineLength s_l09Long
  rw [w64_id (x := (l.length : Int) - 1) (by omega) (by omega), withK_n, withK_n, (h _).1, (h _).2]
  refine ⟨rfl, ?_⟩
  unfold s_l00Max imax
  by_cases hc : 0 > (l.length : Int) - 1 + tl l
  · rw [decide_eq_true hc, if_pos hc]; rfl
  · rw [decide_eq_false hc, if_neg hc]; rfl
theorem imax_id {a : Int} (h : 0 ≤ a) : imax a 0 = a := by
  unfold imax
  rw [if_neg (by omega)]
/-- a part, and its length -/
theorem segl {ws : List Str} (h : TW ws) {i k : Nat} (hik : i < k) (hk : k ≤ ws.length) (N : Nat) (hN : 100 < N) : sub ws (i : Int) (k : Int) = some (seg ws i k) ∧ i_lineLength N (seg ws i k) = some (PW ws k - PW ws i - 1) ∧ s_l09Long N (seg ws i k) = some (PW ws k - PW ws i - 1) := by
  obtain ⟨b1, b2⟩ := seg_b h i k
  obtain ⟨e1, e2⟩ := ll_ok (seg ws i k) (by omega) (by omega) N hN
  have e3 : imax (((seg ws i k).length : Int) - 1 + tl (seg ws i k)) 0 = PW ws k - PW ws i - 1 := by
    rw [PW_seg ws (Nat.le_of_lt hik), seg_len ws (Nat.le_of_lt hik) hk, imax_id (by omega)]
    omega
  rw [e3] at e1 e2
  exact ⟨sub_seg ws (Nat.le_of_lt hik) hk, e1, e2⟩
theorem PW_b {ws : List Str} (h : TW ws) {i k : Nat} (hik : i < k) (hk : k ≤ ws.length) : 0 ≤ PW ws k - PW ws i - 1 ∧ PW ws k - PW ws i - 1 ≤ 3300 := by
  obtain ⟨b1, b2⟩ := seg_b h i k
  have := seg_len ws (Nat.le_of_lt hik) hk
  rw [PW_seg ws (Nat.le_of_lt hik)]
  omega
def toI (l : List Nat) : List Int := l.map fun (n : Nat) => (n : Int)
theorem sfb_l1 {ws : List Str} (h : TW ws) (W : Int) (kj : List Int → Option (List Int)) : ∀ (q s i N : Nat) (acc : List Int), i + q = ws.length → q + 200 < N → s < i → acc.length ≤ i → s_l09First_l1 kj ws W N acc (s : Int) (i : Int) = kj (acc ++ toI (fb (PW ws) W q s i)) := by
  have hl := h.1
  intro q
  induction q with
  | zero =>
    intro s i N acc hi hN hs ha
    obtain ⟨N, rfl⟩ := pos_fuel (show 0 < N by omega)
    rw [s_l09First_l1, decide_eq_false (by omega : ¬ (i : Int) < (ws.length : Int)), cond_false, fb]
    simp [toI]
  | succ q ih =>
    intro s i N acc hi hN hsi ha
    obtain ⟨N, rfl⟩ := pos_fuel (show 0 < N by omega)
    obtain ⟨e1, _, e2⟩ := segl h (show s < i + 1 by omega) (by omega) N (by omega)
    rw [s_l09First_l1, decide_eq_true (by omega : (i : Int) < (ws.length : Int)), cond_true]
    simp only [withK_n]
    rw [w64_nat i (by omega), fb, e1, Option.bind_some, e2, Option.bind_some]
    by_cases hc : PW ws (i + 1) - PW ws s - 1 > W
    · rw [decide_eq_true hc, cond_true, if_pos ⟨hsi, hc⟩, app_some _ _ (by unfold LIM; simp; omega), Option.bind_some, ih i (i + 1) N _ (by omega) (by omega) (by omega) (by simp; omega)]
      simp [toI]
    · rw [decide_eq_false hc, cond_false, if_neg (fun g => hc g.2)]
      exact ih s (i + 1) N acc (by omega) (by omega) (by omega) (by omega)
def FB (ws : List Str) (W : Int) : List Nat := fb (PW ws) W ws.length 0 0
theorem sfirst_ok {ws : List Str} (h : TW ws) (W : Int) (N : Nat) (hN : 500 < N) : s_l09First N ws W = some (toI (FB ws W)) := by
  have hl := h.1
  unfold s_l09First FB
  rw [withK_n]
  by_cases h0 : ws.length = 0
  · obtain ⟨N, rfl⟩ := pos_fuel (show 0 < N by omega)
    rw [s_l09First_l1, decide_eq_false (by omega : ¬ (1 : Int) < (ws.length : Int)), cond_false, h0]
    rfl
  · obtain ⟨m, hm⟩ : ∃ m, ws.length = m + 1 := ⟨ws.length - 1, by omega⟩
    have := sfb_l1 h W (fun l => some l) m 0 1 N [] (by omega) (by omega) (by omega) (by simp)
    rw [hm, fb_start]
    exact this
theorem FB_pth {ws : List Str} (W : Int) (hne : 0 < ws.length) (hW : ∀ x ∈ ws, (x.length : Int) ≤ W) : Pth (PW ws) W ws.length 0 (FB ws W) :=
  fb_pth (PW ws) W ws.length (fun i hi => by rw [one_len i hi]; exact hW _ (List.getElem_mem hi)) ws.length 0 0 (by omega) (Nat.le_refl _) hne fun h => by omega
theorem FB_opt {ws : List Str} (W : Int) {bs : List Nat} (h : Pth (PW ws) W ws.length 0 bs) : (FB ws W).length ≤ bs.length := by
  have := fb_opt (PW ws) W ws.length (fun a b hab _ => PW_mono ws hab) ws.length 0 0 0 bs (by omega) (Nat.le_refl _) (Nat.le_refl _) h fun b _ => Nat.zero_le _
  simpa [FB] using this
/-! Texts that are valid. -/
def fits (ws : List Str) (W : Int) : Bool := ws.all fun x => decide ((x.length : Int) ≤ W)
theorem fits_of {ws : List Str} {W : Int} (h : ∀ x ∈ ws, (x.length : Int) ≤ W) : fits ws W = true := List.all_eq_true.2 fun x hx => decide_eq_true (h x hx)
theorem of_fits {ws : List Str} {W : Int} (h : fits ws W = true) : ∀ x ∈ ws, (x.length : Int) ≤ W := fun x hx => of_decide_eq_true (List.all_eq_true.1 h x hx)
theorem idx_dropG {α : Type} {s r : List α} {i : Nat} {c : α} (h : s.drop i = c :: r) : idx s (i : Int) = some c ∧ s.drop (i + 1) = r ∧ i < s.length := by
  have hl : i < s.length := by
    have := congrArg List.length h
    rw [List.length_drop] at this
    simp at this; omega
  rw [List.drop_eq_getElem_cons hl] at h
  injection h with h1 h2
  exact ⟨by rw [idx_lt s i hl, h1], h2, hl⟩
/-! The lines of breaks. -/
def lbi (ws : List Str) : Nat → List Nat → List (List Str)
  | _, [] => []
  | p, b :: r => seg ws p b :: lbi ws b r
def pl : Nat → List Nat → Nat
  | p, [] => p
  | _, b :: r => pl b r
def lb (ws : List Str) (bs : List Nat) : List (List Str) := lbi ws 0 bs ++ [seg ws (pl 0 bs) ws.length]
theorem lbi_len (ws : List Str) : ∀ (bs : List Nat) (p : Nat), (lbi ws p bs).length = bs.length
  | [], _ => rfl
  | b :: r, p => by simp only [lbi, List.length_cons, lbi_len ws r b]
theorem Pth.last {P : Nat → Int} {W : Int} {n : Nat} : ∀ {bs : List Nat} {p : Nat}, Pth P W n p bs → pl p bs < n ∧ P n - P (pl p bs) - 1 ≤ W
  | [], _, h => h
  | b :: r, _, h => Pth.last (bs := r) (p := b) h.2.2.2
theorem lby_l1 {ws : List Str} (h : TW ws) (W : Int) (bs : List Nat) (hb : bs.length ≤ 40) (kj : List (List Str) → Int → Option (List (List Str))) : ∀ (q x N p : Nat) (acc : List (List Str)), x + q = bs.length → q < N → acc.length ≤ x → Pth (PW ws) W ws.length p (bs.drop x) → i_linesBy_l1 kj ws (toI bs) N acc (p : Int) (x : Int) = kj (acc ++ lbi ws p (bs.drop x)) (pl p (bs.drop x) : Int) := by
  have htl : (toI bs).length = bs.length := by simp [toI]
  intro q
  induction q with
  | zero =>
    intro x N p acc hx hN ha hp
    obtain ⟨N, rfl⟩ := pos_fuel hN
    rw [i_linesBy_l1, decide_eq_false (by omega : ¬ (x : Int) < ((toI bs).length : Int)), cond_false, List.drop_eq_nil_of_le (by omega)]
    simp [lbi, pl]
  | succ q ih =>
    intro x N p acc hx hN ha hp
    obtain ⟨N, rfl⟩ := pos_fuel hN
    have hlt : x < bs.length := by omega
    have hi : idx (toI bs) (x : Int) = some (bs[x] : Int) := by
      rw [idx_lt _ x (by omega)]; simp [toI]
    rw [List.drop_eq_getElem_cons hlt] at hp ⊢
    obtain ⟨g1, g2, g3, g4⟩ := hp
    rw [i_linesBy_l1, decide_eq_true (by omega : (x : Int) < ((toI bs).length : Int)), cond_true, hi, Option.bind_some, sub_seg ws (Nat.le_of_lt g1) (by omega), Option.bind_some, app_some _ _ (by unfold LIM; simp; omega), Option.bind_some, w64_nat x (by omega), ih (x + 1) N bs[x] _ (by omega) (by omega) (by simp; omega) g4]
    simp [lbi, pl]
theorem lby_ok {ws : List Str} (h : TW ws) (W : Int) (bs : List Nat) (hp : Pth (PW ws) W ws.length 0 bs) (N : Nat) (hN : 100 < N) : i_linesBy N ws (toI bs) = some (lb ws bs) := by
  have hl := h.1
  have hlen := hp.len
  have e0 : ((ws.length : Int) == 0) = false := by rw [beq_eq_false_iff_ne]; omega
  obtain ⟨z1, z2⟩ := hp.last
  unfold i_linesBy
  rw [e0, cond_false, withK_n]
  have := lby_l1 h W bs (by omega) (fun (l9 : List (List Str)) (start12 : Int) => (sub ws start12 (ws.length : Int)).bind fun l35 => (app l9 ([l35] : List (List Str))).bind fun l41 => some l41) bs.length 0 N 0 [] (by omega) (by omega) (Nat.le_refl _) (by simpa using hp)
  rw [show ((0 : Nat) : Int) = 0 from rfl] at this
  rw [this, List.drop_zero, List.nil_append, sub_seg ws (Nat.le_of_lt z1) (Nat.le_refl _), Option.bind_some, app_some _ _ (by rw [lbi_len]; unfold LIM; simp; omega), Option.bind_some]
  rfl
theorem lbi_mem {ws : List Str} (h : TW ws) (W : Int) : ∀ (bs : List Nat) (p : Nat), Pth (PW ws) W ws.length p bs → ∀ l ∈ lbi ws p bs, ∃ v, v ≤ W ∧ ∀ N : Nat, 100 < N → i_lineLength N l = some v
  | [], _, _, l, hl => by cases hl
  | b :: r, p, hp, l, hl => by
    obtain ⟨g1, g2, g3, g4⟩ := hp
    rcases List.mem_cons.1 hl with rfl | hl
    · exact ⟨_, g3, fun N hN => (segl h g1 (by omega) N hN).2.1⟩
    · exact lbi_mem h W r b g4 l hl
theorem lc_l1 (W : Int) (kj : Option Int) (R : List (List Str)) (hR : R.length ≤ 100) (hm : ∀ l ∈ R, ∃ v, v ≤ W ∧ ∀ N : Nat, 100 < N → i_lineLength N l = some v) : ∀ (q x N : Nat), x + q = R.length → q + 200 < N → i_linesCode_l1 kj W R N (x : Int) = kj := by
  intro q
  induction q with
  | zero =>
    intro x N hx hN
    obtain ⟨N, rfl⟩ := pos_fuel (show 0 < N by omega)
    rw [i_linesCode_l1, decide_eq_false (by omega : ¬ (x : Int) < (R.length : Int)), cond_false]
  | succ q ih =>
    intro x N hx hN
    obtain ⟨N, rfl⟩ := pos_fuel (show 0 < N by omega)
    have hlt : x < R.length := by omega
    obtain ⟨v, h1, h2⟩ := hm _ (List.getElem_mem hlt)
    rw [i_linesCode_l1, decide_eq_true (by omega : (x : Int) < (R.length : Int)), cond_true, idx_lt R x hlt, Option.bind_some, h2 N (by omega), Option.bind_some, decide_eq_false (by omega), cond_false, w64_nat x (by omega)]
    exact ih (x + 1) N (by omega) (by omega)
theorem ab_l1 (bs : List Nat) (n : Nat) (hn : n ≤ 40) (hb : ∀ b ∈ bs, 0 < b ∧ b < n) (hpw : bs.Pairwise (· < ·)) (hl : bs.length ≤ 40) (kj : Option Bool) : ∀ (q x N : Nat), x + q = bs.length → q < N → i_areBreaks_l1 kj (toI bs) (n : Int) N (x : Int) = kj := by
  have htl : (toI bs).length = bs.length := by simp [toI]
  intro q
  induction q with
  | zero =>
    intro x N hx hN
    obtain ⟨N, rfl⟩ := pos_fuel hN
    rw [i_areBreaks_l1, decide_eq_false (by omega : ¬ (x : Int) < ((toI bs).length : Int)), cond_false]
  | succ q ih =>
    intro x N hx hN
    obtain ⟨N, rfl⟩ := pos_fuel hN
    have hlt : x < bs.length := by omega
    have hbx := hb _ (List.getElem_mem hlt)
    have hi : idx (toI bs) (x : Int) = some (bs[x] : Int) := by
      rw [idx_lt _ x (by omega)]; simp [toI]
    have hbt : i_between (bs[x] : Int) 1 (w64 ((n : Int) - 1)) = some true := by
      unfold i_between
      rw [w64_id (x := (n : Int) - 1) (by omega) (by omega), decide_eq_true (by omega : (bs[x] : Int) ≥ 1), andO_true, Option.bind_some, decide_eq_true (by omega)]
    rw [i_areBreaks_l1, decide_eq_true (by omega : (x : Int) < ((toI bs).length : Int)), cond_true, hi, Option.bind_some, hbt, Option.bind_some, Bool.not_true, orO_false, w64_nat x (by omega)]
    have hrec := ih (x + 1) N (by omega) (by omega)
    by_cases hx0 : x = 0
    · subst hx0
      rw [decide_eq_false (by omega : ¬ ((0 : Nat) : Int) > 0), andO_false, Option.bind_some, Option.bind_some, cond_false]
      exact hrec
    · have hlt2 : x - 1 < bs.length := by omega
      have e1 : w64 ((x : Int) - 1) = ((x - 1 : Nat) : Int) := by rw [w64_id (by omega) (by omega)]; omega
      have hi2 : idx (toI bs) ((x - 1 : Nat) : Int) = some (bs[x - 1] : Int) := by
        rw [idx_lt _ (x - 1) (by omega)]; simp [toI]
      have hp := List.pairwise_iff_getElem.1 hpw (x - 1) x hlt2 hlt (by omega)
      rw [decide_eq_true (by omega : (x : Int) > 0), andO_true, e1, hi2, Option.bind_some, decide_eq_false (by omega), Option.bind_some, Option.bind_some, cond_false]
      exact hrec
theorem sq_b {d : Int} (h0 : 0 ≤ d) (h1 : d ≤ 80) : 0 ≤ d * d ∧ d * d ≤ 6400 :=
  ⟨Int.mul_nonneg h0 h0, Int.le_trans (Int.mul_le_mul h1 h1 h0 (by omega)) (by omega)⟩
/-! The best breaks. -/
def gI (l : List Int) (i : Nat) : Int := l[i]?.getD 0
theorem gI_idx {l : List Int} {i : Nat} (h : i < l.length) : idx l (i : Int) = some (gI l i) := by
  rw [idx_lt l i h]; unfold gI; rw [List.getElem?_eq_getElem h]; rfl
theorem gI_set_self {l : List Int} {i : Nat} (h : i < l.length) (v : Int) : gI (l.set i v) i = v := by
  unfold gI; rw [List.getElem?_set_self h]; rfl
theorem gI_set_ne {l : List Int} {i j : Nat} (h : j ≠ i) (v : Int) : gI (l.set i v) j = gI l j := by
  unfold gI; rw [List.getElem?_set_ne (fun e => h e.symm)]
def sqr (ws : List Str) (W : Int) (i k : Nat) : Int := (W - (PW ws k - PW ws i - 1)) * (W - (PW ws k - PW ws i - 1))
def gN (l : List Int) (i : Nat) : Nat := (gI l i).toNat
theorem Cst.congr {P : Nat → Int} {W : Int} {n : Nat} {c c' : Nat → Int} {nx nx' : Nat → Nat} {i : Nat} (h : Cst P W n c nx i) (hi : i < n) (hc : ∀ k, i ≤ k → k < n → c' k = c k) (hx : nx' i = nx i) : Cst P W n c' nx' i := by
  have e := hc i (Nat.le_refl _) hi
  refine ⟨by rw [e]; exact h.nn, fun g => by rw [e, hx]; exact h.fit g, fun g => ?_⟩
  obtain ⟨g1, g2, g3, g4, g5⟩ := h.no g
  rw [e, hx, hc (nx i) (by omega) g2]
  exact ⟨g1, g2, g3, g4, fun k k1 k2 k3 => by rw [hc k (by omega) k2]; exact g5 k k1 k2 k3⟩
/-! Drawn words and breaks. -/
def WC (x : Str) : Prop := ∀ c ∈ x, 33 ≤ c.toNat ∧ c.toNat ≤ 126
theorem idx_mem {α : Type} {l : List α} {i : Int} (h0 : 0 ≤ i) (h1 : i < l.length) : ∃ c, idx l i = some c ∧ c ∈ l := ⟨_, idx_int l i h0 h1, List.getElem_mem _⟩
theorem wd_l2 {code : List UInt8} (s : L00Src) (hs : s.code = code) (kj : Int → Int → List UInt8 → Option (List Str × Int × L00Src)) (Q : List Str × Int × L00Src → Prop) : ∀ (n N : Nat) (a sd hi : Int) (l : Str), n < N → 0 ≤ a → a ≤ hi → hi + 2 * n ≤ 1000000 → l.length + n ≤ 100 → WC l →
    (∀ a' sd' l', 0 ≤ a' → a' ≤ hi + 2 * n → l'.length = l.length + n → WC l' → ∃ r, kj a' sd' l' = some r ∧ Q r) → ∃ r, s_l09Draw_l2 kj s N a sd l (n : Int) = some r ∧ Q r := by
  intro n
  induction n with
  | zero =>
    intro N a sd hi l hN h0 h1 h2 h3 h4 k
    obtain ⟨N, rfl⟩ := pos_fuel hN
    have hz : ¬ ((0 : Nat) : Int) > 0 := by omega
    simp only [s_l09Draw_l2, hz, decide_false, cond_false]
    exact k a sd l h0 (by omega) (by omega) h4
  | succ n ih =>
    intro N a sd hi l hN h0 h1 h2 h3 h4 k
    obtain ⟨N, rfl⟩ := pos_fuel hN
    have hz : ((n + 1 : Nat) : Int) > 0 := by omega
    have e2 : w64 (((n + 1 : Nat) : Int) - 1) = (n : Int) := by rw [w64_id (by omega) (by omega)]; omega
    simp only [s_l09Draw_l2, hz, decide_true, cond_true, e2]
    refine bindE (pickA (code := code) (hi := hi) 7 ⟨hs, h0, h1⟩ (by omega)) fun v g => ?_
    obtain ⟨c, q1, q2⟩ := idx_mem (l := ([97, 98, 99, 100, 101, 33, 126] : Str)) g.2.1 (by have := g.2.2 (by omega); show v.1 < 7; omega)
    rw [q1, Option.bind_some]
    have hc : ∀ x ∈ ([97, 98, 99, 100, 101, 33, 126] : Str), 33 ≤ x.toNat ∧ x.toNat ≤ 126 := by decide
    refine appE (by unfold LIM; simp; omega) ?_
    exact ih N _ _ (hi + 2) _ (by omega) g.1.2.1 g.1.2.2 (by omega) (by simp; omega) (fun x hx => by
      rcases List.mem_append.1 hx with hx | hx
      · exact h4 x hx
      · rw [List.mem_singleton.1 hx]; exact hc c q2) (fun a' sd' l' w1 w2 w3 w4 => k a' sd' l' w1 (by omega) (by rw [w3]; simp; omega) w4)
def WS (W : Int) (ws : List Str) : Prop := ∀ x ∈ ws, 1 ≤ x.length ∧ (x.length : Int) ≤ W ∧ WC x
theorem min_ok (a b : Int) : s_l00Min a b = some (if a < b then a else b) := by
  unfold s_l00Min
  by_cases h : a < b
  · rw [decide_eq_true h, if_pos h]; rfl
  · rw [decide_eq_false h, if_neg h]; rfl
theorem wd_l1 {code : List UInt8} (s : L00Src) (hs : s.code = code) (r5 : Int × L00Src) (h5 : 0 ≤ r5.1 ∧ r5.1 < 20) (kj : Int → Int → List Str → Option (List Str × Int × L00Src)) (Q : List Str × Int × L00Src → Prop) : ∀ (k N : Nat) (a sd hi : Int) (l : List Str), k + 50 < N → 0 ≤ a → a ≤ hi → hi + 40 * k ≤ 1000000 → l.length + k ≤ 13 → WS (5 + r5.1) l →
    (∀ a' sd' l', l'.length ≤ 13 → WS (5 + r5.1) l' → ∃ r, kj a' sd' l' = some r ∧ Q r) → ∃ r, s_l09Draw_l1 kj s r5 N a sd l (k : Int) = some r ∧ Q r := by
  intro k
  induction k with
  | zero =>
    intro N a sd hi l hN h0 h1 h2 h3 h4 kk
    obtain ⟨N, rfl⟩ := pos_fuel (show 0 < N by omega)
    have hz : ¬ ((0 : Nat) : Int) > 0 := by omega
    simp only [s_l09Draw_l1, hz, decide_false, cond_false]
    exact kk a sd l (by omega) h4
  | succ k ih =>
    intro N a sd hi l hN h0 h1 h2 h3 h4 kk
    obtain ⟨N, rfl⟩ := pos_fuel (show 0 < N by omega)
    have hz : ((k + 1 : Nat) : Int) > 0 := by omega
    have e2 : w64 (((k + 1 : Nat) : Int) - 1) = (k : Int) := by rw [w64_id (by omega) (by omega)]; omega
    simp only [s_l09Draw_l1, hz, decide_true, cond_true, e2, withK_eq]
    rw [w64_id (x := 5 + r5.1) (by omega) (by omega), min_ok, Option.bind_some]
    have hm : 5 ≤ (if 5 + r5.1 < 7 then 5 + r5.1 else 7) ∧ (if 5 + r5.1 < 7 then 5 + r5.1 else 7) ≤ 7 ∧ (if 5 + r5.1 < 7 then 5 + r5.1 else 7) ≤ 5 + r5.1 := by
      split <;> omega
    generalize (if 5 + r5.1 < 7 then 5 + r5.1 else 7) = mm at hm
    refine bindE (pickA (code := code) (hi := hi) mm ⟨hs, h0, h1⟩ (by omega)) fun v g => ?_
    have gc := g.2.2 (by omega)
    obtain ⟨p, hp⟩ := Int.eq_ofNat_of_zero_le g.2.1
    rw [hp, show (1 : Int) + (p : Int) = ((p + 1 : Nat) : Int) by omega, w64_id (x := ((p + 1 : Nat) : Int)) (by omega) (by omega)]
    refine wd_l2 (code := code) s hs _ Q (p + 1) N _ _ (hi + 2) [] (by omega) g.1.2.1 g.1.2.2 (by omega) (by simp; omega) (fun c hc => by cases hc) fun a' sd' l' w1 w2 w3 w4 => ?_
    refine appE (by unfold LIM; simp; omega) ?_
    refine ih N a' sd' (hi + 2 + 2 * (p + 1 : Nat)) _ (by omega) w1 (by omega) (by omega) (by simp; omega) (fun x hx => ?_) kk
    rcases List.mem_append.1 hx with hx | hx
    · exact h4 x hx
    · rw [List.mem_singleton.1 hx]
      simp at w3
      exact ⟨by omega, by omega, w4⟩
theorem words_ok (code : List UInt8) (N : Nat) (hN : 100 < N) : ∃ ws W, s_A2Words N code = some (ws, W) ∧ TW ws ∧ 5 ≤ W ∧ W ≤ 24 ∧ ∀ x ∈ ws, (x.length : Int) ≤ W := by
  unfold s_A2Words s_l09Draw
  rw [fromA]
  simp only [Option.bind_some, withK_eq]
  have key : ∃ r, ((s_l00Src_pick (L00Src.mk code 0 0) 20).bind fun r5 => (s_l00Src_pick (L00Src.mk code r5.2.at_ r5.2.seed) 14).bind fun r14 => s_l09Draw_l1 (fun (x8 : Int) (x9 : Int) (l10 : List Str) => some (l10, w64 (5 + r5.1), (L00Src.mk code x8 x9))) (L00Src.mk code 0 0) r5 N r14.2.at_ r14.2.seed [] r14.1) = some r ∧ (TW r.1 ∧ 5 ≤ r.2.1 ∧ r.2.1 ≤ 24 ∧ ∀ x ∈ r.1, (x.length : Int) ≤ r.2.1) := by
    refine bindE (pickA (code := code) (hi := 0) 20 ⟨rfl, Int.le_refl _, Int.le_refl _⟩ (by omega)) fun v5 g5 => ?_
    have c5 := g5.2.2 (by omega)
    refine bindE (pickA (code := code) (hi := 2) 14 ⟨rfl, g5.1.2⟩ (by omega)) fun v g => ?_
    have c := g.2.2 (by omega)
    obtain ⟨k, hk⟩ := Int.eq_ofNat_of_zero_le g.2.1
    rw [hk]
    refine wd_l1 (code := code) (L00Src.mk code 0 0) rfl v5 ⟨g5.2.1, c5⟩ _ _ k N _ _ 4 [] (by omega) g.1.2.1 (by have := g.1.2.2; omega) (by omega) (by simp; omega) (fun x hx => by cases hx) fun a' sd' l' w1 w2 => ⟨_, rfl, ?_, ?_, ?_, ?_⟩
    · exact ⟨by show l'.length ≤ 40; omega, fun x hx => by
        have := w2 x hx
        have g50 := g5.2.1
        exact ⟨this.1, by omega, this.2.2⟩⟩
    · show 5 ≤ w64 (5 + v5.1)
      have g50 := g5.2.1
      rw [w64_id (by omega) (by omega)]; omega
    · show w64 (5 + v5.1) ≤ 24
      have g50 := g5.2.1
      rw [w64_id (by omega) (by omega)]; omega
    · intro x hx
      show (x.length : Int) ≤ w64 (5 + v5.1)
      have g50 := g5.2.1
      rw [w64_id (by omega) (by omega)]
      exact (w2 x hx).2.1
  obtain ⟨r, e, h1, h2, h3, h4⟩ := key
  rw [e, Option.bind_some]
  exact ⟨_, _, rfl, h1, h2, h3, h4⟩
theorem put_l1 (bs : List Nat) (hb : bs.length ≤ 60) (m : Nat) (kj : List Int → Bool → Option (List Int)) : ∀ (q x N : Nat) (acc : List Int), x + q = bs.length → q < N → acc.length + 2 * q ≤ 150 →
    s_l00Put_l1 kj (toI bs) (m : Int) N acc true (x : Int) = kj (acc ++ toI (bs.drop x)) true ∧
    ((s_l00Put_l1 kj (toI bs) (m : Int) N acc false (x : Int) = kj (acc ++ toI (ins m (bs.drop x))) true) ∨ (s_l00Put_l1 kj (toI bs) (m : Int) N acc false (x : Int) = kj (acc ++ toI (bs.drop x)) false ∧ ins m (bs.drop x) = bs.drop x ++ [m])) := by
  have htl : (toI bs).length = bs.length := by simp [toI]
  intro q
  induction q with
  | zero =>
    intro x N acc hx hN ha
    obtain ⟨N, rfl⟩ := pos_fuel hN
    rw [List.drop_eq_nil_of_le (by omega)]
    refine ⟨?_, .inr ⟨?_, rfl⟩⟩
    · rw [s_l00Put_l1, decide_eq_false (by omega : ¬ (x : Int) < ((toI bs).length : Int)), cond_false]; simp [toI]
    · rw [s_l00Put_l1, decide_eq_false (by omega : ¬ (x : Int) < ((toI bs).length : Int)), cond_false]; simp [toI]
  | succ q ih =>
    intro x N acc hx hN ha
    obtain ⟨N, rfl⟩ := pos_fuel hN
    have hlt : x < bs.length := by omega
    have hi : idx (toI bs) (x : Int) = some (bs[x] : Int) := by
      rw [idx_lt _ x (by omega)]; simp [toI]
    obtain ⟨t1, _⟩ := ih (x + 1) N (acc ++ [(bs[x] : Int)]) (by omega) (by omega) (by simp; omega)
    have ap : ∀ a : List Int, a.length ≤ 200 → app a [(bs[x] : Int)] = some (a ++ [(bs[x] : Int)]) := fun a h => app_some _ _ (by unfold LIM; simp; omega)
    rw [List.drop_eq_getElem_cons hlt]
    have hto : ∀ r : List Nat, acc ++ [(bs[x] : Int)] ++ toI r = acc ++ toI (bs[x] :: r) := fun r => by simp [toI]
    have hto2 : ∀ r : List Nat, acc ++ [(m : Int)] ++ [(bs[x] : Int)] ++ toI r = acc ++ toI (m :: bs[x] :: r) := fun r => by simp [toI]
    constructor
    · rw [s_l00Put_l1, decide_eq_true (by omega : (x : Int) < ((toI bs).length : Int)), cond_true]
      simp only [withK_n]
      rw [Bool.not_true, andO_false, Option.bind_some, cond_false, hi, Option.bind_some, ap _ (by omega), Option.bind_some, w64_nat x (by omega), t1, hto]
    · rw [s_l00Put_l1, decide_eq_true (by omega : (x : Int) < ((toI bs).length : Int)), cond_true]
      simp only [withK_n]
      rw [Bool.not_false, andO_true, hi]
      simp only [Option.bind_some]
      rw [w64_nat x (by omega)]
      by_cases hge : m ≤ bs[x]
      · left
        rw [decide_eq_true (by omega : (bs[x] : Int) ≥ (m : Int)), cond_true, ins, if_pos hge]
        by_cases hgt : m < bs[x]
        · obtain ⟨t2, _⟩ := ih (x + 1) N (acc ++ [(m : Int)] ++ [(bs[x] : Int)]) (by omega) (by omega)
            (by simp; omega)
          rw [decide_eq_true (by omega : (bs[x] : Int) > (m : Int)), cond_true, app_some _ _ (by unfold LIM; simp; omega), Option.bind_some, ap _ (by simp; omega), Option.bind_some, t2, if_pos hgt, hto2]
        · rw [decide_eq_false (by omega), cond_false, ap _ (by omega), Option.bind_some, t1, if_neg hgt, hto]
      · obtain ⟨_, t3⟩ := ih (x + 1) N (acc ++ [(bs[x] : Int)]) (by omega) (by omega) (by simp; omega)
        rw [decide_eq_false (by omega), cond_false, ap _ (by omega), Option.bind_some, ins, if_neg hge]
        rcases t3 with t3 | ⟨t3, t4⟩
        · exact .inl (by rw [t3, hto])
        · exact .inr ⟨by rw [t3, hto], by rw [t4]; rfl⟩
theorem ins_len (m : Nat) : ∀ bs : List Nat, (ins m bs).length ≤ bs.length + 1
  | [] => Nat.le_refl _
  | b :: r => by
    have := ins_len m r
    rw [ins]
    split
    · split <;> simp
    · simp only [List.length_cons]; omega
theorem put_ok (bs : List Nat) (hb : bs.length ≤ 50) (m : Nat) (N : Nat) (hN : 100 < N) : s_l00Put N (toI bs) (m : Int) = some (toI (ins m bs)) := by
  unfold s_l00Put
  simp only [withK_n]
  have htl : (toI bs).length = bs.length := by simp [toI]
  obtain ⟨_, h⟩ := put_l1 bs (by omega) m (fun (l6 : List Int) (done8 : Bool) => bif !done8 then (app l6 [(m : Int)]).bind fun l55 => some l55 else some l6) bs.length 0 N [] (by omega) (by omega) (by simp; omega)
  rw [show ((0 : Nat) : Int) = 0 from rfl, List.drop_zero, List.nil_append] at h
  rcases h with h | ⟨h, h2⟩
  · rw [h]; rfl
  · rw [h, h2, Bool.not_false, cond_true, List.nil_append, app_some _ _ (by unfold LIM; simp; omega), Option.bind_some]
    simp [toI]
theorem br_l1 {ws : List Str} (h : TW ws) (W : Int) (code : List UInt8) (kj : List Int → Option (List Int)) (Q : List Int → Prop) (k0 : ∀ bs, Pth (PW ws) W ws.length 0 bs → ∃ r, kj (toI bs) = some r ∧ Q r) : ∀ (q i N : Nat) (bs : List Nat) (a sd hi : Int), i + q = ws.length → q + 150 < N → 0 < i → 0 ≤ a → a ≤ hi → hi + 10 * q ≤ 1000000 → Pth (PW ws) W ws.length 0 bs → ∃ r, s_A2Breaks_l1 kj code ws N (toI bs) a sd (i : Int) = some r ∧ Q r := by
  have hl := h.1
  intro q
  induction q with
  | zero =>
    intro i N bs a sd hi hi' hN h0 h1 h2 h3 hp
    obtain ⟨N, rfl⟩ := pos_fuel (show 0 < N by omega)
    rw [s_A2Breaks_l1, decide_eq_false (by omega : ¬ (i : Int) < (ws.length : Int)), cond_false]
    exact k0 bs hp
  | succ q ih =>
    intro i N bs a sd hi hi' hN h0 h1 h2 h3 hp
    obtain ⟨N, rfl⟩ := pos_fuel (show 0 < N by omega)
    have hlen := hp.len
    rw [s_A2Breaks_l1, decide_eq_true (by omega : (i : Int) < (ws.length : Int)), cond_true]
    simp only [withK_n]
    rw [w64_nat i (by omega)]
    refine bindE (oneA (code := code) (hi := hi) 6 ⟨rfl, h1, h2⟩ (by omega)) fun v g => ?_
    refine condE (fun _ => ?_) fun _ => ?_
    · rw [put_ok bs (by omega) i N (by omega), Option.bind_some]
      exact ih (i + 1) N (ins i bs) _ _ (hi + 2) (by omega) (by omega) (by omega) g.2.1 g.2.2 (by omega) (ins_pth (PW ws) W ws.length (fun a b hab _ => PW_mono ws hab) i (by omega) bs 0 h0 hp)
    · exact ih (i + 1) N bs _ _ (hi + 2) (by omega) (by omega) (by omega) g.2.1 g.2.2 (by omega) hp
theorem breaks_ok {ws : List Str} (h : TW ws) (W : Int) (hne : 0 < ws.length) (hf : ∀ x ∈ ws, (x.length : Int) ≤ W) (code : List UInt8) (N : Nat) (hN : 600 < N) : ∃ bs, s_A2Breaks N code ws W = some (toI bs) ∧ Pth (PW ws) W ws.length 0 bs := by
  have hl := h.1
  unfold s_A2Breaks
  rw [fromA, Option.bind_some, sfirst_ok h W N (by omega), Option.bind_some, withK_n]
  obtain ⟨r, e, bs, e2, hb⟩ := br_l1 h W code (fun l14 => some l14) (fun r => ∃ bs, r = toI bs ∧ Pth (PW ws) W ws.length 0 bs) (fun bs hb => ⟨_, rfl, bs, rfl, hb⟩) (ws.length - 1) 1 N (FB ws W) 0 0 0 (by omega) (by omega) (by omega) (Int.le_refl _) (Int.le_refl _) (by omega) (FB_pth W hne hf)
  subst e2
  exact ⟨bs, e, hb⟩
theorem text_l1 (x : Str) (low : UInt8) (hx : ∀ c ∈ x, low.toNat ≤ c.toNat ∧ c.toNat ≤ 126) (hl : x.length ≤ 100) (kj : Option Bool) : ∀ (q i N : Nat), i + q = x.length → q < N → i_isText_l1 kj x low N (i : Int) = kj := by
  intro q
  induction q with
  | zero =>
    intro i N hi hN
    obtain ⟨N, rfl⟩ := pos_fuel hN
    rw [i_isText_l1, decide_eq_false (by omega : ¬ (i : Int) < (x.length : Int)), cond_false]
  | succ q ih =>
    intro i N hi hN
    obtain ⟨N, rfl⟩ := pos_fuel hN
    have hlt : i < x.length := by omega
    have hci := hx _ (List.getElem_mem hlt)
    have d1 : decide (x[i] < low) = false := decide_eq_false (by rw [UInt8.lt_iff_toNat_lt]; omega)
    have d2 : decide (x[i] > (126 : UInt8)) = false := decide_eq_false (by show ¬ (126 : UInt8) < x[i]; rw [UInt8.lt_iff_toNat_lt]; show ¬ 126 < x[i].toNat; omega)
    rw [i_isText_l1, decide_eq_true (by omega : (i : Int) < (x.length : Int)), cond_true, idx_lt x i hlt]
    simp only [Option.bind_some, d1, d2, orO_false, cond_false]
    rw [w64_nat i (by omega)]
    exact ih (i + 1) N (by omega) (by omega)
theorem isText_ok (x : Str) (low : UInt8) (hx : ∀ c ∈ x, low.toNat ≤ c.toNat ∧ c.toNat ≤ 126) (most : Int) (hm : (x.length : Int) ≤ most) (hl : x.length ≤ 100) (N : Nat) (hN : 100 < N) : i_isText N x low most = some true := by
  unfold i_isText
  rw [decide_eq_false (by omega), cond_false, withK_n]
  have := text_l1 x low hx hl (some true) x.length 0 N (by omega) (by omega)
  rw [show ((0 : Nat) : Int) = 0 from rfl] at this
  exact this
theorem vt_l1 {ws : List Str} (h : TW ws) (W : Int) (hf : ∀ x ∈ ws, (x.length : Int) ≤ W) (kj : Option Bool) : ∀ (q i N : Nat), i + q = ws.length → q + 200 < N → i_ValidText_l1 kj ws W N (i : Int) = kj := by
  have hl := h.1
  intro q
  induction q with
  | zero =>
    intro i N hi hN
    obtain ⟨N, rfl⟩ := pos_fuel (show 0 < N by omega)
    rw [i_ValidText_l1, decide_eq_false (by omega : ¬ (i : Int) < (ws.length : Int)), cond_false]
  | succ q ih =>
    intro i N hi hN
    obtain ⟨N, rfl⟩ := pos_fuel (show 0 < N by omega)
    have hlt : i < ws.length := by omega
    obtain ⟨x1, x2, x3⟩ := h.2 _ (List.getElem_mem hlt)
    have e0 : ((ws[i].length : Int) == 0) = false := by rw [beq_eq_false_iff_ne]; omega
    rw [i_ValidText_l1, decide_eq_true (by omega : (i : Int) < (ws.length : Int)), cond_true, idx_lt ws i hlt, Option.bind_some, e0, orO_false, isText_ok ws[i] 33 x3 W (hf _ (List.getElem_mem hlt)) (by omega) N (by omega), Option.bind_some, Option.bind_some, Bool.not_true, cond_false, w64_nat i (by omega)]
    exact ih (i + 1) N (by omega) (by omega)
theorem vt_ok {ws : List Str} (h : TW ws) (W : Int) (h1 : 1 ≤ W) (h2 : W ≤ 80) (hf : ∀ x ∈ ws, (x.length : Int) ≤ W) (N : Nat) (hN : 500 < N) : i_ValidText N ws W = some true := by
  have hl := h.1
  have g1 := vt_l1 h W hf (some true) ws.length 0 N (by omega) (by omega)
  rw [show ((0 : Nat) : Int) = 0 from rfl] at g1
  unfold i_ValidText i_between
  rw [decide_eq_true (by omega : W ≥ 1), andO_true, Option.bind_some, Option.bind_some, decide_eq_true h2, Bool.not_true, orO_false, Option.bind_some, decide_eq_false (by omega), cond_false, withK_n, g1]
theorem code_ok {ws : List Str} (h : TW ws) (W : Int) (h1 : 1 ≤ W) (h2 : W ≤ 80) (hf : ∀ x ∈ ws, (x.length : Int) ≤ W) (bs : List Nat) (hp : Pth (PW ws) W ws.length 0 bs) (N : Nat) (hN : 500 < N) : i_linesCode N ws W (toI bs) = some 0 := by
  have hl := h.1
  have hlen := hp.len
  obtain ⟨z1, z2⟩ := hp.last
  have hR : (lb ws bs).length = bs.length + 1 := by unfold lb; simp [lbi_len]
  unfold i_linesCode i_areBreaks
  have hab := ab_l1 bs ws.length hl (fun b hb => hp.gt b hb) hp.pw (by omega) (some true) bs.length 0 N (by omega) (by omega)
  have hlc := lc_l1 W (some 0) (lb ws bs) (by omega) (fun l hl' => by
    unfold lb at hl'
    rcases List.mem_append.1 hl' with hl' | hl'
    · exact lbi_mem h W bs 0 hp l hl'
    · rw [List.mem_singleton.1 hl']
      exact ⟨_, z2, fun N hN => (segl h z1 (Nat.le_refl _) N hN).2.1⟩) (lb ws bs).length 0 N (by omega) (by omega)
  rw [show ((0 : Nat) : Int) = 0 from rfl] at hab hlc
  rw [vt_ok h W h1 h2 hf N hN, Option.bind_some, Bool.not_true, cond_false, withK_n, hab, Option.bind_some, Bool.not_true, cond_false, withK_n, lby_ok h W bs hp N (by omega), Option.bind_some, hlc]
end Go.Proofs.Ytlmpbacboapkaaa
