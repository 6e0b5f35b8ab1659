/-
  Plain lemmas on these functions. No conditions but those that each states.
-/
import Derived.Test.YtlmpbacboapkaaaFnBreaksP2
namespace Go.Proofs.Ytlmpbacboapkaaa
set_option linter.unusedVariables false
set_option linter.unusedSimpArgs false
/-! Lines of words. -/
theorem withK_n {A B : Type} (k : A) (b : A → B) : withK k b = b k := Eq.trans rfl rfl
def tl : List Str → Nat
  | [] => 0
  | x :: r => x.length + tl r
theorem tl_app : ∀ a b : List Str, tl (a ++ b) = tl a + tl b
  | [], b => by simp [tl]
  | x :: a, b => by simp only [List.cons_append, tl, tl_app a b]; omega
def PW (ws : List Str) (k : Nat) : Int := (tl (ws.take k) : Int) + k
def seg (ws : List Str) (i k : Nat) : List Str := (ws.drop i).take (k - i)
theorem PW_seg (ws : List Str) {i k : Nat} (h : i ≤ k) : PW ws k = PW ws i + tl (seg ws i k) + (k - i : Nat) := by
  unfold PW seg
  have : ws.take k = ws.take i ++ (ws.drop i).take (k - i) := by
    conv => lhs; rw [show k = i + (k - i) by omega]
    rw [List.take_add]
  rw [this, tl_app]; omega
theorem PW_mono (ws : List Str) {i k : Nat} (h : i ≤ k) : PW ws i ≤ PW ws k := by
  rw [PW_seg ws h]; omega
def TW (ws : List Str) : Prop := ws.length ≤ 40 ∧ ∀ x ∈ ws, 1 ≤ x.length ∧ x.length ≤ 80 ∧ ∀ c ∈ x, 33 ≤ c.toNat ∧ c.toNat ≤ 126
theorem tl_le : ∀ l : List Str, (∀ x ∈ l, x.length ≤ 80) → tl l ≤ 80 * l.length
  | [], _ => Nat.le_refl _
  | x :: r, h => by
    have h1 := h x List.mem_cons_self
    have h2 := tl_le r fun y hy => h y (List.mem_cons_of_mem _ hy)
    simp only [tl, List.length_cons]; omega
theorem seg_b {ws : List Str} (h : TW ws) (i k : Nat) : (seg ws i k).length ≤ 40 ∧ tl (seg ws i k) ≤ 3200 := by
  have h1 : (seg ws i k).length ≤ 40 := by
    unfold seg
    rw [List.length_take, List.length_drop]
    have := h.1; omega
  have h2 := tl_le (seg ws i k) fun x hx => (h.2 x (List.mem_of_mem_drop (List.mem_of_mem_take hx))).2.1
  exact ⟨h1, by omega⟩
theorem seg_len (ws : List Str) {i k : Nat} (hik : i ≤ k) (hk : k ≤ ws.length) : (seg ws i k).length = k - i := by
  unfold seg
  rw [List.length_take, List.length_drop]; omega
theorem sub_seg (ws : List Str) {i k : Nat} (hik : i ≤ k) (hk : k ≤ ws.length) : sub ws (i : Int) (k : Int) = some (seg ws i k) := by
  rw [sub_some ws _ _ (by omega) (by omega) (by omega), Int.toNat_natCast, Int.toNat_natCast]
  rfl
theorem one_len {ws : List Str} (i : Nat) (hi : i < ws.length) : PW ws (i + 1) - PW ws i - 1 = ws[i].length := by
  rw [PW_seg ws (Nat.le_succ i)]
  have : seg ws i (i + 1) = [ws[i]] := by
    unfold seg
    rw [List.drop_eq_getElem_cons hi, show i + 1 - i = 1 by omega]
    rfl
  rw [this]
  simp only [tl]; omega
theorem ll_l1 (l : List Str) (hl : l.length ≤ 50) (kj : Int → Option Int) : ∀ (q x N : Nat) (n : Int), x + q = l.length → q < N → -1 ≤ n → n + tl (l.drop x) ≤ 100000 → i_lineLength_l1 kj l N n (x : Int) = kj (n + tl (l.drop x)) ∧ s_l09Long_l1 kj l N n (x : Int) = kj (n + tl (l.drop x)) := by
  intro q
  induction q with
  | zero =>
    intro x N n hx hN h0 h1
    obtain ⟨N, rfl⟩ := pos_fuel hN
    rw [i_lineLength_l1, s_l09Long_l1, decide_eq_false (by omega : ¬ (x : Int) < (l.length : Int)), cond_false, cond_false, List.drop_eq_nil_of_le (by omega)]
    simp [tl]
  | succ q ih =>
    intro x N n hx hN h0 h1
    obtain ⟨N, rfl⟩ := pos_fuel hN
    have hlt : x < l.length := by omega
    rw [List.drop_eq_getElem_cons hlt, tl] at h1 ⊢
    obtain ⟨g1, g2⟩ := ih (x + 1) N (n + (l[x].length : Int)) (by omega) (by omega) (by omega) (by omega)
    rw [i_lineLength_l1, s_l09Long_l1, decide_eq_true (by omega : (x : Int) < (l.length : Int)), cond_true, cond_true, idx_lt l x hlt, Option.bind_some, Option.bind_some, w64_id (x := n + (l[x].length : Int)) (by omega) (by omega), w64_nat x (by omega), g1, g2]
    have : n + (l[x].length : Int) + (tl (l.drop (x + 1)) : Int) = n + ((l[x].length + tl (l.drop (x + 1)) : Nat) : Int) := by omega
    rw [this]
    exact ⟨rfl, rfl⟩
theorem ll_ok (l : List Str) (hl : l.length ≤ 50) (ht : tl l ≤ 5000) (N : Nat) (hN : 100 < N) : i_lineLength N l = some (imax ((l.length : Int) - 1 + tl l) 0) ∧ s_l09Long N l = some (imax ((l.length : Int) - 1 + tl l) 0) := by
  have h := fun kj => ll_l1 l hl kj l.length 0 N ((l.length : Int) - 1) (by omega) (by omega) (by omega) (by rw [List.drop_zero]; omega)
  rw [show ((0 : Nat) : Int) = 0 from rfl, List.drop_zero] at h
  unfold i_lineLength s_l09Long
  rw [w64_id (x := (l.length : Int) - 1) (by omega) (by omega), withK_n, withK_n, (h _).1, (h _).2]
  refine ⟨rfl, ?_⟩
  unfold s_l00Max imax
  by_cases hc : 0 > (l.length : Int) - 1 + tl l
  · rw [decide_eq_true hc, if_pos hc]; rfl
  · rw [decide_eq_false hc, if_neg hc]; rfl
theorem imax_id {a : Int} (h : 0 ≤ a) : imax a 0 = a := by
  unfold imax
  rw [if_neg (by omega)]
/-- a part, and its length -/
theorem segl {ws : List Str} (h : TW ws) {i k : Nat} (hik : i < k) (hk : k ≤ ws.length) (N : Nat) (hN : 100 < N) : sub ws (i : Int) (k : Int) = some (seg ws i k) ∧ i_lineLength N (seg ws i k) = some (PW ws k - PW ws i - 1) ∧ s_l09Long N (seg ws i k) = some (PW ws k - PW ws i - 1) := by
  obtain ⟨b1, b2⟩ := seg_b h i k
  obtain ⟨e1, e2⟩ := ll_ok (seg ws i k) (by omega) (by omega) N hN
  have e3 : imax (((seg ws i k).length : Int) - 1 + tl (seg ws i k)) 0 = PW ws k - PW ws i - 1 := by
    rw [PW_seg ws (Nat.le_of_lt hik), seg_len ws (Nat.le_of_lt hik) hk, imax_id (by omega)]
    omega
  rw [e3] at e1 e2
  exact ⟨sub_seg ws (Nat.le_of_lt hik) hk, e1, e2⟩
theorem PW_b {ws : List Str} (h : TW ws) {i k : Nat} (hik : i < k) (hk : k ≤ ws.length) : 0 ≤ PW ws k - PW ws i - 1 ∧ PW ws k - PW ws i - 1 ≤ 3300 := by
  obtain ⟨b1, b2⟩ := seg_b h i k
  have := seg_len ws (Nat.le_of_lt hik) hk
  rw [PW_seg ws (Nat.le_of_lt hik)]
  omega
def toI (l : List Nat) : List Int := l.map fun (n : Nat) => (n : Int)
theorem fb_l1 {ws : List Str} (h : TW ws) (W : Int) (kj : List Int → Option (List Int)) : ∀ (q s i N : Nat) (acc : List Int), i + q = ws.length → q + 200 < N → s ≤ i → acc.length ≤ i → i_firstBreaks_l1 kj ws W N acc (s : Int) (i : Int) = kj (acc ++ toI (fb (PW ws) W q s i)) := by
  have hl := h.1
  intro q
  induction q with
  | zero =>
    intro s i N acc hi hN hs ha
    obtain ⟨N, rfl⟩ := pos_fuel (show 0 < N by omega)
    rw [i_firstBreaks_l1, decide_eq_false (by omega : ¬ (i : Int) < (ws.length : Int)), cond_false, fb]
    simp [toI]
  | succ q ih =>
    intro s i N acc hi hN hs ha
    obtain ⟨N, rfl⟩ := pos_fuel (show 0 < N by omega)
    rw [i_firstBreaks_l1, decide_eq_true (by omega : (i : Int) < (ws.length : Int)), cond_true]
    simp only [withK_n]
    rw [w64_nat i (by omega), fb]
    by_cases hsi : s < i
    · obtain ⟨e1, e2, _⟩ := segl h (show s < i + 1 by omega) (by omega) N (by omega)
      rw [decide_eq_true (by omega : (i : Int) > (s : Int)), andO_true, e1, Option.bind_some, e2, Option.bind_some, Option.bind_some]
      by_cases hc : PW ws (i + 1) - PW ws s - 1 > W
      · rw [decide_eq_true hc, cond_true, if_pos ⟨hsi, hc⟩, app_some _ _ (by unfold LIM; simp; omega), Option.bind_some, ih i (i + 1) N _ (by omega) (by omega) (by omega) (by simp; omega)]
        simp [toI]
      · rw [decide_eq_false hc, cond_false, if_neg (fun g => hc g.2)]
        exact ih s (i + 1) N acc (by omega) (by omega) (by omega) (by omega)
    · rw [decide_eq_false (by omega : ¬ (i : Int) > (s : Int)), andO_false, Option.bind_some, cond_false, if_neg (fun g => hsi g.1)]
      exact ih s (i + 1) N acc (by omega) (by omega) (by omega) (by omega)
theorem sfb_l1 {ws : List Str} (h : TW ws) (W : Int) (kj : List Int → Option (List Int)) : ∀ (q s i N : Nat) (acc : List Int), i + q = ws.length → q + 200 < N → s < i → acc.length ≤ i → s_l09First_l1 kj ws W N acc (s : Int) (i : Int) = kj (acc ++ toI (fb (PW ws) W q s i)) := by
  have hl := h.1
  intro q
  induction q with
  | zero =>
    intro s i N acc hi hN hs ha
    obtain ⟨N, rfl⟩ := pos_fuel (show 0 < N by omega)
    rw [s_l09First_l1, decide_eq_false (by omega : ¬ (i : Int) < (ws.length : Int)), cond_false, fb]
    simp [toI]
  | succ q ih =>
    intro s i N acc hi hN hsi ha
    obtain ⟨N, rfl⟩ := pos_fuel (show 0 < N by omega)
    obtain ⟨e1, _, e2⟩ := segl h (show s < i + 1 by omega) (by omega) N (by omega)
    rw [s_l09First_l1, decide_eq_true (by omega : (i : Int) < (ws.length : Int)), cond_true]
    simp only [withK_n]
    rw [w64_nat i (by omega), fb, e1, Option.bind_some, e2, Option.bind_some]
    by_cases hc : PW ws (i + 1) - PW ws s - 1 > W
    · rw [decide_eq_true hc, cond_true, if_pos ⟨hsi, hc⟩, app_some _ _ (by unfold LIM; simp; omega), Option.bind_some, ih i (i + 1) N _ (by omega) (by omega) (by omega) (by simp; omega)]
      simp [toI]
    · rw [decide_eq_false hc, cond_false, if_neg (fun g => hc g.2)]
      exact ih s (i + 1) N acc (by omega) (by omega) (by omega) (by omega)
def FB (ws : List Str) (W : Int) : List Nat := fb (PW ws) W ws.length 0 0
theorem first_ok {ws : List Str} (h : TW ws) (W : Int) (N : Nat) (hN : 500 < N) : i_firstBreaks N ws W = some (toI (FB ws W)) := by
  have hl := h.1
  unfold i_firstBreaks
  rw [withK_n]
  have := fb_l1 h W (fun l => some l) ws.length 0 0 N [] (by omega) (by omega) (Nat.le_refl _) (Nat.le_refl _)
  rw [show ((0 : Nat) : Int) = 0 from rfl] at this
  exact this
theorem sfirst_ok {ws : List Str} (h : TW ws) (W : Int) (N : Nat) (hN : 500 < N) : s_l09First N ws W = some (toI (FB ws W)) := by
  have hl := h.1
  unfold s_l09First FB
  rw [withK_n]
  by_cases h0 : ws.length = 0
  · obtain ⟨N, rfl⟩ := pos_fuel (show 0 < N by omega)
    rw [s_l09First_l1, decide_eq_false (by omega : ¬ (1 : Int) < (ws.length : Int)), cond_false, h0]
    rfl
  · obtain ⟨m, hm⟩ : ∃ m, ws.length = m + 1 := ⟨ws.length - 1, by omega⟩
    have := sfb_l1 h W (fun l => some l) m 0 1 N [] (by omega) (by omega) (by omega) (by simp)
    rw [hm, fb_start]
    exact this
theorem FB_pth {ws : List Str} (W : Int) (hne : 0 < ws.length) (hW : ∀ x ∈ ws, (x.length : Int) ≤ W) : Pth (PW ws) W ws.length 0 (FB ws W) :=
  fb_pth (PW ws) W ws.length (fun i hi => by rw [one_len i hi]; exact hW _ (List.getElem_mem hi)) ws.length 0 0 (by omega) (Nat.le_refl _) hne fun h => by omega
theorem FB_opt {ws : List Str} (W : Int) {bs : List Nat} (h : Pth (PW ws) W ws.length 0 bs) : (FB ws W).length ≤ bs.length := by
  have := fb_opt (PW ws) W ws.length (fun a b hab _ => PW_mono ws hab) ws.length 0 0 0 bs (by omega) (Nat.le_refl _) (Nat.le_refl _) h fun b _ => Nat.zero_le _
  simpa [FB] using this
/-! Texts that are valid. -/
theorem text_l1 (x : Str) (hx : ∀ c ∈ x, 33 ≤ c.toNat ∧ c.toNat ≤ 126) (hl : x.length ≤ 80) (kj : Option Bool) : ∀ (q i N : Nat), i + q = x.length → q < N → i_isText_l1 kj x 33 N (i : Int) = kj ∧ s_l09Word_l1 kj x N (i : Int) = kj := by
  intro q
  induction q with
  | zero =>
    intro i N hi hN
    obtain ⟨N, rfl⟩ := pos_fuel hN
    rw [i_isText_l1, s_l09Word_l1, decide_eq_false (by omega : ¬ (i : Int) < (x.length : Int)), cond_false, cond_false]
    exact ⟨rfl, rfl⟩
  | succ q ih =>
    intro i N hi hN
    obtain ⟨N, rfl⟩ := pos_fuel hN
    have hlt : i < x.length := by omega
    have hci := hx _ (List.getElem_mem hlt)
    have d1 : decide (x[i] < (33 : UInt8)) = false := decide_eq_false (by rw [UInt8.lt_iff_toNat_lt]; show ¬ x[i].toNat < 33; omega)
    have d2 : decide (x[i] > (126 : UInt8)) = false := decide_eq_false (by show ¬ (126 : UInt8) < x[i]; rw [UInt8.lt_iff_toNat_lt]; show ¬ 126 < x[i].toNat; omega)
    obtain ⟨g1, g2⟩ := ih (i + 1) N (by omega) (by omega)
    constructor
    · rw [i_isText_l1, decide_eq_true (by omega : (i : Int) < (x.length : Int)), cond_true, idx_lt x i hlt]
      simp only [Option.bind_some, d1, d2, orO_false, cond_false]
      rw [w64_nat i (by omega)]
      exact g1
    · rw [s_l09Word_l1, decide_eq_true (by omega : (i : Int) < (x.length : Int)), cond_true, idx_lt x i hlt]
      simp only [Option.bind_some, d1, d2, orO_false, cond_false]
      rw [w64_nat i (by omega)]
      exact g2
def fits (ws : List Str) (W : Int) : Bool := ws.all fun x => decide ((x.length : Int) ≤ W)
theorem vt_l1 {ws : List Str} (h : TW ws) (W : Int) (kj : Option Bool) : ∀ (q i N : Nat), i + q = ws.length → q + 200 < N → i_ValidText_l1 kj ws W N (i : Int) = (bif fits (ws.drop i) W then kj else some false) ∧ s_l09Ok_l1 kj ws W N (i : Int) = (bif fits (ws.drop i) W then kj else some false) := by
  have hl := h.1
  intro q
  induction q with
  | zero =>
    intro i N hi hN
    obtain ⟨N, rfl⟩ := pos_fuel (show 0 < N by omega)
    rw [i_ValidText_l1, s_l09Ok_l1, decide_eq_false (by omega : ¬ (i : Int) < (ws.length : Int)), cond_false, cond_false, List.drop_eq_nil_of_le (by omega)]
    exact ⟨rfl, rfl⟩
  | succ q ih =>
    intro i N hi hN
    obtain ⟨N, rfl⟩ := pos_fuel (show 0 < N by omega)
    have hlt : i < ws.length := by omega
    obtain ⟨x1, x2, x3⟩ := h.2 _ (List.getElem_mem hlt)
    obtain ⟨g1, g2⟩ := ih (i + 1) N (by omega) (by omega)
    have e0 : ((ws[i].length : Int) == 0) = false := by rw [beq_eq_false_iff_ne]; omega
    rw [i_ValidText_l1, s_l09Ok_l1, decide_eq_true (by omega : (i : Int) < (ws.length : Int)), cond_true, cond_true, idx_lt ws i hlt, Option.bind_some, Option.bind_some, e0, orO_false, w64_nat i (by omega), g1, g2, List.drop_eq_getElem_cons hlt]
    have t1 := fun kj => text_l1 ws[i] x3 x2 kj ws[i].length 0 N (by omega) (by omega)
    rw [show ((0 : Nat) : Int) = 0 from rfl] at t1
    have hw : s_l09Word N ws[i] W = some (decide ((ws[i].length : Int) ≤ W)) := by
      unfold s_l09Word s_l00In
      rw [withK_n, (t1 _).2, decide_eq_true (by omega : (ws[i].length : Int) ≥ 1), andO_true, Option.bind_some, Option.bind_some]
    have ht : i_isText N ws[i] 33 W = some (decide ((ws[i].length : Int) ≤ W)) := by
      unfold i_isText
      by_cases hc : (ws[i].length : Int) ≤ W
      · rw [decide_eq_false (by omega), cond_false, withK_n, (t1 _).1, decide_eq_true hc]
      · rw [decide_eq_true (by omega), cond_true, decide_eq_false hc]
    rw [ht, hw, Option.bind_some, Option.bind_some, Option.bind_some]
    have hf : fits (ws[i] :: ws.drop (i + 1)) W = (decide ((ws[i].length : Int) ≤ W) && fits (ws.drop (i + 1)) W) := rfl
    rw [hf]
    cases decide ((ws[i].length : Int) ≤ W) with
    | true => exact ⟨rfl, rfl⟩
    | false => exact ⟨rfl, rfl⟩
theorem vt_ok {ws : List Str} (h : TW ws) (W : Int) (h1 : 1 ≤ W) (h2 : W ≤ 80) (N : Nat) (hN : 500 < N) : i_ValidText N ws W = some (fits ws W) ∧ s_l09Ok N ws W = some (fits ws W) := by
  have hl := h.1
  obtain ⟨g1, _⟩ := vt_l1 h W (some true) ws.length 0 N (by omega) (by omega)
  have g2 := fun kj => (vt_l1 h W kj ws.length 0 N (by omega) (by omega)).2
  rw [show ((0 : Nat) : Int) = 0 from rfl, List.drop_zero] at g1 g2
  constructor
  · unfold i_ValidText i_between
    rw [decide_eq_true (by omega : W ≥ 1), andO_true, Option.bind_some, Option.bind_some, decide_eq_true h2, Bool.not_true, orO_false, Option.bind_some, decide_eq_false (by omega), cond_false, withK_n, g1]
    cases fits ws W <;> rfl
  · unfold s_l09Ok s_l00In
    rw [withK_n, g2, decide_eq_true (by omega : (ws.length : Int) ≤ 40), andO_true, decide_eq_true (by omega : W ≥ 1), andO_true, Option.bind_some, Option.bind_some, Option.bind_some, decide_eq_true h2]
    cases fits ws W <;> rfl
theorem fits_of {ws : List Str} {W : Int} (h : ∀ x ∈ ws, (x.length : Int) ≤ W) : fits ws W = true := List.all_eq_true.2 fun x hx => decide_eq_true (h x hx)
theorem of_fits {ws : List Str} {W : Int} (h : fits ws W = true) : ∀ x ∈ ws, (x.length : Int) ≤ W := fun x hx => of_decide_eq_true (List.all_eq_true.1 h x hx)
end Go.Proofs.Ytlmpbacboapkaaa
