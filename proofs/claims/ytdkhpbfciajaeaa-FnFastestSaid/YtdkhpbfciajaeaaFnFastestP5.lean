/-
  Plain lemmas on these functions. No conditions but those that each states.
-/
import Derived.Test.YtdkhpbfciajaeaaFnFastestP4
namespace Go.Proofs.Ytdkhpbfciajaeaa
set_option linter.unusedVariables false
set_option linter.unusedSimpArgs false
/-! Baskets, waits, the fastest strokes. -/
def BG (b : Basket) : Prop := 7 ≤ b.bars ∧ b.bars ≤ 16 ∧ 1 ≤ b.rise ∧ b.rise ≤ 6 ∧ 1 ≤ b.fall ∧ b.fall ≤ 6 ∧ 1 ≤ b.clear ∧ b.clear ≤ 4 ∧ 0 ≤ b.near ∧ b.near ≤ 5
def wt (b : Basket) (x y : Int) : Int := if x = y then b.rise + b.fall else b.clear + imax (b.near - (if x - y < 0 then 0 - (x - y) else x - y)) 0
def InB (b : Basket) (p : List Int) : Prop := ∀ x ∈ p, 0 ≤ x ∧ x < b.bars
theorem imax_ge (a b : Int) : a ≤ imax a b ∧ b ≤ imax a b ∧ (imax a b = a ∨ imax a b = b) := by unfold imax; split <;> omega
theorem wt_rng (b : Basket) (hb : BG b) (x y : Int) : 0 ≤ wt b x y ∧ wt b x y ≤ 12 ∧ (x ≠ y → b.clear ≤ wt b x y) := by
  obtain ⟨h1, h2, h3, h4, h5, h6, h7, h8, h9, h10⟩ := hb
  unfold wt
  have hm := imax_ge (b.near - (if x - y < 0 then 0 - (x - y) else x - y)) 0
  split
  · rename_i he
    exact ⟨by omega, by omega, fun g => absurd he g⟩
  · have : (if x - y < 0 then 0 - (x - y) else x - y) ≥ 0 := by split <;> omega
    generalize (if x - y < 0 then 0 - (x - y) else x - y) = q at *
    exact ⟨by omega, by omega, fun _ => by omega⟩
theorem waits_ok (b : Basket) (hb : BG b) (x y : Int) (hx : 0 ≤ x ∧ x < b.bars) (hy : 0 ≤ y ∧ y < b.bars) : i_Basket_waits b x y = some (wt b x y) := by
  have hw := wt_rng b hb x y
  obtain ⟨h1, h2, h3, h4, h5, h6, h7, h8, h9, h10⟩ := hb
  unfold i_Basket_waits i_absolute wt at *
  by_cases he : x = y
  · have hb : (x == y) = true := by simpa using he
    rw [hb, cond_true, if_pos he, w64_id (by omega) (by omega)]
  · have hb : (x == y) = false := by simpa using he
    rw [hb, cond_false, if_neg he, w64_id (x := x - y) (by omega) (by omega)]
    rw [if_neg he] at hw
    by_cases hn : x - y < 0
    · simp only [hn, decide_true, cond_true, if_true, Option.bind_some] at hw ⊢
      rw [w64_id (x := 0 - (x - y)) (by omega) (by omega), w64_id (x := b.near - (0 - (x - y))) (by omega) (by omega), w64_id (by omega) (by omega)]
    · simp only [hn, decide_false, cond_false, if_false, Option.bind_some] at hw ⊢
      rw [w64_id (x := b.near - (x - y)) (by omega) (by omega), w64_id (by omega) (by omega)]
theorem vb_ok (b : Basket) (hb : BG b) : i_ValidBasket b = some true := by
  obtain ⟨h1, h2, h3, h4, h5, h6, h7, h8, h9, h10⟩ := hb
  unfold i_ValidBasket i_between
  have e1 : (decide (b.bars ≥ 2) && decide (b.bars ≤ 60)) = true := by
    have a : b.bars ≥ 2 := by omega
    have c : b.bars ≤ 60 := by omega
    simp [a, c]
  have e2 : (decide (b.rise ≥ 1) && decide (b.rise ≤ 100)) = true := by
    have a : b.rise ≥ 1 := by omega
    have c : b.rise ≤ 100 := by omega
    simp [a, c]
  have e3 : (decide (b.fall ≥ 1) && decide (b.fall ≤ 100)) = true := by
    have a : b.fall ≥ 1 := by omega
    have c : b.fall ≤ 100 := by omega
    simp [a, c]
  have e4 : (decide (b.clear ≥ 1) && decide (b.clear ≤ 100)) = true := by
    have a : b.clear ≥ 1 := by omega
    have c : b.clear ≤ 100 := by omega
    simp [a, c]
  have e5 : (decide (b.near ≥ 0) && decide (b.near ≤ 100)) = true := by
    have a : b.near ≥ 0 := by omega
    have c : b.near ≤ 100 := by omega
    simp [a, c]
  simp only [andO_some, Option.bind_some, e1, e2, e3, e4, e5, Bool.and_self]
theorem basket_ok (code : List UInt8) : ∃ b, s_A2Basket code = some b ∧ BG b := by
  unfold s_A2Basket s_l03Draw
  rw [fromA]
  simp only [Option.bind_some]
  have main : ∃ v, ((s_l00Src_pick (L00Src.mk code 0 0) 10).bind fun r6 =>
    (s_l00Src_pick (L00Src.mk code r6.2.at_ r6.2.seed) 6).bind fun r9 =>
    (s_l00Src_pick (L00Src.mk code r9.2.at_ r9.2.seed) 6).bind fun r11 =>
    (s_l00Src_pick (L00Src.mk code r11.2.at_ r11.2.seed) 4).bind fun r13 =>
    (s_l00Src_pick (L00Src.mk code r13.2.at_ r13.2.seed) 6).bind fun r15 =>
    some ((Basket.mk (w64 (2 + r6.1)) (w64 (1 + r9.1)) (w64 (1 + r11.1)) (w64 (1 + r13.1)) r15.1), (L00Src.mk code r15.2.at_ r15.2.seed))) = some v ∧ (2 ≤ v.1.bars ∧ v.1.bars ≤ 11 ∧ 1 ≤ v.1.rise ∧ v.1.rise ≤ 6 ∧ 1 ≤ v.1.fall ∧ v.1.fall ≤ 6 ∧ 1 ≤ v.1.clear ∧ v.1.clear ≤ 4 ∧ 0 ≤ v.1.near ∧ v.1.near ≤ 5) := by
    refine bindE (pickA (code := code) (hi := 0) 10 ⟨rfl, by show (0 : Int) ≤ 0; omega, by show (0 : Int) ≤ 0; omega⟩ (by omega)) fun v1 g1 => ?_
    refine bindE (pickA (code := code) (hi := 2) 6 ⟨rfl, g1.1.2⟩ (by omega)) fun v2 g2 => ?_
    refine bindE (pickA (code := code) (hi := 4) 6 ⟨rfl, g2.1.2⟩ (by omega)) fun v3 g3 => ?_
    refine bindE (pickA (code := code) (hi := 6) 4 ⟨rfl, g3.1.2⟩ (by omega)) fun v4 g4 => ?_
    refine bindE (pickA (code := code) (hi := 8) 6 ⟨rfl, g4.1.2⟩ (by omega)) fun v5 g5 => ?_
    have a1 := g1.2.1; have c1 := g1.2.2 (by omega)
    have a2 := g2.2.1; have c2 := g2.2.2 (by omega)
    have a3 := g3.2.1; have c3 := g3.2.2 (by omega)
    have a4 := g4.2.1; have c4 := g4.2.2 (by omega)
    have a5 := g5.2.1; have c5 := g5.2.2 (by omega)
    rw [w64_id (x := 2 + v1.1) (by omega) (by omega), w64_id (x := 1 + v2.1) (by omega) (by omega), w64_id (x := 1 + v3.1) (by omega) (by omega), w64_id (x := 1 + v4.1) (by omega) (by omega)]
    exact ⟨_, rfl, by show 2 ≤ 2 + v1.1; omega, by show 2 + v1.1 ≤ 11; omega, by show 1 ≤ 1 + v2.1; omega, by show 1 + v2.1 ≤ 6; omega, by show 1 ≤ 1 + v3.1; omega, by show 1 + v3.1 ≤ 6; omega, by show 1 ≤ 1 + v4.1; omega, by show 1 + v4.1 ≤ 4; omega, a5, by show v5.1 ≤ 5; omega⟩
  obtain ⟨v, e, h⟩ := main
  rw [e, Option.bind_some, w64_id (by omega) (by omega)]
  exact ⟨_, rfl, by show 7 ≤ v.1.bars + 5; omega, by show v.1.bars + 5 ≤ 16; omega, h.2.2⟩
theorem wt_comm (b : Basket) (x y : Int) : wt b x y = wt b y x := by
  unfold wt
  by_cases h : x = y
  · subst h; rfl
  · have h' : ¬ y = x := fun e => h e.symm
    simp only [h, h', if_false]
    have e : (if x - y < 0 then 0 - (x - y) else x - y) = (if y - x < 0 then 0 - (y - x) else y - x) := by split <;> split <;> omega
    rw [e]
theorem wt_pos (b : Basket) (hb : BG b) (x y : Int) : 1 ≤ wt b x y := by
  have h := wt_rng b hb x y
  obtain ⟨h1, h2, h3, h4, h5, h6, h7, h8, h9, h10⟩ := hb
  by_cases e : x = y
  · unfold wt; rw [if_pos e]; omega
  · have := h.2.2 e; omega
def mx (b : Basket) (e t : Int) : List Stroke → Int
  | [] => t
  | s :: r => mx b e (imax t (s.tick + wt b s.bar e)) r
def fsB (b : Basket) : List Stroke → Int → List Int → List Stroke × Int
  | out, t, [] => (out, t)
  | out, t, e :: es => fsB b (out ++ [⟨e, mx b e t out⟩]) (mx b e t out) es
theorem mx_spec (b : Basket) (e : Int) : ∀ (l : List Stroke) (t : Int), t ≤ mx b e t l ∧ (∀ s ∈ l, s.tick + wt b s.bar e ≤ mx b e t l) ∧ (mx b e t l = t ∨ ∃ s ∈ l, mx b e t l = s.tick + wt b s.bar e)
  | [], t => ⟨Int.le_refl _, (fun s hs => by cases hs), .inl rfl⟩
  | s :: r, t => by
    obtain ⟨h1, h2, h3⟩ := mx_spec b e r (imax t (s.tick + wt b s.bar e))
    have hm := imax_ge t (s.tick + wt b s.bar e)
    simp only [mx]
    refine ⟨by omega, fun u hu => ?_, ?_⟩
    · rcases List.mem_cons.1 hu with rfl | hu
      · omega
      · exact h2 u hu
    · rcases h3 with h3 | ⟨u, hu, h3⟩
      · rcases hm.2.2 with h4 | h4
        · left; omega
        · right; exact ⟨s, List.mem_cons_self, by omega⟩
      · right; exact ⟨u, List.mem_cons_of_mem _ hu, h3⟩
def FI (b : Basket) (l : List Stroke) (t : Int) : Prop :=
  (∀ s ∈ l, 0 ≤ s.bar ∧ s.bar < b.bars ∧ 0 ≤ s.tick ∧ s.tick ≤ t) ∧ l.Pairwise (fun s u => s.tick + wt b s.bar u.bar ≤ u.tick) ∧ (∀ j u, l[j]? = some u → 0 < j → ∃ s ∈ l.take j, u.tick = s.tick + wt b s.bar u.bar) ∧
  (∀ u, l[0]? = some u → u.tick = 0) ∧ 0 ≤ t ∧ t ≤ 12 * l.length ∧ (l = [] → t = 0) ∧ (∀ u, l.getLast? = some u → u.tick = t)
theorem FI.nil (b : Basket) : FI b [] 0 := ⟨(fun s hs => by cases hs), List.Pairwise.nil, (fun j u h => by simp at h), (fun u h => by simp at h), Int.le_refl _, Int.le_refl _, (fun _ => rfl), (fun u h => by simp at h)⟩
theorem FI.step {b : Basket} (hb : BG b) {l : List Stroke} {t : Int} (h : FI b l t) (e : Int) (he : 0 ≤ e ∧ e < b.bars) : FI b (l ++ [⟨e, mx b e t l⟩]) (mx b e t l) := by
  obtain ⟨h1, h2, h3, h4, h5, h6, h7, h8⟩ := h
  obtain ⟨m1, m2, m3⟩ := mx_spec b e l t
  have hm12 : mx b e t l ≤ t + 12 := by
    rcases m3 with m3 | ⟨s, hs, m3⟩
    · omega
    · have := h1 s hs; have := (wt_rng b hb s.bar e).2.1; omega
  refine ⟨fun s hs => ?_, ?_, fun j u hj h0 => ?_, fun u hu => ?_, by omega, by simp; omega, fun h => by simp at h, fun u hu => ?_⟩
  · rcases List.mem_append.1 hs with hs | hs
    · have := h1 s hs; exact ⟨this.1, this.2.1, this.2.2.1, by omega⟩
    · rw [List.mem_singleton.1 hs]; exact ⟨he.1, he.2, by show 0 ≤ mx b e t l; omega, Int.le_refl _⟩
  · rw [List.pairwise_append]
    refine ⟨h2, by simp, fun a ha c hc => ?_⟩
    rw [List.mem_singleton.1 hc]
    exact m2 a ha
  · by_cases hjl : j < l.length
    · rw [List.getElem?_append_left hjl] at hj
      obtain ⟨s, hs, e1⟩ := h3 j u hj h0
      exact ⟨s, by rw [List.take_append_of_le_length (by omega)]; exact hs, e1⟩
    · have hj2 := lt_of_some hj
      simp only [List.length_append, List.length_cons, List.length_nil] at hj2
      have hjj : j = l.length := by omega
      subst hjj
      rw [List.getElem?_append_right (Nat.le_refl _)] at hj
      simp at hj
      subst hj
      rw [List.take_append_of_le_length (Nat.le_refl _), List.take_length]
      rcases m3 with m3 | m3
      · exfalso
        cases hl : l.getLast? with
        | none => rw [List.getLast?_eq_none_iff] at hl; subst hl; simp at h0
        | some u =>
          have hu := List.mem_of_getLast? hl
          have := h8 u hl
          have := m2 u hu
          have := wt_pos b hb u.bar e
          omega
      · exact m3
  · cases l with
    | nil =>
      simp at hu
      subst hu
      show mx b e t [] = 0
      exact h7 rfl
    | cons s r => exact h4 u (by simpa using hu)
  · simp at hu
    subst hu
    rfl
theorem fsB_ok (b : Basket) (hb : BG b) : ∀ (es : List Int) (l : List Stroke) (t : Int), FI b l t → InB b es → FI b (fsB b l t es).1 (fsB b l t es).2 ∧ (fsB b l t es).1.map Stroke.bar = l.map Stroke.bar ++ es
  | [], l, t, h, _ => by simpa [fsB] using h
  | e :: es, l, t, h, hi => by
    obtain ⟨g1, g2⟩ := fsB_ok b hb es _ _ (h.step hb e (hi e List.mem_cons_self)) (fun x hx => hi x (List.mem_cons_of_mem _ hx))
    simp only [fsB]
    exact ⟨g1, by rw [g2]; simp⟩
theorem fa_l2 (b : Basket) (hb : BG b) (l : List Stroke) (t0 : Int) (hl : l.length ≤ 60) (ht0 : t0 ≤ 100000) (h1 : ∀ s ∈ l, 0 ≤ s.bar ∧ s.bar < b.bars ∧ 0 ≤ s.tick ∧ s.tick ≤ t0) (e : Int) (he : 0 ≤ e ∧ e < b.bars) (kj : Int → Option (List Stroke)) : ∀ (q i N : Nat) (t : Int), i + q = l.length → q < N → i_Basket_fastest_l2 kj b l e N t (i : Int) = kj (mx b e t (l.drop i)) := by
  intro q
  induction q with
  | zero =>
    intro i N t hi hN
    obtain ⟨N, rfl⟩ := pos_fuel hN
    have hz : ¬ (i : Int) < (l.length : Int) := by omega
    simp only [i_Basket_fastest_l2, hz, decide_false, cond_false]
    rw [List.drop_eq_nil_of_le (by omega)]
    rfl
  | succ q ih =>
    intro i N t hi hN
    obtain ⟨N, rfl⟩ := pos_fuel hN
    have hz : (i : Int) < (l.length : Int) := by omega
    have hlt : i < l.length := by omega
    have hs := h1 _ (List.getElem_mem hlt)
    have hw := wt_rng b hb l[i].bar e
    simp only [i_Basket_fastest_l2, hz, decide_true, cond_true]
    rw [idx_lt l i hlt, Option.bind_some, waits_ok b hb _ _ ⟨hs.1, hs.2.1⟩ he, Option.bind_some, w64_nat i (by omega), w64_id (by omega) (by omega), ih (i + 1) N _ (by omega) (by omega), List.drop_eq_getElem_cons hlt]
    rfl
theorem fa_l1 (b : Basket) (hb : BG b) (r : List Int) (hr : r.length ≤ 11) (hin : InB b r) (kj : List Stroke → Option (List Stroke)) : ∀ (q i N : Nat) (l : List Stroke) (t : Int), i + q = r.length → q + 20 < N → l.length = i → FI b l t → i_Basket_fastest_l1 kj b r N l t (i : Int) = kj (fsB b l t (r.drop i)).1 := by
  intro q
  induction q with
  | zero =>
    intro i N l t hi hN hl h
    obtain ⟨N, rfl⟩ := pos_fuel (show 0 < N by omega)
    have hz : ¬ (i : Int) < (r.length : Int) := by omega
    simp only [i_Basket_fastest_l1, hz, decide_false, cond_false]
    rw [List.drop_eq_nil_of_le (by omega)]
    rfl
  | succ q ih =>
    intro i N l t hi hN hl h
    obtain ⟨N, rfl⟩ := pos_fuel (show 0 < N by omega)
    have hz : (i : Int) < (r.length : Int) := by omega
    have hlt : i < r.length := by omega
    have he := hin _ (List.getElem_mem hlt)
    have ht : t ≤ 12 * l.length := h.2.2.2.2.2.1
    simp only [i_Basket_fastest_l1, hz, decide_true, cond_true, withK_eq]
    rw [idx_lt r i hlt, Option.bind_some]
    have e2 := fa_l2 b hb l t (by omega) (by omega) h.1 r[i] he (fun tick26 => (app l [(Stroke.mk r[i] tick26)]).bind fun l38 => i_Basket_fastest_l1 kj b r N l38 tick26 (w64 ((i : Int) + 1))) l.length 0 N t (by omega) (by omega)
    rw [show ((0 : Nat) : Int) = 0 from rfl, List.drop_zero] at e2
    rw [e2, app_some _ _ (by unfold LIM; simp; omega), Option.bind_some, w64_nat i (by omega), ih (i + 1) N _ _ (by omega) (by omega) (by simp; omega) (h.step hb _ he), List.drop_eq_getElem_cons hlt]
    rfl
def fs (b : Basket) (r : List Int) : List Stroke := (fsB b [] 0 r).1
theorem fs_FI (b : Basket) (hb : BG b) (r : List Int) (hin : InB b r) : FI b (fs b r) (fsB b [] 0 r).2 := (fsB_ok b hb r [] 0 (FI.nil b) hin).1
theorem fs_bar (b : Basket) (hb : BG b) (r : List Int) (hin : InB b r) : (fs b r).map Stroke.bar = r := by simpa [fs] using (fsB_ok b hb r [] 0 (FI.nil b) hin).2
theorem fs_len (b : Basket) (hb : BG b) (r : List Int) (hin : InB b r) : (fs b r).length = r.length := by
  have := congrArg List.length (fs_bar b hb r hin); simpa using this
theorem fa_ok (b : Basket) (hb : BG b) (r : List Int) (hr : r.length ≤ 11) (hin : InB b r) (N : Nat) (hN : 50 < N) : i_Basket_fastest N b r = some (fs b r) := by
  unfold i_Basket_fastest
  simp only [withK_eq]
  have := fa_l1 b hb r hr hin (fun l => some l) r.length 0 N [] 0 (by omega) (by omega) rfl (FI.nil b)
  rw [show ((0 : Nat) : Int) = 0 from rfl] at this
  rw [this]; rfl
theorem has_bar (b : Basket) (hb : BG b) (x : Int) (h : 0 ≤ x ∧ x < b.bars) : i_Basket_hasBar b x = some true := by
  obtain ⟨h1, h2, _⟩ := hb
  unfold i_Basket_hasBar i_between
  rw [w64_id (by omega) (by omega), decide_eq_true (by omega : x ≥ 0), decide_eq_true (by omega : x ≤ b.bars - 1)]
  rfl
theorem bars_l1 (b : Basket) (hb : BG b) (r : List Int) (hr : r.length ≤ 60) (hin : InB b r) (kj : Option Bool) : ∀ (q i N : Nat), i + q = r.length → q < N → i_Basket_areBars_l1 kj b r N (i : Int) = kj := by
  intro q
  induction q with
  | zero =>
    intro i N hi hN
    obtain ⟨N, rfl⟩ := pos_fuel hN
    have hz : ¬ (i : Int) < (r.length : Int) := by omega
    simp only [i_Basket_areBars_l1, hz, decide_false, cond_false]
  | succ q ih =>
    intro i N hi hN
    obtain ⟨N, rfl⟩ := pos_fuel hN
    have hz : (i : Int) < (r.length : Int) := by omega
    have hlt : i < r.length := by omega
    simp only [i_Basket_areBars_l1, hz, decide_true, cond_true]
    rw [idx_lt r i hlt, Option.bind_some, has_bar b hb _ (hin _ (List.getElem_mem hlt)), Option.bind_some, Bool.not_true, cond_false, w64_nat i (by omega)]
    exact ih (i + 1) N (by omega) (by omega)
theorem bars_ok (b : Basket) (hb : BG b) (r : List Int) (hr : r.length ≤ 60) (hin : InB b r) (N : Nat) (hN : 70 < N) : i_Basket_areBars N b r = some true := by
  unfold i_Basket_areBars
  simp only [withK_eq]
  have := bars_l1 b hb r hr hin (some (decide ((r.length : Int) ≤ 60))) r.length 0 N (by omega) (by omega)
  rw [show ((0 : Nat) : Int) = 0 from rfl] at this
  rw [this, decide_eq_true (by omega)]
theorem fastest_ok (b : Basket) (hb : BG b) (r : List Int) (hr : r.length ≤ 11) (hin : InB b r) (N : Nat) (hN : 100 < N) : i_FastestStrokes N b r = some (fs b r, 0) := by
  unfold i_FastestStrokes
  rw [vb_ok b hb, Option.bind_some]
  simp only [Bool.not_true, cond_false]
  rw [bars_ok b hb r (by omega) hin N (by omega), Option.bind_some]
  simp only [Bool.not_true, cond_false]
  rw [fa_ok b hb r hr hin N (by omega), Option.bind_some]
end Go.Proofs.Ytdkhpbfciajaeaa
