/-
  Plain lemmas on these functions. No conditions but those that each states.
-/
import Derived.Test.YtdkhpbfciajaeaaFnFastestP5
namespace Go.Proofs.Ytdkhpbfciajaeaa
set_option linter.unusedVariables false
set_option linter.unusedSimpArgs false
/-! Strokes that are valid, jams, bars in the air. -/
def VS (b : Basket) (l : List Stroke) : Prop := l.length ≤ 60 ∧ (∀ s ∈ l, 0 ≤ s.bar ∧ s.bar < b.bars ∧ 0 ≤ s.tick ∧ s.tick ≤ 1000000) ∧ l.Pairwise (fun s u => s.tick ≤ u.tick)
theorem VS.get {b : Basket} {l : List Stroke} (h : VS b l) (i j : Nat) (hij : i < j) (hj : j < l.length) : (l[i]'(by omega)).tick ≤ l[j].tick := List.pairwise_iff_getElem.1 h.2.2 i j (by omega) hj hij
theorem FI.vs {b : Basket} (hb : BG b) {l : List Stroke} {t : Int} (h : FI b l t) (hl : l.length ≤ 60) : VS b l := by
  obtain ⟨h1, h2, h3, h4, h5, h6, h7, h8⟩ := h
  exact ⟨hl, fun s hs => by have := h1 s hs; omega, h2.imp fun {s u} hsu => by have := wt_pos b hb s.bar u.bar; omega⟩
theorem vs_l1 (b : Basket) (hb : BG b) (l : List Stroke) (h : VS b l) (kj : Option Bool) : ∀ (q i N : Nat) (last : Int), i + q = l.length → q < N → (∀ j (hj : j < l.length), i ≤ j → last ≤ l[j].tick) → i_ValidStrokes_l1 kj b l N last (i : Int) = kj := by
  have h60 := h.1
  intro q
  induction q with
  | zero =>
    intro i N last hi hN hl
    obtain ⟨N, rfl⟩ := pos_fuel hN
    have hz : ¬ (i : Int) < (l.length : Int) := by omega
    simp only [i_ValidStrokes_l1, hz, decide_false, cond_false]
  | succ q ih =>
    intro i N last hi hN hl
    obtain ⟨N, rfl⟩ := pos_fuel hN
    have hz : (i : Int) < (l.length : Int) := by omega
    have hlt : i < l.length := by omega
    have hs := h.2.1 _ (List.getElem_mem hlt)
    have hlast := hl i hlt (Nat.le_refl _)
    have hbt : i_between l[i].tick last 1000000 = some true := by
      unfold i_between
      rw [decide_eq_true (by omega : l[i].tick ≥ last), decide_eq_true (by omega : l[i].tick ≤ 1000000)]; rfl
    simp only [i_ValidStrokes_l1, hz, decide_true, cond_true]
    rw [idx_lt l i hlt, Option.bind_some, has_bar b hb _ ⟨hs.1, hs.2.1⟩, Option.bind_some, hbt]
    simp only [Bool.not_true, orO_false, Option.bind_some, cond_false]
    rw [w64_nat i (by omega)]
    refine ih (i + 1) N _ (by omega) (by omega) fun j hj hij => h.get i j (by omega) hj
theorem vs_ok (b : Basket) (hb : BG b) (l : List Stroke) (h : VS b l) (N : Nat) (hN : 70 < N) : i_ValidStrokes N b l = some true := by
  have h60 := h.1
  unfold i_ValidStrokes
  rw [vb_ok b hb, Option.bind_some]
  simp only [Bool.not_true, orO_false, Option.bind_some, withK_eq]
  rw [decide_eq_false (by omega : ¬ (l.length : Int) > 60), cond_false]
  have := vs_l1 b hb l h (some true) l.length 0 N 0 (by omega) (by omega) (fun j hj _ => (h.2.1 _ (List.getElem_mem hj)).2.2.1)
  rw [show ((0 : Nat) : Int) = 0 from rfl] at this
  exact this
theorem in_ok (n lo hi : Int) (h1 : lo ≤ n) (h2 : n ≤ hi) : s_l00In n lo hi = some true := by
  unfold s_l00In
  rw [decide_eq_true (by omega : n ≥ lo), decide_eq_true h2]; rfl
theorem bar_ok (b : Basket) (hb : BG b) (x : Int) (h : 0 ≤ x ∧ x < b.bars) : s_l03Bar b x = some true := by
  obtain ⟨h1, h2, _⟩ := hb
  unfold s_l03Bar
  rw [w64_id (by omega) (by omega), in_ok _ _ _ (by omega) (by omega)]; rfl
theorem ok3 (b : Basket) (hb : BG b) : s_l03Ok b = some true := by
  obtain ⟨h1, h2, h3, h4, h5, h6, h7, h8, h9, h10⟩ := hb
  unfold s_l03Ok
  rw [in_ok b.bars _ _ (by omega) (by omega), in_ok b.rise _ _ (by omega) (by omega), in_ok b.fall _ _ (by omega) (by omega), in_ok b.clear _ _ (by omega) (by omega), in_ok b.near _ _ (by omega) (by omega)]
  rfl
theorem ss_l1 (b : Basket) (hb : BG b) (l : List Stroke) (h : VS b l) (kj : Option Bool) : ∀ (q i N : Nat), i + q = l.length → q < N → s_l03Strokes_l1 kj b l N (i : Int) = kj := by
  have h60 := h.1
  intro q
  induction q with
  | zero =>
    intro i N hi hN
    obtain ⟨N, rfl⟩ := pos_fuel hN
    have hz : ¬ (i : Int) < (l.length : Int) := by omega
    simp only [s_l03Strokes_l1, hz, decide_false, cond_false]
  | succ q ih =>
    intro i N hi hN
    obtain ⟨N, rfl⟩ := pos_fuel hN
    have hz : (i : Int) < (l.length : Int) := by omega
    have hlt : i < l.length := by omega
    have hs := h.2.1 _ (List.getElem_mem hlt)
    simp only [s_l03Strokes_l1, hz, decide_true, cond_true]
    rw [idx_lt l i hlt]
    simp only [Option.bind_some]
    rw [bar_ok b hb _ ⟨hs.1, hs.2.1⟩, in_ok _ _ _ hs.2.2.1 hs.2.2.2]
    simp only [Option.bind_some, Bool.not_true, orO_false]
    have hn : (andO (decide ((i : Int) > 0)) ((idx l (w64 ((i : Int) - 1))).bind fun e33 => some (decide (e33.tick > l[i].tick)))) = some false := by
      cases i with
      | zero => rfl
      | succ j =>
        have hj : w64 (((j + 1 : Nat) : Int) - 1) = (j : Int) := by rw [w64_id (by omega) (by omega)]; omega
        rw [decide_eq_true (by omega : ((j + 1 : Nat) : Int) > 0), andO_true, hj, idx_lt l j (by omega), Option.bind_some]
        have := h.get j (j + 1) (by omega) hlt
        rw [decide_eq_false (by omega)]
    rw [hn]
    simp only [Option.bind_some, cond_false]
    rw [w64_nat i (by omega)]
    exact ih (i + 1) N (by omega) (by omega)
theorem ss_ok (b : Basket) (hb : BG b) (l : List Stroke) (h : VS b l) (N : Nat) (hN : 70 < N) : s_ValidStrokes N b l = some true := by
  have h60 := h.1
  unfold s_ValidStrokes s_l03Strokes
  simp only [withK_eq]
  have := ss_l1 b hb l h ((s_l03Ok b).bind fun r44 => (andO r44 (some (decide ((l.length : Int) ≤ 60)))).bind fun t46 => some t46) l.length 0 N (by omega) (by omega)
  rw [show ((0 : Nat) : Int) = 0 from rfl] at this
  rw [this, ok3 b hb, decide_eq_true (by omega : (l.length : Int) ≤ 60)]; rfl
theorem abs_ok (x : Int) (h : -9223372036854775807 ≤ x ∧ x ≤ 9223372036854775807) : i_absolute x = some (if x < 0 then 0 - x else x) := by
  unfold i_absolute
  by_cases h0 : x < 0
  · rw [decide_eq_true h0, cond_true, w64_id (by omega) (by omega), if_pos h0]
  · rw [decide_eq_false h0, cond_false, if_neg h0]
def jm (b : Basket) (s u : Stroke) : Bool := decide ((if s.tick - u.tick < 0 then 0 - (s.tick - u.tick) else s.tick - u.tick) < wt b s.bar u.bar)
theorem jams_ok (b : Basket) (hb : BG b) (s u : Stroke) (hs : 0 ≤ s.bar ∧ s.bar < b.bars ∧ 0 ≤ s.tick ∧ s.tick ≤ 1000000) (hu : 0 ≤ u.bar ∧ u.bar < b.bars ∧ 0 ≤ u.tick ∧ u.tick ≤ 1000000) : i_Basket_jams b s u = some (jm b s u) := by
  unfold i_Basket_jams
  rw [w64_id (by omega) (by omega), abs_ok _ (by omega), Option.bind_some, waits_ok b hb _ _ ⟨hs.1, hs.2.1⟩ ⟨hu.1, hu.2.1⟩, Option.bind_some]
  rfl
/-- pairs that jam: u with what stands before it -/
def jR (b : Basket) (u : Stroke) : List Stroke → Int
  | [] => 0
  | s :: r => (if jm b u s then 1 else 0) + jR b u r
def jT (b : Basket) : List Stroke → List Stroke → Int
  | _, [] => 0
  | pre, u :: r => jR b u pre + jT b (pre ++ [u]) r
theorem jR_rng (b : Basket) (u : Stroke) : ∀ l : List Stroke, 0 ≤ jR b u l ∧ jR b u l ≤ l.length
  | [] => by simp [jR]
  | s :: r => by have := jR_rng b u r; simp only [jR, List.length_cons]; split <;> omega
theorem jR_pos (b : Basket) (u : Stroke) : ∀ (l : List Stroke) (s : Stroke), s ∈ l → jm b u s = true → 1 ≤ jR b u l
  | [], _, h, _ => by cases h
  | x :: r, s, h, hj => by
    have hr := jR_rng b u r
    simp only [jR]
    rcases List.mem_cons.1 h with rfl | h
    · rw [if_pos hj]; omega
    · have := jR_pos b u r s h hj; split <;> omega
theorem jR_zero (b : Basket) (u : Stroke) : ∀ (l : List Stroke), (∀ s ∈ l, jm b u s = false) → jR b u l = 0
  | [], _ => rfl
  | x :: r, h => by
    simp only [jR]
    rw [h x List.mem_cons_self, jR_zero b u r fun s hs => h s (List.mem_cons_of_mem _ hs)]; rfl
theorem jT_nn (b : Basket) : ∀ (r pre : List Stroke), 0 ≤ jT b pre r
  | [], _ => Int.le_refl _
  | u :: r, pre => by have := jT_nn b r (pre ++ [u]); have := jR_rng b u pre; simp only [jT]; omega
theorem jT_zero (b : Basket) : ∀ (r pre : List Stroke), (∀ i j (hj : j < (pre ++ r).length) (hij : i < j), pre.length ≤ j → jm b (pre ++ r)[j] ((pre ++ r)[i]'(by omega)) = false) → jT b pre r = 0
  | [], _, _ => rfl
  | u :: r, pre, h => by
    simp only [jT]
    have h1 : jR b u pre = 0 := jR_zero b u pre fun s hs => by
      obtain ⟨i, hi, rfl⟩ := List.getElem_of_mem hs
      have := h i pre.length (by simp) hi (Nat.le_refl _)
      simpa [List.getElem_append_left hi] using this
    have h2 : jT b (pre ++ [u]) r = 0 := jT_zero b r (pre ++ [u]) fun i j hj hij hle => by
      have e : pre ++ [u] ++ r = pre ++ u :: r := by simp
      simp only [e] at hj ⊢
      exact h i j hj hij (by simp at hle; omega)
    omega
theorem jT_pos (b : Basket) (u s : Stroke) (hj : jm b u s = true) : ∀ (r pre : List Stroke), s ∈ pre ++ r → 1 ≤ jT b pre (r ++ [u])
  | [], pre, hs => by
    simp only [List.nil_append, jT]
    have := jR_pos b u pre s (by simpa using hs) hj
    omega
  | x :: r, pre, hs => by
    have := jT_pos b u s hj r (pre ++ [x]) (by simpa using hs)
    have h2 := jR_rng b x pre
    simp only [List.cons_append, jT]; omega
theorem cj_l2 (b : Basket) (hb : BG b) (l : List Stroke) (h : VS b l) (x : Nat) (hx : x < l.length) (kj : Int → Option (Int × Int)) : ∀ (q i N : Nat) (c : Int), i + q = x → q < N → 0 ≤ c → c + q ≤ 100000 → i_CountJams_l2 kj b l (x : Int) N c (i : Int) = kj (c + jR b l[x] ((l.take x).drop i)) := by
  have h60 := h.1
  intro q
  induction q with
  | zero =>
    intro i N c hi hN h0 h1
    obtain ⟨N, rfl⟩ := pos_fuel hN
    have hz : ¬ (i : Int) < (x : Int) := by omega
    simp only [i_CountJams_l2, hz, decide_false, cond_false]
    rw [List.drop_eq_nil_of_le (by rw [List.length_take]; omega)]
    simp [jR]
  | succ q ih =>
    intro i N c hi hN h0 h1
    obtain ⟨N, rfl⟩ := pos_fuel hN
    have hz : (i : Int) < (x : Int) := by omega
    have hlt : i < l.length := by omega
    have hltt : i < (l.take x).length := by rw [List.length_take]; omega
    simp only [i_CountJams_l2, hz, decide_true, cond_true, withK_eq]
    rw [idx_lt l x hx, Option.bind_some, idx_lt l i hlt, Option.bind_some, jams_ok b hb _ _ (h.2.1 _ (List.getElem_mem hx)) (h.2.1 _ (List.getElem_mem hlt)), Option.bind_some, w64_nat i (by omega), List.drop_eq_getElem_cons hltt, List.getElem_take]
    simp only [jR]
    cases hj : jm b l[x] l[i] with
    | true =>
      simp only [cond_true, if_true]
      rw [w64_id (by omega) (by omega), ih (i + 1) N _ (by omega) (by omega) (by omega) (by omega), Int.add_assoc]
    | false =>
      simp only [cond_false, Bool.false_eq_true, if_false]
      rw [ih (i + 1) N _ (by omega) (by omega) h0 (by omega)]; simp
theorem cj_l1 (b : Basket) (hb : BG b) (l : List Stroke) (h : VS b l) (kj : Int → Option (Int × Int)) : ∀ (q i N : Nat) (c : Int), i + q = l.length → q + 70 < N → 0 ≤ c → c ≤ 60 * i → i_CountJams_l1 kj b l N c (i : Int) = kj (c + jT b (l.take i) (l.drop i)) := by
  have h60 := h.1
  intro q
  induction q with
  | zero =>
    intro i N c hi hN h0 h1
    obtain ⟨N, rfl⟩ := pos_fuel (show 0 < N by omega)
    have hz : ¬ (i : Int) < (l.length : Int) := by omega
    simp only [i_CountJams_l1, hz, decide_false, cond_false]
    rw [List.drop_eq_nil_of_le (by omega)]
    simp [jT]
  | succ q ih =>
    intro i N c hi hN h0 h1
    obtain ⟨N, rfl⟩ := pos_fuel (show 0 < N by omega)
    have hz : (i : Int) < (l.length : Int) := by omega
    have hlt : i < l.length := by omega
    have hr := jR_rng b l[i] (l.take i)
    rw [List.length_take] at hr
    simp only [i_CountJams_l1, hz, decide_true, cond_true, withK_eq]
    have e2 := cj_l2 b hb l h i hlt (fun jams15 => i_CountJams_l1 kj b l N jams15 (w64 ((i : Int) + 1))) i 0 N c (by omega) (by omega) h0 (by omega)
    rw [show ((0 : Nat) : Int) = 0 from rfl, List.drop_zero] at e2
    rw [e2, w64_nat i (by omega), ih (i + 1) N _ (by omega) (by omega) (by omega) (by omega), List.drop_eq_getElem_cons hlt]
    simp only [jT]
    rw [List.take_succ_eq_append_getElem hlt, Int.add_assoc]
theorem cj_ok (b : Basket) (hb : BG b) (l : List Stroke) (h : VS b l) (N : Nat) (hN : 200 < N) : i_CountJams N b l = some (jT b [] l, 0) := by
  have h60 := h.1
  unfold i_CountJams
  rw [vs_ok b hb l h N (by omega), Option.bind_some]
  simp only [Bool.not_true, cond_false, withK_eq]
  have := cj_l1 b hb l h (fun j => some (j, 0)) l.length 0 N 0 (by omega) (by omega) (by omega) (by omega)
  rw [show ((0 : Nat) : Int) = 0 from rfl] at this
  rw [this]; simp
theorem FI.jams {b : Basket} (hb : BG b) {l : List Stroke} {t : Int} (h : FI b l t) : jT b [] l = 0 := jT_zero b l [] fun i j hj hij _ => by
  simp only [List.nil_append] at hj ⊢
  have := List.pairwise_iff_getElem.1 h.2.1 i j (by omega) hj hij
  have hp := wt_pos b hb l[i].bar l[j].bar
  unfold jm
  rw [wt_comm b l[j].bar]
  refine decide_eq_false ?_
  split <;> omega
/-- bars in the air -/
def up1 (b : Basket) (t : Int) (s : Stroke) : Bool := decide (s.tick ≤ t) && decide (t < s.tick + b.rise + b.fall)
def ups (b : Basket) (t : Int) : List Bool → List Stroke → List Bool
  | m, [] => m
  | m, s :: r => ups b t (if up1 b t s then m.set s.bar.toNat true else m) r
def cnT : List Bool → Nat
  | [] => 0
  | x :: r => (if x then 1 else 0) + cnT r
theorem cnT_set : ∀ (l : List Bool) (i : Nat), cnT (l.set i true) ≤ cnT l + 1
  | [], _ => by simp [cnT]
  | x :: r, 0 => by simp only [List.set_cons_zero, cnT, if_true]; split <;> omega
  | x :: r, i + 1 => by have := cnT_set r i; simp only [List.set_cons_succ, cnT]; omega
theorem ups_len (b : Basket) (t : Int) : ∀ (l : List Stroke) (m : List Bool), (ups b t m l).length = m.length
  | [], _ => rfl
  | s :: r, m => by simp only [ups]; rw [ups_len b t r]; split <;> simp
theorem ups_cn (b : Basket) (t : Int) : ∀ (l : List Stroke) (m : List Bool), cnT (ups b t m l) ≤ cnT m + l.length
  | [], _ => by simp [ups]
  | s :: r, m => by
    have h := ups_cn b t r (if up1 b t s then m.set s.bar.toNat true else m)
    have h2 := cnT_set m s.bar.toNat
    simp only [ups, List.length_cons]
    split at h <;> rename_i hu <;> simp only [hu, if_true, if_false] <;> simp_all <;> omega
theorem ups_mono (b : Basket) (t : Int) (k : Nat) : ∀ (l : List Stroke) (m : List Bool), m[k]? = some true → (ups b t m l)[k]? = some true
  | [], _, h => h
  | s :: r, m, h => by
    simp only [ups]
    refine ups_mono b t k r _ ?_
    split
    · by_cases e : s.bar.toNat = k
      · subst e; rw [List.getElem?_set_self (lt_of_some h)]
      · rw [List.getElem?_set_ne e]; exact h
    · exact h
theorem ups_mem (b : Basket) (t : Int) : ∀ (l : List Stroke) (m : List Bool) (s : Stroke), s ∈ l → up1 b t s = true → s.bar.toNat < m.length → (ups b t m l)[s.bar.toNat]? = some true
  | [], _, _, h, _, _ => by cases h
  | x :: r, m, s, h, hu, hm => by
    simp only [ups]
    rcases List.mem_cons.1 h with rfl | h
    · rw [if_pos hu]
      exact ups_mono b t _ r _ (List.getElem?_set_self hm)
    · exact ups_mem b t r _ s h hu (by split <;> simpa using hm)
theorem ups_none (b : Basket) (t : Int) : ∀ (l : List Stroke) (m : List Bool), (∀ s ∈ l, up1 b t s = false) → ups b t m l = m
  | [], _, _ => rfl
  | x :: r, m, h => by
    simp only [ups]
    rw [h x List.mem_cons_self]
    exact ups_none b t r m fun s hs => h s (List.mem_cons_of_mem _ hs)
theorem air_l1 (b : Basket) (hb : BG b) (l : List Stroke) (h : VS b l) (t : Int) (kj : List Bool → Option (List Int × Int)) : ∀ (q i N : Nat) (m : List Bool), i + q = l.length → q < N → m.length = 60 → i_InTheAir_l1 kj b l t N m (i : Int) = kj (ups b t m (l.drop i)) := by
  have h60 := h.1
  have hb' := hb
  obtain ⟨g1, g2, g3, g4, g5, g6, g7, g8, g9, g10⟩ := hb
  intro q
  induction q with
  | zero =>
    intro i N m hi hN hm
    obtain ⟨N, rfl⟩ := pos_fuel hN
    have hz : ¬ (i : Int) < (l.length : Int) := by omega
    simp only [i_InTheAir_l1, hz, decide_false, cond_false]
    rw [List.drop_eq_nil_of_le (by omega)]
    rfl
  | succ q ih =>
    intro i N m hi hN hm
    obtain ⟨N, rfl⟩ := pos_fuel hN
    have hz : (i : Int) < (l.length : Int) := by omega
    have hlt : i < l.length := by omega
    have hs := h.2.1 _ (List.getElem_mem hlt)
    simp only [i_InTheAir_l1, hz, decide_true, cond_true, withK_eq]
    rw [idx_lt l i hlt, Option.bind_some, w64_id (x := l[i].tick + b.rise) (by omega) (by omega), w64_id (by omega) (by omega), andO_some, Option.bind_some, w64_nat i (by omega), List.drop_eq_getElem_cons hlt]
    have hu : (decide (l[i].tick ≤ t) && decide (t < l[i].tick + b.rise + b.fall)) = up1 b t l[i] := rfl
    rw [hu]
    simp only [ups]
    cases hx : up1 b t l[i] with
    | true =>
      simp only [cond_true, if_true]
      rw [idx_int m _ hs.1 (by omega), Option.bind_some, ih (i + 1) N _ (by omega) (by omega) (by simpa using hm)]
    | false =>
      simp only [cond_false, Bool.false_eq_true, if_false]
      rw [ih (i + 1) N _ (by omega) (by omega) hm]
theorem air_l2 (m : List Bool) (hm : m.length = 60) (kj : List Int → Option (List Int × Int)) (Q : List Int × Int → Prop) : ∀ (q i N : Nat) (l : List Int), i + q = 60 → q < N → l.length ≤ i →
    (∀ l', l'.length = l.length + cnT (m.drop i) → (∀ y, y ∈ l' ↔ y ∈ l ∨ ∃ k : Nat, i ≤ k ∧ y = (k : Int) ∧ m[k]? = some true) → ∃ r, kj l' = some r ∧ Q r) → ∃ r, i_InTheAir_l2 kj m N l (i : Int) = some r ∧ Q r := by
  intro q
  induction q with
  | zero =>
    intro i N l hi hN hl k
    obtain ⟨N, rfl⟩ := pos_fuel hN
    have hz : ¬ (i : Int) < 60 := by omega
    simp only [i_InTheAir_l2, hz, decide_false, cond_false]
    refine k l (by rw [List.drop_eq_nil_of_le (by omega)]; rfl) fun y => ⟨.inl, fun h => ?_⟩
    rcases h with h | ⟨j, hj, _, h⟩
    · exact h
    · have := lt_of_some h; omega
  | succ q ih =>
    intro i N l hi hN hl k
    obtain ⟨N, rfl⟩ := pos_fuel hN
    have hz : (i : Int) < 60 := by omega
    have hlt : i < m.length := by omega
    have hix : idxA 60 m (i : Int) = some m[i] := by unfold idxA; rw [if_pos hm, idx_lt m i hlt]
    simp only [i_InTheAir_l2, hz, decide_true, cond_true, withK_eq]
    rw [hix, Option.bind_some, w64_nat i (by omega)]
    rw [List.drop_eq_getElem_cons hlt] at k
    simp only [cnT] at k
    cases hx : m[i] with
    | true =>
      rw [hx] at k
      simp only [cond_true]
      rw [app_some _ _ (by unfold LIM; simp; omega), Option.bind_some]
      refine ih (i + 1) N _ (by omega) (by omega) (by simp; omega) fun l' h1 h2 => k l' (by rw [h1]; simp; omega) fun y => ?_
      rw [h2 y, List.mem_append, List.mem_singleton]
      constructor
      · rintro ((h | rfl) | ⟨j, hj, e, h⟩)
        · exact .inl h
        · exact .inr ⟨i, Nat.le_refl _, rfl, by rw [List.getElem?_eq_getElem hlt, hx]⟩
        · exact .inr ⟨j, by omega, e, h⟩
      · rintro (h | ⟨j, hj, e, h⟩)
        · exact .inl (.inl h)
        · by_cases hji : j = i
          · subst hji; exact .inl (.inr e)
          · exact .inr ⟨j, by omega, e, h⟩
    | false =>
      rw [hx] at k
      simp only [cond_false]
      refine ih (i + 1) N _ (by omega) (by omega) (by omega) fun l' h1 h2 => k l' (by rw [h1]; simp) fun y => ?_
      rw [h2 y]
      constructor
      · rintro (h | ⟨j, hj, e, h⟩)
        · exact .inl h
        · exact .inr ⟨j, by omega, e, h⟩
      · rintro (h | ⟨j, hj, e, h⟩)
        · exact .inl h
        · by_cases hji : j = i
          · subst hji; rw [List.getElem?_eq_getElem hlt, hx] at h; cases h
          · exact .inr ⟨j, by omega, e, h⟩
theorem air_ok (b : Basket) (hb : BG b) (l : List Stroke) (h : VS b l) (h12 : l.length ≤ 12) (t : Int) (ht : 0 ≤ t ∧ t ≤ 1000000) (N : Nat) (hN : 200 < N) : ∃ r, i_InTheAir N b l t = some r ∧ r.2 = 0 ∧ r.1.length ≤ 12 ∧ (∀ y, y ∈ r.1 ↔ ∃ k : Nat, y = (k : Int) ∧ (ups b t (List.replicate 60 false) l)[k]? = some true) := by
  unfold i_InTheAir
  rw [vs_ok b hb l h N (by omega), Option.bind_some]
  have hbt : i_between t 0 1000000 = some true := by
    unfold i_between
    rw [decide_eq_true (by omega : t ≥ 0), decide_eq_true ht.2]; rfl
  rw [hbt]
  simp only [Bool.not_true, cond_false, Option.bind_some, withK_eq]
  have e1 := air_l1 b hb l h t (fun l14 => i_InTheAir_l2 (fun l38 => (srtO (fun i j dk => i_InTheAir_c1 i j dk) l38).bind fun l58 => some (l58, 0)) l14 N [] 0) l.length 0 N (List.replicate 60 false) (by omega) (by omega) (by simp)
  rw [show ((0 : Nat) : Int) = 0 from rfl, List.drop_zero] at e1
  rw [e1]
  have hlen : (ups b t (List.replicate 60 false) l).length = 60 := by rw [ups_len]; simp
  have hcn := ups_cn b t l (List.replicate 60 false)
  have hc0 : cnT (List.replicate 60 false) = 0 := by decide
  refine air_l2 _ hlen _ (fun r => r.2 = 0 ∧ r.1.length ≤ 12 ∧ (∀ y, y ∈ r.1 ↔ ∃ k : Nat, y = (k : Int) ∧ (ups b t (List.replicate 60 false) l)[k]? = some true)) 60 0 N [] (by omega) (by omega) (by simp) fun l' h1 h2 => ?_
  have hs := srtO_some (fun i j dk => i_InTheAir_c1 i j dk) l' (by rw [h1, List.drop_zero, List.length_nil]; omega) fun x _ y _ => by
    unfold i_InTheAir_c1; rw [idx2_0, Option.bind_some, idx2_1, Option.bind_some]; rfl
  rw [hs]
  refine ⟨_, rfl, rfl, by show (isort _ l').length ≤ 12; rw [(isort_perm _ l').length_eq, h1, List.drop_zero, List.length_nil]; omega, fun y => ?_⟩
  show y ∈ isort _ l' ↔ _
  rw [(isort_perm _ l').mem_iff, h2 y]
  constructor
  · rintro (h | ⟨k, _, e, h⟩)
    · cases h
    · exact ⟨k, e, h⟩
  · rintro ⟨k, e, h⟩; exact .inr ⟨k, Nat.zero_le _, e, h⟩
end Go.Proofs.Ytdkhpbfciajaeaa
