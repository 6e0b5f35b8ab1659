/-
  Plain lemmas on these functions. No conditions but those that each states.
-/
import Derived.Test.YtpdcifgphocllaaFnAbbreviationsP6
namespace Go.Proofs.Ytpdcifgphocllaa
set_option linter.unusedVariables false
set_option linter.unusedSimpArgs false
/-! Written out, and shortened. -/
def lg (w : Str) : List Abbr → Option Str
  | [] => none
  | x :: r => if x.short == w then some x.long else lg w r
def ix (w : Str) : List Abbr → Nat → Int
  | [], _ => -1
  | x :: r, j => if x.short == w then (j : Int) else ix w r (j + 1)
theorem ix_lg (w : Str) : ∀ (l : List Abbr) (j : Nat), (lg w l = none ∧ ix w l j = -1) ∨ ∃ (k : Nat) (x : Abbr), ix w l j = ((j + k : Nat) : Int) ∧ l[k]? = some x ∧ lg w l = some x.long
  | [], _ => .inl ⟨rfl, rfl⟩
  | x :: r, j => by
    simp only [lg, ix]
    cases h : x.short == w with
    | true => exact .inr ⟨0, x, by simp, rfl, by simp⟩
    | false =>
      simp only [Bool.false_eq_true, if_false]
      rcases ix_lg w r (j + 1) with h | ⟨k, y, h1, h2, h3⟩
      · exact .inl h
      · exact .inr ⟨k + 1, y, by rw [h1]; congr 1; omega, by rw [List.getElem?_cons_succ]; exact h2, h3⟩
section
variable {l : List Abbr} (hl : l.length ≤ 1000)
include hl
theorem lo_ok (w : Str) (N : Nat) (hN : 1000 < N) : i_longOf N l w = some (match lg w l with | none => ([], false) | some s => (s, true)) ∧ s_l16Short N l w = some (ix w l 0) := by
  have loop : ∀ (q x N : Nat), x + q = l.length → q < N → i_longOf_l1 (some ([], false)) l w N (x : Int) = some (match lg w (l.drop x) with | none => ([], false) | some s => (s, true)) ∧ s_l16Short_l1 (some (-1)) l w N (x : Int) = some (ix w (l.drop x) x) := by
    intro q
    induction q with
    | zero =>
      intro x N h1 h2
      obtain ⟨N, rfl⟩ := pos_fuel h2
      have hz : ¬ (x : Int) < (l.length : Int) := by omega
      rw [List.drop_eq_nil_of_le (by omega)]
      simp only [i_longOf_l1, s_l16Short_l1, hz, decide_false, cond_false, lg, ix, and_self]
    | succ q ih =>
      intro x N h1 h2
      obtain ⟨N, rfl⟩ := pos_fuel h2
      have hx : x < l.length := by omega
      have hz : (x : Int) < (l.length : Int) := by omega
      obtain ⟨i1, i2⟩ := ih (x + 1) N (by omega) (by omega)
      rw [drop_cons _ x hx]
      simp only [i_longOf_l1, s_l16Short_l1, hz, decide_true, cond_true, idx_lt l x hx, Option.bind_some, w64_nat x (by omega), i1, i2, lg, ix]
      cases (l[x]).short == w <;> exact ⟨rfl, rfl⟩
  have := loop l.length 0 N (by omega) (by omega)
  rw [show ((0 : Nat) : Int) = 0 from rfl, List.drop_zero] at this
  unfold i_longOf s_l16Short
  rw [withK_n, withK_n]
  exact this
end
def ex (l : List Abbr) (w : Str) : Str := (lg w l).getD w
theorem lg_mem : ∀ (l : List Abbr) (w s : Str), lg w l = some s → ∃ x ∈ l, x.long = s
  | x :: r, w, s, h => by
    simp only [lg] at h
    split at h
    · exact ⟨x, List.mem_cons_self, Option.some.inj h⟩
    · obtain ⟨y, hy, e⟩ := lg_mem r w s h
      exact ⟨y, List.mem_cons_of_mem _ hy, e⟩
theorem ex_len {l : List Abbr} (h : VL l) {w : Str} (hw : w.length ≤ 30) : (ex l w).length ≤ 30 := by
  unfold ex
  cases hg : lg w l with
  | none => exact hw
  | some s =>
    obtain ⟨x, hx, rfl⟩ := lg_mem l w s hg
    exact (vA_facts (h.v x hx)).2.1.2.2
theorem set_cut (A B : List Str) (a b : Str) : (A ++ a :: B).set A.length b = (A ++ [b]) ++ B := by
  induction A with
  | nil => rfl
  | cons x A ih => simp [ih]
section
variable {l : List Abbr} (h : VL l)
include h
theorem ex_i1 (kj : List Str → Option (Str × Int)) (r5 : List Str × Int) (hW : r5.1.length ≤ 500) : ∀ (q x N : Nat), x + q = r5.1.length → q + 1100 < N → i_ExpandText_l1 kj l r5 N ((r5.1.take x).map (ex l) ++ r5.1.drop x) (x : Int) = kj (r5.1.map (ex l)) := by
  have hn := h.n
  intro q
  induction q with
  | zero =>
    intro x N h1 h2
    obtain ⟨N, rfl⟩ := pos_fuel h2
    have hz : ¬ (x : Int) < (r5.1.length : Int) := by omega
    rw [List.drop_eq_nil_of_le (by omega), List.take_of_length_le (by omega), List.append_nil]
    simp only [i_ExpandText_l1, hz, decide_false, cond_false]
  | succ q ih =>
    intro x N h1 h2
    obtain ⟨N, rfl⟩ := pos_fuel h2
    have hx : x < r5.1.length := by omega
    have hz : (x : Int) < (r5.1.length : Int) := by omega
    have ih := ih (x + 1) N (by omega) (by omega)
    have hlt : ((r5.1.take x).map (ex l)).length = x := by rw [List.length_map, List.length_take]; omega
    have hi : idx ((r5.1.take x).map (ex l) ++ r5.1[x] :: r5.1.drop (x + 1)) (x : Int) = some r5.1[x] := by
      rw [idx_nat, List.getElem?_append_right (by omega), hlt, Nat.sub_self]; rfl
    have hst : ∀ b, ((r5.1.take x).map (ex l) ++ r5.1[x] :: r5.1.drop (x + 1)).set x b = ((r5.1.take x).map (ex l) ++ [b]) ++ r5.1.drop (x + 1) := fun b => by
      have := set_cut ((r5.1.take x).map (ex l)) (r5.1.drop (x + 1)) r5.1[x] b
      rwa [hlt] at this
    rw [List.take_succ_eq_append_getElem hx, List.map_append] at ih
    rw [drop_cons _ x hx]
    have hlo := lo_ok (l := l) (by omega) r5.1[x] N (by omega)
    simp only [i_ExpandText_l1, hz, decide_true, cond_true, withK_n, hi, Option.bind_some, hlo.1, w64_nat x (by omega), Int.toNat_natCast]
    cases hg : lg r5.1[x] l with
    | none =>
      simp only [cond_false]
      have : ex l r5.1[x] = r5.1[x] := by unfold ex; rw [hg]; rfl
      simp only [List.map_cons, List.map_nil, this, List.append_assoc, List.singleton_append] at ih
      exact ih
    | some s =>
      simp only [cond_true]
      have : ex l r5.1[x] = s := by unfold ex; rw [hg]; rfl
      simp only [List.map_cons, List.map_nil, this] at ih
      rw [hst]
      exact ih
theorem ex_s1 (kj : List Str → Option (Str × Int)) (r5 : List Str × Int) (hW : r5.1.length ≤ 500) : ∀ (q x N : Nat), x + q = r5.1.length → q + 1100 < N → s_ExpandText_l1 kj l r5 N ((r5.1.take x).map (ex l)) (x : Int) = kj (r5.1.map (ex l)) := by
  have hn := h.n
  intro q
  induction q with
  | zero =>
    intro x N h1 h2
    obtain ⟨N, rfl⟩ := pos_fuel h2
    have hz : ¬ (x : Int) < (r5.1.length : Int) := by omega
    rw [List.take_of_length_le (by omega)]
    simp only [s_ExpandText_l1, hz, decide_false, cond_false]
  | succ q ih =>
    intro x N h1 h2
    obtain ⟨N, rfl⟩ := pos_fuel h2
    have hx : x < r5.1.length := by omega
    have hz : (x : Int) < (r5.1.length : Int) := by omega
    have ih := ih (x + 1) N (by omega) (by omega)
    have hlt : ((r5.1.take x).map (ex l)).length = x := by rw [List.length_map, List.length_take]; omega
    rw [List.take_succ_eq_append_getElem hx, List.map_append] at ih
    have hlo := lo_ok (l := l) (by omega) r5.1[x] N (by omega)
    simp only [s_ExpandText_l1, hz, decide_true, cond_true, withK_n, idx_lt _ x hx, Option.bind_some, hlo.2, w64_nat x (by omega)]
    rcases ix_lg r5.1[x] l 0 with ⟨e1, e2⟩ | ⟨k, y, e1, e2, e3⟩
    · have hd : decide (ix r5.1[x] l 0 ≥ 0) = false := by rw [e2]; decide
      have : ex l r5.1[x] = r5.1[x] := by unfold ex; rw [e1]; rfl
      simp only [List.map_cons, List.map_nil, this] at ih
      rw [hd, cond_false, app_some _ _ (by rw [hlt]; simp; unfold LIM; omega), Option.bind_some]
      exact ih
    · have hd : decide (ix r5.1[x] l 0 ≥ 0) = true := by rw [e1]; exact decide_eq_true (by omega)
      have : ex l r5.1[x] = y.long := by unfold ex; rw [e3]; rfl
      simp only [List.map_cons, List.map_nil, this] at ih
      have hi : idx l (ix r5.1[x] l 0) = some y := by rw [e1, Nat.zero_add, idx_nat]; exact e2
      rw [hd, cond_true, hi, Option.bind_some, app_some _ _ (by rw [hlt]; simp; unfold LIM; omega), Option.bind_some]
      exact ih
end
theorem WT.len {t : Str} {W : List Str} (h : WT t W) : W.length ≤ 201 := by
  have := (sw_sz t []).1
  rw [h.sw] at this
  have := h.l
  omega
theorem exp_ok (l : List Abbr) (hl : l.length ≤ 1000) (hz : ∀ x ∈ l, SzA x) (t : Str) (ht : t.length ≤ 900) (N : Nat) (hN : 3000 < N) : ∃ (r : Str) (c : Int), i_ExpandText N l t = some (r, c) ∧ s_ExpandText N l t = some (r, c) ∧ ∀ V, VL l → WT t V → r = joi 32 (V.map (ex l)) ∧ c = 0 := by
  obtain ⟨W, c, a1, a2, a3, a4⟩ := code_ok l hl hz t ht N hN
  unfold i_ExpandText s_ExpandText
  rw [a1, a2]
  simp only [Option.bind_some]
  rcases a3 with ⟨rfl, hV, hW⟩ | hc
  · have hWl := hW.len
    have e1 := fun kj => ex_i1 hV kj (W, 0) (by show W.length ≤ 500; omega) W.length 0 N (by show 0 + W.length = W.length; omega) (by omega)
    have e2 := fun kj => ex_s1 hV kj (W, 0) (by show W.length ≤ 500; omega) W.length 0 N (by show 0 + W.length = W.length; omega) (by omega)
    have hb : ∀ w ∈ W.map (ex l), w.length ≤ 30 := fun w hw => by
      obtain ⟨v, hv, rfl⟩ := List.mem_map.1 hw
      exact ex_len hV (swB_iff.1 (hW.s v hv)).2.2
    rw [show ((0 : Nat) : Int) = 0 from rfl] at e1 e2
    refine ⟨joi 32 (W.map (ex l)), 0, ?_, ?_, fun V _ hV2 => ⟨by rw [hW.uniq hV2], rfl⟩⟩
    · have z : ((0 : Int) != 0) = false := rfl
      rw [z, cond_false, withK_n]
      have := e1 (fun l9 => (joinO l9 [32]).bind fun r25 => some (r25, 0))
      simp only [List.take_zero, List.map_nil, List.nil_append, List.drop_zero] at this
      rw [this, joinO_small _ (by rw [List.length_map]; omega) hb]; rfl
    · have z : ((0 : Int) != 0) = false := rfl
      rw [z, cond_false, withK_n]
      have := e2 (fun l10 => (s_l16Join N l10).bind fun r42 => some (r42, 0))
      simp only [List.take_zero, List.map_nil] at this
      rw [this, join_s _ (by rw [List.length_map]; omega) (fun w hw => by have := hb w hw; omega) N (by omega)]; rfl
  · have z : (c != 0) = true := by simpa using hc
    rw [z]
    exact ⟨[], c, rfl, rfl, fun V h1 h2 => absurd (a4 h1 ⟨V, h2⟩) hc⟩
/-! shortened -/
def bf (w : Str) : List Abbr → Str → Str
  | [], b => b
  | x :: r, b => bf w r (if x.long == w && (b == [] || decide (x.short.length < b.length)) then x.short else b)
def bw (l : List Abbr) (w : Str) : Str := bf w l (match lg w l with | none => w | some _ => [])
theorem bf_l (l : List Abbr) (hl : l.length ≤ 1000) (w : Str) (kI : Str → Option (Str × Int)) (kS : Str → Option Str) : ∀ (q x N : Nat) (b : Str), x + q = l.length → q < N → i_ShortenText_l2 kI l w N b (x : Int) = kI (bf w (l.drop x) b) ∧ s_l16Best_l1 kS l w N b (x : Int) = kS (bf w (l.drop x) b) := by
  intro q
  induction q with
  | zero =>
    intro x N b h1 h2
    obtain ⟨N, rfl⟩ := pos_fuel h2
    have hz : ¬ (x : Int) < (l.length : Int) := by omega
    rw [List.drop_eq_nil_of_le (by omega)]
    simp only [i_ShortenText_l2, s_l16Best_l1, hz, decide_false, cond_false, bf, and_self]
  | succ q ih =>
    intro x N b h1 h2
    obtain ⟨N, rfl⟩ := pos_fuel h2
    have hx : x < l.length := by omega
    have hz : (x : Int) < (l.length : Int) := by omega
    have ih := fun b => ih (x + 1) N b (by omega) (by omega)
    have e : decide (((l[x]).short.length : Int) < (b.length : Int)) = decide ((l[x]).short.length < b.length) := decide_eq_decide.2 (by omega)
    rw [drop_cons _ x hx]
    simp only [i_ShortenText_l2, s_l16Best_l1, hz, decide_true, cond_true, withK_n, idx_lt l x hx, Option.bind_some, orO_some, andO_some, e, w64_nat x (by omega), bf]
    cases (l[x]).long == w && (b == [] || decide ((l[x]).short.length < b.length)) with
    | true => simp only [cond_true, if_true]; exact ih _
    | false => simp only [cond_false, Bool.false_eq_true, if_false]; exact ih _
theorem best_s (l : List Abbr) (hl : l.length ≤ 1000) (w : Str) (N : Nat) (hN : 1100 < N) : s_l16Best N l w = some (bw l w) := by
  unfold s_l16Best bw
  simp only [withK_n]
  have hb := fun b => (bf_l l hl w (fun _ => none) (fun b => some b) l.length 0 N b (by omega) (by omega)).2
  rw [show ((0 : Nat) : Int) = 0 from rfl, List.drop_zero] at hb
  rw [(lo_ok hl w N (by omega)).2, Option.bind_some]
  rcases ix_lg w l 0 with ⟨e1, e2⟩ | ⟨k, y, e1, e2, e3⟩
  · have hd : decide (ix w l 0 < 0) = true := by rw [e2]; decide
    rw [hd, cond_true, hb, e1]
  · have hd : decide (ix w l 0 < 0) = false := by rw [e1]; exact decide_eq_false (by omega)
    rw [hd, cond_false, hb, e3]
theorem lg_at {l : List Abbr} (h : VL l) : ∀ x ∈ l, lg x.short l = some x.long := by
  have key : ∀ r : List Abbr, r.Pairwise (fun x y => ltL x.short y.short = true) → ∀ x ∈ r, lg x.short r = some x.long := by
    intro r
    induction r with
    | nil => intro _ x hx; cases hx
    | cons y r ih =>
      intro hp x hx
      rw [List.pairwise_cons] at hp
      simp only [lg]
      rcases List.mem_cons.1 hx with rfl | hx
      · rw [if_pos (by simp)]
      · have hlt := hp.1 x hx
        have hne : (y.short == x.short) = false := by
          rw [beq_eq_false_iff_ne]
          intro e
          rw [e, ltL_irr] at hlt; cases hlt
        rw [hne]
        exact ih hp.2 x hx
  exact key l h.s
/-- a word that stands for w, not longer -/
def GB (l : List Abbr) (w b : Str) : Prop := swB 30 b = true ∧ b.length ≤ w.length ∧ ex l b = w
theorem bf_good {l : List Abbr} (h : VL l) (w : Str) : ∀ (r : List Abbr) (b : Str), (∀ x ∈ r, x ∈ l) → (b = [] ∨ GB l w b) → (bf w r b = [] ∨ GB l w (bf w r b))
  | [], b, _, hb => hb
  | x :: r, b, hr, hb => by
    simp only [bf]
    refine bf_good h w r _ (fun y hy => hr y (List.mem_cons_of_mem _ hy)) ?_
    split
    · next hc =>
      rw [Bool.and_eq_true] at hc
      have hxl := hr x List.mem_cons_self
      obtain ⟨a1, a2, a3⟩ := vA_facts (h.v x hxl)
      have e : x.long = w := by simpa using hc.1
      refine .inr ⟨swB_iff.2 ⟨a1.1, a1.2.1, by omega⟩, by rw [← e]; omega, ?_⟩
      unfold ex
      rw [lg_at h x hxl]; exact e
    · exact hb
theorem bw_good {l : List Abbr} (h : VL l) {w : Str} (hw : swB 30 w = true) : bw l w = [] ∨ GB l w (bw l w) := by
  unfold bw
  refine bf_good h w l _ (fun _ h => h) ?_
  cases hg : lg w l with
  | none => exact .inr ⟨hw, Nat.le_refl _, by unfold ex; rw [hg]; rfl⟩
  | some s => exact .inl rfl
theorem bw_len {l : List Abbr} (h : VL l) {w : Str} (hw : swB 30 w = true) : (bw l w).length ≤ 30 := by
  rcases bw_good h hw with e | g
  · rw [e]; simp
  · exact (swB_iff.1 g.1).2.2
theorem sh_i1 {l : List Abbr} (h : VL l) (kj : List Str → Option (Str × Int)) (r5 : List Str × Int) (hW : r5.1.length ≤ 500) : ∀ (q x N : Nat), x + q = r5.1.length → q + 1100 < N → i_ShortenText_l1 kj l r5 N ((r5.1.take x).map (bw l) ++ r5.1.drop x) (x : Int) = bif (r5.1.drop x).all (fun w => bw l w != []) then kj (r5.1.map (bw l)) else some ([], 3) := by
  have hn := h.n
  intro q
  induction q with
  | zero =>
    intro x N h1 h2
    obtain ⟨N, rfl⟩ := pos_fuel h2
    have hz : ¬ (x : Int) < (r5.1.length : Int) := by omega
    rw [List.drop_eq_nil_of_le (by omega), List.take_of_length_le (by omega), List.append_nil]
    simp only [i_ShortenText_l1, hz, decide_false, cond_false, List.all_nil, cond_true]
  | succ q ih =>
    intro x N h1 h2
    obtain ⟨N, rfl⟩ := pos_fuel h2
    have hx : x < r5.1.length := by omega
    have hz : (x : Int) < (r5.1.length : Int) := by omega
    have ih := ih (x + 1) N (by omega) (by omega)
    have hlt : ((r5.1.take x).map (bw l)).length = x := by rw [List.length_map, List.length_take]; omega
    have hi : idx ((r5.1.take x).map (bw l) ++ r5.1[x] :: r5.1.drop (x + 1)) (x : Int) = some r5.1[x] := by
      rw [idx_nat, List.getElem?_append_right (by omega), hlt, Nat.sub_self]; rfl
    have hst : ∀ b, ((r5.1.take x).map (bw l) ++ r5.1[x] :: r5.1.drop (x + 1)).set x b = ((r5.1.take x).map (bw l) ++ [b]) ++ r5.1.drop (x + 1) := fun b => by
      have := set_cut ((r5.1.take x).map (bw l)) (r5.1.drop (x + 1)) r5.1[x] b
      rwa [hlt] at this
    have hbf := fun kI b => (bf_l l (by omega) r5.1[x] kI (fun _ => none) l.length 0 N b (by omega) (by omega)).1
    rw [show ((0 : Nat) : Int) = 0 from rfl, List.drop_zero] at hbf
    rw [List.take_succ_eq_append_getElem hx, List.map_append] at ih
    simp only [List.map_cons, List.map_nil] at ih
    rw [drop_cons _ x hx, List.all_cons]
    have hlo := lo_ok (l := l) (by omega) r5.1[x] N (by omega)
    simp only [i_ShortenText_l1, hz, decide_true, cond_true, withK_n, hi, Option.bind_some, hlo.1, w64_nat x (by omega), Int.toNat_natCast, hbf]
    have key : ∀ b, bf r5.1[x] l b = bw l r5.1[x] → (bif (bf r5.1[x] l b == []) then some (([] : Str), (3 : Int)) else i_ShortenText_l1 kj l r5 N (((r5.1.take x).map (bw l) ++ r5.1[x] :: r5.1.drop (x + 1)).set x (bf r5.1[x] l b)) ((x + 1 : Nat) : Int)) = bif (bw l r5.1[x] != [] && (r5.1.drop (x + 1)).all fun w => bw l w != []) then kj (r5.1.map (bw l)) else some ([], 3) := fun b hb => by
      rw [hb]
      cases hc : bw l r5.1[x] == [] with
      | true =>
        have : (bw l r5.1[x] != []) = false := by unfold bne; rw [hc]; rfl
        rw [this]; rfl
      | false =>
        have : (bw l r5.1[x] != []) = true := by unfold bne; rw [hc]; rfl
        rw [this, cond_false, Bool.true_and, hst]
        exact ih
    cases hg : lg r5.1[x] l with
    | none =>
      simp only [Bool.not_false, cond_true]
      exact key _ (by unfold bw; rw [hg])
    | some s =>
      simp only [Bool.not_true, cond_false]
      exact key _ (by unfold bw; rw [hg])
theorem sh_s1 {l : List Abbr} (h : VL l) (W : List Str) (hW : W.length ≤ 500) (kj : List Str → Option (List Str × Bool)) : ∀ (q x N : Nat), x + q = W.length → q + 1200 < N → s_l16Shorten_l1 kj l W N ((W.take x).map (bw l)) (x : Int) = bif (W.drop x).all (fun w => bw l w != []) then kj (W.map (bw l)) else some ([], false) := by
  have hn := h.n
  intro q
  induction q with
  | zero =>
    intro x N h1 h2
    obtain ⟨N, rfl⟩ := pos_fuel h2
    have hz : ¬ (x : Int) < (W.length : Int) := by omega
    rw [List.drop_eq_nil_of_le (by omega), List.take_of_length_le (by omega)]
    simp only [s_l16Shorten_l1, hz, decide_false, cond_false, List.all_nil, cond_true]
  | succ q ih =>
    intro x N h1 h2
    obtain ⟨N, rfl⟩ := pos_fuel h2
    have hx : x < W.length := by omega
    have hz : (x : Int) < (W.length : Int) := by omega
    have ih := ih (x + 1) N (by omega) (by omega)
    have hlt : ((W.take x).map (bw l)).length = x := by rw [List.length_map, List.length_take]; omega
    rw [List.take_succ_eq_append_getElem hx, List.map_append] at ih
    simp only [List.map_cons, List.map_nil] at ih
    rw [drop_cons _ x hx, List.all_cons]
    simp only [s_l16Shorten_l1, hz, decide_true, cond_true, idx_lt W x hx, Option.bind_some, best_s l (by omega) W[x] N (by omega), w64_nat x (by omega)]
    cases hc : bw l W[x] == [] with
    | true =>
      have : (bw l W[x] != []) = false := by unfold bne; rw [hc]; rfl
      rw [this]; rfl
    | false =>
      have : (bw l W[x] != []) = true := by unfold bne; rw [hc]; rfl
      rw [this, cond_false, Bool.true_and, app_some _ _ (by rw [hlt]; simp; unfold LIM; omega), Option.bind_some]
      exact ih
theorem short_ok (l : List Abbr) (hl : l.length ≤ 1000) (hz : ∀ x ∈ l, SzA x) (t : Str) (ht : t.length ≤ 900) (N : Nat) (hN : 3000 < N) : ∃ (r : Str) (c v : Int), i_ShortenText N l t = some (r, c) ∧ s_ShortenText N l t = some (r, c) ∧ i_SavedLetters N l t = some (v, c) ∧ s_SavedLetters N l t = some (v, c) ∧
    (c = 0 → v = w64 ((t.length : Int) - (r.length : Int)) ∧ VL l ∧ ∃ W, WT t W ∧ (∀ w ∈ W, bw l w ≠ []) ∧ r = joi 32 (W.map (bw l))) := by
  obtain ⟨W, c, a1, a2, a3, a4⟩ := code_ok l hl hz t ht N hN
  have hI : ∃ (r : Str) (c : Int), i_ShortenText N l t = some (r, c) ∧ s_ShortenText N l t = some (r, c) ∧ s_SavedLetters N l t = some ((if c = 0 then w64 ((t.length : Int) - (r.length : Int)) else 0), c) ∧ (c = 0 → VL l ∧ ∃ W, WT t W ∧ (∀ w ∈ W, bw l w ≠ []) ∧ r = joi 32 (W.map (bw l))) := by
    unfold i_ShortenText s_ShortenText s_SavedLetters
    rw [a1, a2]
    simp only [Option.bind_some]
    rcases a3 with ⟨rfl, hV, hW⟩ | hc
    · have hWl := hW.len
      have z : ((0 : Int) != 0) = false := rfl
      have e1 := fun kj => sh_i1 hV kj (W, 0) (by show W.length ≤ 500; omega) W.length 0 N (by show 0 + W.length = W.length; omega) (by omega)
      have e2 := fun kj => sh_s1 hV W (by omega) kj W.length 0 N (by omega) (by omega)
      simp only [List.take_zero, List.map_nil, List.nil_append, List.drop_zero, show ((0 : Nat) : Int) = 0 from rfl] at e1 e2
      have hb : ∀ w ∈ W.map (bw l), w.length ≤ 30 := fun w hw => by
        obtain ⟨v, hv, rfl⟩ := List.mem_map.1 hw
        exact bw_len hV (hW.s v hv)
      unfold s_l16Shorten
      rw [z]
      simp only [cond_false, withK_n, e1, e2]
      cases ha : W.all fun w => bw l w != [] with
      | false => exact ⟨[], 3, rfl, rfl, rfl, fun h => by (cases h)⟩
      | true =>
        simp only [cond_true, Option.bind_some, Bool.not_true, cond_false]
        rw [joinO_small _ (by rw [List.length_map]; omega) hb, join_s _ (by rw [List.length_map]; omega) (fun w hw => by have := hb w hw; omega) N (by omega)]
        refine ⟨joi 32 (W.map (bw l)), 0, rfl, rfl, by rw [if_pos rfl]; rfl, fun _ => ⟨hV, W, hW, fun w hw => by simpa using List.all_eq_true.1 ha w hw, rfl⟩⟩
    · have z : (c != 0) = true := by simpa using hc
      rw [z]
      refine ⟨[], c, rfl, rfl, by rw [if_neg hc]; rfl, fun h => absurd h hc⟩
  obtain ⟨r, c', b1, b2, b3, b4⟩ := hI
  refine ⟨r, c', _, b1, b2, ?_, b3, fun hc => ⟨by rw [if_pos hc], b4 hc⟩⟩
  unfold i_SavedLetters
  rw [b1, Option.bind_some]
  by_cases hc : c' = 0
  · subst hc; rw [if_pos rfl]; rfl
  · have z : (c' != 0) = true := by simpa using hc
    rw [z, if_neg hc]; rfl
/-- what is shortened leads back -/
theorem short_back {l : List Abbr} (h : VL l) {t : Str} {W : List Str} (hW : WT t W) (hb : ∀ w ∈ W, bw l w ≠ []) : WT (joi 32 (W.map (bw l))) (W.map (bw l)) ∧ joi 32 ((W.map (bw l)).map (ex l)) = t ∧ (joi 32 (W.map (bw l))).length ≤ t.length := by
  have hg : ∀ w ∈ W, GB l w (bw l w) := fun w hw => (bw_good h (hW.s w hw)).resolve_left (hb w hw)
  have e : (W.map (bw l)).map (ex l) = W := by
    rw [List.map_map]
    conv => rhs; rw [← List.map_id W]
    exact List.map_congr_left fun w hw => (hg w hw).2.2
  have hl : (joi 32 (W.map (bw l))).length ≤ t.length := by
    rw [← hW.j]
    have key : ∀ V : List Str, (∀ w ∈ V, (bw l w).length ≤ w.length) → (joi 32 (V.map (bw l))).length ≤ (joi 32 V).length := by
      intro V
      induction V with
      | nil => intro _; simp [joi]
      | cons a V ih =>
        intro hv
        have h1 := hv a List.mem_cons_self
        have h2 := ih fun w hw => hv w (List.mem_cons_of_mem _ hw)
        cases V with
        | nil => exact h1
        | cons b V =>
          simp only [List.map_cons, joi, List.length_append, List.length_cons] at h2 ⊢
          omega
    exact key W fun w hw => (hg w hw).2.1
  refine ⟨⟨fun w hw => ?_, rfl, by have := hW.l; omega⟩, by rw [e]; exact hW.j, hl⟩
  obtain ⟨v, hv, rfl⟩ := List.mem_map.1 hw
  exact (hg v hv).1
end Go.Proofs.Ytpdcifgphocllaa
