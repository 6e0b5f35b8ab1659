/-
  Plain lemmas on these functions. No conditions but those that each states.
-/
import Derived.Test.YtlmpbacboapkaaaFnSetLinesP7
namespace Go.Proofs.Ytlmpbacboapkaaa
set_option linter.unusedVariables false
set_option linter.unusedSimpArgs false
/-! Lines that are set. -/
theorem rp_l1 (n : Nat) (hn : n ≤ 1000) (kj : List UInt8 → Option Str) : ∀ (q x N : Nat), x + q = n → q < N → i_repeat_l1 kj [32] (n : Int) N (List.replicate x 32) (x : Int) = kj (List.replicate n 32) := by
  have hm : imax (n : Int) 0 = n := imax_id (by omega)
  intro q
  induction q with
  | zero =>
    intro x N hx hN
    obtain ⟨N, rfl⟩ := pos_fuel hN
    rw [i_repeat_l1, hm, decide_eq_false (by omega), cond_false, show x = n by omega]
  | succ q ih =>
    intro x N hx hN
    obtain ⟨N, rfl⟩ := pos_fuel hN
    rw [i_repeat_l1, hm, decide_eq_true (by omega), cond_true, app_some _ _ (by unfold LIM; simp; omega), Option.bind_some, w64_nat x (by omega), ← List.replicate_succ']
    exact ih (x + 1) N (by omega) (by omega)
theorem repeat_ok (n : Nat) (hn : n ≤ 1000) (N : Nat) (hN : n < N) : i_repeat N [32] (n : Int) = some (List.replicate n 32) := by
  unfold i_repeat
  rw [withK_n]
  exact rp_l1 n hn (fun l => some l) n 0 N (by omega) hN
theorem quo_nat (a b : Nat) (hb : 0 < b) (ha : a ≤ 100000) : quoO (a : Int) (b : Int) = some ((a / b : Nat) : Int) := by
  have h := Nat.div_le_self a b
  unfold quoO
  rw [if_neg (by omega), Int.tdiv_eq_ediv_of_nonneg (by omega), show (a : Int) / (b : Int) = ((a / b : Nat) : Int) from rfl]
  generalize a / b = d at h
  rw [w64_id (by omega) (by omega)]
theorem rem_nat (a b : Nat) (hb : 0 < b) : remO (a : Int) (b : Int) = some ((a % b : Nat) : Int) := by
  unfold remO
  rw [if_neg (by omega), Int.tmod_eq_emod_of_nonneg (by omega)]
  rfl
theorem tl_ge : ∀ (l : List Str) (x : Nat) (hx : x < l.length), l[x].length ≤ tl l
  | a :: r, 0, _ => by simp [tl]
  | a :: r, x + 1, h => by
    have := tl_ge r x (by simpa using h)
    simp only [List.getElem_cons_succ, tl]; omega
theorem sl_l1 (w0 : Str) (r : List Str) (W : Nat) (hW : W ≤ 80) (hr : 0 < r.length) (hfit : tl (w0 :: r) + r.length ≤ W) (kj : Str → Option Str) : ∀ (q x N : Nat) (out : Str), x + q = r.length → q + 200 < N → out.length ≤ 300 * (x + 1) →
    i_setLine_l1 kj (w0 :: r) (W : Int) ((tl (w0 :: r) + r.length : Nat) : Int) r N out (x : Int) = kj (out ++ GL (gz ((W - tl (w0 :: r)) / r.length) ((W - tl (w0 :: r)) % r.length) x (r.drop x))) := by
  have hm : w64 (((w0 :: r).length : Int) - 1) = (r.length : Int) := by
    have e : ((w0 :: r).length : Int) - 1 = (r.length : Int) := by simp only [List.length_cons]; omega
    have hr80 : r.length ≤ 80 := by omega
    rw [e, w64_id (by omega) (by omega)]
  have hB : w64 (w64 ((W : Int) - ((tl (w0 :: r) + r.length : Nat) : Int)) + (r.length : Int)) = ((W - tl (w0 :: r) : Nat) : Int) := by
    rw [w64_id (x := (W : Int) - ((tl (w0 :: r) + r.length : Nat) : Int)) (by omega) (by omega), w64_id (by omega) (by omega)]; omega
  have hq := Nat.div_le_self (W - tl (w0 :: r)) r.length
  have htl : tl r ≤ tl (w0 :: r) := by simp only [tl]; omega
  intro q
  induction q with
  | zero =>
    intro x N out hx hN ho
    obtain ⟨N, rfl⟩ := pos_fuel (show 0 < N by omega)
    rw [i_setLine_l1, decide_eq_false (by omega : ¬ (x : Int) < (r.length : Int)), cond_false, List.drop_eq_nil_of_le (by omega)]
    simp [gz, GL]
  | succ q ih =>
    intro x N out hx hN ho
    obtain ⟨N, rfl⟩ := pos_fuel (show 0 < N by omega)
    have hlt : x < r.length := by omega
    have hxl := tl_ge r x hlt
    rw [i_setLine_l1, decide_eq_true (by omega : (x : Int) < (r.length : Int)), cond_true, idx_lt r x hlt, Option.bind_some, hm, hB, quo_nat _ _ hr (by omega), Option.bind_some]
    simp only [withK_n]
    rw [rem_nat _ _ hr, Option.bind_some, w64_nat x (by omega), w64_nat _ (by omega), List.drop_eq_getElem_cons hlt, gz, GL]
    have fin : ∀ g : Nat, g ≤ 200 → ((i_repeat N [32] (g : Int)).bind fun r41 => (cat r41 r[x]).bind fun s43 => (cat out s43).bind fun s45 => i_setLine_l1 kj (w0 :: r) (W : Int) ((tl (w0 :: r) + r.length : Nat) : Int) r N s45 ((x + 1 : Nat) : Int)) = kj (out ++ (List.replicate g 32 ++ (r[x] ++ GL (gz ((W - tl (w0 :: r)) / r.length) ((W - tl (w0 :: r)) % r.length) (x + 1) (r.drop (x + 1)))))) := fun g hg => by
      rw [repeat_ok g (by omega) N (by omega), Option.bind_some, cat_some _ _ (by unfold LIM; simp; omega), Option.bind_some, cat_some _ _ (by unfold LIM; simp; omega), Option.bind_some]
      rw [ih (x + 1) N _ (by omega) (by omega) (by simp only [List.length_append, List.length_replicate]; omega)]
      simp
    by_cases hk : x < (W - tl (w0 :: r)) % r.length
    · rw [decide_eq_true (by omega), cond_true, if_pos hk]
      exact fin _ (by omega)
    · rw [decide_eq_false (by omega), cond_false, if_neg hk]
      exact fin _ (by omega)
def SG (W : Nat) (l : List Str) : Prop := l ≠ [] ∧ (∀ w ∈ l, WK w) ∧ tl l + l.length ≤ W + 1
theorem WK_tl : ∀ (l : List Str), (∀ w ∈ l, WK w) → l.length ≤ tl l
  | [], _ => Nat.le_refl _
  | w :: r, h => by
    have h1 := (h w List.mem_cons_self).1
    have h2 := WK_tl r fun y hy => h y (List.mem_cons_of_mem _ hy)
    have h3 : 0 < w.length := List.length_pos_iff.2 h1
    simp only [tl, List.length_cons]; omega
theorem setLine_ok (W : Nat) (hW : W ≤ 80) (l : List Str) (h : SG W l) (N : Nat) (hN : 600 < N) : i_setLine N l (W : Int) = some (setL W l) := by
  cases l with
  | nil => exact absurd rfl h.1
  | cons w0 r =>
    obtain ⟨_, h2, h3⟩ := h
    have e0 : idx (w0 :: r) 0 = some w0 := rfl
    simp only [List.length_cons] at h3
    unfold i_setLine
    rw [e0, Option.bind_some]
    by_cases hr : r = []
    · subst hr
      simp only [tl, List.length_nil] at h3
      have e1 : ((([w0] : List Str).length : Int) == 1) = true := rfl
      have e2 : w64 ((W : Int) - (w0.length : Int)) = ((W - w0.length : Nat) : Int) := by rw [w64_id (by omega) (by omega)]; omega
      rw [e1, cond_true, e2, repeat_ok _ (by omega) N (by omega), Option.bind_some, cat_some _ _ (by unfold LIM; simp; omega), Option.bind_some]
      rfl
    · have hpos : 0 < r.length := List.length_pos_iff.2 hr
      have e1 : (((w0 :: r).length : Int) == 1) = false := by rw [beq_eq_false_iff_ne]; simp only [List.length_cons]; omega
      have e2 : sub (w0 :: r) 1 ((w0 :: r).length : Int) = some r := by
        rw [sub_some (w0 :: r) 1 _ (by omega) (by simp only [List.length_cons]; omega) (by omega)]
        have a1 : (1 : Int).toNat = 1 := rfl
        have a2 : (((w0 :: r).length : Nat) : Int).toNat = r.length + 1 := by rw [Int.toNat_natCast]; rfl
        rw [a1, a2, List.drop_one, List.tail_cons, List.take_of_length_le (by omega)]
      have e3 : imax (((w0 :: r).length : Int) - 1 + tl (w0 :: r)) 0 = ((tl (w0 :: r) + r.length : Nat) : Int) := by
        rw [imax_id (by simp only [List.length_cons]; omega)]
        simp only [List.length_cons]; omega
      have hw0 := tl_ge (w0 :: r) 0 (by simp)
      simp only [List.getElem_cons_zero] at hw0
      rw [e1, cond_false, (ll_ok (w0 :: r) (by have hk := WK_tl (w0 :: r) h2; simp only [List.length_cons] at hk ⊢; omega) (by omega) N (by omega)).1, Option.bind_some, e3, withK_n, e2, Option.bind_some]
      have := sl_l1 w0 r W hW hpos (by omega) (fun o => some o) r.length 0 N w0 (by omega) (by omega) (by omega)
      rw [show ((0 : Nat) : Int) = 0 from rfl, List.drop_zero] at this
      rw [this]
      simp only [setL, if_neg hr]
theorem join_ok (W : Nat) (hW : W ≤ 80) (l : List Str) (h : SG W l) : joinO l [32] = some (Lib.join l [32]) ∧ LN (Lib.join l [32]) ∧ sw (Lib.join l [32]) [] = l := by
  cases l with
  | nil => exact absurd rfl h.1
  | cons w0 r =>
    obtain ⟨_, h2, h3⟩ := h
    have hg := gl1_len r
    have e := join_gl w0 r
    have hlen : (Lib.join (w0 :: r) [32]).length = tl (w0 :: r) + r.length := by
      rw [e, List.length_append, List.length_append, hg]
      simp only [tl, List.length_replicate]; omega
    simp only [List.length_cons] at h3
    have hwk := WK_tl (w0 :: r) h2
    simp only [List.length_cons] at hwk
    have hm : ∀ x ∈ r.map (fun w => ((1 : Nat), w)), 1 ≤ x.1 ∧ WK x.2 := fun x hx => by
      obtain ⟨w, hw, rfl⟩ := List.mem_map.1 hx
      exact ⟨Nat.le_refl _, h2 w (List.mem_cons_of_mem _ hw)⟩
    refine ⟨?_, ⟨by omega, ?_⟩, ?_⟩
    · unfold joinO
      rw [if_pos ⟨by simp only [List.length_cons]; unfold LIM; omega, by rw [hlen]; unfold LIM; omega⟩]
    · rw [e]
      exact (h2 w0 List.mem_cons_self).cl.app ((GL.cl _ fun x hx => (hm x hx).2).app (CL.rep 0))
    · rw [e, sw_line w0 _ 0 (h2 w0 List.mem_cons_self) hm, List.map_map]
      congr 1
      conv => rhs; rw [← List.map_id r]
      exact List.map_congr_left fun _ _ => rfl
theorem set_ok (W : Nat) (l : List Str) (h : SG W l) : (setL W l).length = W ∧ CL (setL W l) ∧ sw (setL W l) [] = l ∧ (egaps (setL W l) 0 false).Pairwise (fun a b => b ≤ a) ∧ ∀ a ∈ egaps (setL W l) 0 false, ∀ b ∈ egaps (setL W l) 0 false, a ≤ b + 1 := by
  cases l with
  | nil => exact absurd rfl h.1
  | cons w0 r =>
    obtain ⟨_, h2, h3⟩ := h
    simp only [List.length_cons] at h3
    obtain ⟨g, t, e, m1, m2, m3, m4, m5⟩ := setL_form W w0 r h2 (by omega)
    have h0 := h2 w0 List.mem_cons_self
    refine ⟨m5, ?_, ?_, ?_, ?_⟩
    · rw [e]; exact h0.cl.app ((GL.cl g fun x hx => (m2 x hx).2).app (CL.rep t))
    · rw [e, sw_line w0 g t h0 m2, m1]
    · rw [e, eg_line w0 g t h0 m2]; exact m3
    · rw [e, eg_line w0 g t h0 m2]; exact m4
/-- the lines -/
def outs (W : Nat) : List (List Str) → List Str
  | [] => []
  | [z] => [Lib.join z [32]]
  | a :: b :: r => setL W a :: outs W (b :: r)
theorem outs_len (W : Nat) : ∀ R : List (List Str), (outs W R).length = R.length
  | [] => rfl
  | [_] => rfl
  | a :: b :: r => by simp only [outs, List.length_cons, outs_len W (b :: r)]
theorem outs_ok (W : Nat) (hW : W ≤ 80) : ∀ R : List (List Str), (∀ l ∈ R, SG W l) → (∀ s ∈ outs W R, LN s) ∧ (outs W R).flatMap (fun s => sw s []) = R.flatten
  | [], _ => ⟨fun s hs => (by cases hs), rfl⟩
  | [z], h => by
    obtain ⟨_, h2, h3⟩ := join_ok W hW z (h z List.mem_cons_self)
    refine ⟨fun s hs => ?_, ?_⟩
    · rw [outs, List.mem_singleton] at hs
      rw [hs]; exact h2
    · simp [outs, h3]
  | a :: b :: r, h => by
    obtain ⟨h1, h2, h3, _⟩ := set_ok W a (h a List.mem_cons_self)
    obtain ⟨g1, g2⟩ := outs_ok W hW (b :: r) fun l hl => h l (List.mem_cons_of_mem _ hl)
    refine ⟨fun s hs => ?_, ?_⟩
    · rw [outs] at hs
      rcases List.mem_cons.1 hs with rfl | hs
      · exact ⟨by omega, h2⟩
      · exact g1 s hs
    · rw [outs, List.flatMap_cons, h3, g2]; rfl
theorem outs_get (W : Nat) : ∀ (R : List (List Str)) (x : Nat) (hx : x + 1 < R.length), (outs W R)[x]'(by rw [outs_len]; omega) = setL W (R[x]'(by omega))
  | [], x, hx => by simp at hx
  | [_], x, hx => by simp at hx
  | a :: b :: r, 0, _ => rfl
  | a :: b :: r, x + 1, hx => by
    have := outs_get W (b :: r) x (by simpa using hx)
    simpa [outs] using this
theorem st_l1 (W : Nat) (hW : W ≤ 80) (R : List (List Str)) (hR : R.length ≤ 40) (h : ∀ l ∈ R, SG W l) (kj : List Str → Option (List Str × Int)) : ∀ (q x N : Nat) (acc : List Str), x + q = R.length → q + 700 < N → acc.length ≤ x → i_SetText_l1 kj (W : Int) R N acc (x : Int) = kj (acc ++ outs W (R.drop x)) := by
  intro q
  induction q with
  | zero =>
    intro x N acc hx hN ha
    obtain ⟨N, rfl⟩ := pos_fuel (show 0 < N by omega)
    rw [i_SetText_l1, decide_eq_false (by omega : ¬ (x : Int) < (R.length : Int)), cond_false, List.drop_eq_nil_of_le (by omega)]
    simp [outs]
  | succ q ih =>
    intro x N acc hx hN ha
    obtain ⟨N, rfl⟩ := pos_fuel (show 0 < N by omega)
    have hlt : x < R.length := by omega
    have hm := h _ (List.getElem_mem hlt)
    rw [i_SetText_l1, decide_eq_true (by omega : (x : Int) < (R.length : Int)), cond_true]
    simp only [withK_n]
    rw [idx_lt R x hlt, Option.bind_some, w64_nat x (by omega), List.drop_eq_getElem_cons hlt]
    by_cases hl : x + 1 = R.length
    · have e : (((x + 1 : Nat) : Int) == (R.length : Int)) = true := by rw [beq_iff_eq]; omega
      rw [e, cond_true, (join_ok W hW _ hm).1, Option.bind_some, app_some _ _ (by unfold LIM; simp; omega), Option.bind_some, ih (x + 1) N _ (by omega) (by omega) (by simp; omega), List.drop_eq_nil_of_le (by omega)]
      simp [outs]
    · have e : (((x + 1 : Nat) : Int) == (R.length : Int)) = false := by rw [beq_eq_false_iff_ne]; omega
      rw [e, cond_false, setLine_ok W hW _ hm N (by omega), Option.bind_some, app_some _ _ (by unfold LIM; simp; omega), Option.bind_some, ih (x + 1) N _ (by omega) (by omega) (by simp; omega)]
      rw [List.drop_eq_getElem_cons (show x + 1 < R.length by omega), outs]
      simp
theorem seg_app (ws : List Str) {i k n : Nat} (h1 : i ≤ k) (h2 : k ≤ n) : seg ws i k ++ seg ws k n = seg ws i n := by
  unfold seg
  rw [show n - i = (k - i) + (n - k) by omega, List.take_add, List.drop_drop, show i + (k - i) = k by omega]
theorem lb_flat (ws : List Str) (P : Nat → Int) (W : Int) (n : Nat) : ∀ (bs : List Nat) (p : Nat), Pth P W n p bs → (lbi ws p bs).flatten ++ seg ws (pl p bs) n = seg ws p n
  | [], p, _ => by simp [lbi, pl]
  | b :: r, p, h => by
    obtain ⟨h1, h2, _, h4⟩ := h
    have ih := lb_flat ws P W n r b h4
    rw [lbi, List.flatten_cons, pl, List.append_assoc, ih, seg_app ws (Nat.le_of_lt h1) (Nat.le_of_lt h2)]
theorem seg_sg {ws : List Str} (h : TW ws) (W : Nat) {i k : Nat} (hik : i < k) (hk : k ≤ ws.length) (hf : PW ws k - PW ws i - 1 ≤ (W : Int)) : SG W (seg ws i k) := by
  have hl := seg_len ws (Nat.le_of_lt hik) hk
  refine ⟨fun e => ?_, fun w hw => ?_, ?_⟩
  · rw [e, List.length_nil] at hl; omega
  · have hm : w ∈ ws := List.mem_of_mem_drop (List.mem_of_mem_take hw)
    obtain ⟨a1, a2, a3⟩ := h.2 w hm
    exact ⟨fun e => by rw [e] at a1; simp at a1, a3⟩
  · rw [PW_seg ws (Nat.le_of_lt hik)] at hf
    omega
theorem lbi_sg {ws : List Str} (h : TW ws) (W : Nat) : ∀ (bs : List Nat) (p : Nat), Pth (PW ws) (W : Int) ws.length p bs → ∀ l ∈ lbi ws p bs, SG W l
  | [], _, _, l, hl => by cases hl
  | b :: r, p, hp, l, hl => by
    obtain ⟨g1, g2, g3, g4⟩ := hp
    rcases List.mem_cons.1 hl with rfl | hl
    · exact seg_sg h W g1 (Nat.le_of_lt g2) g3
    · exact lbi_sg h W r b g4 l hl
theorem lb_sg {ws : List Str} (h : TW ws) (W : Nat) (bs : List Nat) (hp : Pth (PW ws) (W : Int) ws.length 0 bs) : (∀ l ∈ lb ws bs, SG W l) ∧ (lb ws bs).length = bs.length + 1 ∧ (lb ws bs).flatten = ws := by
  obtain ⟨z1, z2⟩ := hp.last
  refine ⟨fun l hl => ?_, by unfold lb; simp [lbi_len], ?_⟩
  · unfold lb at hl
    rcases List.mem_append.1 hl with hl | hl
    · exact lbi_sg h W bs 0 hp l hl
    · rw [List.mem_singleton.1 hl]
      exact seg_sg h W z1 (Nat.le_refl _) z2
  · unfold lb
    rw [List.flatten_append, List.flatten_singleton, lb_flat ws (PW ws) W ws.length bs 0 hp]
    unfold seg
    rw [List.drop_zero, List.take_of_length_le (by omega)]
theorem setText_ok {ws : List Str} (h : TW ws) (W : Nat) (h1 : 1 ≤ W) (h2 : W ≤ 80) (hf : ∀ x ∈ ws, (x.length : Int) ≤ (W : Int)) (bs : List Nat) (hp : Pth (PW ws) (W : Int) ws.length 0 bs) (N : Nat) (hN : 1000 < N) : i_SetText N ws (W : Int) (toI bs) = some (outs W (lb ws bs), 0) := by
  have hl := h.1
  have hlen := hp.len
  obtain ⟨s1, s2, _⟩ := lb_sg h W bs hp
  unfold i_SetText
  rw [code_ok h (W : Int) (by omega) (by omega) hf bs hp N (by omega), Option.bind_some, show ((0 : Int) != 0) = false from rfl, cond_false, lby_ok h (W : Int) bs hp N (by omega), Option.bind_some, withK_n]
  have := st_l1 W h2 (lb ws bs) (by omega) s1 (fun l16 => some (l16, (0 : Int))) (lb ws bs).length 0 N [] (by omega) (by omega) (Nat.le_refl _)
  rw [show ((0 : Nat) : Int) = 0 from rfl, List.drop_zero, List.nil_append] at this
  exact this
end Go.Proofs.Ytlmpbacboapkaaa
