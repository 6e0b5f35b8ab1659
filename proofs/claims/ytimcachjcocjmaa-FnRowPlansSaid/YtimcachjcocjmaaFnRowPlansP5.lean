/-
  Plain lemmas on these functions. No conditions but those that each states.
-/
import Derived.Test.YtimcachjcocjmaaFnRowPlansP4
namespace Go.Proofs.Ytimcachjcocjmaa
set_option linter.unusedVariables false
set_option linter.unusedSimpArgs false
/-! A plan that runs. -/
theorem isLetter_ok (N : Nat) (ch : UInt8) (h : 33 ≤ ch ∧ ch ≤ 126) (hN : 20 ≤ N) : i_isLetter N [ch] = some true := by
  have e := isText_ok N [ch] 33 1 (by simp) (by simp) (fun c hc => by
    obtain rfl : c = ch := by simpa using hc
    obtain ⟨a, b⟩ := h
    simp only [UInt8.lt_iff_toNat_lt, UInt8.le_iff_toNat_le, gt_iff_lt] at *
    omega) (by simp; omega)
  unfold i_isLetter
  rw [e]
  rfl
theorem run_path (stops : List Int) (hs : VS stops) (T : Str) (hT : T.length ≤ 1000) (kj : Str → Option (Str × Int)) : ∀ (p : Str) (c q i N : Nat) (l : Str), (∀ m ∈ p, m ∈ three) → go stops c p = some q → c ≤ 30 → (∃ r, T.drop i = p ++ r) → p.length + 50 ≤ N →
    i_RunPlan_l1 kj stops T N l (c : Int) (i : Int) = i_RunPlan_l1 kj stops T (N - p.length) l (q : Int) ((i + p.length : Nat) : Int) := by
  intro p
  induction p with
  | nil =>
    intro c q i N l _ hg _ _ _
    obtain rfl : c = q := Option.some.inj hg
    rfl
  | cons m p ih =>
    intro c q i N l hm hg hc hd hN
    obtain ⟨N, rfl⟩ := pos_fuel (show 0 < N by omega)
    simp only [List.length_cons] at hN
    obtain ⟨r, hr⟩ := hd
    have hil : i < T.length := by
      have := congrArg List.length hr
      simp at this
      omega
    have hi : (i : Int) < (T.length : Int) := by omega
    rw [List.drop_eq_getElem_cons hil] at hr
    obtain ⟨g1, g2⟩ := List.cons.inj hr
    simp only [go] at hg
    obtain ⟨q1, h1, h2⟩ := Option.bind_eq_some_iff.1 hg
    obtain ⟨hq1, _⟩ := mvP_le stops hs c hc m q1 h1
    obtain ⟨x, e1, e2⟩ := moved_ok N stops hs c hc m (by omega)
    have := ih q1 q (i + 1) N l (fun x hx => hm x (by simp [hx])) h2 hq1 ⟨r, g2⟩ (by omega)
    have hm3 := hm m (by simp)
    have e3 : i_moved N stops (c : Int) m = some ((q1 : Int), true) := by rw [e1, h1, e2 q1 h1]; rfl
    have e4 : (i_moved N stops (c : Int) m).bind (fun r35 => bif !r35.2 then some (([] : Str), (7 : Int)) else i_RunPlan_l1 kj stops T N l r35.1 (w64 ((i : Int) + 1))) = i_RunPlan_l1 kj stops T N l (q1 : Int) ((i + 1 : Nat) : Int) := by
      rw [e3, w64_nat i (by omega)]; rfl
    rw [show N + 1 - (m :: p).length = N - p.length by simp, show i + (m :: p).length = i + 1 + p.length by simp; omega, ← this, ← e4]
    simp only [three, List.mem_cons, List.not_mem_nil, or_false] at hm3
    simp only [i_RunPlan_l1, hi, decide_true, cond_true, withK_eq, idx_lt T i hil, Option.bind_some, g1]
    rcases hm3 with rfl | rfl | rfl <;> rfl
theorem pad_ok (kj : Str → Option (Str × Int)) (x : Nat) (hx : x ≤ 100) : ∀ (n N : Nat) (l : Str), l.length + n = x + 1 → n < N → i_RunPlan_l2 kj (x : Int) N l = kj (l ++ List.replicate n 32) := by
  intro n
  induction n with
  | zero =>
    intro N l h1 h2
    obtain ⟨N, rfl⟩ := pos_fuel h2
    have : ¬ (l.length : Int) ≤ (x : Int) := by omega
    simp only [i_RunPlan_l2, this, decide_false, cond_false, List.replicate_zero, List.append_nil]
  | succ n ih =>
    intro N l h1 h2
    obtain ⟨N, rfl⟩ := pos_fuel h2
    have : (l.length : Int) ≤ (x : Int) := by omega
    simp only [i_RunPlan_l2, this, decide_true, cond_true]
    rw [app_some _ _ (by unfold LIM; simp; omega), Option.bind_some, ih N _ (by simp; omega) (by omega), List.append_assoc]
    rfl
theorem pad_set (row : Str) (at_ x : Nat) (h : at_ ≤ x) (hx : x < row.length) (hb : ∀ j, at_ ≤ j → j < x → row[j]? = some 32) :
    (row.take at_ ++ List.replicate (x + 1 - at_) 32)[x]? = some 32 ∧ (row.take at_ ++ List.replicate (x + 1 - at_) 32).set x row[x] = row.take (x + 1) := by
  have hl : (row.take at_).length = at_ := by rw [List.length_take]; omega
  refine ⟨by rw [List.getElem?_append_right (by omega), hl, List.getElem?_replicate, if_pos (by omega)], List.ext_getElem? fun j => ?_⟩
  by_cases hj : j = x
  · subst hj
    rw [List.getElem?_set_self (by simp [hl]; omega), List.getElem?_take, if_pos (by omega), List.getElem?_eq_getElem hx]
  · rw [List.getElem?_set_ne (Ne.symm hj), List.getElem?_take]
    by_cases h1 : j < at_
    · rw [List.getElem?_append_left (by omega), List.getElem?_take, if_pos h1, if_pos (by omega)]
    · rw [List.getElem?_append_right (by omega), hl, List.getElem?_replicate]
      by_cases h2 : j < x + 1
      · rw [if_pos (by omega), if_pos h2, hb j (by omega) (by omega)]
      · rw [if_neg (by omega), if_neg h2]
theorem run_segs (stops : List Int) (hs : VS stops) (row : Str) (hr : Row row) (T : Str) (hT : T.length ≤ 1000) (kj : Str → Option (Str × Int)) {x at_ : Nat} {l : List (Str × UInt8)} (h : Segs stops row x at_ l) :
    ∀ (i N : Nat), T.drop i = flat l → at_ ≤ x → (∀ j, at_ ≤ j → j < x → row[j]? = some 32) → T.length + 200 ≤ N + i ∧ i ≤ T.length →
    i_RunPlan_l1 kj stops T N (row.take at_) (at_ : Int) (i : Int) = kj row := by
  obtain ⟨h30, hch, hlast⟩ := hr
  induction h with
  | @done at_ =>
    intro i N hd h1 h2 h3
    have hi : ¬ (i : Int) < (T.length : Int) := by
      have := congrArg List.length hd
      simp [flat] at this
      omega
    obtain ⟨N, rfl⟩ := pos_fuel (show 0 < N by
      have := congrArg List.length hd
      simp [flat] at this
      omega)
    have : at_ = row.length := by
      rcases Nat.lt_or_eq_of_le h1 with h | h
      · have := h2 (row.length - 1) (by omega) (by omega)
        rw [List.getElem?_eq_getElem (by omega)] at this
        exact (hlast (by omega) (Option.some.inj this)).elim
      · exact h
    rw [this, List.take_length]
    simp only [i_RunPlan_l1, hi, decide_false, cond_false]
  | @blank x at_ l hx hb hseg ih =>
    intro i N hd h1 h2 h3
    refine ih i N hd (by omega) (fun j hj hj2 => ?_) h3
    by_cases e : j = x
    · subst e; rw [List.getElem?_eq_getElem hx, hb]
    · exact h2 j hj (by omega)
  | @letter x at_ p l hx hb hp hm hg hseg ih =>
    intro i N hd h1 h2 h3
    rw [flat_cons] at hd
    have hlen := congrArg List.length hd
    simp only [List.length_drop, List.length_append, List.length_cons, List.length_nil] at hlen
    have hpath := run_path stops hs T hT kj p at_ x i N (row.take at_) hm hg (by omega) ⟨[39, row[x]] ++ flat l, by rw [hd]; simp⟩ (by omega)
    rw [hpath]
    obtain ⟨M, hM⟩ : ∃ M, N - p.length = M + 1 := ⟨N - p.length - 1, by omega⟩
    rw [hM]
    have hd2 : T.drop (i + p.length) = 39 :: row[x] :: flat l := by
      rw [← List.drop_drop, hd]
      simp
    have hk1 : i + p.length < T.length := by omega
    have hk2 : i + p.length + 1 < T.length := by omega
    have g1 : T[i + p.length] = 39 := by
      rw [List.drop_eq_getElem_cons hk1] at hd2
      exact (List.cons.inj hd2).1
    have g2 : T[i + p.length + 1] = row[x] := by
      rw [List.drop_eq_getElem_cons hk1, List.drop_eq_getElem_cons hk2] at hd2
      exact (List.cons.inj (List.cons.inj hd2).2).1
    have hd3 : T.drop (i + p.length + 1 + 1) = flat l := by
      rw [List.drop_eq_getElem_cons hk1, List.drop_eq_getElem_cons hk2] at hd2
      exact (List.cons.inj (List.cons.inj hd2).2).2
    have hlet : 33 ≤ row[x] ∧ row[x] ≤ 126 := (hch _ (List.getElem_mem hx)).resolve_left hb
    have hi1 : ((i + p.length : Nat) : Int) < (T.length : Int) := by omega
    have hn1 : ¬ ((i + p.length + 1 : Nat) : Int) ≥ (T.length : Int) := by omega
    have hn2 : ¬ (x : Int) ≥ 30 := by omega
    obtain ⟨p1, p2⟩ := pad_set row at_ x h1 hx h2
    have hpl : (row.take at_ ++ List.replicate (x + 1 - at_) 32).length = x + 1 := by simp; omega
    have hidx : idx (row.take at_ ++ List.replicate (x + 1 - at_) 32) (x : Int) = some 32 := by rw [idx_nat]; exact p1
    have hs1 := sub1 T (i + p.length + 1) hk2
    have hpad := fun kj => pad_ok kj x (by omega) (x + 1 - at_) M (row.take at_) (by rw [List.length_take]; omega) (by omega)
    have c62 : ((39 : UInt8) == 62) = false := rfl
    have c60 : ((39 : UInt8) == 60) = false := rfl
    have c35 : ((39 : UInt8) == 35) = false := rfl
    simp only [i_RunPlan_l1, hi1, decide_true, cond_true, withK_eq, idx_lt T _ hk1, Option.bind_some, g1, c62, c60, c35, cond_false, beq_self_eq_true, w64_nat (i + p.length) (by omega), hn1, decide_false, orO_false, w64_nat (i + p.length + 1) (by omega), hs1, g2, isLetter_ok M row[x] hlet (by omega), Bool.not_true, hn2, orO_some, Bool.or_self, hpad, hidx, bne_self_eq_false, idx_lt T _ hk2, Int.toNat_natCast, p2, w64_nat x (by omega)]
    exact ih (i + p.length + 1 + 1) M hd3 (Nat.le_refl _) (fun j hj hj2 => by omega) (by omega)
/-! its moves, and its letters -/
theorem three_cases {m : UInt8} (h : m ∈ three) : m = 35 ∨ m = 60 ∨ m = 62 := by simpa [three] using h
theorem pm_path (T : Str) (hT : T.length ≤ 1000) (kj : Int → Option (Int × Int)) : ∀ (p : Str) (i N mv : Nat), (∀ m ∈ p, m ∈ three) → (∃ r, T.drop i = p ++ r) → p.length + 50 ≤ N → mv + p.length ≤ 10000 →
    i_PlanMoves_l1 kj T N (mv : Int) (i : Int) = i_PlanMoves_l1 kj T (N - p.length) ((mv + p.length : Nat) : Int) ((i + p.length : Nat) : Int) := by
  intro p
  induction p with
  | nil => intro i N mv _ _ _ _; rfl
  | cons m p ih =>
    intro i N mv hm hd hN hmv
    obtain ⟨N, rfl⟩ := pos_fuel (show 0 < N by omega)
    simp only [List.length_cons] at hN hmv
    obtain ⟨r, hr⟩ := hd
    have hil : i < T.length := by
      have := congrArg List.length hr
      simp at this
      omega
    have hi : (i : Int) < (T.length : Int) := by omega
    rw [List.drop_eq_getElem_cons hil] at hr
    obtain ⟨g1, g2⟩ := List.cons.inj hr
    have := ih (i + 1) N (mv + 1) (fun x hx => hm x (by simp [hx])) ⟨r, g2⟩ (by omega) (by omega)
    rw [show N + 1 - (m :: p).length = N - p.length by simp, show i + (m :: p).length = i + 1 + p.length by simp; omega, show mv + (m :: p).length = mv + 1 + p.length by simp; omega, ← this]
    simp only [i_PlanMoves_l1, hi, decide_true, cond_true, withK_eq, idx_lt T i hil, Option.bind_some, g1, w64_nat i (by omega), w64_nat mv (by omega)]
    rcases three_cases (hm m (by simp)) with rfl | rfl | rfl <;> rfl
theorem at_letter (T : Str) (i : Nat) (p : Str) (ch : UInt8) (r : Str) (hd : T.drop i = p ++ [39, ch] ++ r) : ∃ h1 : i + p.length < T.length, ∃ h2 : i + p.length + 1 < T.length, T[i + p.length] = 39 ∧ T[i + p.length + 1] = ch ∧ T.drop (i + p.length + 1 + 1) = r := by
  have hlen := congrArg List.length hd
  simp only [List.length_drop, List.length_append, List.length_cons, List.length_nil] at hlen
  have hd2 : T.drop (i + p.length) = 39 :: ch :: r := by
    rw [← List.drop_drop, hd]
    simp
  have hk1 : i + p.length < T.length := by omega
  have hk2 : i + p.length + 1 < T.length := by omega
  rw [List.drop_eq_getElem_cons hk1, List.drop_eq_getElem_cons hk2] at hd2
  exact ⟨hk1, hk2, (List.cons.inj hd2).1, (List.cons.inj (List.cons.inj hd2).2).1, (List.cons.inj (List.cons.inj hd2).2).2⟩
theorem pm_segs (stops : List Int) (row : Str) (hr : Row row) (T : Str) (hT : T.length ≤ 1000) (kj : Int → Option (Int × Int)) {x at_ : Nat} {l : List (Str × UInt8)} (h : Segs stops row x at_ l) :
    ∀ (i N mv : Nat), T.drop i = flat l → T.length + 200 ≤ N + i ∧ i ≤ T.length → mv + total l ≤ 10000 → i_PlanMoves_l1 kj T N (mv : Int) (i : Int) = kj ((mv + total l : Nat) : Int) := by
  obtain ⟨h30, hch, hlast⟩ := hr
  induction h with
  | @done at_ =>
    intro i N mv hd h3 hmv
    have hd' := congrArg List.length hd
    simp [flat] at hd'
    have hi : ¬ (i : Int) < (T.length : Int) := by omega
    obtain ⟨N, rfl⟩ := pos_fuel (show 0 < N by omega)
    simp only [i_PlanMoves_l1, hi, decide_false, cond_false, total, Nat.add_zero]
  | @blank x at_ l hx hb hseg ih => exact ih
  | @letter x at_ p l hx hb hp hm hg hseg ih =>
    intro i N mv hd h3 hmv
    rw [flat_cons] at hd
    simp only [total] at hmv ⊢
    have hlen := congrArg List.length hd
    simp only [List.length_drop, List.length_append, List.length_cons, List.length_nil] at hlen
    rw [pm_path T hT kj p i N mv hm ⟨[39, row[x]] ++ flat l, by rw [hd]; simp⟩ (by omega) (by omega)]
    obtain ⟨hk1, hk2, g1, g2, g3⟩ := at_letter T i p row[x] (flat l) hd
    obtain ⟨M, hM⟩ : ∃ M, N - p.length = M + 1 := ⟨N - p.length - 1, by omega⟩
    rw [hM]
    have hlet : 33 ≤ row[x] ∧ row[x] ≤ 126 := (hch _ (List.getElem_mem hx)).resolve_left hb
    have hi1 : ((i + p.length : Nat) : Int) < (T.length : Int) := by omega
    have hn1 : ¬ ((i + p.length + 1 : Nat) : Int) ≥ (T.length : Int) := by omega
    have hs1 := sub1 T (i + p.length + 1) hk2
    have c62 : ((39 : UInt8) == 62) = false := rfl
    have c60 : ((39 : UInt8) == 60) = false := rfl
    have c35 : ((39 : UInt8) == 35) = false := rfl
    simp only [i_PlanMoves_l1, hi1, decide_true, cond_true, withK_eq, idx_lt T _ hk1, Option.bind_some, g1, c62, c60, c35, cond_false, beq_self_eq_true, w64_nat (i + p.length) (by omega), hn1, decide_false, orO_false, w64_nat (i + p.length + 1) (by omega), hs1, g2, isLetter_ok M row[x] hlet (by omega), Bool.not_true]
    rw [ih (i + p.length + 1 + 1) M (mv + p.length) g3 (by omega) (by omega), Nat.add_assoc]
theorem wl_path (r17 : Str × Int) (hT : r17.1.length ≤ 1000) (kj : Str → Option Bool) : ∀ (p : Str) (i N : Nat) (a : Str), (∀ m ∈ p, m ∈ three) → (∃ r, r17.1.drop i = p ++ r) → p.length + 50 ≤ N →
    w_FnRowPlans_l1 kj r17 N a (i : Int) = w_FnRowPlans_l1 kj r17 (N - p.length) a ((i + p.length : Nat) : Int) := by
  intro p
  induction p with
  | nil => intro i N a _ _ _; rfl
  | cons m p ih =>
    intro i N a hm hd hN
    obtain ⟨N, rfl⟩ := pos_fuel (show 0 < N by omega)
    simp only [List.length_cons] at hN
    obtain ⟨r, hr⟩ := hd
    have hil : i < r17.1.length := by
      have := congrArg List.length hr
      simp at this
      omega
    have hi : (i : Int) < (r17.1.length : Int) := by omega
    rw [List.drop_eq_getElem_cons hil] at hr
    obtain ⟨g1, g2⟩ := List.cons.inj hr
    have := ih (i + 1) N a (fun x hx => hm x (by simp [hx])) ⟨r, g2⟩ (by omega)
    rw [show N + 1 - (m :: p).length = N - p.length by simp, show i + (m :: p).length = i + 1 + p.length by simp; omega, ← this]
    have h39 : (m == 39) = false := by rcases three_cases (hm m (by simp)) with rfl | rfl | rfl <;> rfl
    simp only [w_FnRowPlans_l1, hi, decide_true, cond_true, withK_eq, idx_lt r17.1 i hil, Option.bind_some, g1, w64_nat i (by omega), h39, andO_false, cond_false]
theorem wl_segs (stops : List Int) (row : Str) (hr : Row row) (r17 : Str × Int) (hT : r17.1.length ≤ 1000) (kj : Str → Option Bool) {x at_ : Nat} {l : List (Str × UInt8)} (h : Segs stops row x at_ l) :
    ∀ (i N : Nat) (a : Str), r17.1.drop i = flat l → r17.1.length + 200 ≤ N + i ∧ i ≤ r17.1.length → a.length + l.length ≤ 1000 → w_FnRowPlans_l1 kj r17 N a (i : Int) = kj (a ++ (row.drop x).filter (fun c => c != 32)) := by
  induction h with
  | @done at_ =>
    intro i N a hd h3 hmv
    have hd' := congrArg List.length hd
    simp [flat] at hd'
    have hi : ¬ (i : Int) < (r17.1.length : Int) := by omega
    obtain ⟨N, rfl⟩ := pos_fuel (show 0 < N by omega)
    simp only [w_FnRowPlans_l1, hi, decide_false, cond_false, List.drop_length, List.filter_nil, List.append_nil]
  | @blank x at_ l hx hb hseg ih =>
    intro i N a hd h3 hmv
    rw [ih i N a hd h3 hmv, List.drop_eq_getElem_cons hx, hb]
    rfl
  | @letter x at_ p l hx hb hp hm hg hseg ih =>
    intro i N a hd h3 hmv
    rw [flat_cons] at hd
    simp only [List.length_cons] at hmv
    have hlen := congrArg List.length hd
    simp only [List.length_drop, List.length_append, List.length_cons, List.length_nil] at hlen
    rw [wl_path r17 hT kj p i N a hm ⟨[39, row[x]] ++ flat l, by rw [hd]; simp⟩ (by omega)]
    obtain ⟨hk1, hk2, g1, g2, g3⟩ := at_letter r17.1 i p row[x] (flat l) hd
    obtain ⟨M, hM⟩ : ∃ M, N - p.length = M + 1 := ⟨N - p.length - 1, by omega⟩
    rw [hM]
    have hi1 : ((i + p.length : Nat) : Int) < (r17.1.length : Int) := by omega
    have hn1 : ((i + p.length + 1 : Nat) : Int) < (r17.1.length : Int) := by omega
    have hs1 := sub1 r17.1 (i + p.length + 1) hk2
    have hb' : (row[x] != 32) = true := by simpa using hb
    simp only [w_FnRowPlans_l1, hi1, decide_true, cond_true, withK_eq, idx_lt r17.1 _ hk1, Option.bind_some, g1, beq_self_eq_true, w64_nat (i + p.length) (by omega), hn1, andO_true, w64_nat (i + p.length + 1) (by omega), hs1, g2]
    rw [cat_some _ _ (by unfold LIM; simp; omega), Option.bind_some, ih (i + p.length + 1 + 1) M _ g3 (by omega) (by simp; omega), List.drop_eq_getElem_cons hx, List.filter_cons, if_pos hb']
    simp
end Go.Proofs.Ytimcachjcocjmaa
