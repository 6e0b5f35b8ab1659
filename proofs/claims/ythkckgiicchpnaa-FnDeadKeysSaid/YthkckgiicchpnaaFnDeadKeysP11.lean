/-
  Plain lemmas on these functions. No conditions but those that each states.
-/
import Derived.Test.YthkckgiicchpnaaFnDeadKeysP10
namespace Go.Proofs.Ythkckgiicchpnaa
set_option linter.unusedVariables false
set_option linter.unusedSimpArgs false
/-! What presses type can be typed again. -/
theorem okKs_dead (c : Str) : ∀ (ks p : List Key) (k : Key), okKs p ks = true → k ∈ ks → (k.low == c || k.high == c) = true → hasK p c = false ∧ deadK ks c = k.dead := by
  intro ks
  induction ks with
  | nil => intro p k _ hk; cases hk
  | cons x xs ih =>
    intro p k h hk hc
    simp only [okKs, okB, Bool.and_eq_true, Bool.not_eq_true'] at h
    rcases List.mem_cons.1 hk with rfl | hk
    · refine ⟨?_, by simp only [deadK, hc, if_true]⟩
      rcases Bool.or_eq_true _ _ ▸ hc with h2 | h2
      · rw [← eq_of_beq h2]; exact h.1.1.2
      · rw [← eq_of_beq h2]; exact h.1.2
    · obtain ⟨g1, g2⟩ := ih _ k h.2 hk hc
      rw [hasK_snoc, Bool.or_eq_false_iff] at g1
      refine ⟨g1.1, ?_⟩
      simp only [deadK, g1.2]
      simpa using g2
theorem madeOf_mem (as : List Accent) (x y : Str) : ∀ m : Str, as.foldl (madeO x y) m = m ∨ ∃ a ∈ as, as.foldl (madeO x y) m = a.made := by
  induction as with
  | nil => intro m; exact .inl rfl
  | cons a as ih =>
    intro m
    rw [List.foldl_cons]
    rcases ih (madeO x y m a) with h | ⟨b, hb, h⟩
    · rw [h]
      unfold madeO
      split
      · exact .inr ⟨a, List.mem_cons_self, rfl⟩
      · exact .inl rfl
    · exact .inr ⟨b, List.mem_cons_of_mem _ hb, h⟩
def cst (keys : List Key) (as : List Accent) (t : Str) : Nat := (t.map fun c => (prs keys as [c]).length).sum
def Typ (keys : List Key) (as : List Accent) (u : Str) : Prop := isT u 33 = true ∧ ∀ c ∈ u, (prs keys as [c]).length ≠ 0
theorem isL_one {s : Str} (h : isL s = true) : ∃ c, s = [c] ∧ isT [c] 33 = true := by
  have := isL_len h
  match s, this with
  | [c], _ => exact ⟨c, rfl, by unfold isL at h; simpa [isT] using h⟩
theorem prt_has (keys : List Key) (p : Press) (h : InR keys p) : ∃ k ∈ keys, keys[p.key.toNat]? = some k ∧ (k.low == prt keys p || k.high == prt keys p) = true ∧ ddP keys p = k.dead ∧ (prt keys p = k.low ∨ prt keys p = k.high) := by
  have e : keys[p.key.toNat]? = some _ := List.getElem?_eq_getElem (by have := h.1; have := h.2; omega)
  refine ⟨_, List.mem_of_getElem? e, e, ?_, ?_, ?_⟩
  · unfold prt; rw [e]; cases p.shift <;> simp
  · unfold ddP; rw [e]
  · unfold prt; rw [e]; cases p.shift <;> simp
theorem prs_one (keys : List Key) (as : List Accent) (hok : okKA keys as = true) (p : Press) (h : InR keys p) (hd : ddP keys p = false) : ∃ c, prt keys p = [c] ∧ isT [c] 33 = true ∧ (prs keys as [c]).length = 1 := by
  obtain ⟨h1, h2, _, _⟩ := okKA_and hok
  obtain ⟨k, hk, _, h3, h4, h5⟩ := prt_has keys p h
  have hl := okKs_letters keys [] h1 k hk
  have hL : isL (prt keys p) = true := by
    rcases h5 with h5 | h5
    · rw [h5]; exact hl.1
    · rw [h5]; exact hl.2.1
  obtain ⟨c, e, hT⟩ := isL_one hL
  refine ⟨c, e, hT, ?_⟩
  rw [e] at h3
  have hdd := (okKs_dead [c] keys [] k h1 hk h3).2
  have hh : hasK keys [c] = true := List.any_eq_true.2 ⟨k, hk, h3⟩
  unfold prs
  rw [hh, hdd, ← h4, hd]
  rfl
theorem prs_two (keys : List Key) (as : List Accent) (hok : okKA keys as = true) (x y : Str) (hm : madeOf as x y ≠ []) : ∃ c, madeOf as x y = [c] ∧ isT [c] 33 = true ∧ (prs keys as [c]).length = 2 := by
  obtain ⟨h1, h2, _, _⟩ := okKA_and hok
  rcases madeOf_mem as x y [] with h | ⟨a, ha, h⟩
  · exact absurd h hm
  · have hA := okAs_made keys as [] h2 a ha
    obtain ⟨c, e, hT⟩ := isL_one hA.1
    refine ⟨c, h.trans e, hT, ?_⟩
    have hh := hA.2.2.2
    rw [e] at hh
    unfold prs
    rw [hh]
    cases hf : as.find? (fun a => a.made == [c]) with
    | none =>
      rw [List.find?_eq_none] at hf
      exact absurd (by rw [e]; simp) (hf a ha)
    | some b => rfl
theorem txo_typ (keys : List Key) (as : List Accent) (hok : okKA keys as = true) : ∀ (n : Nat) (list : List Press) (o : Str), list.length ≤ n → (∀ p ∈ list, InR keys p) → (txo keys as o list).2 = 0 → ∃ u, (txo keys as o list).1 = o ++ u ∧ Typ keys as u ∧ cst keys as u ≤ list.length := by
  intro n
  induction n using Nat.strongRecOn with
  | ind n ih =>
    intro list o hl hin h0
    match list, hl, hin, h0 with
    | [], _, _, _ => exact ⟨[], by simp [txo], ⟨rfl, by simp⟩, by simp [cst]⟩
    | p :: r, hl, hin, h0 =>
      cases hd : ddP keys p
      · rw [txo_n keys as o p r hd] at h0 ⊢
        obtain ⟨c, e, hT, hc⟩ := prs_one keys as hok p (hin p List.mem_cons_self) hd
        obtain ⟨u, e1, e2, e3⟩ := ih (n - 1) (by simp at hl; omega) r _ (by simp at hl; omega) (fun q hq => hin q (List.mem_cons_of_mem _ hq)) h0
        refine ⟨c :: u, by rw [e1, e]; simp, ⟨?_, ?_⟩, ?_⟩
        · have := e2.1; simp only [isT, List.all_cons, List.all_nil, Bool.and_true] at hT this ⊢; rw [hT, this]; rfl
        · intro x hx
          rcases List.mem_cons.1 hx with rfl | hx
          · omega
          · exact e2.2 x hx
        · simp only [cst, List.map_cons, List.sum_cons, List.length_cons] at e3 ⊢; omega
      · match r, hl, hin, h0 with
        | [], _, _, h0 => simp [txo, hd] at h0
        | q :: r', hl, hin, h0 =>
          by_cases hm : madeOf as (prt keys p) (prt keys q) = []
          · simp [txo, hd, hm] at h0
          · have hf : (madeOf as (prt keys p) (prt keys q) == []) = false := by rw [beq_eq_false_iff_ne]; exact hm
            obtain ⟨c, e, hT, hc⟩ := prs_two keys as hok _ _ hm
            have hx : txo keys as o (p :: q :: r') = txo keys as (o ++ madeOf as (prt keys p) (prt keys q)) r' := by simp [txo, hd, hf]
            rw [hx] at h0 ⊢
            obtain ⟨u, e1, e2, e3⟩ := ih (n - 2) (by simp at hl; omega) r' _ (by simp at hl; omega) (fun q' hq => hin q' (List.mem_cons_of_mem _ (List.mem_cons_of_mem _ hq))) h0
            refine ⟨c :: u, by rw [e1, e]; simp, ⟨?_, ?_⟩, ?_⟩
            · have := e2.1; simp only [isT, List.all_cons, List.all_nil, Bool.and_true] at hT this ⊢; rw [hT, this]; rfl
            · intro x hx
              rcases List.mem_cons.1 hx with rfl | hx
              · omega
              · exact e2.2 x hx
            · simp only [cst, List.map_cons, List.sum_cons, List.length_cons] at e3 ⊢; omega
theorem pfo_typ (keys : List Key) (as : List Accent) : ∀ (u : Str) (o : List Press), (∀ c ∈ u, (prs keys as [c]).length ≠ 0) → (pfo keys as o u).2 = 0 ∧ (pfo keys as o u).1.length = o.length + cst keys as u := by
  intro u
  induction u with
  | nil => intro o _; exact ⟨rfl, by simp [pfo, cst]⟩
  | cons c r ih =>
    intro o h
    have h1 := h c List.mem_cons_self
    have hz : (((prs keys as [c]).length : Int) == 0) = false := by rw [beq_eq_false_iff_ne]; omega
    obtain ⟨e1, e2⟩ := ih (o ++ prs keys as [c]) (fun x hx => h x (List.mem_cons_of_mem _ hx))
    have hx : pfo keys as o (c :: r) = pfo keys as (o ++ prs keys as [c]) r := by simp only [pfo, hz]; simp
    rw [hx]
    refine ⟨e1, ?_⟩
    rw [e2, List.length_append]
    simp only [cst, List.map_cons, List.sum_cons]
    omega
theorem tx_again (keys : List Key) (as : List Accent) (list : List Press) (h0 : (txV keys as list).2 = 0) (hl : ((txV keys as list).1.length : Int) ≤ 100) : (pfV keys as (txV keys as list).1).2 = 0 ∧ (pfV keys as (txV keys as list).1).1.length ≤ list.length := by
  unfold txV at *
  cases hok : okKA keys as
  · rw [hok] at h0; simp at h0
  · rw [hok] at h0 hl
    simp only [if_true] at h0 hl ⊢
    cases hr : (list.all (rng keys) && decide (list.length ≤ 200))
    · rw [hr] at h0; simp at h0
    · rw [hr] at h0 hl
      simp only [if_true] at h0 hl ⊢
      simp only [Bool.and_eq_true] at hr
      obtain ⟨u, e1, e2, e3⟩ := txo_typ keys as hok list.length list [] (Nat.le_refl _) (fun p hp => rng_in.1 (List.all_eq_true.1 hr.1 p hp)) h0
      rw [List.nil_append] at e1
      rw [e1] at hl ⊢
      unfold pfV
      have hl' : decide ((u.length : Int) ≤ 100) = true := decide_eq_true hl
      rw [hok, e2.1, hl']
      obtain ⟨g1, g2⟩ := pfo_typ keys as u [] e2.2
      simp only [List.length_nil, Nat.zero_add] at g2
      exact ⟨g1, by show (pfo keys as [] u).1.length ≤ _; omega⟩
/-- shifts -/
def shf : Int → Bool → List Press → Int × Bool
  | n, d, [] => (n, d)
  | n, d, p :: r => shf (bif p.shift != d then n + 1 else n) p.shift r
def b2 (b : Bool) : Int := if b then 1 else 0
theorem shf_ok : ∀ (l : List Press) (n : Int) (d : Bool), n % 2 = b2 d → (shf n d l).1 % 2 = b2 (shf n d l).2 ∧ n ≤ (shf n d l).1 ∧ (shf n d l).1 ≤ n + l.length := by
  intro l
  induction l with
  | nil => intro n d h; exact ⟨h, by simp [shf], by simp [shf]⟩
  | cons p r ih =>
    intro n d h
    unfold shf
    obtain ⟨h1, h2, h3⟩ := ih (bif p.shift != d then n + 1 else n) p.shift (by
      revert h
      unfold b2
      cases p.shift <;> cases d <;> simp <;> omega)
    have hb : n ≤ (bif p.shift != d then n + 1 else n) ∧ (bif p.shift != d then n + 1 else n) ≤ n + 1 := by
      cases (p.shift != d) <;> simp only [cond_true, cond_false] <;> omega
    simp only [List.length_cons]
    exact ⟨h1, by omega, by omega⟩
theorem i_sh_l1 (l : List Press) (kj : Int → Bool → Option (Int × Int)) (hl : l.length ≤ 1000) : ∀ (n i N : Nat) (c : Int) (d : Bool), i + n = l.length → n < N → 0 ≤ c → c ≤ i → i_ShiftsOf_l1 kj l N c d (i : Int) = kj (shf c d (l.drop i)).1 (shf c d (l.drop i)).2 := by
  intro n
  induction n with
  | zero =>
    intro i N c d hi hN h0 h1
    obtain ⟨N, rfl⟩ := pos_fuel hN
    have hz : ¬ (i : Int) < (l.length : Int) := by omega
    simp only [i_ShiftsOf_l1, hz, decide_false, cond_false]
    rw [List.drop_eq_nil_of_le (by omega)]; rfl
  | succ n ih =>
    intro i N c d hi hN h0 h1
    obtain ⟨N, rfl⟩ := pos_fuel hN
    have hz : (i : Int) < (l.length : Int) := by omega
    simp only [i_ShiftsOf_l1, hz, decide_true, cond_true, withK_eq]
    rw [idx_lt l i (by omega), w64_nat i (by omega), w64_id (x := c + 1) (by omega) (by omega), List.drop_eq_getElem_cons (by omega : i < l.length), shf]
    simp only [Option.bind_some]
    cases hs : (l[i].shift != d)
    · have e : l[i].shift = d := by simpa using hs
      simp only [cond_false]
      rw [e]
      exact ih (i + 1) N c d (by omega) (by omega) h0 (by omega)
    · simp only [cond_true]
      exact ih (i + 1) N (c + 1) _ (by omega) (by omega) (by omega) (by omega)
theorem s_sh_l1 (l : List Press) (kj : Int → Bool → Option (Int × Int)) (hl : l.length ≤ 1000) : ∀ (n i N : Nat) (c : Int) (d : Bool), i + n = l.length → n < N → 0 ≤ c → c ≤ i → s_ShiftsOf_l1 kj l N c d (i : Int) = kj (shf c d (l.drop i)).1 (shf c d (l.drop i)).2 := by
  intro n
  induction n with
  | zero =>
    intro i N c d hi hN h0 h1
    obtain ⟨N, rfl⟩ := pos_fuel hN
    have hz : ¬ (i : Int) < (l.length : Int) := by omega
    simp only [s_ShiftsOf_l1, hz, decide_false, cond_false]
    rw [List.drop_eq_nil_of_le (by omega)]; rfl
  | succ n ih =>
    intro i N c d hi hN h0 h1
    obtain ⟨N, rfl⟩ := pos_fuel hN
    have hz : (i : Int) < (l.length : Int) := by omega
    simp only [s_ShiftsOf_l1, hz, decide_true, cond_true, withK_eq]
    rw [idx_lt l i (by omega), w64_nat i (by omega), w64_id (x := c + 1) (by omega) (by omega), List.drop_eq_getElem_cons (by omega : i < l.length), shf]
    simp only [Option.bind_some]
    cases hs : (l[i].shift != d)
    · simp only [cond_false]
      exact ih (i + 1) N c _ (by omega) (by omega) h0 (by omega)
    · simp only [cond_true]
      exact ih (i + 1) N (c + 1) _ (by omega) (by omega) (by omega) (by omega)
theorem sh_both (l : List Press) (hl : l.length ≤ 1000) (N : Nat) (hN : 2000 < N) : ∃ v : Int × Int, i_ShiftsOf N l = some v ∧ s_ShiftsOf N l = some v ∧ Int.tmod v.1 2 = 0 ∧ v.1 ≤ 2 * (l.length : Int) := by
  unfold i_ShiftsOf s_ShiftsOf
  simp only [withK_eq]
  by_cases h : (l.length : Int) > 200
  · simp only [h, decide_true, cond_true]
    exact ⟨(0, 2), rfl, rfl, rfl, by show (0 : Int) ≤ _; omega⟩
  · simp only [h, decide_false, cond_false]
    rw [show (0 : Int) = ((0 : Nat) : Int) from rfl, i_sh_l1 l _ hl l.length 0 N _ _ (by omega) (by omega) (by omega) (by omega), s_sh_l1 l _ hl l.length 0 N _ _ (by omega) (by omega) (by omega) (by omega)]
    simp only [List.drop_zero, Int.natCast_zero]
    obtain ⟨h1, h2, h3⟩ := shf_ok l 0 false rfl
    cases hb : (shf 0 false l).2
    · rw [hb] at h1
      simp only [cond_false]
      refine ⟨_, rfl, rfl, ?_, ?_⟩
      · show Int.tmod (shf 0 false l).1 2 = 0
        rw [Int.tmod_eq_emod_of_nonneg h2]; exact h1
      · show (shf 0 false l).1 ≤ _; omega
    · rw [hb] at h1
      simp only [cond_true]
      rw [w64_id (by omega) (by omega)]
      refine ⟨_, rfl, rfl, ?_, ?_⟩
      · show Int.tmod ((shf 0 false l).1 + 1) 2 = 0
        rw [Int.tmod_eq_emod_of_nonneg (by omega)]
        have : (shf 0 false l).1 % 2 = 1 := h1
        omega
      · show (shf 0 false l).1 + 1 ≤ _
        have hne : 0 < l.length := by
          cases l with
          | nil => simp [shf] at hb
          | cons a r => simp
        omega
/-- the press for a letter, both ways -/
theorem pf_both (keys : List Key) (c : Str) (hl : keys.length ≤ 1000) (N : Nat) (hN : 5000 < N) : ∃ v : Press × Int, i_PressFor N keys c = some v ∧ s_PressFor N keys c = some v ∧ (v.2 = 0 → ∃ k, idx keys v.1.key = some k ∧ (v.1.shift = true → (k.high != c) = false) ∧ (v.1.shift = false → (k.low != c) = false)) := by
  unfold i_PressFor s_PressFor
  rw [i_valid keys [] hl (by simp) N (by omega), s_ok keys [] hl (by simp) N (by omega), i_letter c N (by omega), s_letter c, s_find keys c hl N (by omega)]
  simp only [Option.bind_some]
  cases hok : okKA keys []
  · exact ⟨_, rfl, rfl, fun h => by cases h⟩
  · obtain ⟨h1, _, _, _⟩ := okKA_and hok
    rw [i_press keys c (fun k hk => (okKs_letters keys [] h1 k hk).2.2) hl N (by omega)]
    simp only [Option.bind_some, fndK_neg, Bool.not_true, cond_false]
    cases isL c
    · exact ⟨_, rfl, rfl, fun h => by cases h⟩
    · cases hc : hasK keys c
      · refine ⟨(⟨0, false⟩, 3), ?_, rfl, fun h => by cases h⟩
        simp [prsK, hc]
      · refine ⟨(pr1 keys c, 0), ?_, rfl, fun _ => ?_⟩
        · simp [prsK, hc, pr1]
        · obtain ⟨j, k, e1, e2, e3, e4, _⟩ := fndK_ge c keys 0 hc
          refine ⟨k, ?_, ?_, ?_⟩
          · show idx keys (fndK c 0 keys).1 = some k
            rw [e1, Nat.zero_add, idx_nat]; exact e2
          · intro hs
            have hs' : (fndK c 0 keys).2 = true := hs
            rw [e4] at hs'
            cases hlo : k.low == c
            · rw [hlo] at e3; simpa using e3
            · rw [hlo] at hs'; cases hs'
          · intro hs
            have hs' : (fndK c 0 keys).2 = false := hs
            rw [e4] at hs'
            cases hlo : k.low == c
            · rw [hlo] at hs'; cases hs'
            · simpa using hlo
theorem beq_press (p : Press) : Press.beq p p = true := by unfold Press.beq; simp
theorem law_FnDeadKeys (code : List UInt8) (_ : wfL wfByte code) : ∃ N, w_FnDeadKeys N code = some true := by
  refine ⟨7000, ?_⟩
  obtain ⟨N, hN⟩ : ∃ N, N = 7000 := ⟨_, rfl⟩
  rw [← hN]
  unfold w_FnDeadKeys w_f6big
  rw [Option.bind_some]
  cases (decide ((code.length : Int) > 4096))
  case true => rfl
  rw [cond_false]
  obtain ⟨d, x1, g1, g2, g3⟩ := dpress code N (by omega)
  obtain ⟨t1, t2⟩ := tx_both d.1 d.2.1 d.2.2 (by omega) (by omega) (by omega) N (by omega)
  obtain ⟨v, s1, s2, s3, s4⟩ := sh_both d.2.2 (by omega) N (by omega)
  obtain ⟨b, y1, b1⟩ := dprf code N (by omega)
  obtain ⟨p, p1, p2, p3⟩ := pf_both b.1 b.2 (by omega) N (by omega)
  unfold s_DrawTextOfPresses s_DrawShiftsOf
  rw [x1]
  simp only [Option.bind_some]
  rw [t1, t2, s1, s2]
  simp only [Option.bind_some]
  rw [y1]
  simp only [Option.bind_some]
  rw [p1, p2]
  simp only [Option.bind_some, bne_self_eq_false, orO_some, Bool.or_self, beq_press, Bool.not_true, cond_false]
  have hw : w64 (2 * (d.2.2.length : Int)) = 2 * (d.2.2.length : Int) := w64_id (by omega) (by omega)
  have hd : decide (v.1 > 2 * (d.2.2.length : Int)) = false := decide_eq_false (by omega)
  rw [hw, hd, s3]
  simp only [bne_self_eq_false, Bool.or_self, andO_some, Bool.and_false, Option.bind_some, cond_false]
  have hA : ((andO (p.2 == 0) ((andO p.1.shift ((idx b.1 p.1.key).bind fun e61 => some (e61.high != b.2))).bind fun t58 => (orO t58 ((andO (!p.1.shift) ((idx b.1 p.1.key).bind fun e69 => some (e69.low != b.2))).bind fun t66 => some t66)).bind fun t63 => some t63))) = some false := by
    cases hp : p.2 == 0
    · rfl
    · obtain ⟨k, k1, k2, k3⟩ := p3 (by simpa using hp)
      rw [k1]
      cases hs : p.1.shift
      · simp [k3 hs]
      · simp [k2 hs]
  rw [hA]
  simp only [Option.bind_some, cond_false]
  cases h0 : ((txV d.1 d.2.1 d.2.2).2 != 0)
  · cases h1 : decide ((List.length (txV d.1 d.2.1 d.2.2).1 : Int) > 100)
    · simp only [Bool.or_self, cond_false]
      have hlen : ((txV d.1 d.2.1 d.2.2).1.length : Int) ≤ 100 := by have := of_decide_eq_false h1; omega
      obtain ⟨q1, q2⟩ := tx_again d.1 d.2.1 d.2.2 (by simpa using h0) hlen
      rw [i_pf d.1 d.2.1 _ (by omega) (by omega) (by omega) N (by omega)]
      simp only [Option.bind_some, q1, beq_self_eq_true, Bool.true_and]
      refine congrArg some (decide_eq_true ?_)
      omega
    · rfl
  · rfl
end Go.Proofs.Ythkckgiicchpnaa
