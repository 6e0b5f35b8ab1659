/-
  Plain lemmas on these functions. No conditions but those that each states.
-/
import Derived.Test.YthifimjkndpmpaaFnFewLettersP6
namespace Go.Proofs.Ythifimjkndpmpaa
set_option linter.unusedVariables false
set_option linter.unusedSimpArgs false
/-! Rare faults. -/
theorem ltL_irr : ∀ a : Str, ltL a a = false
  | [] => rfl
  | c :: a => by simp [ltL, ltL_irr a]
theorem ltL_trans : ∀ a b c : Str, ltL a b = true → ltL b c = true → ltL a c = true
  | _, [], _, h, _ => by simp [ltL] at h
  | [], _ :: _, [], _, h => by simp [ltL] at h
  | [], _ :: _, _ :: _, _, _ => by simp [ltL]
  | _ :: _, _ :: _, [], _, h => by simp [ltL] at h
  | x :: a, y :: b, z :: c, h1, h2 => by
    simp only [ltL, Bool.or_eq_true, Bool.and_eq_true, decide_eq_true_eq, beq_iff_eq] at h1 h2 ⊢
    rcases h1 with h1 | ⟨rfl, h1⟩
    · rcases h2 with h2 | ⟨rfl, h2⟩
      · exact .inl (UInt8.lt_trans h1 h2)
      · exact .inl h1
    · rcases h2 with h2 | ⟨rfl, h2⟩
      · exact .inl h2
      · exact .inr ⟨rfl, ltL_trans a b c h1 h2⟩
theorem fb_iff (x y : TypeFault) : TypeFault.beq x y = true ↔ x = y := by
  obtain ⟨a, b⟩ := x
  obtain ⟨c, d⟩ := y
  simp [TypeFault.beq]
instance : BEq TypeFault := ⟨TypeFault.beq⟩
instance : LawfulBEq TypeFault where
  eq_of_beq h := (fb_iff _ _).1 h
  rfl := (fb_iff _ _).2 rfl
theorem mget_msetK (k : TypeFault) (v : Int) (s : TypeFault) : ∀ l : List (TypeFault × Int), mgetK TypeFault.beq (msetK TypeFault.beq l k v) s = bif TypeFault.beq s k then some v else mgetK TypeFault.beq l s
  | [] => rfl
  | (a, b) :: l => by
    rw [msetK]
    cases h : TypeFault.beq k a
    · simp only [cond_false, mgetK, mget_msetK k v s l]
      cases h2 : TypeFault.beq s a
      · simp
      · have e := (fb_iff s a).1 h2
        subst e
        have : TypeFault.beq s k = false := by
          cases h3 : TypeFault.beq s k
          · rfl
          · have e := (fb_iff s k).1 h3
            subst e
            rw [(fb_iff s s).2 rfl] at h; cases h
        simp [this]
    · have e := (fb_iff k a).1 h
      subst e
      simp only [cond_true, mgetK]
      cases TypeFault.beq s k <;> rfl
def Cnt (mp : List (TypeFault × Int)) (l : List TypeFault) : Prop := ∀ s, (mgetK TypeFault.beq mp s).getD 0 = ((l.count s : Nat) : Int)
theorem Cnt.snoc {mp : List (TypeFault × Int)} {l : List TypeFault} (h : Cnt mp l) (f : TypeFault) (hl : l.length ≤ 1000) : Cnt (msetK TypeFault.beq mp f (w64 ((mgetK TypeFault.beq mp f).getD 0 + 1))) (l ++ [f]) := fun s => by
  rw [mget_msetK, List.count_append, List.count_singleton, h f]
  have hc := List.count_le_length (a := f) (l := l)
  rw [w64_id (by omega) (by omega)]
  cases hs : TypeFault.beq s f
  · rw [cond_false, h s]
    have : (f == s) = false := by
      cases h3 : (f == s)
      · rfl
      · have e : f = s := eq_of_beq h3
        subst e
        rw [(fb_iff f f).2 rfl] at hs; cases hs
    simp [this]
  · have e := (fb_iff s f).1 hs
    subst e
    simp
theorem ra_l2 (e : Writer) (hf : e.faults.length ≤ 6) (pre : List TypeFault) (hp : pre.length ≤ 500) : ∀ (n x N : Nat) (mp : List (TypeFault × Int)), x + n = e.faults.length → n < N → Cnt mp (pre ++ e.faults.take x) → ∃ mp', Cnt mp' (pre ++ e.faults) ∧ ∀ kj, i_RareFaults_l2 kj e N mp (x : Int) = kj mp' := by
  intro n
  induction n with
  | zero =>
    intro x N mp h1 h2 h3
    obtain ⟨N, rfl⟩ := pos_fuel h2
    have hi : ¬ ((x : Int) < (e.faults.length : Int)) := by omega
    rw [List.take_of_length_le (by omega)] at h3
    exact ⟨mp, h3, fun kj => by simp only [i_RareFaults_l2, hi, decide_false, cond_false]⟩
  | succ n ih =>
    intro x N mp h1 h2 h3
    obtain ⟨N, rfl⟩ := pos_fuel h2
    have hi : (x : Int) < (e.faults.length : Int) := by omega
    have hx : x < e.faults.length := by omega
    obtain ⟨mp', g1, g2⟩ := ih (x + 1) N _ (by omega) (by omega) (by
      have := h3.snoc e.faults[x] (by simp; omega)
      rw [List.append_assoc, ← List.take_succ_eq_append_getElem hx] at this
      exact this)
    refine ⟨mp', g1, fun kj => ?_⟩
    simp only [i_RareFaults_l2, hi, decide_true, cond_true, idx_lt _ x hx, Option.bind_some, w64_nat x (by omega)]
    exact g2 kj
def flt (L : List Writer) : List TypeFault := L.flatMap Writer.faults
theorem flt_len {L : List Writer} (hf : ∀ w ∈ L, w.faults.length ≤ 6) : (flt L).length ≤ 6 * L.length := by
  unfold flt
  induction L with
  | nil => simp
  | cons w L ih =>
    have h1 := hf w (by simp)
    have h2 := ih (fun v hv => hf v (by simp [hv]))
    simp only [List.flatMap_cons, List.length_append, List.length_cons]
    omega
theorem ra_l1 (L : List Writer) (hl : L.length ≤ 5) (hf : ∀ w ∈ L, w.faults.length ≤ 6) : ∀ (n x N : Nat) (mp : List (TypeFault × Int)), x + n = L.length → n + 50 < N → Cnt mp (flt (L.take x)) → ∃ mp', Cnt mp' (flt L) ∧ ∀ kj, i_RareFaults_l1 kj L N mp (x : Int) = kj mp' := by
  intro n
  induction n with
  | zero =>
    intro x N mp h1 h2 h3
    obtain ⟨N, rfl⟩ := pos_fuel (by omega : 0 < N)
    have hi : ¬ ((x : Int) < (L.length : Int)) := by omega
    rw [List.take_of_length_le (by omega)] at h3
    exact ⟨mp, h3, fun kj => by simp only [i_RareFaults_l1, hi, decide_false, cond_false]⟩
  | succ n ih =>
    intro x N mp h1 h2 h3
    obtain ⟨N, rfl⟩ := pos_fuel (by omega : 0 < N)
    have hi : (x : Int) < (L.length : Int) := by omega
    have hx : x < L.length := by omega
    have hpl := flt_len (L := L.take x) (fun w hw => hf w (List.mem_of_mem_take hw))
    rw [List.length_take] at hpl
    obtain ⟨mp1, a1, a2⟩ := ra_l2 L[x] (hf _ (List.getElem_mem hx)) (flt (L.take x)) (by omega) (L[x]).faults.length 0 N mp (by omega) (by have := hf _ (List.getElem_mem hx); omega) (by simpa using h3)
    rw [show ((0 : Nat) : Int) = 0 from rfl] at a2
    have hft : flt (L.take x) ++ (L[x]).faults = flt (L.take (x + 1)) := by
      unfold flt
      rw [List.take_succ_eq_append_getElem hx, List.flatMap_append]
      simp
    rw [hft] at a1
    obtain ⟨mp', g1, g2⟩ := ih (x + 1) N mp1 (by omega) (by omega) a1
    refine ⟨mp', g1, fun kj => ?_⟩
    simp only [i_RareFaults_l1, hi, decide_true, cond_true, withK_eq, idx_lt _ x hx, Option.bind_some]
    rw [a2, w64_nat x (by omega)]
    exact g2 kj
def qf (mp : List (TypeFault × Int)) (f : TypeFault) : Bool := (mgetK TypeFault.beq mp f).getD 0 == 1
theorem rb_l4 (mp : List (TypeFault × Int)) (e : Writer) (hf : e.faults.length ≤ 6) (kj : List TypeFault → Option (List TypeFault × Int)) : ∀ (n x N : Nat) (o : List TypeFault), x + n = e.faults.length → n < N → o.length + n ≤ 1000 → i_RareFaults_l4 kj mp e N o (x : Int) = kj (o ++ (e.faults.drop x).filter (qf mp)) := by
  intro n
  induction n with
  | zero =>
    intro x N o h1 h2 h3
    obtain ⟨N, rfl⟩ := pos_fuel h2
    have hi : ¬ ((x : Int) < (e.faults.length : Int)) := by omega
    rw [List.drop_eq_nil_of_le (by omega)]
    simp [i_RareFaults_l4, hi]
  | succ n ih =>
    intro x N o h1 h2 h3
    obtain ⟨N, rfl⟩ := pos_fuel h2
    have hi : (x : Int) < (e.faults.length : Int) := by omega
    have hx : x < e.faults.length := by omega
    rw [drop_cons _ x hx, List.filter_cons]
    simp only [i_RareFaults_l4, hi, decide_true, cond_true, withK_eq, idx_lt _ x hx, Option.bind_some, w64_nat x (by omega)]
    have hq : ((mgetK TypeFault.beq mp (e.faults[x])).getD (0 : Int) == 1) = qf mp e.faults[x] := rfl
    rw [hq]
    cases qf mp e.faults[x]
    · simp only [cond_false]
      exact ih (x + 1) N o (by omega) (by omega) (by omega)
    · have ha : app o [e.faults[x]] = some (o ++ [e.faults[x]]) := app_some _ _ (by simp; unfold LIM; omega)
      simp only [cond_true, ha, Option.bind_some]
      rw [ih (x + 1) N _ (by omega) (by omega) (by simp; omega), List.append_assoc]
      rfl
theorem rb_l3 (mp : List (TypeFault × Int)) (L : List Writer) (hl : L.length ≤ 5) (hf : ∀ w ∈ L, w.faults.length ≤ 6) (kj : List TypeFault → Option (List TypeFault × Int)) : ∀ (n x N : Nat) (o : List TypeFault), x + n = L.length → n + 50 < N → o.length ≤ 6 * x → i_RareFaults_l3 kj L mp N o (x : Int) = kj (o ++ (flt (L.drop x)).filter (qf mp)) := by
  intro n
  induction n with
  | zero =>
    intro x N o h1 h2 h3
    obtain ⟨N, rfl⟩ := pos_fuel (by omega : 0 < N)
    have hi : ¬ ((x : Int) < (L.length : Int)) := by omega
    rw [List.drop_eq_nil_of_le (by omega)]
    simp [i_RareFaults_l3, hi, flt]
  | succ n ih =>
    intro x N o h1 h2 h3
    obtain ⟨N, rfl⟩ := pos_fuel (by omega : 0 < N)
    have hi : (x : Int) < (L.length : Int) := by omega
    have hx : x < L.length := by omega
    have hfx := hf _ (List.getElem_mem hx)
    have h4 := fun K => rb_l4 mp L[x] hfx K (L[x]).faults.length 0 N o (by omega) (by omega) (by omega)
    rw [show ((0 : Nat) : Int) = 0 from rfl] at h4
    simp only [List.drop_zero] at h4
    simp only [i_RareFaults_l3, hi, decide_true, cond_true, withK_eq, idx_lt _ x hx, Option.bind_some]
    have hfl := List.length_filter_le (qf mp) (L[x]).faults
    rw [h4, w64_nat x (by omega), ih (x + 1) N _ (by omega) (by omega) (by simp; omega), List.append_assoc, drop_cons L x hx]
    unfold flt
    rw [List.flatMap_cons, List.filter_append]
theorem chain_lt {l : List TypeFault} (h : ∀ (i : Nat) (h : i + 1 < l.length), ltL l[i].letter l[i + 1].letter = true) : ∀ (d i : Nat) (hj : i + d + 1 < l.length), ltL (l[i]'(by omega)).letter (l[i + d + 1]).letter = true := by
  intro d
  induction d with
  | zero => intro i hj; exact h i hj
  | succ d ih => intro i hj; exact ltL_trans _ _ _ (ih i (by omega)) (h (i + d + 1) hj)
theorem let_nd {l : List TypeFault} (hf : FOK l) : (l.map (·.letter)).Nodup := by
  unfold List.Nodup
  rw [List.pairwise_iff_getElem]
  intro i j hi hj hij
  simp only [List.length_map] at hi hj
  rw [List.getElem_map, List.getElem_map]
  intro e
  have := chain_lt hf.2.2.1 (j - i - 1) i (by omega)
  have hj2 : l[i + (j - i - 1) + 1]'(by omega) = l[j] := by congr 1; omega
  rw [hj2, e, ltL_irr] at this
  cases this
theorem FOK.nd {l : List TypeFault} (hf : FOK l) : l.Nodup := by
  have := let_nd hf
  unfold List.Nodup at this ⊢
  rw [List.pairwise_map] at this
  exact this.imp fun h e => h (by rw [e])
theorem kOf_iff (r : TypeFault) (hr : 1 ≤ r.kind) : ∀ l : List TypeFault, (l.map (·.letter)).Nodup → (kOf l r.letter = r.kind ↔ r ∈ l)
  | [], _ => by
    simp only [kOf, List.not_mem_nil, iff_false]
    omega
  | f :: l, h => by
    rw [List.map_cons, List.nodup_cons] at h
    have ih := kOf_iff r hr l h.2
    simp only [kOf, List.mem_cons]
    cases he : (f.letter == r.letter)
    · have hne : r ≠ f := fun e => by subst e; simp at he
      simp only [cond_false, ih, hne, false_or]
    · have he' : f.letter = r.letter := eq_of_beq he
      simp only [cond_true]
      constructor
      · intro hk
        left
        obtain ⟨a, b⟩ := r
        obtain ⟨c, d⟩ := f
        simp only at he' hk
        rw [he', hk]
      · rintro (e | e)
        · rw [e]
        · exact absurd (List.mem_map.2 ⟨r, e, he'.symm⟩) h.1
theorem rare_ok (L : List Writer) (hW : WOK L) (N : Nat) (hN : 10000 < N) : ∃ zs, i_RareFaults N L = some (zs, 0) ∧ zs.length ≤ 18 ∧ ∀ f ∈ zs, (flt L).count f = 1 ∧ 1 ≤ f.kind ∧ isL f.letter = true := by
  have hl := hW.1
  have hmem : ∀ w ∈ L, FOK w.faults := fun w hw => by
    obtain ⟨i, hi, rfl⟩ := List.getElem_of_mem hw
    exact (hW.2 i hi).2
  have hf : ∀ w ∈ L, w.faults.length ≤ 6 := fun w hw => (hmem w hw).1
  have hv := vws_ok L hW N (by omega)
  obtain ⟨mp, m1, m2⟩ := ra_l1 L hl hf L.length 0 N [] (by omega) (by omega) (fun s => by simp [mgetK, flt])
  have h3 := fun K => rb_l3 mp L hl hf K L.length 0 N [] (by omega) (by omega) (by simp)
  rw [show ((0 : Nat) : Int) = 0 from rfl] at m2 h3
  simp only [List.drop_zero, List.nil_append] at h3
  obtain ⟨out, ho⟩ : ∃ out, out = (flt L).filter (qf mp) := ⟨_, rfl⟩
  have hq : ∀ f ∈ out, (flt L).count f = 1 ∧ f ∈ flt L := fun f hfo => by
    rw [ho, List.mem_filter] at hfo
    have := hfo.2
    unfold qf at this
    rw [m1 f] at this
    have h1 : (((flt L).count f : Nat) : Int) = 1 := eq_of_beq this
    exact ⟨by omega, hfo.1⟩
  have hnd : out.Nodup := by
    rw [List.nodup_iff_count]
    intro f
    by_cases hfo : f ∈ out
    · have h1 := (hq f hfo).1
      have h2 : out.count f ≤ (flt L).count f := by rw [ho]; exact List.filter_sublist.count_le f
      omega
    · rw [List.count_eq_zero.2 hfo]; omega
  have hin : ∀ f ∈ flt L, f.letter ∈ lets ∧ 1 ≤ f.kind ∧ f.kind ≤ 3 ∧ isL f.letter = true := fun f hfm => by
    unfold flt at hfm
    obtain ⟨w, hw, hfw⟩ := List.mem_flatMap.1 hfm
    obtain ⟨i, hi, rfl⟩ := List.getElem_of_mem hfw
    obtain ⟨a, b, c⟩ := (hmem w hw).2.1 i hi
    exact ⟨(hmem w hw).2.2.2 _ (List.getElem_mem hi), b, c, a⟩
  have h18 : out.length ≤ 18 := by
    have := nodup_sub out (lets.flatMap fun t => [⟨t, 1⟩, ⟨t, 2⟩, ⟨t, 3⟩]) hnd (fun f hfo => by
      obtain ⟨a, b, c, _⟩ := hin f (hq f hfo).2
      refine List.mem_flatMap.2 ⟨f.letter, a, ?_⟩
      obtain ⟨t, k⟩ := f
      have : k = 1 ∨ k = 2 ∨ k = 3 := by simp only at b c; omega
      rcases this with rfl | rfl | rfl <;> simp)
    exact this
  obtain ⟨zs, z1, z2⟩ : ∃ zs, sortPO (sort_pdqsort_func N) (fun i j dk => i_RareFaults_c1 i j dk) out = some zs ∧ zs.Perm out := by
    unfold sortPO
    by_cases h1 : out.length ≤ 1
    · exact ⟨out, by rw [if_pos h1], .refl _⟩
    · have hb := bitL_le out.length
      obtain ⟨zs, g1, g2⟩ := pdq_ok (fun x y => (i_RareFaults_c1 0 1 [x, y]).getD false) N out (bitL out.length : Int) (by omega) (by omega) (by omega) (by omega)
      exact ⟨zs, by rw [if_neg h1, if_pos (by unfold LIM; omega)]; exact g1, g2⟩
  refine ⟨zs, ?_, by rw [z2.length_eq]; exact h18, fun f hf2 => ?_⟩
  · unfold i_RareFaults
    simp only [hv, Option.bind_some, Bool.not_true, cond_false, withK_eq]
    rw [m2, h3, ← ho, z1]
    rfl
  · have hfo := z2.mem_iff.1 hf2
    obtain ⟨a, b⟩ := hq f hfo
    obtain ⟨_, c, _, d⟩ := hin f b
    exact ⟨a, c, d⟩
end Go.Proofs.Ythifimjkndpmpaa
