/-
  Plain lemmas on these functions. No conditions but those that each states.
-/
import Derived.Test.YtdmnblhhmjbhnaaFnWritersP5
namespace Go.Proofs.Ytdmnblhhmjbhnaa
set_option linter.unusedVariables false
set_option linter.unusedSimpArgs false
def RisN (l : List Int) (z : Nat) : Prop := (∀ (i : Nat) (h : i < l.length), 0 ≤ l[i] ∧ l[i] < z) ∧ ∀ (i : Nat) (h : i + 1 < l.length), l[i] < l[i + 1]
theorem has_l1 (l : List Int) (v : Int) (hl : l.length ≤ 1000) : ∀ (q i N : Nat), i + q = l.length → q < N → w_a2Has_l1 (some false) l v N (i : Int) = some (decide (v ∈ l.drop i)) := by
  intro q
  induction q with
  | zero =>
    intro i N hi hN
    obtain ⟨N, rfl⟩ := pos_fuel hN
    have hz : ¬ (i : Int) < (l.length : Int) := by omega
    simp only [w_a2Has_l1, hz, decide_false, cond_false]
    rw [List.drop_eq_nil_of_le (by omega)]; simp
  | succ q ih =>
    intro i N hi hN
    obtain ⟨N, rfl⟩ := pos_fuel hN
    have hz : (i : Int) < (l.length : Int) := by omega
    have hlt : i < l.length := by omega
    simp only [w_a2Has_l1, hz, decide_true, cond_true]
    rw [idx_lt l i hlt, Option.bind_some, w64_nat i (by omega), List.drop_eq_getElem_cons hlt]
    by_cases e : l[i] = v
    · subst e
      rw [beq_self_eq_true, cond_true, decide_eq_true List.mem_cons_self]
    · have hne : (l[i] == v) = false := by rw [beq_eq_false_iff_ne]; exact e
      rw [hne, cond_false, ih (i + 1) N (by omega) (by omega)]
      have h : (v ∈ l[i] :: l.drop (i + 1)) ↔ v ∈ l.drop (i + 1) := by
        rw [List.mem_cons]; exact ⟨fun h => h.resolve_left (fun q => e q.symm), .inr⟩
      rw [decide_eq_decide.2 h]
theorem has_ok (l : List Int) (v : Int) (hl : l.length ≤ 1000) (N : Nat) (hN : l.length < N) : w_a2Has N l v = some (decide (v ∈ l)) := by
  unfold w_a2Has
  simp only [withK_eq]
  have := has_l1 l v hl l.length 0 N (by omega) hN
  rw [show ((0 : Nat) : Int) = 0 from rfl, List.drop_zero] at this
  exact this
theorem rises_ok (N : Nat) (l : List Int) (z : Nat) (h : RisN l z) (hl : l.length ≤ 100) (hN : 200 ≤ N) : w_a2Rises N l (z : Int) = some true := by
  have loop : ∀ (K : Option Bool) (n i N : Nat), i + n = l.length → n < N → w_a2Rises_l1 K l (z : Int) N (i : Int) = K := by
    intro K n
    induction n with
    | zero =>
      intro i N h1 h2
      obtain ⟨N, rfl⟩ := pos_fuel h2
      have hi : ¬ ((i : Int) < (l.length : Int)) := by omega
      simp only [w_a2Rises_l1, hi, decide_false, cond_false]
    | succ n ih =>
      intro i N h1 h2
      obtain ⟨N, rfl⟩ := pos_fuel h2
      have hi : (i : Int) < (l.length : Int) := by omega
      have hil : i < l.length := by omega
      obtain ⟨b1, b2⟩ := h.1 i hil
      have n1 : ¬ l[i] < 0 := by omega
      have n2 : ¬ l[i] ≥ (z : Int) := by omega
      have := ih (i + 1) N (by omega) (by omega)
      simp only [w_a2Rises_l1, hi, decide_true, cond_true, idx_lt l i hil, Option.bind_some, n1, n2, decide_false, orO_some, Bool.or_self, orO_false, w64_nat i (by omega), this]
      by_cases h0 : i = 0
      · subst h0; simp
      · obtain ⟨j, rfl⟩ : ∃ j, i = j + 1 := ⟨i - 1, by omega⟩
        have hp : ((j + 1 : Nat) : Int) > 0 := by omega
        have hx : idx l (w64 (((j + 1 : Nat) : Int) - 1)) = some l[j] := by
          rw [w64_id (by omega) (by omega), show ((j + 1 : Nat) : Int) - 1 = (j : Int) by omega, idx_lt l j (by omega)]
        have hlt : ¬ l[j] ≥ l[j + 1] := by have := h.2 j hil; omega
        simp only [hp, decide_true, andO_true, hx, Option.bind_some, hlt, decide_false, cond_false]
  have := fun K => loop K l.length 0 N (by omega) (by omega)
  rw [show ((0 : Nat) : Int) = 0 from rfl] at this
  unfold w_a2Rises
  simp only [withK_eq, this]

/-! A page that is typed. -/
def typ (w : Writer) : Str → List Seen
  | [] => []
  | c :: r => if c = 32 then typ w r else ⟨[c], kOf w.faults [c]⟩ :: typ w r
theorem typ_agn (w : Writer) : ∀ t, agn w (typ w t) = 0
  | [] => rfl
  | c :: r => by
    have := typ_agn w r
    simp only [typ]
    split
    · exact this
    · simp [agn, this]
theorem typ_mem (w : Writer) : ∀ t e, e ∈ typ w t → ∃ c ∈ t, c ≠ 32 ∧ e = ⟨[c], kOf w.faults [c]⟩
  | [], e, h => by simp [typ] at h
  | c :: r, e, h => by
    simp only [typ] at h
    split at h
    · obtain ⟨d, d1, d2⟩ := typ_mem w r e h
      exact ⟨d, by simp [d1], d2⟩
    · next hc =>
      rcases List.mem_cons.1 h with h | h
      · exact ⟨c, by simp, hc, h⟩
      · obtain ⟨d, d1, d2⟩ := typ_mem w r e h
        exact ⟨d, by simp [d1], d2⟩
theorem kOf_mem : ∀ (l : List TypeFault) (s : Str), kOf l s = 0 ∨ ∃ (i : Nat) (h : i < l.length), kOf l s = l[i].kind
  | [], s => Or.inl rfl
  | f :: r, s => by
    simp only [kOf]
    cases f.letter == s
    · rcases kOf_mem r s with h | ⟨i, h, e⟩
      · exact Or.inl h
      · exact Or.inr ⟨i + 1, by simp; omega, by simpa using e⟩
    · exact Or.inr ⟨0, by simp, rfl⟩
theorem kOf_in (w : Writer) (hf : FOK w.faults) (s : Str) : 0 ≤ kOf w.faults s ∧ kOf w.faults s ≤ 6 := by
  rcases kOf_mem w.faults s with h | ⟨i, h, e⟩
  · omega
  · have := hf.2.1 i h; omega
def TXT : Str := [116, 101, 97, 114, 32, 97, 110, 32, 101, 97, 114]
theorem typ_POK (w : Writer) (hf : FOK w.faults) : POK (typ w TXT) ∧ (typ w TXT).length = 9 := by
  have h9 : (typ w TXT).length = 9 := rfl
  refine ⟨⟨by omega, fun e he => ?_⟩, h9⟩
  obtain ⟨c, c1, c2, rfl⟩ := typ_mem w TXT e he
  have h : ∀ c ∈ TXT, c ≠ 32 → isL [c] = true := by decide
  exact ⟨h c c1 c2, kOf_in w hf _⟩
theorem typ_l1 (w : Writer) (hf : FOK w.faults) (t : Str) (ht : t.length ≤ 100) (kj : List Seen → Option (List Seen × Int)) : ∀ (n i N : Nat) (l : List Seen), i + n = t.length → n + 200 < N → l.length ≤ i → i_TypePage_l1 kj w t N l (i : Int) = kj (l ++ typ w (t.drop i)) := by
  have hl := hf.1
  intro n
  induction n with
  | zero =>
    intro i N l h1 h2 h3
    obtain ⟨N, rfl⟩ := pos_fuel h2
    have hi : ¬ ((i : Int) < (t.length : Int)) := by omega
    rw [List.drop_eq_nil_of_le (by omega)]
    simp only [i_TypePage_l1, hi, decide_false, cond_false, typ, List.append_nil]
  | succ n ih =>
    intro i N l h1 h2 h3
    obtain ⟨N, rfl⟩ := pos_fuel h2
    have hil : i < t.length := by omega
    have hi : (i : Int) < (t.length : Int) := by omega
    have es : sub t (i : Int) ((i + 1 : Nat) : Int) = some [t[i]] := by
      rw [sub_some t _ _ (by omega) (by omega) (by omega), Int.toNat_natCast, Int.toNat_natCast, show i + 1 - i = 1 from by omega, drop_cons _ i hil]; rfl
    rw [drop_cons _ i hil]
    simp only [i_TypePage_l1, hi, decide_true, cond_true, withK_eq, w64_nat i (by omega), es, Option.bind_some, typ]
    by_cases hc : t[i] = 32
    · have hb : (([t[i]] : Str) != [32]) = false := by simp [hc]
      rw [hb, cond_false, if_pos hc, ih (i + 1) N l (by omega) (by omega) (by omega)]
    · have hb : (([t[i]] : Str) != [32]) = true := by simp [hc]
      rw [hb, cond_true, if_neg hc, kind_ok w _ (by omega) N (by omega), Option.bind_some, app_some _ _ (by simp; unfold LIM; omega), Option.bind_some, ih (i + 1) N _ (by omega) (by omega) (by simp; omega)]
      simp
theorem typ_ok (w : Writer) (hf : FOK w.faults) (i : Nat) (hn : nms[i]? = some w.name) (N : Nat) (hN : 1300 < N) : i_TypePage N w [116, 101, 97, 114, 32, 97, 110, 32, 101, 97, 114] = some (typ w TXT, 0) := by
  have := typ_l1 w hf TXT (by decide) (fun l13 => some (l13, 0)) 11 0 N [] (by rfl) (by omega) (by simp)
  have e1 : i_isText N TXT 32 60 = some true := by
    rw [i_text TXT 32 60 (by decide) N (by omega)]; rfl
  unfold i_TypePage
  rw [show ([116, 101, 97, 114, 32, 97, 110, 32, 101, 97, 114] : Str) = TXT from rfl]
  simp only [valid_ok w hf i hn N (by omega), Option.bind_some, Bool.not_true, cond_false, withK_eq, e1]
  simpa using this
theorem cof_ok (w : Writer) (hf : FOK w.faults) (i : Nat) (hn : nms[i]? = some w.name) (p : List Seen) (hp : POK p) (N : Nat) (hN : 1300 < N) : i_ContradictionsOf N w p = some ((agn w p : Int), 0) := by
  have hl := hf.1
  have hl2 := hp.1
  unfold i_ContradictionsOf
  simp only [valid_ok w hf i hn N (by omega), Option.bind_some, Bool.not_true, orO_false, seen_ok p hp N (by omega), cond_false, agn_ok w (by omega) p (by omega) N (by omega)]
/-! The best writers. -/
def BI (l : List Writer) (p : List Seen) (i : Nat) (out : List Int) (least : Int) : Prop :=
  out.length ≤ i ∧ RisN out i ∧ (i = 0 → least = -1 ∧ out = []) ∧ (0 < i → 0 ≤ least ∧ out ≠ [] ∧ (∀ (j : Nat) (h : j < l.length), j < i → least ≤ agn l[j] p) ∧ ∀ (j : Nat) (h : j < l.length), j < i → ((j : Int) ∈ out ↔ (agn l[j] p : Int) = least))
theorem ris_snoc (out : List Int) (i : Nat) (h : RisN out i) : RisN (out ++ [(i : Int)]) (i + 1) := by
  refine ⟨fun j hj => ?_, fun j hj => ?_⟩
  · simp at hj
    by_cases hc : j < out.length
    · rw [List.getElem_append_left hc]; have := h.1 j hc; omega
    · obtain rfl : j = out.length := by omega
      simp; omega
  · simp at hj
    by_cases hc : j + 1 < out.length
    · rw [List.getElem_append_left hc, List.getElem_append_left (by omega)]; exact h.2 j hc
    · have hq : j + 1 = out.length := by omega
      rw [List.getElem_append_left (by omega : j < out.length), List.getElem_append_right (by omega)]
      have := (h.1 j (by omega)).2
      simpa [hq] using this
theorem ris_mem {out : List Int} {i : Nat} (h : RisN out i) {v : Int} (hv : v ∈ out) : 0 ≤ v ∧ v < i := by
  obtain ⟨j, hj, e⟩ := List.mem_iff_getElem.1 hv
  rw [← e]; exact h.1 j hj
theorem ris_mono {out : List Int} {i : Nat} (h : RisN out i) : RisN out (i + 1) := ⟨fun j hj => by have := h.1 j hj; omega, h.2⟩
theorem best_l1 (l : List Writer) (hw : WOK l) (p : List Seen) (hp : POK p) (kj : List Int → Int → Option (List Int × Int × Int)) (Q : List Int × Int × Int → Prop) (hk : ∀ out least, BI l p l.length out least → ∃ r, kj out least = some r ∧ Q r) :
    ∀ (n i N : Nat) (out : List Int) (least : Int), i + n = l.length → n + 1400 < N → BI l p i out least → ∃ r, i_BestWriters_l1 kj l p N out least (i : Int) = some r ∧ Q r := by
  have hl := hw.1
  have hpl := hp.1
  intro n
  induction n with
  | zero =>
    intro i N out least h1 h2 h3
    obtain ⟨N, rfl⟩ := pos_fuel h2
    have hi : ¬ ((i : Int) < (l.length : Int)) := by omega
    simp only [i_BestWriters_l1, hi, decide_false, cond_false]
    obtain rfl : i = l.length := by omega
    exact hk out least h3
  | succ n ih =>
    intro i N out least h1 h2 h3
    obtain ⟨N, rfl⟩ := pos_fuel h2
    have hil : i < l.length := by omega
    have hi : (i : Int) < (l.length : Int) := by omega
    obtain ⟨f1, f2⟩ := hw.2 i hil
    have hfl := f2.1
    obtain ⟨b1, b2, b3, b4⟩ := h3
    have ih' := fun out least => ih (i + 1) N out least (by omega) (by omega)
    simp only [i_BestWriters_l1, hi, decide_true, cond_true, withK_eq, idx_lt _ i hil, Option.bind_some, w64_nat i (by omega), orO_some, agn_ok l[i] (by omega) p (by omega) N (by omega)]
    by_cases hc : least < 0 ∨ (agn l[i] p : Int) < least
    · have hb : (decide (least < 0) || decide ((agn l[i] p : Int) < least)) = true := by
        rcases hc with h | h <;> simp [h]
      rw [hb, cond_true, beq_self_eq_true, cond_true, app_some _ _ (by simp; unfold LIM; omega), Option.bind_some]
      refine ih' _ _ ⟨by simp, ris_snoc [] i ⟨by simp, by simp⟩, by omega, fun _ => ⟨by omega, by simp, fun j hj hji => ?_, fun j hj hji => ?_⟩⟩
      · by_cases hj2 : j = i
        · subst hj2; exact Int.le_refl _
        · have := (b4 (by omega)).2.2.1 j hj (by omega)
          have := (b4 (by omega)).1
          omega
      · simp only [List.nil_append, List.mem_singleton]
        by_cases hj2 : j = i
        · subst hj2; simp
        · have := (b4 (by omega)).2.2.1 j hj (by omega)
          have := (b4 (by omega)).1
          constructor
          · intro h; omega
          · intro h; omega
    · have hb : (decide (least < 0) || decide ((agn l[i] p : Int) < least)) = false := by
        simp only [not_or] at hc; simp only [Bool.or_eq_false_iff, decide_eq_false_iff_not]; exact hc
      have h0 : 0 < i := by
        by_cases h : i = 0
        · exact absurd (Or.inl (by have := (b3 h).1; omega)) hc
        · omega
      obtain ⟨c1, c2, c3, c4⟩ := b4 h0
      rw [hb, cond_false]
      by_cases he : (agn l[i] p : Int) = least
      · rw [show ((agn l[i] p : Int) == least) = true from by simp [he], cond_true, app_some _ _ (by simp; unfold LIM; omega), Option.bind_some]
        refine ih' _ _ ⟨by simp; omega, ris_snoc out i b2, by omega, fun _ => ⟨c1, by simp, fun j hj hji => ?_, fun j hj hji => ?_⟩⟩
        · by_cases hj2 : j = i
          · subst hj2; omega
          · exact c3 j hj (by omega)
        · by_cases hj2 : j = i
          · subst hj2; simp [he]
          · rw [← c4 j hj (by omega)]
            simp only [List.mem_append, List.mem_singleton]
            exact ⟨fun h => h.resolve_right (by omega), Or.inl⟩
      · rw [show ((agn l[i] p : Int) == least) = false from by simp [he], cond_false]
        refine ih' _ _ ⟨by omega, ris_mono b2, by omega, fun _ => ⟨c1, c2, fun j hj hji => ?_, fun j hj hji => ?_⟩⟩
        · by_cases hj2 : j = i
          · subst hj2
            simp only [not_or] at hc
            omega
          · exact c3 j hj (by omega)
        · by_cases hj2 : j = i
          · subst hj2
            exact ⟨fun h => by have := (ris_mem b2 h).2; omega, fun h => absurd h he⟩
          · exact c4 j hj (by omega)
theorem best_ok (l : List Writer) (hw : WOK l) (p : List Seen) (hp : POK p) (N : Nat) (hN : 1500 < N) (h0 : l ≠ []) : ∃ out least, i_BestWriters N l p = some (out, least, 0) ∧ BI l p l.length out least := by
  have hl := hw.1
  have hlen : 0 < l.length := List.length_pos_iff.2 h0
  have hz : ((l.length : Int) == 0) = false := by simp; omega
  obtain ⟨r, e, out, least, rfl, h⟩ := best_l1 l hw p hp (fun l17 least19 => some (l17, least19, 0)) (fun r => ∃ out least, r = (out, least, 0) ∧ BI l p l.length out least) (fun out least h => ⟨_, rfl, out, least, rfl, h⟩) l.length 0 N [] (-1) (by omega) (by omega) ⟨by simp, ⟨by simp, by simp⟩, fun _ => ⟨rfl, rfl⟩, by omega⟩
  refine ⟨out, least, ?_, h⟩
  unfold i_BestWriters
  simp only [vws_ok l hw N (by omega), seen_ok p hp N (by omega), Option.bind_some, Bool.not_true, orO_false, cond_false, hz, withK_eq]
  exact e
theorem best_none (p : List Seen) (hp : POK p) (N : Nat) (hN : 1500 < N) : i_BestWriters N [] p = some ([], 0, 3) := by
  unfold i_BestWriters
  simp only [vws_ok [] ⟨by simp, by simp⟩ N (by omega), seen_ok p hp N (by omega), Option.bind_some, Bool.not_true, orO_false, cond_false]
  rfl
theorem fn_l1 (l : List Writer) (hw : WOK l) (p : List Seen) (hp : POK p) (best : List Int) (few : Int) (hb : BI l p l.length best few) (kj : Option Bool) : ∀ (n i N : Nat), i + n = l.length → n + 1500 < N → w_FnWriters_l1 kj l p (best, few, 0) N (i : Int) = kj := by
  have hl := hw.1
  intro n
  induction n with
  | zero =>
    intro i N h1 h2
    obtain ⟨N, rfl⟩ := pos_fuel h2
    have hi : ¬ ((i : Int) < (l.length : Int)) := by omega
    simp only [w_FnWriters_l1, hi, decide_false, cond_false]
  | succ n ih =>
    intro i N h1 h2
    obtain ⟨N, rfl⟩ := pos_fuel h2
    have hil : i < l.length := by omega
    have hi : (i : Int) < (l.length : Int) := by omega
    obtain ⟨f1, f2⟩ := hw.2 i hil
    obtain ⟨b1, b2, b3, b4⟩ := hb
    obtain ⟨c1, c2, c3, c4⟩ := b4 (by omega)
    have d1 := c3 i hil hil
    have d2 := c4 i hil hil
    have hlt : decide ((agn l[i] p : Int) < few) = false := by simp; omega
    have hd : ((agn l[i] p : Int) == few) = decide ((i : Int) ∈ best) := by
      by_cases h : (agn l[i] p : Int) = few
      · rw [decide_eq_true (d2.2 h)]; simp [h]
      · rw [decide_eq_false (fun q => h (d2.1 q))]; simp [h]
    obtain ⟨t1, t2⟩ := typ_POK l[i] f2
    obtain ⟨r, e, r2, r3⟩ := con_ok _ t1 N (by omega)
    have r4 := r3 l[i]
    rw [typ_agn] at r4
    have r5 : (r.1.length : Int) = 0 := by omega
    have ih' := ih (i + 1) N (by omega) (by omega)
    simp only [w_FnWriters_l1, hi, decide_true, cond_true, idx_lt _ i hil, Option.bind_some, w64_nat i (by omega), ih', cof_ok l[i] f2 i f1 p hp N (by omega), bne_self_eq_false, hlt, orO_some, orO_false, has_ok best (i : Int) (by omega) N (by omega), hd, Bool.or_self, cond_false, typ_ok l[i] f2 i f1 N (by omega), cof_ok l[i] f2 i f1 _ t1 N (by omega), e, typ_agn, t2, r2, r5]
    rfl
theorem law_FnWriters (code more : List UInt8) (_ : wfL wfByte code) (_ : wfL wfByte more) : ∃ N, w_FnWriters N code more = some true := by
  refine ⟨4000, ?_⟩
  unfold w_FnWriters
  simp only [w_a2Long, orO_some, Option.bind_some]
  cases hlong : (decide ((code.length : Int) > 3000) || decide ((more.length : Int) > 3000))
  · simp only [cond_false]
    obtain ⟨l, e1, hw⟩ := drawA code 4000 (by omega)
    obtain ⟨p, e2, hp⟩ := pageA more 4000 (by omega)
    rw [e1, Option.bind_some, e2, Option.bind_some]
    by_cases h0 : l = []
    · subst h0
      rw [best_none p hp 4000 (by omega)]
      rfl
    · have hl := hw.1
      have hlen : 0 < l.length := List.length_pos_iff.2 h0
      have hz : ((l.length : Int) == 0) = false := by simp; omega
      obtain ⟨best, few, e, hb⟩ := best_ok l hw p hp 4000 (by omega) h0
      obtain ⟨b1, b2, b3, b4⟩ := hb
      obtain ⟨c1, c2, c3, c4⟩ := b4 hlen
      have hbz : ((best.length : Int) == 0) = false := by
        have := List.length_pos_iff.2 c2
        simp; omega
      have hris := rises_ok 4000 best l.length b2 (by omega) (by omega)
      have hf := fun kj => fn_l1 l hw p hp best few ⟨b1, b2, b3, b4⟩ kj l.length 0 4000 (by omega) (by omega)
      rw [show ((0 : Nat) : Int) = 0 from rfl] at hf
      obtain ⟨r, er, r2, r3⟩ := con_ok p hp 4000 (by omega)
      have : (r.1.length : Int) ≤ few := by
        obtain ⟨v, hv⟩ := List.exists_mem_of_ne_nil best c2
        obtain ⟨v1, v2⟩ := ris_mem b2 hv
        obtain ⟨j, rfl⟩ : ∃ j : Nat, v = j := ⟨v.toNat, by omega⟩
        have hj : j < l.length := by omega
        have := (c4 j hj hj).1 hv
        have := r3 l[j]
        omega
      simp only [e, Option.bind_some, hz, cond_false, bne_self_eq_false, orO_some, hbz, Bool.or_self, orO_false, hris, Bool.not_true, withK_eq, hf, er, r2, beq_self_eq_true, andO_true, this, decide_true, orO_true]
  · rfl
end Go.Proofs.Ytdmnblhhmjbhnaa
