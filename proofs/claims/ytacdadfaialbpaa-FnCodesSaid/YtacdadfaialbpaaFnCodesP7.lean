/-
  Plain lemmas on these functions. No conditions but those that each states.
-/
import Derived.Test.YtacdadfaialbpaaFnCodesP6
namespace Go.Proofs.Ytacdadfaialbpaa
set_option linter.unusedVariables false
set_option linter.unusedSimpArgs false
theorem rt_eq (N : Nat) (W : List Str) (hW : Cw W) (hN : 1000 < N) : ∃ D, InvC W D [] ∧ i_restTexts N W = some D ∧ (fR W = [] → D = []) := by
  have hwl := hW.len
  have hl := frO_len W W 0
  have hl2 : W.length * W.length ≤ 5 * 5 := Nat.mul_le_mul hwl hwl
  have e1 := fr_eq N W hW (by omega)
  by_cases h : fR W = []
  · refine ⟨[], ?_, ?_, fun _ => rfl⟩
    · have := InvC.start hW; rw [h] at this; exact this
    · obtain ⟨N, rfl⟩ := pos_fuel (by omega : 0 < N)
      unfold i_restTexts
      simp [e1, h, i_restTexts_l1]
  · obtain ⟨D, h1, h2⟩ := rt_l1 W hW 150 N [] (fR W) (by unfold fR; simp; omega) (by omega) (by omega) (InvC.start hW)
    refine ⟨D, h1, ?_, fun e => absurd e h⟩
    unfold i_restTexts
    simp only [e1, Option.bind_some, withK_eq, h2]
theorem HasC.done {D : List (Str × Str)} {n : Nat} {r : Str} (h : HasC D [] n r) : ∃ t, (r, t) ∈ D ∧ t.length ≤ n := by
  rcases h with ⟨a, ha, _⟩ | ⟨p, hp, h1, h2⟩
  · cases ha
  · subst h1; exact ⟨p.2, hp, h2⟩
theorem enc_cons {W : List Str} {k : Nat} (h : k < W.length) (L : List Nat) : enc W (k :: L) = W[k] ++ enc W L := by simp [enc, List.getElem?_eq_getElem h]
theorem Vl.head {W : List Str} {k : Nat} {L : List Nat} (h : Vl W (k :: L)) : k < W.length := h k (by simp)
theorem Vl.tail {W : List Str} {k : Nat} {L : List Nat} (h : Vl W (k :: L)) : Vl W L := fun x hx => h x (by simp [hx])
theorem walkA {W : List Str} (hW : Cw W) {D : List (Str × Str)} (hI : InvC W D []) : ∀ (n : Nat) (U V : List Nat) (r t : Str), U.length + V.length ≤ n → Vl W U → Vl W V → (r, t) ∈ D → enc W V = r ++ enc W U → ∃ t', (([] : Str), t') ∈ D ∧ t'.length ≤ t.length + (enc W U).length := by
  intro n
  induction n with
  | zero =>
    intro U V r t h1 _ _ hm he
    have hV : V = [] := List.eq_nil_of_length_eq_zero (by omega)
    subst hV
    have hr : r = [] := by
      have := congrArg List.length he
      simp only [enc, List.length_nil, List.length_append] at this
      exact List.eq_nil_of_length_eq_zero (by omega)
    subst hr
    exact ⟨t, hm, by omega⟩
  | succ n ih =>
    intro U V r t h1 hU hV hm he
    by_cases hr : r = []
    · subst hr; exact ⟨t, hm, by omega⟩
    cases V with
    | nil =>
      have := congrArg List.length he
      simp only [enc, List.length_nil, List.length_append] at this
      exact absurd (List.eq_nil_of_length_eq_zero (by omega)) hr
    | cons q V' =>
      have hq := hV.head
      rw [enc_cons hq] at he
      simp only [List.length_cons] at h1
      have hcls := hI.cls _ hm hr W[q] (List.getElem_mem hq)
      have key : ∀ a', r = W[q] ++ a' → enc W V' = a' ++ enc W U → ∃ t', (([] : Str), t') ∈ D ∧ t'.length ≤ t.length + (enc W U).length := fun a' e1 e2 => by
        have hp : pre W[q] r = true := by rw [e1]; exact pre_app _ _
        have ha : aft ⟨t, r⟩ W[q] = some ⟨t, a'⟩ := by
          unfold aft
          rw [if_pos hp]
          simp [e1]
        obtain ⟨t1, g1, g2⟩ := (hcls _ ha).done
        obtain ⟨t', f1, f2⟩ := ih U V' a' t1 (by omega) hU hV.tail g1 e2
        simp only at g2
        exact ⟨t', f1, by omega⟩
      rcases List.append_eq_append_iff.1 he with ⟨a', e1, e2⟩ | ⟨c', e1, e2⟩
      · exact key a' e1 e2
      · by_cases hc : c' = []
        · subst hc
          rw [List.append_nil] at e1
          exact key [] (by rw [List.append_nil]; exact e1.symm) (by simpa using e2.symm)
        · have hcl : 0 < c'.length := List.length_pos_iff.2 hc
          have hp1 : ¬ pre W[q] r = true := fun h => by
            have := pre_le h
            rw [e1] at this; simp at this; omega
          have hp2 : pre r W[q] = true := by rw [e1]; exact pre_app _ _
          have ha : aft ⟨t, r⟩ W[q] = some ⟨t ++ c', c'⟩ := by
            unfold aft
            rw [if_neg hp1, if_pos hp2]
            simp [e1]
          obtain ⟨t1, g1, g2⟩ := (hcls _ ha).done
          obtain ⟨t', f1, f2⟩ := ih V' U c' t1 (by omega) hV.tail hU g1 e2
          have hl := congrArg List.length e2
          simp only [List.length_append] at hl g2
          exact ⟨t', f1, by omega⟩
theorem two_enc {W : List Str} (hW : Cw W) {D : List (Str × Str)} (hI : InvC W D []) : ∀ (A B : List Nat), Vl W A → Vl W B → enc W A = enc W B → A ≠ B → ∃ t, (([] : Str), t) ∈ D ∧ t.length ≤ (enc W A).length
  | [], [], _, _, _, h => absurd rfl h
  | [], b :: B, _, hB, he, _ => by
    have hb := hB.head
    rw [enc_cons hb] at he
    have h1 := congrArg List.length he
    have h2 := (hW.word _ (List.getElem_mem hb)).1
    simp only [enc, List.length_append, List.length_nil] at h1; omega
  | a :: A, [], hA, _, he, _ => by
    have ha := hA.head
    rw [enc_cons ha] at he
    have h1 := congrArg List.length he
    have h2 := (hW.word _ (List.getElem_mem ha)).1
    simp only [enc, List.length_append, List.length_nil] at h1; omega
  | a :: A, b :: B, hA, hB, he, hne => by
    have ha := hA.head
    have hb := hB.head
    by_cases e : a = b
    · subst e
      rw [enc_cons ha, enc_cons ha] at he
      have he := List.append_cancel_left he
      obtain ⟨t, h1, h2⟩ := two_enc hW hI A B hA.tail hB.tail he (fun e => hne (by rw [e]))
      exact ⟨t, h1, by rw [enc_cons ha]; simp; omega⟩
    · have hl := congrArg List.length he
      rw [enc_cons ha, enc_cons hb] at he hl
      rw [enc_cons ha]
      simp only [List.length_append] at hl ⊢
      rcases List.append_eq_append_iff.1 he with ⟨r, e1, e2⟩ | ⟨r, e1, e2⟩
      · have hp : pre W[a] W[b] = true := by rw [e1]; exact pre_app _ _
        obtain ⟨t, g1, g2⟩ := (hI.fst a b ha hb e hp).done
        have hd : W[b].drop W[a].length = r := by rw [e1]; simp
        rw [hd] at g1
        obtain ⟨t', f1, f2⟩ := walkA hW hI _ B A r t (Nat.le_refl _) hB.tail hA.tail g1 e2
        exact ⟨t', f1, by omega⟩
      · have hp : pre W[b] W[a] = true := by rw [e1]; exact pre_app _ _
        obtain ⟨t, g1, g2⟩ := (hI.fst b a hb ha (fun h => e h.symm) hp).done
        have hd : W[a].drop W[b].length = r := by rw [e1]; simp
        rw [hd] at g1
        obtain ⟨t', f1, f2⟩ := walkA hW hI _ A B r t (Nat.le_refl _) hA.tail hB.tail g1 e2
        exact ⟨t', f1, by omega⟩
theorem two_read {W : List Str} (hW : Cw W) {D : List (Str × Str)} (hI : InvC W D []) {A B : List Nat} {s : Str} (h1 : Rd W A s) (h2 : Rd W B s) (hne : A ≠ B) : ∃ t, (([] : Str), t) ∈ D ∧ t.length ≤ s.length := by
  obtain ⟨a1, a2⟩ := enc_Rd W A s h1
  obtain ⟨b1, b2⟩ := enc_Rd W B s h2
  obtain ⟨t, g1, g2⟩ := two_enc hW hI A B a2 b2 (by rw [a1, b1]) hne
  rw [a1] at g2
  exact ⟨t, g1, g2⟩
theorem twice {W : List Str} {D : List (Str × Str)} (hI : InvC W D []) {t : Str} (h : (([] : Str), t) ∈ D) : ∃ A B, A ≠ B ∧ Rd W A t ∧ Rd W B t ∧ Vl W A ∧ t = enc W A := by
  obtain ⟨⟨i, k, U, V, h1, h2, h3, h4, h5⟩, _⟩ := hI.sd _ h
  simp only [List.append_nil] at h4 h5
  exact ⟨i :: U, k :: V, fun e => h1 (by injection e), by rw [h4]; exact Rd_enc W _ h2, by rw [h5]; exact Rd_enc W _ h3, h2, h4⟩
theorem nd_fun {D : List (Str × Str)} (h : (D.map (·.1)).Nodup) {r s t : Str} (h1 : (r, s) ∈ D) (h2 : (r, t) ∈ D) : s = t := by
  induction D with
  | nil => cases h1
  | cons p D ih =>
    simp only [List.map_cons, List.nodup_cons] at h
    rcases List.mem_cons.1 h1 with e1 | h1'
    · rcases List.mem_cons.1 h2 with e2 | h2'
      · rw [← e1] at e2; injection e2 with _ e; exact e.symm
      · subst e1; exact absurd (List.mem_map.2 ⟨_, h2', rfl⟩) h.1
    · rcases List.mem_cons.1 h2 with e2 | h2'
      · subst e2; exact absurd (List.mem_map.2 ⟨_, h1', rfl⟩) h.1
      · exact ih h.2 h1' h2'
/-! Counting readings. -/
def Cn (W : List Str) (s : Str) (v : Int) : Prop := ∃ R : List (List Nat), R.Nodup ∧ (∀ L, L ∈ R ↔ Rd W L s) ∧ (R.length : Int) = v ∧ R.length ≤ 2 ^ s.length
def CnK (W : List Str) (k : Nat) (s : Str) (v : Int) : Prop := ∃ (R : List (List Nat)) (A : List Nat), R.Nodup ∧ (∀ L, L ∈ R ↔ ∃ j L', L = j :: L' ∧ j < k ∧ Rd W L s) ∧ (R.length : Int) = v ∧ A.Nodup ∧
  (∀ l ∈ A, 1 ≤ l ∧ l ≤ s.length ∧ ∃ (j : Nat) (h : j < W.length), j < k ∧ W[j].length = l ∧ pre W[j] s = true) ∧ R.length ≤ (A.map fun l => 2 ^ (s.length - l)).sum
theorem sum_erase (f : Nat → Nat) : ∀ (A : List Nat) (x : Nat), x ∈ A → (A.map f).sum = f x + ((A.erase x).map f).sum
  | [], x, h => by cases h
  | a :: A, x, h => by
    by_cases e : a = x
    · subst e; simp
    · have hx : x ∈ A := by
        rcases List.mem_cons.1 h with h | h
        · exact absurd h.symm e
        · exact h
      rw [List.erase_cons_tail (by simpa using e)]
      simp only [List.map_cons, List.sum_cons, sum_erase f A x hx]
      omega
theorem sum_dbl (n : Nat) : ∀ A : List Nat, (∀ l ∈ A, l ≤ n) → (A.map fun l => 2 ^ (n + 1 - l)).sum = 2 * (A.map fun l => 2 ^ (n - l)).sum
  | [], _ => rfl
  | a :: A, h => by
    have h1 := sum_dbl n A (fun l hl => h l (by simp [hl]))
    have h2 := h a (by simp)
    have h3 : n + 1 - a = (n - a) + 1 := by omega
    simp only [List.map_cons, List.sum_cons, h1, h3, Nat.pow_succ]
    omega
theorem sum_pow : ∀ (n : Nat) (A : List Nat), A.Nodup → (∀ l ∈ A, 1 ≤ l ∧ l ≤ n) → (A.map fun l => 2 ^ (n - l)).sum + 1 ≤ 2 ^ n
  | 0, A, _, h => by
    cases A with
    | nil => simp
    | cons a A => have := h a (by simp); omega
  | n + 1, A, hd, h => by
    by_cases hm : n + 1 ∈ A
    · rw [sum_erase _ A (n + 1) hm]
      have h2 : ∀ l ∈ A.erase (n + 1), 1 ≤ l ∧ l ≤ n := fun l hl => by
        have h3 := (List.Nodup.mem_erase_iff hd).1 hl
        have := h l h3.2
        have := h3.1
        omega
      have h4 := sum_pow n (A.erase (n + 1)) (hd.erase _) h2
      rw [sum_dbl n _ (fun l hl => (h2 l hl).2), Nat.sub_self, Nat.pow_succ]
      omega
    · have h2 : ∀ l ∈ A, 1 ≤ l ∧ l ≤ n := fun l hl => by
        have := h l hl
        have : l ≠ n + 1 := fun e => hm (e ▸ hl)
        omega
      have h4 := sum_pow n A hd h2
      rw [sum_dbl n _ (fun l hl => (h2 l hl).2), Nat.pow_succ]
      omega
theorem CnK_zero (W : List Str) (s : Str) : CnK W 0 s 0 := ⟨[], [], by simp, fun L => by simp, rfl, by simp, by simp, by simp⟩
theorem CnK.lt {W : List Str} {k : Nat} {s : Str} {v : Int} (h : CnK W k s v) : 0 ≤ v ∧ v < ((2 ^ s.length : Nat) : Int) := by
  obtain ⟨R, A, h1, h2, h3, h4, h5, h6⟩ := h
  have := sum_pow s.length A h4 (fun l hl => ⟨(h5 l hl).1, (h5 l hl).2.1⟩)
  omega
theorem CnK_skip {W : List Str} {k : Nat} {s : Str} {v : Int} (h : CnK W k s v) (hk : ∀ L, ¬ Rd W (k :: L) s) : CnK W (k + 1) s v := by
  obtain ⟨R, A, h1, h2, h3, h4, h5, h6⟩ := h
  refine ⟨R, A, h1, fun L => ?_, h3, h4, fun l hl => ?_, h6⟩
  · rw [h2]
    constructor
    · rintro ⟨j, L', e, g1, g2⟩; exact ⟨j, L', e, by omega, g2⟩
    · rintro ⟨j, L', e, g1, g2⟩
      subst e
      have : j ≠ k := fun e => by subst e; exact hk _ g2
      exact ⟨j, L', rfl, by omega, g2⟩
  · obtain ⟨g1, g2, j, hj, g3, g4⟩ := h5 l hl
    exact ⟨g1, g2, j, hj, by omega, g4⟩
theorem pre_same {u v s : Str} (h1 : pre u s = true) (h2 : pre v s = true) (h : u.length = v.length) : u = v := by
  unfold pre at h1 h2
  rw [Bool.and_eq_true, beq_iff_eq] at h1 h2
  rw [← h1.2, ← h2.2, h]
theorem CnK_take {W : List Str} (hW : Cw W) {k : Nat} {s : Str} {v f : Int} (h : CnK W k s v) (hk : k < W.length) (hp : pre W[k] s = true) (hf : Cn W (s.drop W[k].length) f) : CnK W (k + 1) s (v + f) := by
  obtain ⟨R, A, h1, h2, h3, h4, h5, h6⟩ := h
  obtain ⟨Q, q1, q2, q3, q4⟩ := hf
  refine ⟨R ++ Q.map (k :: ·), W[k].length :: A, ?_, fun L => ?_, by simp; omega, ?_, fun l hl => ?_, ?_⟩
  · rw [List.nodup_append]
    refine ⟨h1, List.Pairwise.map _ (fun a b hab e => hab (by injection e)) q1, fun a ha b hb e => ?_⟩
    subst e
    obtain ⟨j, L', e, g1, _⟩ := (h2 a).1 ha
    obtain ⟨L2, _, e2⟩ := List.mem_map.1 hb
    rw [e] at e2
    injection e2 with e2
    omega
  · rw [List.mem_append, h2]
    constructor
    · rintro (⟨j, L', e, g1, g2⟩ | hm)
      · exact ⟨j, L', e, by omega, g2⟩
      · obtain ⟨L', g1, rfl⟩ := List.mem_map.1 hm
        exact ⟨k, L', rfl, by omega, hk, hp, (q2 L').1 g1⟩
    · rintro ⟨j, L', rfl, g1, g2⟩
      by_cases e : j = k
      · subst e
        obtain ⟨_, _, g3⟩ := g2
        exact .inr (List.mem_map.2 ⟨L', (q2 L').2 g3, rfl⟩)
      · exact .inl ⟨j, L', rfl, by omega, g2⟩
  · rw [List.nodup_cons]
    refine ⟨fun hm => ?_, h4⟩
    obtain ⟨_, _, j, hj, g1, g2, g3⟩ := h5 _ hm
    have := hW.dst j k hj hk (pre_same g3 hp g2)
    omega
  · rcases List.mem_cons.1 hl with rfl | hl
    · exact ⟨(hW.word _ (List.getElem_mem hk)).1, pre_le hp, k, hk, by omega, rfl, hp⟩
    · obtain ⟨g1, g2, j, hj, g3, g4⟩ := h5 l hl
      exact ⟨g1, g2, j, hj, by omega, g4⟩
  · rw [List.length_drop] at q4
    simp only [List.length_append, List.length_map, List.map_cons, List.sum_cons]
    omega
theorem Cn_full {W : List Str} {s : Str} {v : Int} (h : CnK W W.length s v) (hs : s ≠ []) : Cn W s v := by
  have hlt := h.lt
  obtain ⟨R, A, h1, h2, h3, h4, h5, h6⟩ := h
  refine ⟨R, h1, fun L => ?_, h3, by omega⟩
  rw [h2]
  constructor
  · rintro ⟨j, L', _, _, g⟩; exact g
  · intro hr
    cases L with
    | nil => exact absurd hr hs
    | cons j L' => exact ⟨j, L', rfl, hr.1, hr⟩
theorem Cn_nil {W : List Str} (hW : Cw W) : Cn W [] 1 := by
  refine ⟨[[]], by simp, fun L => ?_, rfl, by simp⟩
  simp only [List.mem_singleton]
  constructor
  · rintro rfl; rfl
  · intro hr
    have := Rd_len hW L _ hr
    exact List.eq_nil_of_length_eq_zero (by simpa using this)
theorem Cn.two {W : List Str} {s : Str} {v : Int} (h : Cn W s v) {A B : List Nat} (hA : Rd W A s) (hB : Rd W B s) (hne : A ≠ B) : 2 ≤ v := by
  obtain ⟨R, h1, h2, h3, _⟩ := h
  have := nodup_sub [A, B] R (by simp [hne]) (fun x hx => by
    simp only [List.mem_cons, List.not_mem_nil, or_false] at hx
    rcases hx with rfl | rfl
    · exact (h2 _).2 hA
    · exact (h2 _).2 hB)
  simp at this; omega
theorem Cn.one {W : List Str} {s : Str} {v : Int} (h : Cn W s v) {A : List Nat} (hA : Rd W A s) : 1 ≤ v := by
  obtain ⟨R, h1, h2, h3, _⟩ := h
  have := List.length_pos_of_mem ((h2 _).2 hA)
  omega
theorem Cn.le {W : List Str} {s : Str} {v : Int} (h : Cn W s v) (hu : ∀ A B, Rd W A s → Rd W B s → A = B) : v ≤ 1 := by
  obtain ⟨R, h1, h2, h3, _⟩ := h
  match R, h1, h2, h3 with
  | [], _, _, h3 => simp at h3; omega
  | [a], _, _, h3 => simp at h3; omega
  | a :: b :: R, h1, h2, _ =>
    have e := hu a b ((h2 a).1 (by simp)) ((h2 b).1 (by simp))
    subst e
    simp at h1
def TbC (W : List Str) (t : Str) (l : List Int) (i : Nat) : Prop := l.length = t.length + 1 ∧ (∀ j, i ≤ j → ∀ h : j < l.length, Cn W (t.drop j) l[j]) ∧ ∀ j, j < i → ∀ h : j < l.length, l[j] = 0
theorem Cn.le2 {W : List Str} {s : Str} {v : Int} (h : Cn W s v) (hs : s.length ≤ 60) : 0 ≤ v ∧ v ≤ 1152921504606846976 := by
  obtain ⟨R, h1, h2, h3, h4⟩ := h
  have : 2 ^ s.length ≤ 2 ^ 60 := Nat.pow_le_pow_right (by omega) hs
  omega
theorem cnt_l2 (W : List Str) (hW : Cw W) (t : Str) (ht : t.length ≤ 60) (i : Nat) (hi : i < t.length) : ∀ (n k N : Nat) (l : List Int), k + n = W.length → n < N → l.length = t.length + 1 → (∀ j, i < j → ∀ h : j < l.length, Cn W (t.drop j) l[j]) → (∀ h : i < l.length, CnK W k (t.drop i) l[i]) → (∀ j, j < i → ∀ h : j < l.length, l[j] = 0) →
    ∃ l', TbC W t l' i ∧ ∀ K, i_CountReadings_l2 K W t (i : Int) N l (k : Int) = K l' := by
  have hwl := hW.len
  intro n
  induction n with
  | zero =>
    intro k N l h1 h3 hl hj hk h0
    obtain ⟨N, rfl⟩ := pos_fuel h3
    have hn : ¬ ((k : Int) < (W.length : Int)) := by omega
    refine ⟨l, ⟨hl, fun j hij h => ?_, h0⟩, fun K => by simp [i_CountReadings_l2, hn]⟩
    by_cases e : j = i
    · subst e
      have := hk h
      have ek : k = W.length := by omega
      rw [ek] at this
      exact Cn_full this (fun e => by have := congrArg List.length e; simp at this; omega)
    · exact hj j (by omega) h
  | succ n ih =>
    intro k N l h1 h3 hl hj hk h0
    obtain ⟨N, rfl⟩ := pos_fuel h3
    have hn : (k : Int) < (W.length : Int) := by omega
    have hkn : k < W.length := by omega
    have hil : i < l.length := by omega
    obtain ⟨w1, w2, _⟩ := hW.word _ (List.getElem_mem hkn)
    have hs := sub_drop t i (by omega)
    cases hp : pre W[k] (t.drop i)
    · obtain ⟨l', g1, g2⟩ := ih (k + 1) N l (by omega) (by omega) hl hj (fun h => CnK_skip (hk h) (fun L ⟨_, hp', _⟩ => by rw [hp] at hp'; cases hp')) h0
      refine ⟨l', g1, fun K => ?_⟩
      simp only [i_CountReadings_l2, hn, decide_true, cond_true, cond_false, withK_eq, idx_lt W k hkn, Option.bind_some, hs, starts_eq, hp, w64_nat k (by omega)]
      exact g2 K
    · have hle := pre_le hp
      simp only [List.length_drop] at hle
      have ew : w64 ((i : Int) + ((W[k]).length : Int)) = ((i + (W[k]).length : Nat) : Int) := by rw [w64_id (by omega) (by omega)]; omega
      have hjl : i + (W[k]).length < l.length := by omega
      have hf := hj (i + (W[k]).length) (by omega) hjl
      have hb := hf.le2 (by simp; omega)
      have hf' : Cn W ((t.drop i).drop (W[k]).length) (l[i + (W[k]).length]) := by rw [List.drop_drop]; exact hf
      have hk' := CnK_take hW (hk hil) hkn hp hf'
      have hb2 := (hk hil).lt
      have hp2 : 2 ^ (t.drop i).length ≤ 2 ^ 60 := Nat.pow_le_pow_right (by omega) (by simp; omega)
      have ewf : w64 (l[i] + l[i + (W[k]).length]) = l[i] + l[i + (W[k]).length] := w64_id (by omega) (by omega)
      obtain ⟨l', g1, g2⟩ := ih (k + 1) N (l.set i (l[i] + l[i + (W[k]).length])) (by omega) (by omega) (by simpa using hl) (fun j hij h => by
        rw [List.getElem_set_ne (by omega)]; exact hj j hij (by simpa using h)) (fun h => by rw [List.getElem_set_self]; exact hk') (fun j hij h => by
        rw [List.getElem_set_ne (by omega)]; exact h0 j hij (by simpa using h))
      refine ⟨l', g1, fun K => ?_⟩
      simp only [i_CountReadings_l2, hn, decide_true, cond_true, withK_eq, idx_lt W k hkn, Option.bind_some, hs, starts_eq, hp, ew, idx_lt l _ hjl, idx_lt l i hil, ewf, Int.toNat_natCast, w64_nat k (by omega)]
      exact g2 K
theorem cnt_l1 (W : List Str) (hW : Cw W) (t : Str) (ht : t.length ≤ 60) : ∀ (n N : Nat) (l : List Int), n ≤ t.length → n + 100 < N → TbC W t l n → ∃ l', TbC W t l' 0 ∧ ∀ K, i_CountReadings_l1 K W t N l ((n : Int) - 1) = K l' := by
  have hwl := hW.len
  intro n
  induction n with
  | zero =>
    intro N l _ h3 hl
    obtain ⟨N, rfl⟩ := pos_fuel (by omega : 0 < N)
    exact ⟨l, hl, fun K => by simp [i_CountReadings_l1]⟩
  | succ n ih =>
    intro N l h1 h3 hl
    obtain ⟨N, rfl⟩ := pos_fuel (by omega : 0 < N)
    have hll := hl.1
    have hi : ((n : Int)) ≥ 0 := by omega
    have e1 : (((n + 1 : Nat) : Int) - 1) = (n : Int) := by omega
    obtain ⟨l1, g1, g2⟩ := cnt_l2 W hW t ht n (by omega) W.length 0 N l (by omega) (by omega) hll (fun j hj h => hl.2.1 j (by omega) h) (fun h => by rw [hl.2.2 n (by omega) h]; exact CnK_zero _ _) (fun j hj h => hl.2.2 j (by omega) h)
    obtain ⟨l', f1, f2⟩ := ih N l1 (by omega) (by omega) g1
    rw [show ((0 : Nat) : Int) = 0 from rfl] at g2
    refine ⟨l', f1, fun K => ?_⟩
    rw [e1]
    have ew : w64 ((n : Int) - 1) = (n : Int) - 1 := w64_id (by omega) (by omega)
    simp only [i_CountReadings_l1, hi, decide_true, cond_true, withK_eq, ew]
    rw [g2]
    exact f2 K
theorem cnt_eq (N : Nat) (W : List Str) (hW : Cw W) (t : Str) (ht : t.length ≤ 60) (hc : ∀ c ∈ t, c = 97 ∨ c = 98) (hN : 400 < N) : ∃ v, Cn W t v ∧ i_CountReadings N W t = some (v, 0) := by
  have hcode : i_codeCode N W t = some 0 := by
    unfold i_codeCode
    simp [valid_eq N W hW (by omega), text33_eq N t 60 (by omega) (by omega) hc (by omega)]
  have e1 : w64 ((t.length : Int) + 1) = ((t.length + 1 : Nat) : Int) := w64_nat _ (by omega)
  have e2 : mk ((t.length + 1 : Nat) : Int) (0 : Int) = some (List.replicate (t.length + 1) 0) := mk_some _ _ (by unfold LIM; omega)
  have e3 : idx (List.replicate (t.length + 1) (0 : Int)) (t.length : Int) = some 0 := by rw [idx_lt _ _ (by simp)]; simp
  have e4 : w64 ((t.length : Int) - 1) = (t.length : Int) - 1 := w64_id (by omega) (by omega)
  obtain ⟨l, g1, g2⟩ := cnt_l1 W hW t ht t.length N ((List.replicate (t.length + 1) (0 : Int)).set t.length 1) (Nat.le_refl _) (by omega) ⟨by simp, fun j hj h => by
    have hj2 : j = t.length := by simp at h; omega
    subst hj2
    rw [List.getElem_set_self, List.drop_length]; exact Cn_nil hW, fun j hj h => by
    rw [List.getElem_set_ne (by omega)]; simp⟩
  have hl := g1.1
  have h0 : 0 < l.length := by omega
  have hx : idx l 0 = some l[0] := idx_lt l 0 h0
  have hv := g1.2.1 0 (Nat.le_refl _) h0
  rw [List.drop_zero] at hv
  refine ⟨l[0], hv, ?_⟩
  unfold i_CountReadings
  simp only [hcode, Option.bind_some, bne_self_eq_false, cond_false, e1, e2, e3, withK_eq, Int.toNat_natCast, e4, g2, hx]
end Go.Proofs.Ytacdadfaialbpaa
