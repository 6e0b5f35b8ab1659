/-
  Plain lemmas on these functions. No conditions but those that each states.
-/
import Derived.Test.YtpodlgibcfbbiaaDoorFnPressesP10
namespace Go.Proofs.YtpodlgibcfbbiaaDoor
set_option linter.unusedVariables false
set_option linter.unusedSimpArgs false
/-! Presses for a text, and what is drawn. -/
def pfo (keys : List Key) (as : List Accent) : List Press → Str → List Press × Int
  | out, [] => (out, 0)
  | out, c :: r => if ((prs keys as [c]).length : Int) == 0 then ([], 3) else pfo keys as (out ++ prs keys as [c]) r
theorem pfo_len (keys : List Key) (as : List Accent) : ∀ (t : Str) (out : List Press), (pfo keys as out t).1.length ≤ out.length + 2 * t.length := by
  intro t
  induction t with
  | nil => intro out; simp [pfo]
  | cons c r ih =>
    intro out
    unfold pfo
    split
    · simp
    · have h1 := ih (out ++ prs keys as [c])
      have h2 := prs_len keys as [c]
      simp only [List.length_append, List.length_cons] at h1 ⊢
      omega
theorem sub_drop (t : Str) (i : Nat) (h : i < t.length) (hl : t.length ≤ 100000) : sub t (i : Int) (w64 ((i : Int) + 1)) = some [t[i]] := by
  rw [w64_nat i (by omega), sub_one t i h]
theorem s_pfo_l1 (keys : List Key) (as : List Accent) (t : Str) (kj : List Press → Option (List Press × Int)) (hk : ∀ l, kj l = some (l, 0)) (hl : keys.length ≤ 1000) (hl2 : as.length ≤ 1000) (ht : t.length ≤ 1000) : ∀ (n i N : Nat) (o : List Press), i + n = t.length → n + 3001 < N → o.length ≤ 2 * i → s_PressesFor_l1 kj keys as t N o (i : Int) = some (pfo keys as o (t.drop i)) := by
  intro n
  induction n with
  | zero =>
    intro i N o hi hN ho
    obtain ⟨N, rfl⟩ := pos_fuel hN
    have hz : ¬ (i : Int) < (t.length : Int) := by omega
    simp only [s_PressesFor_l1, hz, decide_false, cond_false, hk]
    rw [List.drop_eq_nil_of_le (by omega)]; rfl
  | succ n ih =>
    intro i N o hi hN ho
    obtain ⟨N, rfl⟩ := pos_fuel hN
    have hz : (i : Int) < (t.length : Int) := by omega
    have hp := prs_len keys as [t[i]]
    simp only [s_PressesFor_l1, hz, decide_true, cond_true]
    rw [sub_drop t i (by omega) (by omega), w64_nat i (by omega)]
    simp only [Option.bind_some]
    rw [s_prs keys as _ hl hl2 N (by omega)]
    simp only [Option.bind_some]
    rw [app_some _ _ (by unfold LIM; omega)]
    simp only [Option.bind_some]
    rw [List.drop_eq_getElem_cons (by omega : i < t.length), pfo, ih (i + 1) N _ (by omega) (by omega) (by rw [List.length_append]; omega)]
    cases ((prs keys as [t[i]]).length : Int) == 0 <;> rfl
theorem i_pfo_l1 (keys : List Key) (as : List Accent) (t : Str) (kj : List Press → Option (List Press × Int)) (hk : ∀ l, kj l = some (l, 0)) (hok : okKA keys as = true) (ht : t.length ≤ 1000) : ∀ (n i N : Nat) (o : List Press), i + n = t.length → n + 3001 < N → o.length ≤ 2 * i → i_PressesFor_l1 kj keys as t N o (i : Int) = some (pfo keys as o (t.drop i)) := by
  intro n
  induction n with
  | zero =>
    intro i N o hi hN ho
    obtain ⟨N, rfl⟩ := pos_fuel hN
    have hz : ¬ (i : Int) < (t.length : Int) := by omega
    simp only [i_PressesFor_l1, hz, decide_false, cond_false, hk]
    rw [List.drop_eq_nil_of_le (by omega)]; rfl
  | succ n ih =>
    intro i N o hi hN ho
    obtain ⟨N, rfl⟩ := pos_fuel hN
    have hz : (i : Int) < (t.length : Int) := by omega
    have hp := prs_len keys as [t[i]]
    simp only [i_PressesFor_l1, hz, decide_true, cond_true]
    rw [sub_drop t i (by omega) (by omega), w64_nat i (by omega)]
    simp only [Option.bind_some]
    rw [i_prs keys as _ hok N (by omega)]
    simp only [Option.bind_some]
    rw [app_some _ _ (by unfold LIM; omega)]
    simp only [Option.bind_some]
    rw [List.drop_eq_getElem_cons (by omega : i < t.length), pfo, ih (i + 1) N _ (by omega) (by omega) (by rw [List.length_append]; omega)]
    cases ((prs keys as [t[i]]).length : Int) == 0 <;> rfl
def pfV (keys : List Key) (as : List Accent) (t : Str) : List Press × Int :=
  if okKA keys as then (if isT t 33 && decide ((t.length : Int) ≤ 100) then pfo keys as [] t else ([], 2)) else ([], 1)
theorem s_code (keys : List Key) (as : List Accent) (t : Str) (hl : keys.length ≤ 1000) (hl2 : as.length ≤ 1000) (ht : t.length ≤ 1000) (N : Nat) (hN : 3000 < N) : s_l02Code N keys as t = some (if okKA keys as then (if isT t 33 && decide ((t.length : Int) ≤ 100) then 0 else 2) else 1) := by
  unfold s_l02Code
  rw [s_ok keys as hl hl2 N hN, s_text t ht N (by omega)]
  simp only [Option.bind_some]
  cases okKA keys as
  · rfl
  · cases isT t 33 && decide ((t.length : Int) ≤ 100) <;> rfl
theorem s_pf (keys : List Key) (as : List Accent) (t : Str) (hl : keys.length ≤ 1000) (hl2 : as.length ≤ 1000) (ht : t.length ≤ 1000) (N : Nat) (hN : 5000 < N) : s_PressesFor N keys as t = some (pfV keys as t) := by
  unfold s_PressesFor pfV
  rw [s_code keys as t hl hl2 ht N (by omega)]
  have h := s_pfo_l1 keys as t (fun (l12 : List Press) => some (l12, 0)) (fun _ => rfl) hl hl2 ht t.length 0 N [] (by omega) (by omega) (by simp)
  simp only [Int.natCast_zero, List.drop_zero] at h
  simp only [Option.bind_some, withK_eq, h]
  cases okKA keys as
  · rfl
  · cases isT t 33 && decide ((t.length : Int) ≤ 100) <;> rfl
theorem i_pf (keys : List Key) (as : List Accent) (t : Str) (hl : keys.length ≤ 1000) (hl2 : as.length ≤ 1000) (ht : t.length ≤ 1000) (N : Nat) (hN : 5000 < N) : i_PressesFor N keys as t = some (pfV keys as t) := by
  unfold i_PressesFor pfV
  rw [i_valid keys as hl hl2 N (by omega), i_text t 33 100 ht N (by omega)]
  have e1 : (33 : UInt8).toNat = 33 := rfl
  simp only [Option.bind_some, withK_eq, e1]
  cases hok : okKA keys as
  · rfl
  · have h := i_pfo_l1 keys as t (fun (l12 : List Press) => some (l12, 0)) (fun _ => rfl) hok ht t.length 0 N [] (by omega) (by omega) (by simp)
    simp only [Int.natCast_zero, List.drop_zero] at h
    rw [h]
    cases isT t 33 <;> cases decide ((t.length : Int) ≤ 100) <;> rfl
theorem dtext_l1 {code : List UInt8} (all : Str) (ha : 0 < all.length) (ha2 : all.length ≤ 1000) (kj : Int → Int → Str → Option (List Key × List Accent × Str)) (Q : List Key × List Accent × Str → Prop) : ∀ (n N : Nat) (a sd hi : Int) (t : Str), n < N → 0 ≤ a → a ≤ hi → hi + 2 * n ≤ 1000000 → t.length + n ≤ 110 →
    (∀ a' sd' t', 0 ≤ a' → a' ≤ hi + 2 * n → t'.length ≤ 110 → t'.length ≤ t.length + n → ∃ r, kj a' sd' t' = some r ∧ Q r) → ∃ r, s_l02DrawText_l1 kj code all N a sd t (n : Int) = some r ∧ Q r := by
  intro n
  induction n with
  | zero =>
    intro N a sd hi t hN h0 h1 h2 h3 k
    obtain ⟨N, rfl⟩ := pos_fuel hN
    have hz : ¬ ((0 : Nat) : Int) > 0 := by omega
    simp only [s_l02DrawText_l1, hz, decide_false, cond_false]
    exact k a sd t h0 (by omega) (by omega) (by omega)
  | succ n ih =>
    intro N a sd hi t hN h0 h1 h2 h3 k
    obtain ⟨N, rfl⟩ := pos_fuel hN
    have hz : ((n + 1 : Nat) : Int) > 0 := by omega
    have e2 : w64 (((n + 1 : Nat) : Int) - 1) = (n : Int) := by rw [w64_id (by omega) (by omega)]; omega
    simp only [s_l02DrawText_l1, hz, decide_true, cond_true, e2]
    refine bindE (pickA (code := code) (hi := hi) _ ⟨rfl, h0, h1⟩ (by omega)) fun v1 g1 => ?_
    have g2 := g1.2.2 (by omega)
    refine sub_oneE g1.2.1 (by omega) (by omega) fun c _ => ?_
    rw [cat_some _ _ (by unfold LIM; simp; omega)]
    simp only [Option.bind_some]
    exact ih N _ _ (hi + 2) _ (by omega) g1.1.2.1 g1.1.2.2 (by omega) (by simp; omega) fun a' sd' t' q1 q2 q3 q4 => k a' sd' t' q1 (by omega) q3 (by simp at q4; omega)
theorem dtext (code : List UInt8) (N : Nat) (hN : 6000 < N) : ∃ v, s_l02DrawText N code = some v ∧ v.1.length ≤ 41 ∧ v.2.1.length ≤ 21 ∧ v.2.2.length ≤ 105 := by
  unfold s_l02DrawText
  rw [fromA]
  simp only [Option.bind_some, withK_eq]
  refine bindE (bent (code := code) (hi := 0) ⟨code, 0, 0⟩ ⟨rfl, by show (0 : Int) ≤ 0; omega, by show (0 : Int) ≤ 0; omega⟩ (by omega) N (by omega)) fun v1 g1 => ?_
  obtain ⟨g1, b1, b2⟩ := g1
  rw [s_ltrs v1.1 v1.2.1 (by omega) (by omega) N (by omega)]
  simp only [Option.bind_some, orO_some]
  have main : ∀ all : Str, 0 < all.length → all.length ≤ 1000 → ∃ r, ((s_l00Src_pick (L00Src.mk code v1.2.2.at_ v1.2.2.seed) 14).bind fun r20 =>
    (s_l00Src_one (L00Src.mk code r20.2.at_ r20.2.seed) 24).bind fun r27 =>
    bif r27.1 then
    (s_l00Src_pick (L00Src.mk code r27.2.at_ r27.2.seed) 2).bind fun r30 =>
    s_l02DrawText_l1 (fun (x32 : Int) (x33 : Int) (text34 : Str) =>
      (s_l00Src_pick (L00Src.mk code x32 x33) 10).bind fun r51 =>
      bif (r51.1 == 0) then
      (s_l00Src_text (L00Src.mk code r51.2.at_ r51.2.seed) [[122], [32], [127], [39]]).bind fun r55 =>
      (cat text34 r55.1).bind fun s57 =>
      some (v1.1, v1.2.1, s57)
      else
      some (v1.1, v1.2.1, text34)) code all N r30.2.at_ r30.2.seed [] (w64 (100 + r30.1))
    else
    s_l02DrawText_l1 (fun (x32 : Int) (x33 : Int) (text34 : Str) =>
      (s_l00Src_pick (L00Src.mk code x32 x33) 10).bind fun r51 =>
      bif (r51.1 == 0) then
      (s_l00Src_text (L00Src.mk code r51.2.at_ r51.2.seed) [[122], [32], [127], [39]]).bind fun r55 =>
      (cat text34 r55.1).bind fun s57 =>
      some (v1.1, v1.2.1, s57)
      else
      some (v1.1, v1.2.1, text34)) code all N r27.2.at_ r27.2.seed [] r20.1) = some r ∧ r.1.length ≤ 41 ∧ r.2.1.length ≤ 21 ∧ r.2.2.length ≤ 105 := fun all h1 h2 => by
    refine bindE (pickA (code := code) (hi := 200) 14 ⟨rfl, g1.2.1, by have := g1.2.2; show v1.2.2.at_ ≤ _; omega⟩ (by omega)) fun v2 g2 => ?_
    refine bindE (oneA (code := code) (hi := 202) 24 ⟨rfl, g2.1.2⟩ (by omega)) fun v3 g3 => ?_
    have fin : ∀ (x y : Int) (n : Nat), 0 ≤ x → x ≤ 210 → n ≤ 101 → ∃ r, s_l02DrawText_l1 (fun (x32 : Int) (x33 : Int) (text34 : Str) =>
      (s_l00Src_pick (L00Src.mk code x32 x33) 10).bind fun r51 =>
      bif (r51.1 == 0) then
      (s_l00Src_text (L00Src.mk code r51.2.at_ r51.2.seed) [[122], [32], [127], [39]]).bind fun r55 =>
      (cat text34 r55.1).bind fun s57 =>
      some (v1.1, v1.2.1, s57)
      else
      some (v1.1, v1.2.1, text34)) code all N x y [] (n : Int) = some r ∧ r.1.length ≤ 41 ∧ r.2.1.length ≤ 21 ∧ r.2.2.length ≤ 105 := fun x y n q1 q2 q3 => by
      refine dtext_l1 all h1 h2 _ _ n N x y 210 [] (by omega) q1 q2 (by omega) (by simp; omega) fun a' sd' t' p1 p2 p3 p4 => ?_
      simp only [List.length_nil, Nat.zero_add] at p4
      refine bindE (pickA (code := code) (hi := 210 + 2 * n) 10 ⟨rfl, p1, p2⟩ (by omega)) fun w1 k1 => ?_
      refine condE (fun _ => ?_) fun _ => ⟨_, rfl, by show v1.1.length ≤ 41; omega, by show v1.2.1.length ≤ 21; omega, by show t'.length ≤ 105; omega⟩
      refine bindE (textA (code := code) (hi := 210 + 2 * n + 2) _ (by simp) ⟨rfl, k1.1.2⟩ (by omega)) fun w2 k2 => ?_
      have hm : w2.1.length = 1 := by
        have : ∀ x ∈ ([[122], [32], [127], [39]] : List Str), x.length = 1 := by decide
        exact this _ k2.2
      rw [cat_some _ _ (by unfold LIM; omega)]
      exact ⟨_, rfl, by show v1.1.length ≤ 41; omega, by show v1.2.1.length ≤ 21; omega, by show (t' ++ w2.1).length ≤ 105; rw [List.length_append]; omega⟩
    have g22 := g2.1.2.2
    have g33 := g3.2.2
    refine condE (fun _ => ?_) fun _ => ?_
    · refine bindE (pickA (code := code) (hi := 204) 2 ⟨rfl, g3.2⟩ (by omega)) fun v4 g4 => ?_
      have g44 := g4.1.2.2
      have g45 := g4.2.2 (by omega)
      have g46 := g4.2.1
      have e : w64 (100 + v4.1) = ((100 + v4.1).toNat : Int) := by rw [w64_id (by omega) (by omega)]; omega
      rw [e]
      exact fin _ _ _ g4.1.2.1 (by omega) (by omega)
    · have g45 := g2.2.2 (by omega)
      have g46 := g2.2.1
      have e : v2.1 = (v2.1.toNat : Int) := by omega
      rw [e]
      exact fin _ _ _ g3.2.1 (by omega) (by omega)
  refine condE (fun _ => main _ (by simp) (by simp)) fun c => ?_
  have hll := ltrs_len v1.1 v1.2.1
  refine main _ ?_ ?_
  · simp only [Bool.or_eq_false_iff] at c
    have c2 := c.2
    rw [beq_eq_false_iff_ne] at c2
    exact List.length_pos_iff.2 c2
  · split
    · show (ltrs v1.1 v1.2.1).length ≤ 1000; omega
    · simp
theorem dpress (code : List UInt8) (N : Nat) (hN : 6000 < N) : ∃ v, s_l02DrawPresses N code = some v ∧ v.1.length ≤ 41 ∧ v.2.1.length ≤ 21 ∧ v.2.2.length ≤ 215 := by
  unfold s_l02DrawPresses
  simp only [withK_eq]
  refine bindE (dtext code N hN) fun v1 g1 => ?_
  obtain ⟨g1, g2, g3⟩ := g1
  rw [fromA]
  simp only [Option.bind_some]
  rw [s_pf v1.1 v1.2.1 v1.2.2 (by omega) (by omega) (by omega) N (by omega)]
  simp only [Option.bind_some]
  have main : ∀ l14 : List Press, l14.length ≤ 210 → ∃ r, ((s_l00Src_pick (L00Src.mk code 0 0) 10).bind fun r24 =>
    bif (r24.1 == 0) then
    (s_l00Src_among (L00Src.mk code r24.2.at_ r24.2.seed) [(-1), 0, w64 ((List.length v1.1 : Int) - 1), (List.length v1.1 : Int)]).bind fun r28 =>
    (app l14 [(Press.mk r28.1 true)]).bind fun l31 =>
    some (v1.1, v1.2.1, l31)
    else
    bif (r24.1 == 1) then
    (s_l00Src_pick (L00Src.mk code r24.2.at_ r24.2.seed) 2).bind fun r35 =>
    (mk (w64 (200 + r35.1)) (Press.mk 0 false)).bind fun l37 =>
    some (v1.1, v1.2.1, l37)
    else
    some (v1.1, v1.2.1, l14)) = some r ∧ r.1.length ≤ 41 ∧ r.2.1.length ≤ 21 ∧ r.2.2.length ≤ 215 := fun l14 hl => by
    refine bindE (pickA (code := code) (hi := 0) 10 ⟨rfl, by show (0 : Int) ≤ 0; omega, by show (0 : Int) ≤ 0; omega⟩ (by omega)) fun v2 k1 => ?_
    refine condE (fun _ => ?_) fun _ => condE (fun _ => ?_) fun _ => ⟨_, rfl, g1, g2, by show l14.length ≤ 215; omega⟩
    · refine bindE (amongA (code := code) (hi := 2) _ (by simp) ⟨rfl, k1.1.2⟩ (by omega)) fun v3 k3 => ?_
      refine appE (by unfold LIM; simp; omega) ?_
      exact ⟨_, rfl, g1, g2, by simp; omega⟩
    · refine bindE (pickA (code := code) (hi := 2) 2 ⟨rfl, k1.1.2⟩ (by omega)) fun v3 k3 => ?_
      have g45 := k3.2.2 (by omega)
      have g46 := k3.2.1
      have e : w64 (200 + v3.1) = ((200 + v3.1).toNat : Int) := by rw [w64_id (by omega) (by omega)]; omega
      rw [e, mk_some _ _ (by unfold LIM; omega)]
      exact ⟨_, rfl, g1, g2, by show (List.replicate _ _).length ≤ 215; rw [List.length_replicate]; omega⟩
  have hlen : (pfV v1.1 v1.2.1 v1.2.2).1.length ≤ 210 := by
    unfold pfV
    have := pfo_len v1.1 v1.2.1 v1.2.2 []
    simp only [List.length_nil] at this
    split
    · split
      · omega
      · simp
    · simp
  exact condE (fun _ => main [] (by simp)) fun _ => main _ hlen
end Go.Proofs.YtpodlgibcfbbiaaDoor
