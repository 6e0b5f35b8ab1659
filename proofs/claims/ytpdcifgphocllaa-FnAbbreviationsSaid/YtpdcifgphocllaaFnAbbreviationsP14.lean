/-
  Plain lemmas on these functions. No conditions but those that each states.
-/
import Derived.Test.YtpdcifgphocllaaFnAbbreviationsP13
namespace Go.Proofs.Ytpdcifgphocllaa
set_option linter.unusedVariables false
set_option linter.unusedSimpArgs false
/-! Draws of abbreviations and notes. -/
theorem catE {α : Type} {a b : Str} {f : Str → Option α} {Q : α → Prop} (h : a.length + b.length ≤ LIM) (k : ∃ r, f (a ++ b) = some r ∧ Q r) : ∃ r, (cat a b).bind f = some r ∧ Q r := by
  rw [cat_some a b h]; exact k
/-- sizes of one -/
def SzB (x : Abbr) : Prop := x.short.length ≤ 10 ∧ x.long.length ≤ 40
theorem SzB.a {x : Abbr} (h : SzB x) : SzA x := ⟨by have := h.1; omega, by have := h.2; omega⟩
theorem vA_szB {x : Abbr} (h : vA x = true) : SzB x := by
  obtain ⟨a1, a2, a3⟩ := vA_facts h
  exact ⟨by omega, by omega⟩
section
variable {code : List UInt8}
theorem dANew {hi : Int} {s : L00Src} (h : SrcAt code hi s) (hb : hi ≤ 10000) : ∃ v, s_l16New s = some v ∧ SrcAt code (hi + 4) v.2 ∧ v.1.short.length ≤ 3 ∧ v.1.long.length ≤ 10 := by
  have e1 := h.1
  unfold s_l16New
  refine bindE (textA (hi := hi) _ (by decide) h (by omega)) fun v1 h1 => ?_
  have m1 : ∀ x ∈ ([[97], [97, 99, 99], [97, 110], [99, 111], [108, 101, 116], [109, 114], [113], [116, 119], [119, 100]] : List Str), x.length ≤ 3 := by decide
  have m2 : ∀ x ∈ ([[97, 99, 99, 111, 117, 110, 116], [97, 99, 99], [108, 101, 116, 116, 101, 114], [116, 121, 112, 101, 119, 114, 105, 116, 101, 114], [119, 111, 114, 100], [99, 111, 109, 112, 97, 110, 121], [109, 105, 115, 116, 101, 114], [108, 101, 116]] : List Str), x.length ≤ 10 := by decide
  have k1 := m1 _ h1.2
  refine bindE (textA (hi := hi + 2) _ (by decide) ⟨e1, h1.1.2⟩ (by omega)) fun v2 h2 => ?_
  have k2 := m2 _ h2.2
  exact ⟨_, rfl, ⟨e1, h2.1.2.1, by have := h2.1.2.2; show v2.2.at_ ≤ hi + 4; omega⟩, k1, k2⟩
theorem dADraw {hi : Int} {s : L00Src} (h : SrcAt code hi s) (hb : hi ≤ 5000) (N : Nat) (hN : 3100 < N) : ∃ v, s_l16Draw N s = some v ∧ SrcAt code (hi + 40) v.2 ∧ VL v.1 := by
  have e1 := h.1
  unfold s_l16Draw
  simp only [withK_n]
  refine bindE (pickA (hi := hi) 9 h (by omega)) fun v1 h1 => ?_
  have hv := h1.2.2 (by omega)
  have hv0 := h1.2.1
  obtain ⟨n, hn⟩ : ∃ n : Nat, v1.1 = n := ⟨v1.1.toNat, by omega⟩
  rw [hn]
  have key : ∀ (q N : Nat) (a sd : Int) (l : List Abbr), q + 3050 < N → q ≤ 8 → VL l → SrcAt code (hi + 40 - 4 * q) ⟨s.code, a, sd⟩ → ∃ r, s_l16Draw_l1 (fun x6 x7 l8 => some (l8, (L00Src.mk s.code x6 x7))) s N a sd l (q : Int) = some r ∧ SrcAt code (hi + 40) r.2 ∧ VL r.1 := by
    intro q
    induction q with
    | zero =>
      intro N a sd l g1 g2 g3 g4
      obtain ⟨N, rfl⟩ := pos_fuel g1
      have hz : ¬ ((0 : Nat) : Int) > 0 := by omega
      simp only [s_l16Draw_l1, hz, decide_false, cond_false]
      exact ⟨_, rfl, g4.mono (by omega), g3⟩
    | succ q ih =>
      intro N a sd l g1 g2 g3 g4
      obtain ⟨N, rfl⟩ := pos_fuel g1
      have hz : ((q + 1 : Nat) : Int) > 0 := by omega
      have hw : w64 (((q + 1 : Nat) : Int) - 1) = (q : Int) := by rw [w64_id (by omega) (by omega)]; omega
      simp only [s_l16Draw_l1, hz, decide_true, cond_true, withK_n]
      refine bindE (dANew (hi := hi + 40 - 4 * ((q + 1 : Nat) : Int)) (s := ⟨s.code, a, sd⟩) g4 (by omega)) fun v2 h2 => ?_
      have hln := g3.n
      obtain ⟨r, c, _, a2, a3⟩ := add_ok l (by omega) g3.sz v2.1 ⟨by have := h2.2.1; omega, by have := h2.2.2; omega⟩ N (by omega)
      have hs : SrcAt code (hi + 40 - 4 * q) ⟨s.code, v2.2.at_, v2.2.seed⟩ := ⟨e1, h2.1.2.1, by have := h2.1.2.2; show v2.2.at_ ≤ _; omega⟩
      rw [a2, Option.bind_some, hw]
      rcases a3 with ⟨rfl, b1, b2⟩ | ⟨b1, b2⟩
      · exact ih N _ _ r (by omega) (by omega) b1 hs
      · have hz : ((r, c).2 == 0) = false := by simpa using b1
        rw [hz]
        exact ih N _ _ l (by omega) (by omega) g3 hs
  exact key n N _ _ [] (by omega) (by omega) ⟨by simp, fun x hx => (by cases hx), List.Pairwise.nil⟩ ⟨e1, h1.1.2.1, by have := h1.1.2.2; show v1.2.at_ ≤ _; omega⟩
theorem dABent {hi : Int} {s : L00Src} (h : SrcAt code hi s) (hb : hi ≤ 4000) (N : Nat) (hN : 3100 < N) : ∃ v, s_l16Bent N s = some v ∧ SrcAt code (hi + 50) v.2 ∧ v.1.length ≤ 31 ∧ ∀ x ∈ v.1, SzB x := by
  have e1 := h.1
  unfold s_l16Bent
  refine bindE (dADraw (hi := hi) h (by omega) N hN) fun v1 h1 => ?_
  have hn := h1.2.n
  have hB : ∀ x ∈ v1.1, SzB x := fun x hx => vA_szB (h1.2.v x hx)
  have hap : ∀ y, SzB y → ∀ x ∈ v1.1 ++ [y], SzB x := fun y hy x hx => by
    rcases List.mem_append.1 hx with h | h
    · exact hB x h
    · rw [List.mem_singleton.1 h]; exact hy
  simp only [withK_n]
  refine bindE (pickA (hi := hi + 40) 20 ⟨e1, h1.1.2⟩ (by omega)) fun v2 h2 => ?_
  have hs : SrcAt code (hi + 42) (L00Src.mk s.code v2.2.at_ v2.2.seed) := ⟨e1, h2.1.2.1, by have := h2.1.2.2; show v2.2.at_ ≤ hi + 42; omega⟩
  refine condE (fun _ => ?_) fun _ => condE (fun _ => ?_) fun _ => condE (fun _ => ?_) fun _ => ?_
  · refine bindE (textA _ (by decide) hs (by omega)) fun v3 h3 => ?_
    have m1 : ∀ x ∈ ([[], [122, 122], [90], [122, 122, 122, 122, 122, 122, 122, 122], [122, 122, 122, 122, 122, 122, 122, 122, 122]] : List Str), x.length ≤ 10 := by decide
    have k1 := m1 _ h3.2
    refine appE (by simp; unfold LIM; omega) ?_
    exact ⟨_, rfl, ⟨e1, h3.1.2.1, by have := h3.1.2.2; show v3.2.at_ ≤ hi + 50; omega⟩, by simp; omega, hap _ ⟨k1, by show 13 ≤ 40; omega⟩⟩
  · refine bindE (textA _ (by decide) hs (by omega)) fun v3 h3 => ?_
    have m1 : ∀ x ∈ ([[122, 122], [122, 122, 122], [97, 98, 99, 100, 101, 102, 103, 104, 105, 106, 107, 108, 109, 110, 111, 112, 113, 114, 115, 116, 117, 118, 119, 120, 121, 122, 97, 98, 99, 100], [97, 98, 99, 100, 101, 102, 103, 104, 105, 106, 107, 108, 109, 110, 111, 112, 113, 114, 115, 116, 117, 118, 119, 120, 121, 122, 97, 98, 99, 100, 101]] : List Str), x.length ≤ 40 := by decide
    have k1 := m1 _ h3.2
    refine appE (by simp; unfold LIM; omega) ?_
    exact ⟨_, rfl, ⟨e1, h3.1.2.1, by have := h3.1.2.2; show v3.2.at_ ≤ hi + 50; omega⟩, by simp; omega, hap _ ⟨by show 2 ≤ 10; omega, k1⟩⟩
  · refine bindE (pickA _ hs (by omega)) fun v3 h3 => ?_
    have hv := h3.2.2 (by omega)
    have hv0 := h3.2.1
    have e : w64 (30 + v3.1) = ((30 + v3.1.toNat : Nat) : Int) := by rw [w64_id (by omega) (by omega)]; omega
    rw [e]
    have hs3 : SrcAt code (hi + 50) ⟨s.code, v3.2.at_, v3.2.seed⟩ := ⟨e1, h3.1.2.1, by have := h3.1.2.2; show v3.2.at_ ≤ hi + 50; omega⟩
    have loop : ∀ (q N : Nat) (l : List Abbr), q < N → l.length + q ≤ 31 → (∀ x ∈ l, SzB x) → ∃ r, s_l16Bent_l1 (fun x8 x9 l10 => some (l10, (L00Src.mk s.code x8 x9))) v3 N l (q : Int) = some r ∧ SrcAt code (hi + 50) r.2 ∧ r.1.length ≤ 31 ∧ ∀ x ∈ r.1, SzB x := by
      intro q
      induction q with
      | zero =>
        intro N l g1 g2 g3
        obtain ⟨N, rfl⟩ := pos_fuel g1
        have hz : ¬ ((0 : Nat) : Int) > 0 := by omega
        simp only [s_l16Bent_l1, hz, decide_false, cond_false]
        exact ⟨_, rfl, hs3, g2, g3⟩
      | succ q ih =>
        intro N l g1 g2 g3
        obtain ⟨N, rfl⟩ := pos_fuel g1
        have hz : ((q + 1 : Nat) : Int) > 0 := by omega
        have hw : w64 (((q + 1 : Nat) : Int) - 1) = (q : Int) := by rw [w64_id (by omega) (by omega)]; omega
        simp only [s_l16Bent_l1, hz, decide_true, cond_true]
        refine appE (by simp; unfold LIM; omega) ?_
        rw [hw]
        refine ih N _ (by omega) (by simp; omega) fun x hx => ?_
        rcases List.mem_append.1 hx with h | h
        · exact g3 x h
        · rw [List.mem_singleton.1 h]; exact ⟨by show 2 ≤ 10; omega, by show 4 ≤ 40; omega⟩
    exact loop _ N [] (by omega) (by simp; omega) fun x hx => by cases hx
  · exact ⟨_, rfl, ⟨e1, h2.1.2.1, by have := h2.1.2.2; show v2.2.at_ ≤ hi + 50; omega⟩, by show v1.1.length ≤ 31; omega, hB⟩
theorem joi_len : ∀ W : List Str, (∀ w ∈ W, w.length ≤ 30) → (joi 32 W).length ≤ 31 * W.length
  | [], _ => by simp [joi]
  | [w], h => by have := h w (by simp); simp only [joi, List.length_cons, List.length_nil]; omega
  | w :: v :: r, h => by
    have h1 := h w (by simp)
    have h2 := joi_len (v :: r) fun y hy => h y (List.mem_cons_of_mem _ hy)
    simp only [joi, List.length_append, List.length_cons] at h2 ⊢
    omega
theorem dANote {hi : Int} {s : L00Src} (h : SrcAt code hi s) (hb : hi ≤ 4000) (list5 : List Abbr) (hl : list5.length ≤ 31) (hB : ∀ x ∈ list5, SzB x) (N : Nat) (hN : 3100 < N) : ∃ v, s_l16DrawText N s list5 = some v ∧ v.1.length ≤ 500 := by
  have e1 := h.1
  unfold s_l16DrawText
  simp only [withK_n]
  have tail : ∀ (a sd : Int) (l : List Str), SrcAt code (hi + 60) ⟨s.code, a, sd⟩ → l.length ≤ 8 → (∀ w ∈ l, w.length ≤ 10) → ∃ r, ((s_l16Join N l).bind fun r49 =>
      (s_l00Src_pick (L00Src.mk s.code a sd) 20).bind fun r56 =>
      bif (r56.1 == 0) then
      (s_l00Src_text (L00Src.mk s.code r56.2.at_ r56.2.seed) ([[32], [32, 32, 120], [32, 88], [32, 120, 49]] : List Str)).bind fun r60 =>
      (cat r49 r60.1).bind fun s62 =>
      some (s62, (L00Src.mk s.code r60.2.at_ r60.2.seed))
      else
      bif (r56.1 == 1) then
      (s_l16Join N ([[116, 121, 112, 101, 119, 114, 105, 116, 101, 114, 119, 111, 114, 100], [97, 98, 99, 100, 101, 102, 103, 104, 105, 106, 107, 108, 109, 110, 111, 112, 113, 114, 115, 116, 117, 118, 119, 120, 121, 122, 97, 98, 99, 100]] : List Str)).bind fun r66 =>
      (s_l00Src_pick (L00Src.mk s.code r56.2.at_ r56.2.seed) 2).bind fun r68 =>
      s_l16DrawText_l2 (fun x51 x52 text53 => some (text53, (L00Src.mk s.code x51 x52))) r68 N r66
      else
      some (r49, (L00Src.mk s.code r56.2.at_ r56.2.seed))) = some r ∧ r.1.length ≤ 500 := by
    intro a sd l ha hll hw
    have hj := joi_len l fun w h => by have := hw w h; omega
    rw [join_s l (by omega) (fun w h => by have := hw w h; omega) N (by omega), Option.bind_some]
    refine bindE (pickA (hi := hi + 60) 20 ha (by omega)) fun v1 h1 => ?_
    refine condE (fun _ => ?_) fun _ => condE (fun _ => ?_) fun _ => ⟨_, rfl, by show (joi 32 l).length ≤ 500; omega⟩
    · refine bindE (textA (hi := hi + 60 + 2) _ (by decide) ⟨e1, h1.1.2⟩ (by omega)) fun v2 h2 => ?_
      have m1 : ∀ x ∈ ([[32], [32, 32, 120], [32, 88], [32, 120, 49]] : List Str), x.length ≤ 3 := by decide
      have k1 := m1 _ h2.2
      refine catE (by unfold LIM; omega) ⟨_, rfl, ?_⟩
      simp only [List.length_append]; omega
    · rw [join_s _ (by decide) (by decide) N (by omega), Option.bind_some]
      refine bindE (pickA (hi := hi + 60 + 2) 2 ⟨e1, h1.1.2⟩ (by omega)) fun v2 h2 => ?_
      have hv := h2.2.2 (by omega)
      have hv0 := h2.2.1
      have e : w64 (200 + v2.1) = ((200 + v2.1.toNat : Nat) : Int) := by rw [w64_id (by omega) (by omega)]; omega
      have loop : ∀ (q N : Nat) (t : Str), 200 + v2.1.toNat ≤ t.length + q → t.length ≤ 201 → q < N → ∃ r, s_l16DrawText_l2 (fun x51 x52 text53 => some (text53, (L00Src.mk s.code x51 x52))) v2 N t = some r ∧ r.1.length ≤ 500 := by
        intro q
        induction q using Nat.strongRecOn with
        | _ q ih =>
          intro N t g1 g2 g3
          obtain ⟨N, rfl⟩ := pos_fuel g3
          rw [s_l16DrawText_l2, e]
          refine condE (fun c => ?_) fun _ => ⟨_, rfl, by show t.length ≤ 500; omega⟩
          have c := of_decide_eq_true c
          have ew : w64 (((200 + v2.1.toNat : Nat) : Int) - 1) = ((199 + v2.1.toNat : Nat) : Int) := by rw [w64_id (by omega) (by omega)]; omega
          rw [ew]
          refine condE (fun _ => ?_) fun c2 => ?_
          · refine catE (by unfold LIM; simp only [List.length_cons, List.length_nil]; omega) ?_
            exact ih (q - 1) (by omega) N _ (by simp only [List.length_append, List.length_cons, List.length_nil]; omega) (by simp only [List.length_append, List.length_cons, List.length_nil]; omega) (by omega)
          · have c2 : ¬ ((t.length : Int) = ((199 + v2.1.toNat : Nat) : Int)) := by simpa using c2
            refine catE (by unfold LIM; simp only [List.length_cons, List.length_nil]; omega) ?_
            exact ih (q - 2) (by omega) N _ (by simp only [List.length_append, List.length_cons, List.length_nil]; omega) (by simp only [List.length_append, List.length_cons, List.length_nil]; omega) (by omega)
      exact loop 300 N _ (by omega) (by decide) (by omega)
  refine bindE (pickA (hi := hi) 9 h (by omega)) fun v1 h1 => ?_
  have hv := h1.2.2 (by omega)
  have hv0 := h1.2.1
  obtain ⟨n, hn⟩ : ∃ n : Nat, v1.1 = n := ⟨v1.1.toNat, by omega⟩
  rw [hn]
  have key : ∀ (kj : Int → Int → List Str → Option (Str × L00Src)) (hk : ∀ (a sd : Int) (l : List Str), SrcAt code (hi + 60) ⟨s.code, a, sd⟩ → l.length ≤ 8 → (∀ w ∈ l, w.length ≤ 10) → ∃ r, kj a sd l = some r ∧ r.1.length ≤ 500) (q N : Nat) (a sd : Int) (l : List Str), q < N → l.length + q ≤ 8 → (∀ w ∈ l, w.length ≤ 10) → SrcAt code (hi + 58 - 6 * q) ⟨s.code, a, sd⟩ →
      ∃ r, s_l16DrawText_l1 kj s list5 N a sd l (q : Int) = some r ∧ r.1.length ≤ 500 := by
    intro kj hk q
    induction q with
    | zero =>
      intro N a sd l g1 g2 g3 g4
      obtain ⟨N, rfl⟩ := pos_fuel g1
      have hz : ¬ ((0 : Nat) : Int) > 0 := by omega
      simp only [s_l16DrawText_l1, hz, decide_false, cond_false]
      exact hk a sd l (g4.mono (by omega)) g2 g3
    | succ q ih =>
      intro N a sd l g1 g2 g3 g4
      obtain ⟨N, rfl⟩ := pos_fuel g1
      have hz : ((q + 1 : Nat) : Int) > 0 := by omega
      have hw : w64 (((q + 1 : Nat) : Int) - 1) = (q : Int) := by rw [w64_id (by omega) (by omega)]; omega
      simp only [s_l16DrawText_l1, hz, decide_true, cond_true, withK_n]
      refine bindE (textA (hi := hi + 58 - 6 * ((q + 1 : Nat) : Int)) _ (by decide) g4 (by omega)) fun v2 h2 => ?_
      have m1 : ∀ x ∈ ([[97, 99, 99, 111, 117, 110, 116], [108, 101, 116, 116, 101, 114], [116, 121, 112, 101, 119, 114, 105, 116, 101, 114], [119, 111, 114, 100], [99, 111, 109, 112, 97, 110, 121], [108, 101, 116], [116, 104, 101], [97]] : List Str), x.length ≤ 10 := by decide
      have k1 := m1 _ h2.2
      have fin : ∀ (a sd : Int) (w : Str), SrcAt code (hi + 58 - 6 * q) ⟨s.code, a, sd⟩ → w.length ≤ 10 → ∃ r, ((app l [w]).bind fun l46 => s_l16DrawText_l1 kj s list5 N a sd l46 (w64 (((q + 1 : Nat) : Int) - 1))) = some r ∧ r.1.length ≤ 500 := by
        intro a sd w ha hwl
        refine appE (by simp; unfold LIM; omega) ?_
        rw [hw]
        refine ih N a sd _ (by omega) (by simp; omega) (fun x hx => ?_) ha
        rcases List.mem_append.1 hx with h | h
        · exact g3 x h
        · rw [List.mem_singleton.1 h]; exact hwl
      refine bindE (P := fun x => SrcAt code (hi + 58 - 6 * ((q + 1 : Nat) : Int) + 4) x.2 ∧ (x.1 = true → 0 < list5.length)) (condE (fun hd => ?_) fun _ => ?_) fun x hx => ?_
      · refine bindE (oneA (hi := hi + 58 - 6 * ((q + 1 : Nat) : Int) + 2) 3 ⟨e1, h2.1.2⟩ (by omega)) fun v3 h3 => ?_
        exact ⟨_, rfl, ⟨e1, h3.2.1, by have := h3.2.2; show v3.2.at_ ≤ _; omega⟩, fun _ => by have := of_decide_eq_true hd; omega⟩
      · exact ⟨_, rfl, ⟨e1, h2.1.2.1, by have := h2.1.2.2; show v2.2.at_ ≤ _; omega⟩, fun h => by cases h⟩
      · obtain ⟨⟨x1, x2, x3⟩, x4⟩ := hx
        refine condE (fun hd => ?_) fun _ => ?_
        · have hpos := x4 hd
          refine bindE (pickA (hi := hi + 58 - 6 * ((q + 1 : Nat) : Int) + 4) _ ⟨e1, x2, x3⟩ (by omega)) fun v3 h3 => ?_
          have hv3 := h3.2.2 (by omega)
          have hv30 := h3.2.1
          rw [idx_int list5 v3.1 hv30 hv3, Option.bind_some]
          exact fin _ _ _ ⟨e1, h3.1.2.1, by have := h3.1.2.2; show v3.2.at_ ≤ _; omega⟩ (hB _ (List.getElem_mem _)).1
        · exact fin _ _ _ ⟨e1, x2, by show x.2.at_ ≤ _; omega⟩ k1
  exact key _ tail n N _ _ [] (by omega) (by simp; omega) (fun w hw => by cases hw) ⟨e1, h1.1.2.1, by have := h1.1.2.2; show v1.2.at_ ≤ _; omega⟩
end
theorem dShort (code : List UInt8) (N : Nat) (hN : 3100 < N) : ∃ v, s_DrawShortenText N code = some v ∧ (v.1.length ≤ 31 ∧ ∀ x ∈ v.1, SzB x) ∧ v.2.length ≤ 500 := by
  unfold s_DrawShortenText s_l16Both
  rw [fromA, Option.bind_some]
  obtain ⟨r, g1, g2, g3, g4⟩ := dABent (code := code) (hi := 0) (s := L00Src.mk code 0 0) ⟨rfl, Int.le_refl _, Int.le_refl _⟩ (by omega) N hN
  obtain ⟨t, k1, k2⟩ := dANote (code := code) (hi := 50) (s := L00Src.mk code r.2.at_ r.2.seed) ⟨rfl, g2.2.1, by have := g2.2.2; show r.2.at_ ≤ 50; omega⟩ (by omega) r.1 g3 g4 N hN
  simp only [g1, Option.bind_some, k1]
  exact ⟨_, rfl, ⟨g3, g4⟩, k2⟩
theorem dAdd (code : List UInt8) (N : Nat) (hN : 3100 < N) : ∃ v, s_DrawAddAbbr N code = some v ∧ (v.1.length ≤ 31 ∧ ∀ x ∈ v.1, SzB x) ∧ SzB v.2 := by
  unfold s_DrawAddAbbr
  rw [fromA, Option.bind_some]
  obtain ⟨r, g1, g2, g3, g4⟩ := dABent (code := code) (hi := 0) (s := L00Src.mk code 0 0) ⟨rfl, Int.le_refl _, Int.le_refl _⟩ (by omega) N hN
  obtain ⟨x, k1, k2, k3, k4⟩ := dANew (code := code) (hi := 50) (s := L00Src.mk code r.2.at_ r.2.seed) ⟨rfl, g2.2.1, by have := g2.2.2; show r.2.at_ ≤ 50; omega⟩ (by omega)
  rw [g1]
  simp only [Option.bind_some, k1, withK_n]
  exact condE (fun _ => ⟨_, rfl, ⟨g3, g4⟩, by show 2 ≤ 10; omega, by show 5 ≤ 40; omega⟩) fun _ => ⟨_, rfl, ⟨g3, g4⟩, by show x.1.short.length ≤ 10; omega, by show x.1.long.length ≤ 40; omega⟩
theorem dText (code : List UInt8) : ∃ v, s_DrawAbbrText code = some v ∧ SzB v := by
  unfold s_DrawAbbrText
  rw [fromA, Option.bind_some]
  obtain ⟨x, k1, k2, k3, k4⟩ := dANew (code := code) (hi := 0) (s := L00Src.mk code 0 0) ⟨rfl, Int.le_refl _, Int.le_refl _⟩ (by omega)
  rw [k1]
  exact ⟨_, rfl, by omega, by omega⟩
theorem Spoil_ok {code : List UInt8} {hi : Int} (s : L00Src) (h : SrcAt code hi s) (hb : hi ≤ 1000000) (t : Str) (ht : t.length ≤ 150) : ∃ v, s_l01Spoil s t = some v ∧ v.1.length ≤ 160 := by
  unfold s_l01Spoil
  simp only [withK_n]
  refine bindE (pickA 5 h (by omega)) fun v1 h1 => ?_
  refine condE (fun _ => ?_) fun _ => condE (fun _ => ?_) fun _ => ⟨_, rfl, by show t.length ≤ 160; omega⟩
  · have e : w64 ((t.length : Int) + 1) = (t.length : Int) + 1 := w64_id (by omega) (by omega)
    rw [e]
    refine bindE (pickA _ ⟨h.1, h1.1.2⟩ (by omega)) fun v2 h2 => ?_
    have a := h2.2.2 (by omega)
    have b := h2.2.1
    rw [sub_some t 0 v2.1 (by omega) (by omega) (by omega), Option.bind_some]
    refine bindE (textA _ (by simp) ⟨h.1, h2.1.2⟩ (by omega)) fun v3 h3 => ?_
    have : ∀ x ∈ ([[32], [48], [45], [120], [49], [57], [46]] : List Str), x.length ≤ 1 := by decide
    have hx := this _ h3.2
    have l1 : ((t.drop (0 : Int).toNat).take (v2.1.toNat - (0 : Int).toNat)).length ≤ 150 := by simp; omega
    rw [cat_some _ _ (by unfold LIM; omega), Option.bind_some, sub_some t v2.1 _ (by omega) (by omega) (by omega), Option.bind_some]
    have l2 : ((t.drop v2.1.toNat).take ((t.length : Int).toNat - v2.1.toNat)).length ≤ t.length - v2.1.toNat := by simp <;> omega
    have l3 : ((t.drop (0 : Int).toNat).take (v2.1.toNat - (0 : Int).toNat)).length ≤ v2.1.toNat := by simp; omega
    rw [cat_some _ _ (by unfold LIM; simp only [List.length_append]; omega), Option.bind_some]
    refine ⟨_, rfl, ?_⟩
    simp only [List.length_append]
    omega
  · refine condE (fun c => ?_) fun _ => ⟨_, rfl, by show t.length ≤ 160; omega⟩
    have hpos : 0 < t.length := List.length_pos_iff.2 (by simpa using c)
    refine bindE (pickA _ ⟨h.1, h1.1.2⟩ (by omega)) fun v2 h2 => ?_
    have a := h2.2.2 (by omega)
    have b := h2.2.1
    have e : w64 (v2.1 + 1) = v2.1 + 1 := w64_id (by omega) (by omega)
    rw [e, sub_some t 0 v2.1 (by omega) (by omega) (by omega), Option.bind_some, sub_some t (v2.1 + 1) _ (by omega) (by omega) (by omega), Option.bind_some]
    have l1 : ((t.drop (0 : Int).toNat).take (v2.1.toNat - (0 : Int).toNat)).length ≤ v2.1.toNat := by simp; omega
    have l2 : ((t.drop (v2.1 + 1).toNat).take ((t.length : Int).toNat - (v2.1 + 1).toNat)).length ≤ t.length - v2.1.toNat := by simp; omega
    rw [cat_some _ _ (by unfold LIM; omega), Option.bind_some]
    refine ⟨_, rfl, ?_⟩
    simp only [List.length_append]
    omega
theorem dRead (code : List UInt8) : ∃ v, s_DrawReadAbbr code = some v ∧ v.length ≤ 160 := by
  unfold s_DrawReadAbbr
  rw [fromA, Option.bind_some]
  obtain ⟨x, k1, k2, k3, k4⟩ := dANew (code := code) (hi := 0) (s := L00Src.mk code 0 0) ⟨rfl, Int.le_refl _, Int.le_refl _⟩ (by omega)
  rw [k1]
  simp only [Option.bind_some]
  refine catE (by unfold LIM; simp only [List.length_cons, List.length_nil]; omega) ?_
  refine catE (by unfold LIM; simp only [List.length_append, List.length_cons, List.length_nil]; omega) ?_
  have hl : (x.1.short ++ [61] ++ x.1.long).length ≤ 14 := by simp only [List.length_append, List.length_cons, List.length_nil]; omega
  refine bindE (oneA (code := code) (hi := 0 + 4) 3 ⟨rfl, k2.2⟩ (by omega)) fun v2 h2 => ?_
  refine condE (fun _ => ?_) fun _ => ⟨_, rfl, by omega⟩
  exact bindE (Spoil_ok (code := code) (hi := 0 + 4 + 2) (L00Src.mk code v2.2.at_ v2.2.seed) ⟨rfl, h2.2⟩ (by omega) _ (by omega)) fun v3 h3 => ⟨_, rfl, h3⟩
theorem dSame (code : List UInt8) (N : Nat) (hN : 3100 < N) : ∃ v, s_DrawSameAbbrs N code = some v ∧ v.1.length ≤ 31 := by
  unfold s_DrawSameAbbrs
  rw [fromA, Option.bind_some]
  obtain ⟨r, g1, g2, g3⟩ := dADraw (code := code) (hi := 0) (s := L00Src.mk code 0 0) ⟨rfl, Int.le_refl _, Int.le_refl _⟩ (by omega) N hN
  have hn := g3.n
  rw [g1]
  simp only [Option.bind_some, withK_n]
  refine appE (by simp; unfold LIM; omega) ?_
  rw [List.nil_append]
  have fin : ∀ (a sd : Int) (l : List Abbr), SrcAt code 60 ⟨code, a, sd⟩ → l.length ≤ 31 → ∃ v, ((s_l00Src_one (L00Src.mk code a sd) 5).bind fun r40 =>
      bif r40.1 then
      (app l [(Abbr.mk [] [])]).bind fun l44 =>
      some (r.1, l44)
      else
      some (r.1, l)) = some v ∧ v.1.length ≤ 31 := by
    intro a sd l ha hl
    refine bindE (oneA (hi := 60) 5 ha (by omega)) fun v2 h2 => ?_
    refine condE (fun _ => ?_) fun _ => ⟨_, rfl, by show r.1.length ≤ 31; omega⟩
    exact appE (by simp; unfold LIM; omega) ⟨_, rfl, by show r.1.length ≤ 31; omega⟩
  refine bindE (P := fun x => SrcAt code 50 x.2 ∧ (x.1 = true → 0 < r.1.length)) (condE (fun hd => ?_) fun _ => ?_) fun x hx => ?_
  · refine bindE (oneA (code := code) (hi := 0 + 40) 2 ⟨rfl, g2.2⟩ (by omega)) fun v3 h3 => ?_
    exact ⟨_, rfl, ⟨rfl, h3.2.1, by have := h3.2.2; show v3.2.at_ ≤ _; omega⟩, fun _ => by have := of_decide_eq_true hd; omega⟩
  · exact ⟨_, rfl, ⟨rfl, g2.2.1, by have := g2.2.2; show r.2.at_ ≤ _; omega⟩, fun h => by cases h⟩
  · obtain ⟨⟨x1, x2, x3⟩, x4⟩ := hx
    refine condE (fun hd => ?_) fun _ => ?_
    · have hpos := x4 hd
      rw [show (0 : Int) = ((0 : Nat) : Int) from rfl, idx_lt _ 0 hpos, Option.bind_some]
      refine bindE (textA (code := code) (hi := 50) _ (by decide) ⟨rfl, x2, x3⟩ (by omega)) fun v2 h2 => ?_
      have m1 : ∀ x ∈ ([[], [115]] : List Str), x.length ≤ 1 := by decide
      have k1 := m1 _ h2.2
      have hsz := (vA_szB (g3.v _ (List.getElem_mem hpos))).2
      refine catE (by unfold LIM; omega) ?_
      rw [Option.bind_some]
      exact fin _ _ _ ⟨rfl, h2.1.2.1, by have := h2.1.2.2; show v2.2.at_ ≤ _; omega⟩ (by rw [List.length_set]; omega)
    · exact fin _ _ _ ⟨rfl, x2, by show x.2.at_ ≤ 60; omega⟩ (by omega)
end Go.Proofs.Ytpdcifgphocllaa
