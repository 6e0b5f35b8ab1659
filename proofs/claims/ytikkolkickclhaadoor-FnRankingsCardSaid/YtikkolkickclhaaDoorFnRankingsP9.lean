/-
  Plain lemmas on these functions. No conditions but those that each states.
-/
import Derived.Test.YtikkolkickclhaaDoorFnRankingsP8
namespace Go.Proofs.YtikkolkickclhaaDoor
set_option linter.unusedVariables false
set_option linter.unusedSimpArgs false
/-! What the groups are: equal ones together, better ones before. -/
def EQ (l : List Result) (g : List Int) : Prop := ∀ x ∈ g, ∀ y ∈ g, bt l x y = false
def QG (l : List Result) (G : List (List Int)) : Prop := G.Pairwise fun g h => ∀ x ∈ g, ∀ y ∈ h, bt l x y = true
theorem srt_mid {l : List Result} {A B : List Int} {x : Int} (h : Srt (bt l) (A ++ x :: B)) : (∀ a ∈ A, bt l x a = false) ∧ ∀ b ∈ B, bt l b x = false := by
  unfold Srt at h
  rw [List.pairwise_append, List.pairwise_cons] at h
  exact ⟨fun a ha => h.2.2 a ha x List.mem_cons_self, h.2.1.1⟩
theorem head_in {g : List Int} (h : g ≠ []) : g.headD 0 ∈ g := by
  cases g with
  | nil => exact absurd rfl h
  | cons a r => exact List.mem_cons_self
theorem gof_good (l : List Result) : ∀ (r : List Int) (G : List (List Int)) (g : List Int), Srt (bt l) ((G ++ [g]).flatten ++ r) → g ≠ [] → (∀ h ∈ G ++ [g], EQ l h) → QG l (G ++ [g]) → (∀ h ∈ gof (bt l) G g r, EQ l h) ∧ QG l (gof (bt l) G g r)
  | [], G, g, _, _, h1, h2 => ⟨h1, h2⟩
  | x :: r, G, g, hs, hg, h1, h2 => by
    have hh := head_in hg
    have hE := h1 g (by simp)
    obtain ⟨s1, _⟩ := srt_mid hs
    have hxg : ∀ a ∈ g, bt l x a = false := fun a ha => s1 a (List.mem_flatten.2 ⟨g, by simp, ha⟩)
    have hQ := h2
    unfold QG at hQ
    rw [List.pairwise_append] at hQ
    obtain ⟨q1, _, q3⟩ := hQ
    have hG : ∀ h ∈ G, ∀ z ∈ h, bt l z (g.headD 0) = true := fun h hh2 z hz => q3 h hh2 g List.mem_cons_self z hz _ hh
    have hGx : ∀ h ∈ G, ∀ z ∈ h, bt l z x = true := fun h hh2 z hz => bt_neg l z (g.headD 0) x (hG h hh2 z hz) (hxg _ hh)
    simp only [gof]
    cases hc : bt l (g.headD 0) x with
    | true =>
      rw [cond_true]
      have hgx : ∀ z ∈ g, bt l z x = true := fun z hz => by
        cases h9 : bt l z x with
        | true => rfl
        | false =>
          have := bt_neg l _ _ _ hc h9
          rw [hE _ hh z hz] at this; cases this
      refine gof_good l r (G ++ [g]) [x] (by simpa using hs) (by simp) (fun h hm => ?_) ?_
      · rcases List.mem_append.1 hm with hm | hm
        · exact h1 h hm
        · rw [List.mem_singleton.1 hm]
          intro a ha b hb
          rw [List.mem_singleton.1 ha, List.mem_singleton.1 hb]; exact bt_irr _ _
      · unfold QG
        rw [List.pairwise_append]
        refine ⟨h2, List.pairwise_singleton _ _, fun a ha b hb u hu v hv => ?_⟩
        rw [List.mem_singleton.1 hb] at hv
        rw [List.mem_singleton.1 hv]
        rcases List.mem_append.1 ha with ha | ha
        · exact hGx a ha u hu
        · rw [List.mem_singleton.1 ha] at hu; exact hgx u hu
    | false =>
      rw [cond_false]
      have hxx : ∀ z ∈ g, bt l z x = false := fun z hz => by
        cases h9 : bt l z x with
        | false => rfl
        | true =>
          have := bt_neg l _ _ _ h9 hc
          rw [hE z hz _ hh] at this; cases this
      refine gof_good l r G (g ++ [x]) (by simpa using hs) (by simp) (fun h hm => ?_) ?_
      · rcases List.mem_append.1 hm with hm | hm
        · exact h1 h (List.mem_append_left _ hm)
        · rw [List.mem_singleton.1 hm]
          intro a ha b hb
          rcases List.mem_append.1 ha with ha | ha <;> rcases List.mem_append.1 hb with hb | hb
          · exact hE a ha b hb
          · rw [List.mem_singleton.1 hb]; exact hxx a ha
          · rw [List.mem_singleton.1 ha]; exact hxg b hb
          · rw [List.mem_singleton.1 ha, List.mem_singleton.1 hb]; exact bt_irr _ _
      · unfold QG
        rw [List.pairwise_append]
        refine ⟨q1, List.pairwise_singleton _ _, fun a ha b hb u hu v hv => ?_⟩
        rw [List.mem_singleton.1 hb] at hv
        rcases List.mem_append.1 hv with hv | hv
        · exact q3 a ha g List.mem_cons_self u hu v hv
        · rw [List.mem_singleton.1 hv]; exact hGx a ha u hu
theorem grp_good (l : List Result) : (∀ h ∈ grp l, EQ l h) ∧ QG l (grp l) := by
  have hs := ord_srt l
  unfold grp
  split
  · exact ⟨fun h hh => (by cases hh), List.Pairwise.nil⟩
  · next x r h =>
    rw [h] at hs
    refine gof_good l r [] [x] (by simpa using hs) (by simp) (fun g hg => ?_) (List.pairwise_singleton _ _)
    simp only [List.nil_append, List.mem_singleton] at hg
    subst hg
    intro a ha b hb
    rw [List.mem_singleton.1 ha, List.mem_singleton.1 hb]; exact bt_irr _ _
/-- so many are better -/
def cb (l : List Result) (x : Int) : Nat := (rng l.length).countP fun z => bt l z x
theorem cb_ord (l : List Result) (x : Int) : cb l x = (ord l).countP fun z => bt l z x := ((ord_perm l).countP_eq _).symm
theorem cnt_all {α : Type} (f : α → Bool) : ∀ l : List α, (∀ x ∈ l, f x = true) → l.countP f = l.length
  | [], _ => rfl
  | x :: r, h => by
    rw [List.countP_cons, h x List.mem_cons_self, cnt_all f r fun y hy => h y (List.mem_cons_of_mem _ hy)]
    rfl
theorem cnt_none {α : Type} (f : α → Bool) (l : List α) (h : ∀ x ∈ l, f x = false) : l.countP f = 0 := List.countP_eq_zero.2 fun x hx => by rw [h x hx]; decide
theorem cb_grp {l : List Result} {A B : List (List Int)} {g : List Int} (h : grp l = A ++ g :: B) {x : Int} (hx : x ∈ g) : cb l x = A.flatten.length := by
  obtain ⟨h1, h2⟩ := grp_good l
  rw [h] at h1 h2
  unfold QG at h2
  rw [List.pairwise_append, List.pairwise_cons] at h2
  obtain ⟨_, ⟨q2, _⟩, q3⟩ := h2
  have k1 : List.countP (fun z => bt l z x) A.flatten = A.flatten.length := cnt_all _ _ fun z hz => by
    obtain ⟨k, hk, hz⟩ := List.mem_flatten.1 hz
    exact q3 k hk g List.mem_cons_self z hz x hx
  have k2 : List.countP (fun z => bt l z x) g = 0 := cnt_none _ g fun z hz => h1 g (by simp) z hz x hx
  have k3 : List.countP (fun z => bt l z x) B.flatten = 0 := cnt_none _ _ fun z hz => by
    obtain ⟨k, hk, hz⟩ := List.mem_flatten.1 hz
    exact bt_asym l _ _ (q2 k hk x hx z hz)
  rw [cb_ord, ← grp_flat, h, List.flatten_append, List.flatten_cons, List.countP_append, List.countP_append, k1, k2, k3]
  rfl
theorem cb_le {l : List Result} {x y : Int} (h : bt l y x = false) : cb l x ≤ cb l y :=
  List.countP_mono_left fun z _ hz => bt_neg l z x y hz h
theorem cb_at (l : List Result) (i : Nat) (hi : i < (ord l).length) : cb l (ord l)[i] ≤ i := by
  have hs := ord_srt l
  have e : ord l = (ord l).take i ++ (ord l)[i] :: (ord l).drop (i + 1) := by rw [← List.drop_eq_getElem_cons hi, List.take_append_drop]
  rw [cb_ord]
  have h1 : ((ord l).take i).length = i := by rw [List.length_take]; omega
  rw [e] at hs
  obtain ⟨_, s2⟩ := srt_mid hs
  have k1 := List.countP_le_length (p := fun z => bt l z (ord l)[i]) (l := (ord l).take i)
  have k2 : List.countP (fun z => bt l z (ord l)[i]) (ord l) = List.countP (fun z => bt l z (ord l)[i]) ((ord l).take i ++ (ord l)[i] :: (ord l).drop (i + 1)) := by rw [← e]
  rw [k2, List.countP_append, List.countP_cons, bt_irr, cnt_none _ _ s2]
  simp only [Bool.false_eq_true, if_false]
  omega
/-! Places. -/
def plL (l : List Result) : List Int := (rng l.length).map fun x => (cb l x : Int) + 1
theorem plL_len (l : List Result) : (plL l).length = l.length := by unfold plL; rw [List.length_map, rng_len]
theorem rng_at (n i : Nat) (h : i < n) : (rng n)[i]? = some (i : Int) := by
  unfold rng
  rw [List.getElem?_map, List.getElem?_range h]; rfl
theorem plL_at (l : List Result) (i : Nat) (h : i < l.length) : idx (plL l) (i : Int) = some ((cb l i : Int) + 1) := by
  rw [idx_nat]
  unfold plL
  rw [List.getElem?_map, rng_at _ _ h]; rfl
theorem plL_i (l : List Result) (x : Int) (h : 0 ≤ x ∧ x < l.length) : idx (plL l) x = some ((cb l x : Int) + 1) := by
  have := plL_at l x.toNat (by omega)
  rwa [show ((x.toNat : Nat) : Int) = x by omega] at this
def plP : Nat → List (List Int) → List (Int × Int)
  | _, [] => []
  | a, g :: r => g.map (fun i => (i, (a : Int) + 1)) ++ plP (a + g.length) r
theorem plP_keys : ∀ (G : List (List Int)) (a : Nat), (plP a G).map (·.1) = G.flatten
  | [], _ => rfl
  | g :: r, a => by
    simp only [plP, List.map_append, List.map_map, plP_keys r, List.flatten_cons]
    congr 1
    exact (List.map_congr_left (fun _ _ => rfl)).trans (List.map_id g)
theorem plP_mem (l : List Result) : ∀ (B A : List (List Int)), grp l = A ++ B → ∀ x ∈ B.flatten, (x, (cb l x : Int) + 1) ∈ plP A.flatten.length B
  | g :: B, A, h, x, hx => by
    rw [List.flatten_cons] at hx
    simp only [plP]
    rcases List.mem_append.1 hx with hx | hx
    · refine List.mem_append_left _ (List.mem_map.2 ⟨x, hx, ?_⟩)
      rw [cb_grp h hx]
    · refine List.mem_append_right _ ?_
      have := plP_mem l B (A ++ [g]) (by simpa using h) x hx
      rwa [List.flatten_append, List.length_append, show ([g] : List (List Int)).flatten = g by simp] at this
theorem grp_in (l : List Result) {α : Type} (z : α) : ∀ i ∈ (grp l).flatten, 0 ≤ i ∧ i < ((List.replicate l.length z).length : Int) := by
  intro i hi
  rw [grp_flat] at hi
  rw [List.length_replicate]
  exact ord_mem l hi
theorem ord_nodup (l : List Result) : (ord l).Nodup := (ord_perm l).nodup_iff.2 (rng_nodup _)
theorem grp_lens {l : List Result} (hn : l.length ≤ 40) : (grp l).length ≤ 40 ∧ (grp l).flatten.length = l.length := by
  have h2 : (grp l).flatten.length = l.length := by rw [grp_flat, ord_len]
  refine ⟨?_, h2⟩
  have : ∀ G : List (List Int), (∀ g ∈ G, g ≠ []) → G.length ≤ G.flatten.length := by
    intro G
    induction G with
    | nil => intro _; simp
    | cons g r ih =>
      intro h
      have h1 := List.length_pos_iff.2 (h g List.mem_cons_self)
      have h2 := ih fun x hx => h x (List.mem_cons_of_mem _ hx)
      simp only [List.length_cons, List.flatten_cons, List.length_append]
      omega
  have := this (grp l) (grp_ne l)
  omega
theorem plL_set (l : List Result) : setAll (List.replicate l.length 0) (plP 0 (grp l)) = plL l := by
  refine List.ext_getElem? fun i => ?_
  by_cases hi : i < l.length
  · have hm : (i : Int) ∈ (grp l).flatten := by
      rw [grp_flat]
      exact (ord_perm l).mem_iff.2 ((rng_mem _ _).2 ⟨by omega, by omega⟩)
    have h0 : ∀ x ∈ plP 0 (grp l), 0 ≤ x.1 := fun x hx => by
      have : x.1 ∈ (plP 0 (grp l)).map (·.1) := List.mem_map.2 ⟨x, hx, rfl⟩
      rw [plP_keys, grp_flat] at this
      exact (ord_mem l this).1
    rw [setAll_at i _ _ _ h0 (by rw [plP_keys, grp_flat]; exact ord_nodup l) (by rw [List.length_replicate]; exact hi) (plP_mem l (grp l) [] rfl _ hm)]
    have := plL_at l i hi
    rw [idx_nat] at this
    exact this.symm
  · rw [List.getElem?_eq_none (by rw [setAll_len, List.length_replicate]; omega), List.getElem?_eq_none (by rw [plL_len]; omega)]
theorem ties_at (A : List (List Int)) (g : List Int) (B : List (List Int)) : idx (tiesOf 0 (A ++ g :: B)) (A.length : Int) = some ⟨(A.flatten.length : Int) + 1, g⟩ := by
  rw [idx_nat, ties_app, List.getElem?_append_right (by rw [ties_len]; exact Nat.le_refl _), ties_len, Nat.sub_self, Nat.zero_add]
  rfl
theorem grp_at (A : List (List Int)) (g : List Int) (B : List (List Int)) : idx (A ++ g :: B) (A.length : Int) = some g := by
  rw [idx_nat, List.getElem?_append_right (Nat.le_refl _), Nat.sub_self]
  rfl
theorem pl_i2 (kj : List Int → Option (List Int × Int)) (e24 : Tied) (hg : e24.list.length ≤ 100) : ∀ (q x N : Nat) (o : List Int), x + q = e24.list.length → q < N → (∀ i ∈ e24.list, 0 ≤ i ∧ i < o.length) → i_PlacesOfResults_l2 kj e24 N o (x : Int) = kj (setAll o ((e24.list.drop x).map fun i => (i, e24.place))) := by
  intro q
  induction q with
  | zero =>
    intro x N o h1 h2 _
    obtain ⟨N, rfl⟩ := pos_fuel h2
    have hz : ¬ (x : Int) < (e24.list.length : Int) := by omega
    rw [List.drop_eq_nil_of_le (by omega)]
    simp only [i_PlacesOfResults_l2, hz, decide_false, cond_false, List.map_nil, setAll]
  | succ q ih =>
    intro x N o h1 h2 h3
    obtain ⟨N, rfl⟩ := pos_fuel h2
    have hx : x < e24.list.length := by omega
    have hz : (x : Int) < (e24.list.length : Int) := by omega
    obtain ⟨b1, b2⟩ := h3 _ (List.getElem_mem hx)
    rw [drop_cons _ x hx]
    simp only [i_PlacesOfResults_l2, hz, decide_true, cond_true, idx_lt _ x hx, Option.bind_some, idx_int o _ b1 b2, w64_nat x (by omega), List.map_cons, setAll]
    exact ih (x + 1) N _ (by omega) (by omega) (fun i hi => by rw [List.length_set]; exact h3 i hi)
theorem pl_i1 (kj : List Int → Option (List Int × Int)) : ∀ (B A : List (List Int)) (o : List Int) (N : Nat), (A ++ B).length ≤ 100 → (A ++ B).flatten.length ≤ 100 → B.length + 150 < N → (∀ i ∈ B.flatten, 0 ≤ i ∧ i < o.length) →
    i_PlacesOfResults_l1 kj (tiesOf 0 (A ++ B)) N o (A.length : Int) = kj (setAll o (plP A.flatten.length B))
  | [], A, o, N, h1, h2, h3, h4 => by
    obtain ⟨N, rfl⟩ := pos_fuel h3
    have hz : ¬ (A.length : Int) < ((tiesOf 0 (A ++ [])).length : Int) := by rw [ties_len]; simp
    simp only [i_PlacesOfResults_l1, hz, decide_false, cond_false, plP, setAll]
  | g :: B, A, o, N, h1, h2, h3, h4 => by
    obtain ⟨N, rfl⟩ := pos_fuel h3
    simp only [List.flatten_append, List.flatten_cons, List.length_append, List.length_cons] at h1 h2 h3
    have hz : (A.length : Int) < ((tiesOf 0 (A ++ g :: B)).length : Int) := by rw [ties_len]; simp; omega
    have hg : ∀ i ∈ g, 0 ≤ i ∧ i < o.length := fun i hi => h4 i (by rw [List.flatten_cons]; exact List.mem_append_left _ hi)
    have ea : (A ++ [g]).flatten.length = A.flatten.length + g.length := by simp
    have el : (A ++ [g]).length = A.length + 1 := by simp
    have ec : A ++ g :: B = (A ++ [g]) ++ B := by simp
    have hB : ∀ i ∈ B.flatten, 0 ≤ i ∧ i < (setAll o (g.map fun i => (i, (A.flatten.length : Int) + 1))).length := fun i hi => by
      rw [setAll_len]; exact h4 i (by rw [List.flatten_cons]; exact List.mem_append_right _ hi)
    have i1 := pl_i1 kj B (A ++ [g]) (setAll o (g.map fun i => (i, (A.flatten.length : Int) + 1))) N (by rw [List.length_append, el]; omega) (by rw [List.flatten_append, List.length_append, ea]; omega) (by omega) hB
    rw [ea, el, ← ec] at i1
    simp only [i_PlacesOfResults_l1, hz, decide_true, cond_true, withK_n, ties_at, Option.bind_some, w64_nat A.length (by omega), plP, setAll_app]
    have := fun kj => pl_i2 kj ⟨(A.flatten.length : Int) + 1, g⟩ (by show g.length ≤ 100; omega) g.length 0 N o (by show 0 + g.length = g.length; omega) (by omega) hg
    rw [show (0 : Int) = ((0 : Nat) : Int) from rfl, this]
    exact i1
theorem place_s (l : List Result) (hn : l.length ≤ 40) (k : Nat) (hk : k < l.length) (N : Nat) (hN : 100 < N) : s_l22Place N l (k : Int) = some ((cb l k : Int) + 1) := by
  have loop : ∀ (q i N : Nat), i + q = l.length → q < N → s_l22Place_l1 (fun n => some n) l (k : Int) N (((rng i).countP fun z => bt l z k : Nat) + 1 : Int) (i : Int) = some ((cb l k : Int) + 1) := by
    intro q
    induction q with
    | zero =>
      intro i N h1 h2
      obtain ⟨N, rfl⟩ := pos_fuel h2
      have hz : ¬ (i : Int) < (l.length : Int) := by omega
      have e : i = l.length := by omega
      simp only [s_l22Place_l1, hz, decide_false, cond_false]
      rw [e]; rfl
    | succ q ih =>
      intro i N h1 h2
      obtain ⟨N, rfl⟩ := pos_fuel h2
      have hi : i < l.length := by omega
      have hz : (i : Int) < (l.length : Int) := by omega
      have hc := List.countP_le_length (p := fun z => bt l z k) (l := rng i)
      rw [rng_len] at hc
      have ih := ih (i + 1) N (by omega) (by omega)
      have e1 : (rng (i + 1)).countP (fun z => bt l z k) = (rng i).countP (fun z => bt l z k) + (bif bt l i k then 1 else 0) := by
        rw [rng_succ, List.countP_append, List.countP_singleton]
        cases bt l i k <;> rfl
      rw [e1] at ih
      simp only [s_l22Place_l1, hz, decide_true, cond_true, withK_n, idx_lt l i hi, idx_lt l k hk, Option.bind_some, (bt_at l i k hi hk).2, w64_nat i (by omega)]
      rw [← ih]
      cases bt l i k with
      | false => simp only [cond_false, Nat.add_zero]
      | true =>
        simp only [cond_true]
        rw [w64_id (by omega) (by omega)]
        congr 1
  unfold s_l22Place
  rw [withK_n]
  exact loop l.length 0 N (by omega) (by omega)
theorem pl_s1 (l : List Result) (hn : l.length ≤ 40) (kj : List Int → Option (List Int × Int)) : ∀ (q i N : Nat), i + q = l.length → q + 150 < N → s_PlacesOfResults_l1 kj l N ((rng i).map fun x => (cb l x : Int) + 1) (i : Int) = kj (plL l) := by
  intro q
  induction q with
  | zero =>
    intro i N h1 h2
    obtain ⟨N, rfl⟩ := pos_fuel h2
    have hz : ¬ (i : Int) < (l.length : Int) := by omega
    have e : i = l.length := by omega
    simp only [s_PlacesOfResults_l1, hz, decide_false, cond_false]
    rw [e]; rfl
  | succ q ih =>
    intro i N h1 h2
    obtain ⟨N, rfl⟩ := pos_fuel h2
    have hi : i < l.length := by omega
    have hz : (i : Int) < (l.length : Int) := by omega
    simp only [s_PlacesOfResults_l1, hz, decide_true, cond_true, place_s l hn i hi N (by omega), Option.bind_some]
    rw [app_some _ _ (by rw [List.length_map, rng_len]; simp; unfold LIM; omega), Option.bind_some, w64_nat i (by omega), ← ih (i + 1) N (by omega) (by omega), rng_succ, List.map_append]
    rfl
theorem places_ok (l : List Result) (hl : l.length ≤ 50) (N : Nat) (hN : 1000 < N) : ∃ (o : List Int) (c : Int), i_PlacesOfResults N l = some (o, c) ∧ s_PlacesOfResults N l = some (o, c) ∧ o.length ≤ 50 ∧ (vR l = true → o = plL l) := by
  obtain ⟨v1, v2⟩ := valid_ok l (by omega) N (by omega)
  unfold i_PlacesOfResults s_PlacesOfResults
  rw [v1, v2]
  simp only [Option.bind_some]
  cases hv : vR l with
  | false => exact ⟨[], 1, rfl, rfl, by simp, fun h => by cases h⟩
  | true =>
    have hn := vR_len hv
    obtain ⟨g1, g2⟩ := ties_ok hn N (by omega)
    obtain ⟨g3, g4⟩ := grp_lens hn
    have h := fun kj => pl_i1 kj (grp l) [] (List.replicate l.length 0) N (by rw [List.nil_append]; omega) (by rw [List.nil_append]; omega) (by omega) (grp_in l _)
    have h2 := fun kj => pl_s1 l hn kj l.length 0 N (by omega) (by omega)
    refine ⟨plL l, 0, ?_, ?_, by rw [plL_len]; omega, fun _ => rfl⟩
    · simp only [Bool.not_true, cond_false]
      rw [mk_some _ _ (by unfold LIM; omega), Option.bind_some, withK_n, g1, Option.bind_some]
      have := h (fun l10 => some (l10, 0))
      rw [show ([] : List (List Int)).flatten.length = 0 from rfl, plL_set] at this
      exact this
    · simp only [Bool.not_true, cond_false, withK_n]
      exact h2 _
end Go.Proofs.YtikkolkickclhaaDoor
