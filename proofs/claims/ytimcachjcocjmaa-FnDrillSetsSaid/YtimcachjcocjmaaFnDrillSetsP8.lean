/-
  Plain lemmas on these functions. No conditions but those that each states.
-/
import Derived.Test.YtimcachjcocjmaaFnDrillSetsP7
namespace Go.Proofs.Ytimcachjcocjmaa
set_option linter.unusedVariables false
set_option linter.unusedSimpArgs false
/-! Drawn drills are valid. -/
def nms : List Str := [[104, 111, 109, 101], [116, 111, 112], [108, 111, 119], [116, 104, 117, 109, 98], [109, 105, 120, 45, 49], [109, 105, 120, 45, 50]]
def txs : List Str := [[102, 106], [97, 115, 100, 102], [101, 105], [114, 116, 121, 117], [122, 120, 99], [110, 109, 44, 46], [126, 33], [103, 104, 97, 101, 105]]
theorem nm_i (N : Nat) : ∀ s ∈ nms, i_IsName (N + 20) s = some true := by
  intro s hs
  simp only [nms, List.mem_cons, List.not_mem_nil, or_false] at hs
  rcases hs with rfl | rfl | rfl | rfl | rfl | rfl <;> rfl
theorem nm_s (N : Nat) : ∀ s ∈ nms, s_IsName (N + 20) s = some true := by
  intro s hs
  simp only [nms, List.mem_cons, List.not_mem_nil, or_false] at hs
  rcases hs with rfl | rfl | rfl | rfl | rfl | rfl <;> rfl
theorem tx_i (N : Nat) : ∀ s ∈ txs, i_isText (N + 20) s 33 8 = some true := by
  intro s hs
  simp only [txs, List.mem_cons, List.not_mem_nil, or_false] at hs
  rcases hs with rfl | rfl | rfl | rfl | rfl | rfl | rfl | rfl <;> rfl
theorem tx_s (N : Nat) : ∀ s ∈ txs, s_l17Text (N + 20) s 8 = some true := by
  intro s hs
  simp only [txs, List.mem_cons, List.not_mem_nil, or_false] at hs
  rcases hs with rfl | rfl | rfl | rfl | rfl | rfl | rfl | rfl <;> rfl
theorem tx_nd : ∀ s ∈ txs, s.Nodup ∧ s ≠ [] ∧ s.length ≤ 8 := by decide
theorem nd_inj {s : Str} (h : s.Nodup) (i j : Nat) (hi : i < s.length) (hj : j < s.length) (e : s[i] = s[j]) : i = j := by
  have hp := List.pairwise_iff_getElem.1 h
  rcases Nat.lt_trichotomy i j with g | g | g
  · exact absurd e (hp i j hi hj g)
  · exact g
  · exact absurd e.symm (hp j i hj hi g)
theorem vd_l1 (d : Drill) (hd : d.letters.Nodup) (hl : d.letters.length ≤ 100) : ∀ (n i N : Nat) (t : List Bool) , i + n = d.letters.length → n < N → Tb t (d.letters.take i) → i_validDrill_l1 (some true) d N t (i : Int) = some true := by
  intro n
  induction n with
  | zero =>
    intro i N t hi hN h
    obtain ⟨N, rfl⟩ := pos_fuel hN
    have hz : ¬ (i : Int) < (d.letters.length : Int) := by omega
    simp only [i_validDrill_l1, hz, decide_false, cond_false]
  | succ n ih =>
    intro i N t hi hN h
    obtain ⟨N, rfl⟩ := pos_fuel hN
    have hz : (i : Int) < (d.letters.length : Int) := by omega
    have hlt : i < d.letters.length := by omega
    have hnm : d.letters[i] ∉ d.letters.take i := by
      intro hm
      obtain ⟨j, hj, e⟩ := List.getElem_of_mem hm
      rw [List.length_take] at hj
      rw [List.getElem_take] at e
      have := nd_inj hd j i (by omega) hlt e
      omega
    simp only [i_validDrill_l1, hz, decide_true, cond_true]
    rw [idx_lt d.letters i hlt, w64_nat i (by omega)]
    simp only [Option.bind_some, h.idx, hnm, decide_false, cond_false, Int.toNat_natCast]
    refine ih (i + 1) N _ (by omega) (by omega) ?_
    rw [List.take_succ_eq_append_getElem hlt]
    exact h.put _
/-- a drill that is drawn -/
def GOne (d : Drill) : Prop := d.name ∈ nms ∧ d.letters ∈ txs ∧ 1 ≤ d.minutes ∧ d.minutes ≤ 20
theorem vd_ok (d : Drill) (h : GOne d) (N : Nat) (hN : 200 < N) : i_validDrill N d = some true := by
  obtain ⟨h1, h2, h3, h4⟩ := h
  obtain ⟨g1, g2, g3⟩ := tx_nd _ h2
  obtain ⟨M, rfl⟩ : ∃ M, N = M + 20 := ⟨N - 20, by omega⟩
  unfold i_validDrill i_between
  have e := vd_l1 d g1 (by omega) d.letters.length 0 (M + 20) (List.replicate 256 false) (by omega) (by omega) (by rw [List.take_zero]; exact Tb.nil)
  rw [show ((0 : Nat) : Int) = 0 from rfl] at e
  have hb : (decide (d.minutes ≥ 1) && decide (d.minutes ≤ 600)) = true := by
    have : d.minutes ≤ 600 := by omega
    simp [h3, this]
  have hne : (d.letters == []) = false := by rw [beq_eq_false_iff_ne]; exact g2
  simp only [nm_i M _ h1, tx_i M _ h2, Option.bind_some, orO_some, andO_some, hb, hne, Bool.not_true, Bool.or_self, cond_false, withK_eq, e]
theorem ix5_l1 (s : Str) (c : UInt8) (hl : s.length ≤ 100) : ∀ (n i N : Nat), i + n = s.length → n < N → ∃ v : Int, s_l05Index_l1 (some (-1)) s c N (i : Int) = some v ∧ ((c ∈ s.drop i ∧ ∃ j, i ≤ j ∧ s[j]? = some c ∧ v = (j : Int) ∧ ∀ k, i ≤ k → k < j → s[k]? ≠ some c) ∨ (c ∉ s.drop i ∧ v = -1)) := by
  intro n
  induction n with
  | zero =>
    intro i N hi hN
    obtain ⟨N, rfl⟩ := pos_fuel hN
    have hz : ¬ (i : Int) < (s.length : Int) := by omega
    simp only [s_l05Index_l1, hz, decide_false, cond_false]
    exact ⟨-1, rfl, .inr ⟨by rw [List.drop_eq_nil_of_le (by omega)]; simp, rfl⟩⟩
  | succ n ih =>
    intro i N hi hN
    obtain ⟨N, rfl⟩ := pos_fuel hN
    have hz : (i : Int) < (s.length : Int) := by omega
    have hlt : i < s.length := by omega
    simp only [s_l05Index_l1, hz, decide_true, cond_true]
    rw [idx_lt s i hlt, Option.bind_some, w64_nat i (by omega), List.drop_eq_getElem_cons hlt]
    cases hc : s[i] == c
    · simp only [cond_false]
      have hne : s[i] ≠ c := by simpa using hc
      obtain ⟨v, e, h⟩ := ih (i + 1) N (by omega) (by omega)
      refine ⟨v, e, ?_⟩
      rcases h with ⟨h1, j, h2, h3, h4, h5⟩ | ⟨h1, h2⟩
      · refine .inl ⟨List.mem_cons_of_mem _ h1, j, by omega, h3, h4, fun k hk hkj => ?_⟩
        by_cases hki : k = i
        · subst hki; rw [List.getElem?_eq_getElem hlt]; simpa using hne
        · exact h5 k (by omega) hkj
      · exact .inr ⟨fun hm => (List.mem_cons.1 hm).elim (fun g => hne g.symm) h1, h2⟩
    · simp only [cond_true]
      have he : s[i] = c := by simpa using hc
      exact ⟨i, rfl, .inl ⟨by rw [he]; exact List.mem_cons_self, i, Nat.le_refl _, by rw [List.getElem?_eq_getElem hlt, he], rfl, fun k h1 h2 => by omega⟩⟩
theorem ix5_mem (s : Str) (c : UInt8) (hl : s.length ≤ 100) (N : Nat) (hN : 200 < N) : ∃ v : Int, s_l05Index N s c = some v ∧ decide (v ≥ 0) = decide (c ∈ s) ∧ (∀ i : Nat, s.Nodup → s[i]? = some c → v = i) := by
  unfold s_l05Index
  simp only [withK_eq]
  obtain ⟨v, e, h⟩ := ix5_l1 s c hl s.length 0 N (by omega) (by omega)
  rw [show ((0 : Nat) : Int) = 0 from rfl] at e
  refine ⟨v, e, ?_, fun i hn hi => ?_⟩
  · rw [List.drop_zero] at h
    rcases h with ⟨h1, j, _, _, h4, _⟩ | ⟨h1, h2⟩
    · subst h4; simp [h1]
    · subst h2; simp [h1]
  · rw [List.drop_zero] at h
    rcases h with ⟨h1, j, _, h3, h4, _⟩ | ⟨h1, h2⟩
    · have hj := lt_of_some h3
      have hi' := lt_of_some hi
      rw [List.getElem?_eq_getElem hj] at h3
      rw [List.getElem?_eq_getElem hi'] at hi
      have e1 := Option.some.inj h3
      have e2 := Option.some.inj hi
      have := nd_inj hn j i hj hi' (e1.trans e2.symm)
      omega
    · exact absurd (List.mem_of_getElem? hi) h1
theorem so_l1 (d : Drill) (hd : d.letters.Nodup) (hl : d.letters.length ≤ 100) (kj : Option Bool) : ∀ (n i N : Nat), i + n = d.letters.length → n + 300 < N → s_l21One_l1 kj d N (i : Int) = kj := by
  intro n
  induction n with
  | zero =>
    intro i N hi hN
    obtain ⟨N, rfl⟩ := pos_fuel (show 0 < N by omega)
    have hz : ¬ (i : Int) < (d.letters.length : Int) := by omega
    simp only [s_l21One_l1, hz, decide_false, cond_false]
  | succ n ih =>
    intro i N hi hN
    obtain ⟨N, rfl⟩ := pos_fuel (show 0 < N by omega)
    have hz : (i : Int) < (d.letters.length : Int) := by omega
    have hlt : i < d.letters.length := by omega
    obtain ⟨v, e, _, h⟩ := ix5_mem d.letters d.letters[i] hl N (by omega)
    have hv := h i hd (List.getElem?_eq_getElem hlt)
    simp only [s_l21One_l1, hz, decide_true, cond_true]
    rw [idx_lt d.letters i hlt, Option.bind_some, e, Option.bind_some, w64_nat i (by omega), hv, bne_self_eq_false, cond_false]
    exact ih (i + 1) N (by omega) (by omega)
theorem so_ok (d : Drill) (h : GOne d) (N : Nat) (hN : 500 < N) : s_l21One N d = some true := by
  obtain ⟨h1, h2, h3, h4⟩ := h
  obtain ⟨g1, g2, g3⟩ := tx_nd _ h2
  unfold s_l21One s_l00In
  simp only [withK_eq]
  rw [show (0 : Int) = ((0 : Nat) : Int) from rfl, so_l1 d g1 (by omega) _ d.letters.length 0 N (by omega) (by omega)]
  obtain ⟨M, rfl⟩ : ∃ M, N = M + 20 := ⟨N - 20, by omega⟩
  have hb : (decide (d.minutes ≥ 1) && decide (d.minutes ≤ 600)) = true := by
    have : d.minutes ≤ 600 := by omega
    simp [h3, this]
  have hne : (d.letters != []) = true := by simpa using g2
  simp only [nm_s M _ h1, tx_s M _ h2, Option.bind_some, andO_some, hb, hne, Bool.and_self]
/-- drawn drills -/
def GL (L : List Drill) : Prop := L.length ≤ 6 ∧ ∀ i, ∀ h : i < L.length, nms[i]? = some L[i].name ∧ GOne L[i]
theorem GL.gd {L : List Drill} (h : GL L) : GD L := ⟨h.1, fun d hd => by
  obtain ⟨i, hi, rfl⟩ := List.getElem_of_mem hd
  have g := (h.2 i hi).2
  exact ⟨(tx_nd _ g.2.1).2.2, g.2.2.1, g.2.2.2⟩⟩
theorem nms_inj : ∀ i : Nat, i < 6 → ∀ j : Nat, j < 6 → nms[i]? = nms[j]? → i = j := by decide
theorem GL.diff {L : List Drill} (h : GL L) (i j : Nat) (hi : i < L.length) (hj : j < L.length) (e : L[i].name = L[j].name) : i = j := by
  have h1 := (h.2 i hi).1
  have h2 := (h.2 j hj).1
  have h6 := h.1
  exact nms_inj i (by omega) j (by omega) (by rw [h1, h2, e])
theorem mget_set (l : List (Str × Bool)) (k s : Str) (v : Bool) : mget (mset l k v) s = if s == k then v else mget l s := by
  induction l with
  | nil => cases h : s == k <;> simp [mset, mget, h]
  | cons x r ih =>
    obtain ⟨a, b⟩ := x
    simp only [mset]
    cases hk : k == a
    · simp only [cond_false, mget, ih]
      cases hs : s == a
      · simp
      · have hsk : (s == k) = false := by
          rw [beq_iff_eq] at hs
          rw [beq_eq_false_iff_ne] at hk ⊢
          exact fun e => hk (e ▸ hs)
        simp [hsk]
    · have e : k = a := by simpa using hk
      subst e
      simp only [cond_true, mget]
      cases hs : s == k <;> simp
theorem vds_l1 (L : List Drill) (h : GL L) : ∀ (n i N : Nat) (mp : List (Str × Bool)), i + n = L.length → n + 300 < N → (∀ s, mget mp s = true → ∃ j, ∃ hj : j < L.length, j < i ∧ L[j].name = s) → i_ValidDrills_l1 (some true) L N mp (i : Int) = some true := by
  have h6 := h.1
  intro n
  induction n with
  | zero =>
    intro i N mp hi hN hm
    obtain ⟨N, rfl⟩ := pos_fuel (show 0 < N by omega)
    have hz : ¬ (i : Int) < (L.length : Int) := by omega
    simp only [i_ValidDrills_l1, hz, decide_false, cond_false]
  | succ n ih =>
    intro i N mp hi hN hm
    obtain ⟨N, rfl⟩ := pos_fuel (show 0 < N by omega)
    have hz : (i : Int) < (L.length : Int) := by omega
    have hlt : i < L.length := by omega
    have hmg : mget mp L[i].name = false := by
      cases hg : mget mp L[i].name
      · rfl
      · obtain ⟨j, hj, hji, e⟩ := hm _ hg
        have := h.diff j i hj hlt e
        omega
    simp only [i_ValidDrills_l1, hz, decide_true, cond_true]
    rw [idx_lt L i hlt, Option.bind_some, vd_ok _ (h.2 i hlt).2 N (by omega), Option.bind_some, w64_nat i (by omega)]
    simp only [Bool.not_true, orO_false, Option.bind_some, hmg, cond_false]
    refine ih (i + 1) N _ (by omega) (by omega) fun s hs => ?_
    rw [mget_set] at hs
    cases he : s == L[i].name
    · rw [he] at hs
      obtain ⟨j, hj, hji, e⟩ := hm s (by simpa using hs)
      exact ⟨j, hj, by omega, e⟩
    · exact ⟨i, hlt, by omega, (eq_of_beq he).symm⟩
theorem vds_ok (L : List Drill) (h : GL L) (N : Nat) (hN : 500 < N) : i_ValidDrills N L = some true := by
  have h6 := h.1
  unfold i_ValidDrills
  have hd : decide ((L.length : Int) ≤ 10) = true := decide_eq_true (by omega)
  simp only [withK_eq, hd]
  exact vds_l1 L h L.length 0 N [] (by omega) (by omega) fun s hs => by cases hs
theorem fnd_l1 (l : List Drill) (nm : Str) (hl : l.length ≤ 100) (hn : ∀ d ∈ l, d.name ≠ nm) : ∀ (n i N : Nat), i + n = l.length → n < N → s_l21Find_l1 (some (-1)) l nm N (i : Int) = some (-1) := by
  intro n
  induction n with
  | zero =>
    intro i N hi hN
    obtain ⟨N, rfl⟩ := pos_fuel hN
    have hz : ¬ (i : Int) < (l.length : Int) := by omega
    simp only [s_l21Find_l1, hz, decide_false, cond_false]
  | succ n ih =>
    intro i N hi hN
    obtain ⟨N, rfl⟩ := pos_fuel hN
    have hz : (i : Int) < (l.length : Int) := by omega
    have hlt : i < l.length := by omega
    have hb : (l[i].name == nm) = false := by rw [beq_eq_false_iff_ne]; exact hn _ (List.getElem_mem hlt)
    simp only [s_l21Find_l1, hz, decide_true, cond_true]
    rw [idx_lt l i hlt, Option.bind_some, w64_nat i (by omega), hb, cond_false]
    exact ih (i + 1) N (by omega) (by omega)
theorem sok_l1 (L : List Drill) (h : GL L) (kj : Option Bool) : ∀ (n i N : Nat), i + n = L.length → n + 600 < N → s_l21Ok_l1 kj L N (i : Int) = kj := by
  have h6 := h.1
  intro n
  induction n with
  | zero =>
    intro i N hi hN
    obtain ⟨N, rfl⟩ := pos_fuel (show 0 < N by omega)
    have hz : ¬ (i : Int) < (L.length : Int) := by omega
    simp only [s_l21Ok_l1, hz, decide_false, cond_false]
  | succ n ih =>
    intro i N hi hN
    obtain ⟨N, rfl⟩ := pos_fuel (show 0 < N by omega)
    have hz : (i : Int) < (L.length : Int) := by omega
    have hlt : i < L.length := by omega
    have hs : sub L 0 (i : Int) = some (L.take i) := by rw [sub_some L 0 i (by omega) (by omega) (by omega)]; simp
    have hf : s_l21Find N (L.take i) L[i].name = some (-1) := by
      unfold s_l21Find
      simp only [withK_eq]
      refine fnd_l1 (L.take i) _ (by rw [List.length_take]; omega) (fun d hd e => ?_) (L.take i).length 0 N (by omega) (by rw [List.length_take]; omega)
      obtain ⟨j, hj, rfl⟩ := List.getElem_of_mem hd
      rw [List.length_take] at hj
      rw [List.getElem_take] at e
      have := h.diff j i (by omega) hlt e
      omega
    simp only [s_l21Ok_l1, hz, decide_true, cond_true]
    rw [idx_lt L i hlt, Option.bind_some, so_ok _ (h.2 i hlt).2 N (by omega), Option.bind_some, hs, w64_nat i (by omega)]
    simp only [Bool.not_true, orO_false, Option.bind_some, hf]
    have hd : decide ((-1 : Int) ≥ 0) = false := rfl
    rw [hd, cond_false]
    exact ih (i + 1) N (by omega) (by omega)
theorem sok_ok (L : List Drill) (h : GL L) (N : Nat) (hN : 700 < N) : s_l21Ok N L = some true := by
  have h6 := h.1
  unfold s_l21Ok
  have hd : decide ((L.length : Int) ≤ 10) = true := decide_eq_true (by omega)
  simp only [withK_eq, hd]
  rw [show (0 : Int) = ((0 : Nat) : Int) from rfl]
  exact sok_l1 L h _ L.length 0 N (by omega) (by omega)
/-! draws -/
theorem new_ok {code : List UInt8} {hi : Int} (s : L00Src) (h : SrcAt code hi s) (hb : hi ≤ 1000000) (nm : Str) (hn : nm ∈ nms) : ∃ v, s_l21New s nm = some v ∧ (GOne v.1 ∧ v.1.name = nm) ∧ SrcAt code (hi + 4) v.2 := by
  unfold s_l21New
  refine bindE (textA (code := code) (hi := hi) _ (by simp) ⟨h.1, h.2⟩ (by omega)) fun v1 g1 => ?_
  refine bindE (pickA (code := code) (hi := hi + 2) 20 ⟨h.1, g1.1.2⟩ (by omega)) fun v2 g2 => ?_
  have a := g2.2.1
  have b := g2.2.2 (by omega)
  have c := g2.1.2.2
  have e : w64 (1 + v2.1) = 1 + v2.1 := w64_id (by omega) (by omega)
  rw [e]
  exact ⟨_, rfl, ⟨⟨hn, g1.2, by show 1 ≤ 1 + v2.1; omega, by show 1 + v2.1 ≤ 20; omega⟩, rfl⟩, h.1, g2.1.2.1, by show v2.2.at_ ≤ _; omega⟩
theorem draw_l1 {code : List UInt8} (s : L00Src) (hs : s.code = code) (kj : Int → Int → List Drill → Option (List Drill × L00Src)) (Q : List Drill × L00Src → Prop) (hk : ∀ a b l, GL l → ∃ r, kj a b l = some r ∧ Q r) : ∀ (n N : Nat) (a sd hi : Int) (l : List Drill), n < N → 0 ≤ a → a ≤ hi → hi + 4 * n ≤ 1000000 → l.length + n ≤ 6 → GL l → ∃ r, s_l21Draw_l1 kj s N a sd l (n : Int) = some r ∧ Q r := by
  intro n
  induction n with
  | zero =>
    intro N a sd hi l hN h0 h1 h2 h3 h4
    obtain ⟨N, rfl⟩ := pos_fuel hN
    have hz : ¬ ((0 : Nat) : Int) > 0 := by omega
    simp only [s_l21Draw_l1, hz, decide_false, cond_false]
    exact hk a sd l h4
  | succ n ih =>
    intro N a sd hi l hN h0 h1 h2 h3 h4
    obtain ⟨N, rfl⟩ := pos_fuel hN
    have hz : ((n + 1 : Nat) : Int) > 0 := by omega
    have e2 : w64 (((n + 1 : Nat) : Int) - 1) = (n : Int) := by rw [w64_id (by omega) (by omega)]; omega
    have hnl : l.length < nms.length := by show l.length < 6; omega
    have hnm : idx nms (l.length : Int) = some nms[l.length] := idx_lt nms _ hnl
    simp only [s_l21Draw_l1, hz, decide_true, cond_true, e2]
    show ∃ r, ((idx nms (l.length : Int)).bind fun e21 => _) = some r ∧ Q r
    rw [hnm, Option.bind_some]
    refine bindE (new_ok (code := code) (hi := hi) (L00Src.mk s.code a sd) ⟨hs, h0, h1⟩ (by omega) _ (List.getElem_mem hnl)) fun v1 g1 => ?_
    obtain ⟨⟨g1, g2⟩, g3⟩ := g1
    refine appE (by unfold LIM; simp; omega) ?_
    refine ih N _ _ (hi + 4) _ (by omega) g3.2.1 g3.2.2 (by omega) (by simp; omega) ⟨by simp; omega, fun i hi' => ?_⟩
    by_cases hil : i < l.length
    · rw [List.getElem_append_left hil]; exact h4.2 i hil
    · have : i = l.length := by simp at hi'; omega
      subst this
      rw [List.getElem_append_right (Nat.le_refl _)]
      simp only [Nat.sub_self, List.getElem_cons_zero]
      exact ⟨by rw [g2, List.getElem?_eq_getElem hnl], g1⟩
theorem drills_ok (code : List UInt8) (N : Nat) (hN : 20 < N) : ∃ L, s_A2Drills N code = some L ∧ GL L := by
  unfold s_A2Drills s_l21Draw
  rw [fromA]
  simp only [Option.bind_some, withK_eq]
  have main : ∃ r, ((s_l00Src_pick (L00Src.mk code 0 0) 7).bind fun r13 => s_l21Draw_l1 (fun (x7 : Int) (x8 : Int) (l9 : List Drill) => some (l9, (L00Src.mk code x7 x8))) (L00Src.mk code 0 0) N r13.2.at_ r13.2.seed [] r13.1) = some r ∧ GL r.1 := by
    refine bindE (pickA (code := code) (hi := 0) 7 ⟨rfl, by show (0 : Int) ≤ 0; omega, by show (0 : Int) ≤ 0; omega⟩ (by omega)) fun v1 g1 => ?_
    have a := g1.2.1
    have b := g1.2.2 (by omega)
    have e : v1.1 = (v1.1.toNat : Int) := by omega
    rw [e]
    exact draw_l1 (code := code) (L00Src.mk code 0 0) rfl _ _ (fun a b l h => ⟨_, rfl, h⟩) v1.1.toNat N _ _ 2 [] (by omega) g1.1.2.1 g1.1.2.2 (by omega) (by simp; omega) ⟨by simp, fun i h => by simp at h⟩
  obtain ⟨r, e, h⟩ := main
  rw [e]
  exact ⟨r.1, rfl, h⟩
end Go.Proofs.Ytimcachjcocjmaa
