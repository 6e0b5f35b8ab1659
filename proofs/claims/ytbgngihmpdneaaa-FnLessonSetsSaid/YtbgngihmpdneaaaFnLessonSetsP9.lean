/-
  Plain lemmas on these functions. No conditions but those that each states.
-/
import Derived.Test.YtbgngihmpdneaaaFnLessonSetsP8
namespace Go.Proofs.Ytbgngihmpdneaaa
set_option linter.unusedVariables false
set_option linter.unusedSimpArgs false
/-! Letters that are known, and those that are missing. -/
theorem sub1 {α : Type} (l : List α) (i : Nat) (h : i < l.length) : sub l (i : Int) ((i + 1 : Nat) : Int) = some [l[i]] := by
  rw [sub_some _ _ _ (by omega) (by omega) (by omega), Int.toNat_natCast, Int.toNat_natCast, Nat.add_sub_cancel_left, List.drop_eq_getElem_cons h]
  rfl
theorem ris_len {o : Str} (h : Ris o) : o.length ≤ 256 := by
  have h1 : (o.map (·.toNat)).Nodup := by
    unfold List.Nodup
    rw [List.pairwise_map]
    exact h.imp (fun h => by omega)
  have := pigeon 256 (o.map (·.toNat)) h1 (fun x hx => by
    obtain ⟨c, _, rfl⟩ := List.mem_map.1 hx
    exact c.toNat_lt)
  rwa [List.length_map] at this
def putL_ (o s : Str) : Str := s.foldl putC o
theorem known_l2 (L : List Lesson) (hL : GL L) (k : Int) (hk : 0 ≤ k) (x : Lesson) (hx : L[k.toNat]? = some x) (K1 : List Bool → Option (List Bool)) (K2 : Str → Option Str) : ∀ (q i N : Nat) (t : List Bool) (o : Str), i + q = x.letters.length → q + 1000 < N → Mrk t o →
    ∃ t', Mrk t' (putL_ o (x.letters.drop i)) ∧ i_known_l2 K1 L k x N t (i : Int) = K1 t' ∧ s_l18Known_l2 K2 x N o (i : Int) = K2 (putL_ o (x.letters.drop i)) := by
  have hl := hL.let_ x (List.mem_of_getElem? hx)
  intro q
  induction q with
  | zero =>
    intro i N t o h1 h2 hm
    obtain ⟨N, rfl⟩ := pos_fuel h2
    have hz : ¬ ((i : Int) < (x.letters.length : Int)) := by omega
    rw [List.drop_of_length_le (by omega)]
    exact ⟨t, hm, by simp [i_known_l2, hz], by simp [s_l18Known_l2, hz, putL_]⟩
  | succ q ih =>
    intro i N t o h1 h2 hm
    obtain ⟨N, rfl⟩ := pos_fuel h2
    have hz : (i : Int) < (x.letters.length : Int) := by omega
    have hi : i < x.letters.length := by omega
    have hkl : k.toNat < L.length := (List.getElem?_eq_some_iff.1 hx).1
    have e1 : idx L k = some x := by rw [idx_int L k hk (by omega), ← List.getElem?_eq_getElem hkl]; exact hx
    obtain ⟨b, hb⟩ := hm.idx x.letters[i]
    have hol := ris_len hm.2.1
    have e2 := sub1 x.letters i hi
    obtain ⟨t', g1, g2, g3⟩ := ih (i + 1) N (t.set x.letters[i].toNat true) (putC o x.letters[i]) (by omega) (by omega) (hm.put x.letters[i])
    rw [drop_cons x.letters i hi]
    refine ⟨t', g1, ?_, ?_⟩
    · simp only [i_known_l2, hz, decide_true, cond_true, e1, Option.bind_some, idx_lt x.letters i hi, hb, w64_nat i (by omega), Int.toNat_natCast]
      exact g2
    · simp only [s_l18Known_l2, hz, decide_true, cond_true, e2, Option.bind_some, s_put o x.letters[i] (by omega) N (by omega), w64_nat i (by omega)]
      exact g3
/-- the letters of some lessons -/
def kno (L : List Lesson) (o : Str) (l : List Int) : Str := l.foldl (fun o k => match L[k.toNat]? with | some x => putL_ o x.letters | none => o) o
theorem known_l1 (L : List Lesson) (hL : GL L) (l : List Int) (h : RS L l) (K1 : List Bool → Option (List Bool)) (K2 : Str → Option Str) : ∀ (q i N : Nat) (t : List Bool) (o : Str), i + q = l.length → q + 1200 < N → Mrk t o →
    ∃ t', Mrk t' (kno L o (l.drop i)) ∧ i_known_l1 K1 L l N t (i : Int) = K1 t' ∧ s_l18Known_l1 K2 L l N o (i : Int) = K2 (kno L o (l.drop i)) := by
  intro q
  induction q with
  | zero =>
    intro i N t o h1 h2 hm
    obtain ⟨N, rfl⟩ := pos_fuel h2
    have hz : ¬ ((i : Int) < (l.length : Int)) := by omega
    rw [List.drop_of_length_le (by omega)]
    exact ⟨t, hm, by simp [i_known_l1, hz], by simp [s_l18Known_l1, hz, kno]⟩
  | succ q ih =>
    intro i N t o h1 h2 hm
    obtain ⟨N, rfl⟩ := pos_fuel h2
    have hl := h.len hL
    have hz : (i : Int) < (l.length : Int) := by omega
    have hi : i < l.length := by omega
    obtain ⟨h3, h4, h5⟩ := h.at hi
    have hx : L[l[i].toNat]? = some L[l[i].toNat] := List.getElem?_eq_getElem h4
    have hl2 := hL.let_ _ (List.getElem_mem h4)
    obtain ⟨t1, g1, g2, g3⟩ := known_l2 L hL l[i] h3 L[l[i].toNat] hx (fun l14 => i_known_l1 K1 L l N l14 (w64 ((i : Int) + 1))) (fun out13 => s_l18Known_l1 K2 L l N out13 (w64 ((i : Int) + 1))) L[l[i].toNat].letters.length 0 N t o (by omega) (by omega) hm
    rw [show ((0 : Nat) : Int) = 0 from rfl] at g2 g3
    rw [List.drop_zero] at g1 g3
    obtain ⟨t', k1, k2, k3⟩ := ih (i + 1) N t1 _ (by omega) (by omega) g1
    rw [drop_cons l i hi]
    have e : kno L o (l[i] :: l.drop (i + 1)) = kno L (putL_ o L[l[i].toNat].letters) (l.drop (i + 1)) := by simp only [kno, List.foldl_cons, hx]
    rw [e]
    refine ⟨t', k1, ?_, ?_⟩
    · simp only [i_known_l1, hz, decide_true, cond_true, withK_n, idx_lt l i hi, Option.bind_some, h5, hx]
      rw [g2, w64_nat i (by omega)]; exact k2
    · simp only [s_l18Known_l1, hz, decide_true, cond_true, withK_n, idx_lt l i hi, Option.bind_some, h5, hx]
      rw [g3, w64_nat i (by omega)]; exact k3
theorem known_ok (L : List Lesson) (hL : GL L) (l : List Int) (h : RS L l) (N : Nat) (hN : 1300 < N) : ∃ t, Mrk t (kno L [] l) ∧ i_known N L l = some t ∧ s_l18Known N L l = some (kno L [] l) := by
  have := h.len hL
  obtain ⟨t, h1, h2, h3⟩ := known_l1 L hL l h (fun l8 => some l8) (fun o => some o) l.length 0 N (List.replicate 256 false) [] (by omega) (by omega) Mrk.nil
  rw [List.drop_zero] at h1 h3
  refine ⟨t, h1, ?_, ?_⟩
  · unfold i_known; rw [withK_n]; exact h2
  · unfold s_l18Known; rw [withK_n]; exact h3
def tyB (o : Str) (c : UInt8) : Bool := c == 32 || o.contains c
theorem mrk_get {t : List Bool} {o : Str} (h : Mrk t o) (c : UInt8) : idx t (c.toNat : Int) = some (o.contains c) := by
  have hc : c.toNat < t.length := by rw [h.1]; exact c.toNat_lt
  rw [idx_lt t c.toNat hc]
  have := h.2.2 c
  rw [List.getElem?_eq_getElem hc, Option.getD_some] at this
  refine congrArg some ?_
  rw [Bool.eq_iff_iff, this, List.contains_iff_mem]
theorem typ_l1 (t : List Bool) (o : Str) (h : Mrk t o) (s : Str) (hs : s.length ≤ 1000) : ∀ (q i N : Nat), i + q = s.length → q < N → i_typable_l1 (some true) s t N (i : Int) = some ((s.drop i).all (tyB o)) := by
  intro q
  induction q with
  | zero =>
    intro i N h1 h2
    obtain ⟨N, rfl⟩ := pos_fuel h2
    have hz : ¬ ((i : Int) < (s.length : Int)) := by omega
    rw [List.drop_of_length_le (by omega)]
    simp [i_typable_l1, hz]
  | succ q ih =>
    intro i N h1 h2
    obtain ⟨N, rfl⟩ := pos_fuel h2
    have hz : (i : Int) < (s.length : Int) := by omega
    have hi : i < s.length := by omega
    rw [drop_cons s i hi, List.all_cons]
    simp only [i_typable_l1, hz, decide_true, cond_true, idx_lt s i hi, Option.bind_some, mrk_get h, andO_some, w64_nat i (by omega), ih (i + 1) N (by omega) (by omega), tyB, bne]
    cases (s[i] == 32) <;> cases o.contains s[i] <;> rfl
theorem typ_ok (t : List Bool) (o : Str) (h : Mrk t o) (s : Str) (hs : s.length ≤ 1000) (N : Nat) (hN : 1000 < N) : i_typable N s t = some (s.all (tyB o)) := by
  have := typ_l1 t o h s hs s.length 0 N (by omega) (by omega)
  unfold i_typable
  rw [withK_n]
  exact this
/-- the letters that are missing -/
def misL (o : Str) (m : Str) (c : UInt8) : Str := if tyB o c then m else putC m c
theorem misS_l2 (o : Str) (ho : o.length ≤ 1000) (s : Str) (j : Nat) (hj : j < s.length) (kj : Bool → Option Str) : ∀ (q k N : Nat) (b : Bool), k + q = o.length → q < N → s_l18Missing_l2 kj o s (j : Int) N b (k : Int) = kj (b || (o.drop k).contains s[j]) := by
  intro q
  induction q with
  | zero =>
    intro k N b h1 h2
    obtain ⟨N, rfl⟩ := pos_fuel h2
    have hz : ¬ ((k : Int) < (o.length : Int)) := by omega
    rw [List.drop_of_length_le (by omega)]
    simp [s_l18Missing_l2, hz]
  | succ q ih =>
    intro k N b h1 h2
    obtain ⟨N, rfl⟩ := pos_fuel h2
    have hz : (k : Int) < (o.length : Int) := by omega
    have hk : k < o.length := by omega
    rw [drop_cons o k hk, List.contains_cons]
    simp only [s_l18Missing_l2, hz, decide_true, cond_true, idx_lt o k hk, idx_lt s j hj, Option.bind_some, orO_some, w64_nat k (by omega), ih (k + 1) N _ (by omega) (by omega)]
    rw [BEq.comm (a := o[k]), Bool.or_assoc]
theorem mis_l1 (t : List Bool) (o : Str) (h : Mrk t o) (s : Str) (hs : s.length ≤ 500) (K1 : List Bool → Option (Str × Int)) (K2 : Str → Option Str) : ∀ (q i N : Nat) (b : List Bool) (m : Str), i + q = s.length → q + 1001 < N → Mrk b m →
    ∃ b', Mrk b' ((s.drop i).foldl (misL o) m) ∧ i_UntaughtLetters_l1 K1 s t N b (i : Int) = K1 b' ∧ s_l18Missing_l1 K2 o s N m (i : Int) = K2 ((s.drop i).foldl (misL o) m) := by
  have ho := ris_len h.2.1
  intro q
  induction q with
  | zero =>
    intro i N b m h1 h2 hm
    obtain ⟨N, rfl⟩ := pos_fuel h2
    have hz : ¬ ((i : Int) < (s.length : Int)) := by omega
    rw [List.drop_of_length_le (by omega)]
    exact ⟨b, hm, by simp [i_UntaughtLetters_l1, hz], by simp [s_l18Missing_l1, hz]⟩
  | succ q ih =>
    intro i N b m h1 h2 hm
    obtain ⟨N, rfl⟩ := pos_fuel h2
    have hz : (i : Int) < (s.length : Int) := by omega
    have hi : i < s.length := by omega
    have hml := ris_len hm.2.1
    have e2 := sub1 s i hi
    have e3 := fun kj bb => misS_l2 o (by omega) s i hi kj o.length 0 N bb (by omega) (by omega)
    rw [show ((0 : Nat) : Int) = 0 from rfl, List.drop_zero] at e3
    rw [drop_cons s i hi, List.foldl_cons]
    have hmL : misL o m s[i] = if tyB o s[i] then m else putC m s[i] := rfl
    simp only [i_UntaughtLetters_l1, s_l18Missing_l1, hz, decide_true, cond_true, withK_n, idx_lt s i hi, Option.bind_some, mrk_get h, mrk_get hm, andO_some, e3, w64_nat i (by omega), e2, s_put m s[i] (by omega) N (by omega), Int.toNat_natCast]
    have hb : (s[i] != 32 && !o.contains s[i]) = !tyB o s[i] := by simp only [tyB, bne]; cases (s[i] == 32) <;> cases o.contains s[i] <;> rfl
    have hb2 : (s[i] == 32 || o.contains s[i]) = tyB o s[i] := rfl
    rw [hb, hb2, hmL]
    cases tyB o s[i] with
    | true =>
      obtain ⟨b', g1, g2, g3⟩ := ih (i + 1) N b m (by omega) (by omega) hm
      exact ⟨b', g1, g2, g3⟩
    | false =>
      obtain ⟨b', g1, g2, g3⟩ := ih (i + 1) N (b.set s[i].toNat true) (putC m s[i]) (by omega) (by omega) (hm.put s[i])
      exact ⟨b', g1, g2, g3⟩
theorem putC_ne (m : Str) (c : UInt8) : putC m c ≠ [] := by
  have := (putC_mem c c m).2 (.inl rfl)
  intro h
  rw [h] at this
  cases this
theorem misL_nil (o : Str) : ∀ (s m : Str), s.foldl (misL o) m = [] ↔ m = [] ∧ s.all (tyB o) = true
  | [], m => by simp
  | c :: s, m => by
    rw [List.foldl_cons, misL_nil o s, List.all_cons, Bool.and_eq_true]
    unfold misL
    cases h : tyB o c with
    | true => simp
    | false => simp [putC_ne]
def misV (o s : Str) : Str := s.foldl (misL o) []
theorem miss_ok (t : List Bool) (o : Str) (h : Mrk t o) (s : Str) (hs : s.length ≤ 500) (N : Nat) (hN : 2000 < N) : s_l18Missing N o s = some (misV o s) := by
  obtain ⟨b, _, _, h3⟩ := mis_l1 t o h s hs (fun _ => none) (fun o => some o) s.length 0 N _ [] (by omega) (by omega) Mrk.nil
  unfold s_l18Missing
  rw [withK_n]
  exact h3
theorem misV_nil (o s : Str) : (misV o s == []) = s.all (tyB o) := by
  rw [Bool.eq_iff_iff, beq_iff_eq]
  unfold misV
  rw [misL_nil]; simp
/-- hours -/
def hsum (L : List Lesson) (l : List Int) : Int := (l.map fun k => match L[k.toNat]? with | some x => x.hours | none => 0).sum
theorem hsum_cons (L : List Lesson) (k : Int) (l : List Int) : hsum L (k :: l) = (match L[k.toNat]? with | some x => x.hours | none => 0) + hsum L l := by simp [hsum]
theorem hsum_bd (L : List Lesson) (hL : GL L) : ∀ (l : List Int), 0 ≤ hsum L l ∧ hsum L l ≤ 100 * (l.length : Int)
  | [] => by simp [hsum]
  | k :: l => by
    have := hsum_bd L hL l
    rw [hsum_cons, List.length_cons]
    cases hx : L[k.toNat]? with
    | none => simp only; omega
    | some x => have := hL.hrs x (List.mem_of_getElem? hx); simp only; omega
theorem hours_l1 (L : List Lesson) (hL : GL L) (l : List Int) (h : RS L l) (kj : Int → Option Int) : ∀ (q i N : Nat) (sm : Int), i + q = l.length → q < N → 0 ≤ sm → sm ≤ 100 * (i : Int) → i_hours_l1 kj L l N sm (i : Int) = kj (sm + hsum L (l.drop i)) ∧ s_l18Hours_l1 kj L l N sm (i : Int) = kj (sm + hsum L (l.drop i)) := by
  intro q
  induction q with
  | zero =>
    intro i N sm h1 h2 _ _
    obtain ⟨N, rfl⟩ := pos_fuel h2
    have hz : ¬ ((i : Int) < (l.length : Int)) := by omega
    rw [List.drop_of_length_le (by omega)]
    simp [i_hours_l1, s_l18Hours_l1, hz, hsum]
  | succ q ih =>
    intro i N sm h1 h2 h6 h7
    obtain ⟨N, rfl⟩ := pos_fuel h2
    have hl := h.len hL
    have hz : (i : Int) < (l.length : Int) := by omega
    have hi : i < l.length := by omega
    obtain ⟨h3, h4, h5⟩ := h.at hi
    have hx : L[l[i].toNat]? = some L[l[i].toNat] := List.getElem?_eq_getElem h4
    have hh := hL.hrs _ (List.getElem_mem h4)
    rw [drop_cons l i hi]
    have e : hsum L (l[i] :: l.drop (i + 1)) = L[l[i].toNat].hours + hsum L (l.drop (i + 1)) := by rw [hsum_cons, hx]
    have e2 : w64 (sm + L[l[i].toNat].hours) = sm + L[l[i].toNat].hours := w64_id (by omega) (by omega)
    obtain ⟨g1, g2⟩ := ih (i + 1) N (sm + L[l[i].toNat].hours) (by omega) (by omega) (by omega) (by omega)
    simp only [i_hours_l1, s_l18Hours_l1, hz, decide_true, cond_true, idx_lt l i hi, Option.bind_some, h5, hx, e2, w64_nat i (by omega), g1, g2, e, Int.add_assoc]
    exact ⟨trivial, trivial⟩
theorem hours_ok (L : List Lesson) (hL : GL L) (l : List Int) (h : RS L l) (N : Nat) (hN : 20 < N) : i_hours N L l = some (hsum L l) ∧ s_l18Hours N L l = some (hsum L l) := by
  have := h.len hL
  obtain ⟨h1, h2⟩ := hours_l1 L hL l h (fun s => some s) l.length 0 N 0 (by omega) (by omega) (by omega) (by omega)
  rw [show ((0 : Nat) : Int) = 0 from rfl] at h1 h2
  rw [List.drop_zero, Int.zero_add] at h1 h2
  unfold i_hours s_l18Hours
  rw [withK_n, withK_n]
  exact ⟨h1, h2⟩
/-- which of two lists comes first -/
theorem cmp_l1 (a b : List Int) (hab : a.length = b.length) (hl : a.length ≤ 100) : ∀ (q i N : Nat), i + q = a.length → q < N → ∃ v : Int, i_compareNumbers_l1 (some 0) a b N (i : Int) = some v ∧ s_l18Less_l1 (some false) a b N (i : Int) = some (decide (v < 0)) := by
  intro q
  induction q with
  | zero =>
    intro i N h1 h2
    obtain ⟨N, rfl⟩ := pos_fuel h2
    have hz : ¬ ((i : Int) < (a.length : Int)) := by omega
    exact ⟨0, by simp [i_compareNumbers_l1, hz], by simp [s_l18Less_l1, hz]⟩
  | succ q ih =>
    intro i N h1 h2
    obtain ⟨N, rfl⟩ := pos_fuel h2
    have hz : (i : Int) < (a.length : Int) := by omega
    have hz2 : (i : Int) < (b.length : Int) := by omega
    have hi : i < a.length := by omega
    have hi2 : i < b.length := by omega
    obtain ⟨v, g1, g2⟩ := ih (i + 1) N (by omega) (by omega)
    simp only [i_compareNumbers_l1, s_l18Less_l1, hz, hz2, decide_true, cond_true, andO_some, Bool.and_self, idx_lt a i hi, idx_lt b i hi2, Option.bind_some, w64_nat i (by omega), g1, g2]
    rcases Int.lt_trichotomy a[i] b[i] with h | h | h
    · have e : (a[i] != b[i]) = true := by simp; omega
      refine ⟨-1, ?_, ?_⟩
      · simp [h]
      · rw [e]; simp [h]
    · have e : (a[i] != b[i]) = false := by simp [h]
      refine ⟨v, ?_, ?_⟩
      · simp [h]
      · rw [e]; simp
    · have e : (a[i] != b[i]) = true := by simp; omega
      have h' : ¬ a[i] < b[i] := by omega
      refine ⟨1, ?_, ?_⟩
      · simp [h, h']
      · rw [e]; simp [h']
/-- shorter, or first by its numbers -/
theorem less_ok (a b : List Int) (hl : a.length ≤ 100) (hlb : b.length ≤ 100) (N : Nat) (hN : 200 < N) : ∃ v : Bool, s_l18Less N a b = some v ∧
    (orO (decide ((List.length a : Int) < (List.length b : Int))) ((andO ((List.length a : Int) == (List.length b : Int)) ((i_compareNumbers N a b).bind fun r87 => some (decide (r87 < 0)))).bind fun t84 => some t84)) = some v := by
  by_cases h : a.length = b.length
  · obtain ⟨v, h1, h2⟩ := cmp_l1 a b h hl a.length 0 N (by omega) (by omega)
    have e1 : ((a.length : Int) != (b.length : Int)) = false := by simp [h]
    have e2 : ((a.length : Int) == (b.length : Int)) = true := by simp [h]
    have e3 : decide ((a.length : Int) < (b.length : Int)) = false := decide_eq_false (by omega)
    have e4 : decide ((a.length : Int) > (b.length : Int)) = false := decide_eq_false (by omega)
    refine ⟨decide (v < 0), ?_, ?_⟩
    · unfold s_l18Less
      rw [e1, cond_false, withK_n]; exact h2
    · rw [e3, e2, orO_false, andO_true]
      unfold i_compareNumbers
      rw [withK_n, e3, e4]
      simp only [cond_false]
      rw [show (0 : Int) = ((0 : Nat) : Int) from rfl] at h1 ⊢
      rw [h1]; rfl
  · have e1 : ((a.length : Int) != (b.length : Int)) = true := by simp; omega
    have e2 : ((a.length : Int) == (b.length : Int)) = false := by simp; omega
    refine ⟨decide ((a.length : Int) < (b.length : Int)), ?_, ?_⟩
    · unfold s_l18Less
      rw [e1, cond_true]
    · rw [e2, andO_false]
      cases decide ((a.length : Int) < (b.length : Int)) <;> rfl
end Go.Proofs.Ytbgngihmpdneaaa
