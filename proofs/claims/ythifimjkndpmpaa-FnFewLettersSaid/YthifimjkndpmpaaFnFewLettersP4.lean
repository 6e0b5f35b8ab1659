/-
  Plain lemmas on these functions. No conditions but those that each states.
-/
import Derived.Test.YthifimjkndpmpaaFnFewLettersP3
namespace Go.Proofs.Ythifimjkndpmpaa
set_option linter.unusedVariables false
set_option linter.unusedSimpArgs false
/-! The fewest letters. -/
def fa (L : List Writer) (i : Nat) : List TypeFault := (L[i]?.map Writer.faults).getD []
def pr (L : List Writer) (i k : Nat) : List Bool := DF (fa L i) (fa L k)
theorem fa_eq {L : List Writer} {i : Nat} (h : i < L.length) : fa L i = L[i].faults := by simp [fa, List.getElem?_eq_getElem h]
structure PI (L : List Writer) (x y : Nat) (P : List (List Bool)) (m : List Bool) : Prop where
  src : ∀ p ∈ P, ∃ i k, i < L.length ∧ k < i ∧ p = pr L i k ∧ asc p 0 ≠ []
  cov : ∀ i k, i < L.length → k < i → (i < x ∨ i = x ∧ k < y) → pr L i k ∈ P
  ml : m.length = 256
  mr : ∀ j : Nat, m[j]? = some true ↔ ∃ p ∈ P, p[j]? = some true
  pl : P.length ≤ 100 * x + y
theorem few_l2 (L : List Writer) (hW : WOK L) (x : Nat) (hx : x < L.length) (kj : List (List Bool) → List Bool → Option (List Str × Int)) : ∀ (n y N : Nat) (P : List (List Bool)) (m : List Bool), y + n = x → n + 1500 < N → PI L x y P m →
    (i_FewestLetters_l2 kj L (x : Int) N P m (y : Int) = some ([], 9) ∧ ∃ i k, i < L.length ∧ k < i ∧ asc (pr L i k) 0 = []) ∨ ∃ P' m', PI L x x P' m' ∧ i_FewestLetters_l2 kj L (x : Int) N P m (y : Int) = kj P' m' := by
  have hl5 := hW.1
  intro n
  induction n with
  | zero =>
    intro y N P m h1 h2 hI
    obtain ⟨N, rfl⟩ := pos_fuel (by omega : 0 < N)
    have hi : ¬ ((y : Int) < (x : Int)) := by omega
    have e : y = x := by omega
    subst e
    exact .inr ⟨P, m, hI, by simp only [i_FewestLetters_l2, hi, decide_false, cond_false]⟩
  | succ n ih =>
    intro y N P m h1 h2 hI
    obtain ⟨N, rfl⟩ := pos_fuel (by omega : 0 < N)
    have hi : (y : Int) < (x : Int) := by omega
    have hy : y < L.length := by omega
    have fx := (hW.2 x hx).2
    have fy := (hW.2 y hy).2
    have hpr : pr L x y = DF L[x].faults L[y].faults := by unfold pr; rw [fa_eq hx, fa_eq hy]
    have a1 := apart_ok ⟨L[x].name, L[x].faults⟩ ⟨L[y].name, L[y].faults⟩ fx fy N (by omega) Z256 Z_len
    have a2 := apart_ok ⟨L[x].name, L[x].faults⟩ ⟨L[y].name, L[y].faults⟩ fx fy N (by omega) m hI.ml
    have a3 : MK L[x].faults L[y].faults Z256 = pr L x y := hpr.symm
    have a4 := asc_ok (pr L x y) (DF_len _ _) N (by omega)
    simp only [i_FewestLetters_l2, hi, decide_true, cond_true, idx_lt L x hx, idx_lt L y hy, Option.bind_some]
    rw [show List.replicate 256 false = Z256 from rfl]
    simp only [a1, a3, a4, Option.bind_some, a2]
    by_cases he : asc (pr L x y) 0 = []
    · left
      refine ⟨?_, x, y, hx, by omega, he⟩
      rw [he]; rfl
    · have he' : (asc (pr L x y) 0 == ([] : List UInt8)) = false := by simpa using he
      have hpl := hI.pl
      have ab : appB P ([pr L x y] : List (List Bool)) = some (P ++ [pr L x y]) := by unfold appB; rw [if_pos (by simp; omega)]
      have hI2 : PI L x (y + 1) (P ++ [pr L x y]) (MK L[x].faults L[y].faults m) := by
        refine ⟨fun p hp => ?_, fun i k i1 i2 i3 => ?_, by rw [MK_len]; exact hI.ml, fun j => ?_, by simp; omega⟩
        · rcases List.mem_append.1 hp with hp | hp
          · exact hI.src p hp
          · rw [List.mem_singleton] at hp; subst hp
            exact ⟨x, y, hx, by omega, rfl, he⟩
        · by_cases g : i = x ∧ k = y
          · obtain ⟨rfl, rfl⟩ := g; simp
          · exact List.mem_append_left _ (hI.cov i k i1 i2 (by omega))
        · rw [MK_or _ _ _ _ hI.ml, hI.mr j, ← hpr]
          constructor
          · rintro (⟨p, p1, p2⟩ | h)
            · exact ⟨p, List.mem_append_left _ p1, p2⟩
            · exact ⟨pr L x y, by simp, h⟩
          · rintro ⟨p, p1, p2⟩
            rcases List.mem_append.1 p1 with p1 | p1
            · exact .inl ⟨p, p1, p2⟩
            · rw [List.mem_singleton] at p1; subst p1; exact .inr p2
      simp only [he', cond_false, ab, Option.bind_some, w64_nat y (by omega)]
      exact ih (y + 1) N _ _ (by omega) (by omega) hI2
theorem few_l1 (L : List Writer) (hW : WOK L) (kj : List (List Bool) → List Bool → Option (List Str × Int)) : ∀ (n x N : Nat) (P : List (List Bool)) (m : List Bool), x + n = L.length → n + 1600 < N → PI L x 0 P m →
    (i_FewestLetters_l1 kj L N P m (x : Int) = some ([], 9) ∧ ∃ i k, i < L.length ∧ k < i ∧ asc (pr L i k) 0 = []) ∨ ∃ P' m', PI L L.length 0 P' m' ∧ i_FewestLetters_l1 kj L N P m (x : Int) = kj P' m' := by
  have hl5 := hW.1
  intro n
  induction n with
  | zero =>
    intro x N P m h1 h2 hI
    obtain ⟨N, rfl⟩ := pos_fuel (by omega : 0 < N)
    have hi : ¬ ((x : Int) < (L.length : Int)) := by omega
    have e : x = L.length := by omega
    rw [e] at hI
    exact .inr ⟨P, m, hI, by simp only [i_FewestLetters_l1, hi, decide_false, cond_false]⟩
  | succ n ih =>
    intro x N P m h1 h2 hI
    obtain ⟨N, rfl⟩ := pos_fuel (by omega : 0 < N)
    have hi : (x : Int) < (L.length : Int) := by omega
    have hx : x < L.length := by omega
    have h0 := few_l2 L hW x hx (fun (l19 : List (List Bool)) (l21 : List Bool) => i_FewestLetters_l1 kj L N l19 l21 (w64 ((x : Int) + 1))) x 0 N P m (by omega) (by omega) hI
    rw [show ((0 : Nat) : Int) = 0 from rfl] at h0
    simp only [i_FewestLetters_l1, hi, decide_true, cond_true, withK_eq]
    rcases h0 with h0 | ⟨P', m', hI', e⟩
    · exact .inl h0
    · rw [e, w64_nat x (by omega)]
      refine ih (x + 1) N P' m' (by omega) (by omega) ⟨hI'.src, fun i k i1 i2 i3 => hI'.cov i k i1 i2 (by omega), hI'.ml, hI'.mr, by have := hI'.pl; omega⟩
theorem PI.start (L : List Writer) : PI L 0 0 [] Z256 := ⟨fun p hp => (by cases hp), fun i k _ h h2 => (by omega), Z_len, fun j => ⟨fun h => absurd h (Z_get j), fun ⟨p, hp, _⟩ => (by cases hp)⟩, by simp⟩
/-! Choices of places. -/
def InR (n : Nat) (ch : List Int) : Prop := ∀ x ∈ ch, 0 ≤ x ∧ x < (n : Int)
def vl (a : Nat) : List Int → Nat
  | [] => a
  | x :: l => vl (a * 7 + x.toNat) l
theorem vl_lt : ∀ (l : List Int) (a : Nat), (∀ x ∈ l, 0 ≤ x ∧ x < 7) → a * 7 ^ l.length ≤ vl a l ∧ vl a l < (a + 1) * 7 ^ l.length
  | [], a, _ => by simp [vl]
  | x :: l, a, h => by
    have hx := h x (by simp)
    obtain ⟨h1, h2⟩ := vl_lt l (a * 7 + x.toNat) (fun y hy => h y (by simp [hy]))
    have hxn : x.toNat ≤ 6 := by omega
    simp only [vl, List.length_cons, Nat.pow_succ]
    have p1 : a * (7 ^ l.length * 7) = a * 7 * 7 ^ l.length := by rw [Nat.mul_comm (7 ^ l.length) 7, Nat.mul_assoc]
    have p2 : (a + 1) * (7 ^ l.length * 7) = (a + 1) * 7 * 7 ^ l.length := by rw [Nat.mul_comm (7 ^ l.length) 7, Nat.mul_assoc]
    rw [p1, p2]
    refine ⟨Nat.le_trans (Nat.mul_le_mul_right _ (by omega)) h1, Nat.lt_of_lt_of_le h2 (Nat.mul_le_mul_right _ (by omega))⟩
theorem vl_app : ∀ (p q : List Int) (a : Nat), vl a (p ++ q) = vl (vl a p) q
  | [], q, a => rfl
  | x :: p, q, a => by simp only [List.cons_append, vl, vl_app p q]
theorem vl_up (p r r' : List Int) (x : Int) (a : Nat) (hl : r.length = r'.length) (h0 : 0 ≤ x) (hr : ∀ y ∈ r, 0 ≤ y ∧ y < 7) (hr' : ∀ y ∈ r', 0 ≤ y ∧ y < 7) : vl a (p ++ x :: r) < vl a (p ++ (x + 1) :: r') := by
  rw [vl_app, vl_app]
  simp only [vl]
  have h1 := (vl_lt r (vl a p * 7 + x.toNat) hr).2
  have h2 := (vl_lt r' (vl a p * 7 + (x + 1).toNat) hr').1
  rw [← hl] at h2
  have e : vl a p * 7 + (x + 1).toNat = vl a p * 7 + x.toNat + 1 := by omega
  rw [e] at h2 ⊢
  omega
theorem nx_l2 (kj : List Int → Option (Bool × List Int)) : ∀ (n k N : Nat) (l : List Int), k + n = l.length → 0 < k → n < N → l.length ≤ 100 → (∀ x ∈ l, 0 ≤ x ∧ x ≤ 100000 - (n : Int)) →
    ∃ l', l'.length = l.length ∧ (∀ j : Nat, j < k → l'[j]? = l[j]?) ∧ (∀ j : Nat, k ≤ j → j < l.length → ∃ v, l[k - 1]? = some v ∧ l'[j]? = some (v + 1 + ((j - k : Nat) : Int))) ∧ i_nextChoice_l2 kj N l (k : Int) = kj l' := by
  intro n
  induction n with
  | zero =>
    intro k N l h1 h2 h3 h4 h5
    obtain ⟨N, rfl⟩ := pos_fuel h3
    have hi : ¬ ((k : Int) < (l.length : Int)) := by omega
    exact ⟨l, rfl, fun _ _ => rfl, fun j h6 h7 => by omega, by simp [i_nextChoice_l2, hi]⟩
  | succ n ih =>
    intro k N l h1 h2 h3 h4 h5
    obtain ⟨N, rfl⟩ := pos_fuel h3
    have hi : (k : Int) < (l.length : Int) := by omega
    have hk : k < l.length := by omega
    have hv := h5 _ (List.getElem_mem (by omega : k - 1 < l.length))
    have e1 : w64 ((k : Int) - 1) = ((k - 1 : Nat) : Int) := by rw [w64_id (by omega) (by omega)]; omega
    have e2 : w64 (l[k - 1]'(by omega) + 1) = l[k - 1]'(by omega) + 1 := w64_id (by omega) (by omega)
    obtain ⟨l', a1, a2, a3, a4⟩ := ih (k + 1) N (l.set k (l[k - 1]'(by omega) + 1)) (by simp; omega) (by omega) (by omega) (by simpa using h4) (fun x hx => by
      rcases List.mem_or_eq_of_mem_set hx with hx | hx
      · have := h5 x hx; omega
      · rw [hx]; omega)
    simp only [List.length_set] at a1 a3
    have hkk : l'[k]? = some (l[k - 1]'(by omega) + 1) := by rw [a2 k (by omega), List.getElem?_set]; simp [hk]
    refine ⟨l', a1, fun j hj => ?_, fun j hj hj2 => ⟨l[k - 1]'(by omega), List.getElem?_eq_getElem _, ?_⟩, ?_⟩
    · rw [a2 j (by omega), List.getElem?_set, if_neg (by omega)]
    · by_cases e : j = k
      · subst e; rw [hkk]; simp
      · obtain ⟨v, v1, v2⟩ := a3 j (by omega) hj2
        rw [show k + 1 - 1 = k by omega, List.getElem?_set] at v1
        simp only [hk, if_true] at v1
        have v1 := Option.some.inj v1
        rw [v2, ← v1]
        congr 1
        omega
    · simp only [i_nextChoice_l2, hi, decide_true, cond_true, e1, idx_lt l (k - 1) (by omega), idx_lt l k hk, Option.bind_some, e2, Int.toNat_natCast, w64_nat k (by omega)]
      exact a4
theorem nx_l1 (n : Nat) (hn : n ≤ 6) (kj : List Int → Option (Bool × List Int)) (ch : List Int) (hl : ch.length ≤ 6) (hr : InR n ch) : ∀ (q N : Nat), q ≤ ch.length → q + 100 < N →
    (∃ ch', i_nextChoice_l1 kj (n : Int) N ch ((q : Int) - 1) = some (true, ch') ∧ InR n ch' ∧ ch'.length = ch.length ∧ vl 0 ch < vl 0 ch') ∨ i_nextChoice_l1 kj (n : Int) N ch ((q : Int) - 1) = kj ch := by
  intro q
  induction q with
  | zero =>
    intro N h1 h2
    obtain ⟨N, rfl⟩ := pos_fuel (by omega : 0 < N)
    exact .inr (by simp [i_nextChoice_l1])
  | succ i ih =>
    intro N h1 h2
    obtain ⟨N, rfl⟩ := pos_fuel (by omega : 0 < N)
    have hi : i < ch.length := by omega
    have e0 : (((i + 1 : Nat) : Int) - 1) = (i : Int) := by omega
    have hge : (i : Int) ≥ 0 := by omega
    have e1 : w64 ((n : Int) - (ch.length : Int)) = (n : Int) - (ch.length : Int) := w64_id (by omega) (by omega)
    have e2 : w64 ((n : Int) - (ch.length : Int) + (i : Int)) = (n : Int) - (ch.length : Int) + (i : Int) := w64_id (by omega) (by omega)
    have hx := hr _ (List.getElem_mem hi)
    have e3 : w64 ((i : Int) - 1) = (i : Int) - 1 := w64_id (by omega) (by omega)
    rw [e0]
    by_cases hc : ch[i] < (n : Int) - (ch.length : Int) + (i : Int)
    · left
      have e4 : w64 (ch[i] + 1) = ch[i] + 1 := w64_id (by omega) (by omega)
      obtain ⟨l', a1, a2, a3, a4⟩ := nx_l2 (fun l20 => some (true, l20)) (ch.length - (i + 1)) (i + 1) N (ch.set i (ch[i] + 1)) (by simp; omega) (by omega) (by omega) (by simp; omega) (fun x hx' => by
        rcases List.mem_or_eq_of_mem_set hx' with hx' | hx'
        · have := hr x hx'; omega
        · rw [hx']; omega)
      simp only [List.length_set] at a1 a3
      have hat : ∀ j : Nat, j < i → l'[j]? = ch[j]? := fun j hj => by rw [a2 j (by omega), List.getElem?_set, if_neg (by omega)]
      have hai : l'[i]? = some (ch[i] + 1) := by rw [a2 i (by omega), List.getElem?_set]; simp [hi]
      have hab : ∀ j : Nat, i < j → j < ch.length → l'[j]? = some (ch[i] + 1 + 1 + ((j - (i + 1) : Nat) : Int)) := fun j hj hj2 => by
        obtain ⟨v, v1, v2⟩ := a3 j (by omega) hj2
        rw [show i + 1 - 1 = i by omega, List.getElem?_set] at v1
        simp only [hi, if_true] at v1
        have v1 := Option.some.inj v1
        rw [v2, ← v1]
      have hIR : InR n l' := fun x hx' => by
        obtain ⟨j, hj, rfl⟩ := List.getElem_of_mem hx'
        have hj2 : l'[j]? = some l'[j] := List.getElem?_eq_getElem hj
        rcases Nat.lt_trichotomy j i with g | g | g
        · rw [hat j g, List.getElem?_eq_getElem (by omega)] at hj2
          rw [← Option.some.inj hj2]
          exact hr _ (List.getElem_mem _)
        · subst g
          rw [hai] at hj2
          have := Option.some.inj hj2
          omega
        · rw [hab j g (by omega)] at hj2
          have := Option.some.inj hj2
          omega
      have hc1 : ch = ch.take i ++ ch[i] :: ch.drop (i + 1) := by rw [← drop_cons ch i hi, List.take_append_drop]
      have hil : i < l'.length := by omega
      have hc2 : l' = ch.take i ++ (ch[i] + 1) :: l'.drop (i + 1) := by
        have h1 : l'[i] = ch[i] + 1 := by
          have := List.getElem?_eq_getElem hil
          rw [hai] at this
          exact (Option.some.inj this).symm
        have h2 : l'.take i = ch.take i := by
          refine List.ext_getElem? fun j => ?_
          rw [List.getElem?_take, List.getElem?_take]
          split
          · exact hat j (by assumption)
          · rfl
        rw [← h2, ← h1, ← drop_cons l' i hil, List.take_append_drop]
      have h7 : ∀ x, 0 ≤ x ∧ x < (n : Int) → 0 ≤ x ∧ x < 7 := fun x h => by omega
      have hup : vl 0 ch < vl 0 l' := by
        rw [hc1, hc2]
        exact vl_up _ _ _ _ 0 (by simp; omega) hx.1 (fun y hy => h7 y (hr y (List.mem_of_mem_drop hy))) (fun y hy => h7 y (hIR y (List.mem_of_mem_drop hy)))
      refine ⟨l', ?_, hIR, a1, hup⟩
      simp only [i_nextChoice_l1, hge, decide_true, cond_true, withK_eq, idx_lt ch i hi, Option.bind_some, e1, e2, hc, e4, Int.toNat_natCast, w64_nat i (by omega)]
      exact a4
    · simp only [i_nextChoice_l1, hge, decide_true, cond_true, withK_eq, idx_lt ch i hi, Option.bind_some, e1, e2, hc, decide_false, cond_false, e3]
      exact ih N (by omega) (by omega)
theorem nx_ok (n : Nat) (hn : n ≤ 6) (ch : List Int) (hl : ch.length ≤ 6) (hr : InR n ch) (N : Nat) (hN : 200 < N) : (∃ ch', i_nextChoice N ch (n : Int) = some (true, ch') ∧ InR n ch' ∧ ch'.length = ch.length ∧ vl 0 ch < vl 0 ch') ∨ i_nextChoice N ch (n : Int) = some (false, ch) := by
  have e1 : w64 ((ch.length : Int) - 1) = (ch.length : Int) - 1 := w64_id (by omega) (by omega)
  have := nx_l1 n hn (fun l4 => some (false, l4)) ch hl hr ch.length N (Nat.le_refl _) (by omega)
  unfold i_nextChoice
  rw [withK_eq, e1]
  exact this
def seqI (n : Nat) : List Int := (List.range n).map fun (k : Nat) => (k : Int)
theorem fst_l1 (sz : Nat) (hs : sz ≤ 100) (kj : List Int → Option (List Int)) : ∀ (n x N : Nat), x + n = sz → n < N → i_firstChoice_l1 kj (sz : Int) N (seqI x) (x : Int) = kj (seqI sz) := by
  intro n
  induction n with
  | zero =>
    intro x N h1 h2
    obtain ⟨N, rfl⟩ := pos_fuel h2
    have hi : ¬ ((x : Int) < (sz : Int)) := by omega
    have e : x = sz := by omega
    subst e
    simp [i_firstChoice_l1, hi]
  | succ n ih =>
    intro x N h1 h2
    obtain ⟨N, rfl⟩ := pos_fuel h2
    have hi : (x : Int) < (sz : Int) := by omega
    have ha : app (seqI x) [(x : Int)] = some (seqI (x + 1)) := by
      rw [app_some _ _ (by simp [seqI]; unfold LIM; omega)]
      simp [seqI, List.range_succ]
    simp only [i_firstChoice_l1, hi, decide_true, cond_true, ha, Option.bind_some, w64_nat x (by omega)]
    exact ih (x + 1) N (by omega) (by omega)
theorem fst_ok (sz : Nat) (hs : sz ≤ 100) (N : Nat) (hN : 200 < N) : i_firstChoice N (sz : Int) = some (seqI sz) := by
  have := fst_l1 sz hs (fun l3 => some l3) sz 0 N (by omega) (by omega)
  rw [show ((0 : Nat) : Int) = 0 from rfl] at this
  unfold i_firstChoice
  rw [withK_eq]
  exact this
theorem seqI_in {sz n : Nat} (h : sz ≤ n) : InR n (seqI sz) := fun x hx => by
  unfold seqI at hx
  obtain ⟨k, hk, rfl⟩ := List.mem_map.1 hx
  have := List.mem_range.1 hk
  omega
/-! The search. -/
def hit (s : Str) (p : List Bool) (c : Int) : Bool := (p[((s[c.toNat]?).getD 0).toNat]?).getD false
def tell (s : Str) (P : List (List Bool)) (ch : List Int) : Bool := P.all fun p => ch.any (hit s p)
def lt1 (s : Str) (c : Int) : Str := [(s[c.toNat]?).getD 0]
theorem se_l6 (P : List (List Bool)) (s : Str) (ch : List Int) (hs : s.length ≤ 6) (hr : InR s.length ch) (hl : ch.length ≤ 6) (y : Nat) (hy : y < P.length) (hp : P[y].length = 256) (kj : Bool → Option (List Str × Int)) : ∀ (n x N : Nat) (t : Bool), x + n = ch.length → n < N →
    i_FewestLetters_l6 kj P s ch (y : Int) N t (x : Int) = kj (t || (ch.drop x).any (hit s P[y])) := by
  intro n
  induction n with
  | zero =>
    intro x N t h1 h2
    obtain ⟨N, rfl⟩ := pos_fuel h2
    have hi : ¬ ((x : Int) < (ch.length : Int)) := by omega
    rw [List.drop_eq_nil_of_le (by omega)]
    simp [i_FewestLetters_l6, hi]
  | succ n ih =>
    intro x N t h1 h2
    obtain ⟨N, rfl⟩ := pos_fuel h2
    have hi : (x : Int) < (ch.length : Int) := by omega
    have hx : x < ch.length := by omega
    have hcr := hr _ (List.getElem_mem hx)
    have i1 : idx s ch[x] = some (s[(ch[x]).toNat]'(by omega)) := idx_int s ch[x] hcr.1 hcr.2
    have hlt := UInt8.toNat_lt (s[(ch[x]).toNat]'(by omega))
    have i2 : idxA 256 P[y] (UInt8.toNat (s[(ch[x]).toNat]'(by omega)) : Int) = some (P[y][(s[(ch[x]).toNat]'(by omega)).toNat]'(by omega)) := by
      unfold idxA
      rw [if_pos hp, idx_lt _ _ (by omega)]
    have hh : hit s P[y] ch[x] = P[y][(s[(ch[x]).toNat]'(by omega)).toNat]'(by omega) := by
      unfold hit
      rw [List.getElem?_eq_getElem (by omega : (ch[x]).toNat < s.length), Option.getD_some, List.getElem?_eq_getElem (by omega), Option.getD_some]
    rw [drop_cons ch x hx]
    simp only [i_FewestLetters_l6, hi, decide_true, cond_true, idx_lt ch x hx, Option.bind_some, i1, idx_lt P y hy, i2, orO_some, w64_nat x (by omega), List.any_cons, ← hh]
    rw [ih (x + 1) N _ (by omega) (by omega), Bool.or_assoc]
theorem se_l5 (P : List (List Bool)) (s : Str) (ch : List Int) (hs : s.length ≤ 6) (hr : InR s.length ch) (hl : ch.length ≤ 6) (hP : ∀ p ∈ P, p.length = 256) (hPl : P.length ≤ 1000) (kj : Bool → Option (List Str × Int)) : ∀ (n x N : Nat) (t : Bool), x + n = P.length → n + 50 < N →
    i_FewestLetters_l5 kj P s ch N t (x : Int) = kj (t && (P.drop x).all fun p => ch.any (hit s p)) := by
  intro n
  induction n with
  | zero =>
    intro x N t h1 h2
    obtain ⟨N, rfl⟩ := pos_fuel (by omega : 0 < N)
    have hi : ¬ ((x : Int) < (P.length : Int)) := by omega
    rw [List.drop_eq_nil_of_le (by omega)]
    simp [i_FewestLetters_l5, hi]
  | succ n ih =>
    intro x N t h1 h2
    obtain ⟨N, rfl⟩ := pos_fuel (by omega : 0 < N)
    have hi : (x : Int) < (P.length : Int) := by omega
    have hx : x < P.length := by omega
    have h6 := fun K => se_l6 P s ch hs hr hl x hx (hP _ (List.getElem_mem hx)) K ch.length 0 N false (by omega) (by omega)
    rw [show ((0 : Nat) : Int) = 0 from rfl] at h6
    simp only [List.drop_zero, Bool.false_or] at h6
    rw [drop_cons P x hx]
    simp only [i_FewestLetters_l5, hi, decide_true, cond_true, withK_eq]
    rw [h6]
    simp only [andO_some, Option.bind_some, w64_nat x (by omega), List.all_cons]
    rw [ih (x + 1) N _ (by omega) (by omega), Bool.and_assoc]
theorem se_l7 (s : Str) (ch : List Int) (hs : s.length ≤ 6) (hr : InR s.length ch) (hl : ch.length ≤ 6) (kj : List Str → Option (List Str × Int)) : ∀ (n x N : Nat) (o : List Str), x + n = ch.length → n < N → o.length ≤ x →
    i_FewestLetters_l7 kj s ch N o (x : Int) = kj (o ++ (ch.drop x).map (lt1 s)) := by
  intro n
  induction n with
  | zero =>
    intro x N o h1 h2 h3
    obtain ⟨N, rfl⟩ := pos_fuel h2
    have hi : ¬ ((x : Int) < (ch.length : Int)) := by omega
    rw [List.drop_eq_nil_of_le (by omega)]
    simp [i_FewestLetters_l7, hi]
  | succ n ih =>
    intro x N o h1 h2 h3
    obtain ⟨N, rfl⟩ := pos_fuel h2
    have hi : (x : Int) < (ch.length : Int) := by omega
    have hx : x < ch.length := by omega
    have hcr := hr _ (List.getElem_mem hx)
    have e1 : w64 (ch[x] + 1) = ch[x] + 1 := w64_id (by omega) (by omega)
    have hlt : (ch[x]).toNat < s.length := by omega
    have i1 : sub s ch[x] (ch[x] + 1) = some (lt1 s ch[x]) := by
      rw [sub_some _ _ _ hcr.1 (by omega) (by omega), drop_cons s _ hlt]
      unfold lt1
      rw [List.getElem?_eq_getElem hlt, Option.getD_some, show (ch[x] + 1).toNat - (ch[x]).toNat = 1 by omega]
      rfl
    have ha : app o [lt1 s ch[x]] = some (o ++ [lt1 s ch[x]]) := app_some _ _ (by simp; unfold LIM; omega)
    rw [drop_cons ch x hx]
    simp only [i_FewestLetters_l7, hi, decide_true, cond_true, idx_lt ch x hx, Option.bind_some, e1, i1, ha, w64_nat x (by omega)]
    rw [ih (x + 1) N _ (by omega) (by omega) (by simp; omega), List.append_assoc]
    rfl
theorem se_l4 (P : List (List Bool)) (s : Str) (hs : s.length ≤ 6) (hP : ∀ p ∈ P, p.length = 256) (hPl : P.length ≤ 1000) (kj : Option (List Str × Int)) (sz : Nat) (hsz : sz ≤ 6) : ∀ (k N : Nat) (ch : List Int), 7 ^ sz ≤ vl 0 ch + k → InR s.length ch → ch.length = sz → k + 1500 < N →
    (∃ ch', InR s.length ch' ∧ ch'.length ≤ 6 ∧ tell s P ch' = true ∧ i_FewestLetters_l4 kj P s N ch = some (ch'.map (lt1 s), 0)) ∨ (tell s P ch = false ∧ i_FewestLetters_l4 kj P s N ch = kj) := by
  intro k
  induction k with
  | zero =>
    intro N ch h1 h2 h3 h4
    have := (vl_lt ch 0 (fun x hx => by have := h2 x hx; omega)).2
    rw [h3] at this
    omega
  | succ k ih =>
    intro N ch h1 h2 h3 h4
    obtain ⟨N, rfl⟩ := pos_fuel (by omega : 0 < N)
    have h5 := fun K => se_l5 P s ch hs h2 (by omega) hP hPl K P.length 0 N true (by omega) (by omega)
    have h7 := fun K => se_l7 s ch hs h2 (by omega) K ch.length 0 N [] (by omega) (by omega) (by simp)
    rw [show ((0 : Nat) : Int) = 0 from rfl] at h5 h7
    simp only [List.drop_zero, Bool.true_and, List.nil_append] at h5 h7
    rw [show (P.all fun p => ch.any (hit s p)) = tell s P ch from rfl] at h5
    cases ht : tell s P ch
    · rw [ht] at h5
      rcases nx_ok s.length hs ch (by omega) h2 N (by omega) with ⟨ch', e, c1, c2, c3⟩ | e
      · have hst : i_FewestLetters_l4 kj P s (N + 1) ch = i_FewestLetters_l4 kj P s N ch' := by
          simp only [i_FewestLetters_l4, withK_eq]
          rw [h5]
          simp only [cond_false, e, Option.bind_some, Bool.not_true]
        rw [hst]
        rcases ih N ch' (by omega) c1 (by omega) (by omega) with ⟨ch2, d1, d0, d2, d3⟩ | ⟨d1, d2⟩
        · exact .inl ⟨ch2, d1, d0, d2, d3⟩
        · exact .inr ⟨rfl, d2⟩
      · right
        refine ⟨rfl, ?_⟩
        simp only [i_FewestLetters_l4, withK_eq]
        rw [h5]
        simp only [cond_false, e, Option.bind_some, Bool.not_false, cond_true]
    · left
      rw [ht] at h5
      refine ⟨ch, h2, by omega, ht, ?_⟩
      simp only [i_FewestLetters_l4, withK_eq]
      rw [h5]
      simp only [cond_true]
      rw [h7]
theorem se_l3 (P : List (List Bool)) (s : Str) (hs : s.length ≤ 6) (hP : ∀ p ∈ P, p.length = 256) (hPl : P.length ≤ 1000) (hfull : tell s P (seqI s.length) = true) : ∀ (k N sz : Nat), sz + k = s.length → k + 200000 < N →
    ∃ ch', InR s.length ch' ∧ ch'.length ≤ 6 ∧ tell s P ch' = true ∧ i_FewestLetters_l3 P s N (sz : Int) = some (ch'.map (lt1 s), 0) := by
  intro k
  induction k with
  | zero =>
    intro N sz h1 h2
    obtain ⟨N, rfl⟩ := pos_fuel (by omega : 0 < N)
    have e : sz = s.length := by omega
    have e1 := fst_ok sz (by omega) N (by omega)
    have hp7 : 7 ^ sz ≤ 7 ^ 6 := Nat.pow_le_pow_right (by omega) (by omega)
    rcases se_l4 P s hs hP hPl (i_FewestLetters_l3 P s N (w64 ((sz : Int) + 1))) sz (by omega) (7 ^ 6) N (seqI sz) (by omega) (seqI_in (by omega)) (by simp [seqI]) (by omega) with ⟨ch', c1, c0, c2, c3⟩ | ⟨c1, _⟩
    · refine ⟨ch', c1, c0, c2, ?_⟩
      simp only [i_FewestLetters_l3, withK_eq, e1, Option.bind_some]
      exact c3
    · rw [e, hfull] at c1; cases c1
  | succ k ih =>
    intro N sz h1 h2
    obtain ⟨N, rfl⟩ := pos_fuel (by omega : 0 < N)
    have e1 := fst_ok sz (by omega) N (by omega)
    have hp7 : 7 ^ sz ≤ 7 ^ 6 := Nat.pow_le_pow_right (by omega) (by omega)
    rcases se_l4 P s hs hP hPl (i_FewestLetters_l3 P s N (w64 ((sz : Int) + 1))) sz (by omega) (7 ^ 6) N (seqI sz) (by omega) (seqI_in (by omega)) (by simp [seqI]) (by omega) with ⟨ch', c1, c0, c2, c3⟩ | ⟨_, c2⟩
    · refine ⟨ch', c1, c0, c2, ?_⟩
      simp only [i_FewestLetters_l3, withK_eq, e1, Option.bind_some]
      exact c3
    · obtain ⟨ch', d1, d0, d2, d3⟩ := ih N (sz + 1) (by omega) (by omega)
      refine ⟨ch', d1, d0, d2, ?_⟩
      simp only [i_FewestLetters_l3, withK_eq, e1, Option.bind_some]
      rw [c2, w64_nat sz (by omega)]
      exact d3
theorem fewest_ok (L : List Writer) (hW : WOK L) (N : Nat) (hN : 300000 < N) : (i_FewestLetters N L = some ([], 9) ∧ ∃ i k, i < L.length ∧ k < i ∧ asc (pr L i k) 0 = []) ∨
    ∃ out, i_FewestLetters N L = some (out, 0) ∧ out.length ≤ 6 ∧ ∀ i k, i < L.length → k < i → ∃ c ∈ asc (pr L i k) 0, [c] ∈ out := by
  have hl5 := hW.1
  have hv := vws_ok L hW N (by omega)
  have h1 := few_l1 L hW (fun (l9 : List (List Bool)) (l11 : List Bool) => (i_ascending N l11).bind fun r70 => bif decide ((List.length r70 : Int) > 16) then some ([], 5) else i_FewestLetters_l3 l9 r70 N 0) L.length 0 N [] Z256 (by omega) (by omega) (PI.start L)
  rw [show ((0 : Nat) : Int) = 0 from rfl] at h1
  unfold i_FewestLetters
  rw [show List.replicate 256 false = Z256 from rfl]
  simp only [hv, Option.bind_some, Bool.not_true, cond_false, withK_eq]
  rcases h1 with h1 | ⟨P, m, hI, e⟩
  · exact .inl h1
  · right
    rw [e]
    have ea := asc_ok m hI.ml N (by omega)
    obtain ⟨s, hs⟩ : ∃ s, s = asc m 0 := ⟨_, rfl⟩
    have hsub : ∀ c ∈ s, c ∈ ([97, 101, 110, 114, 116, 126] : List UInt8) := fun c hc => by
      rw [hs] at hc
      obtain ⟨j, j1, j2⟩ := asc_mem m 0 c (by rw [hI.ml]; decide) hc
      obtain ⟨p, p1, p2⟩ := (hI.mr j).1 j1
      obtain ⟨i, k, i1, i2, rfl, _⟩ := hI.src p p1
      unfold pr at p2
      rw [DF_get] at p2
      obtain ⟨f, f1, f2, f3⟩ := p2
      have hfl : f.letter ∈ lets := by
        rcases f1 with f1 | f1
        · rw [fa_eq i1] at f1; exact (hW.2 i i1).2.2.2.2 f f1
        · rw [fa_eq (by omega : k < L.length)] at f1; exact (hW.2 k (by omega)).2.2.2.2 f f1
      have hcj : c.toNat = j := by omega
      have hall : ∀ t ∈ lets, ∀ c : UInt8, c.toNat = hd t → c ∈ ([97, 101, 110, 114, 116, 126] : List UInt8) := by
        intro t ht c hc
        have hcc : c = UInt8.ofNat (hd t) := by rw [← hc]; simp
        subst hcc
        revert t
        decide
      exact hall f.letter hfl c (by omega)
    have hnd : s.Nodup := by rw [hs]; exact asc_nodup m 0 (by rw [hI.ml]; decide)
    have hsl : s.length ≤ 6 := nodup_sub s [97, 101, 110, 114, 116, 126] hnd hsub
    have hP256 : ∀ p ∈ P, p.length = 256 := fun p hp => by
      obtain ⟨i, k, _, _, rfl, _⟩ := hI.src p hp
      exact DF_len _ _
    have hPl := hI.pl
    have hfull : tell s P (seqI s.length) = true := by
      unfold tell
      rw [List.all_eq_true]
      intro p hp
      obtain ⟨i, k, i1, i2, hpe, hne⟩ := hI.src p hp
      obtain ⟨c, hc⟩ := List.exists_mem_of_ne_nil _ hne
      obtain ⟨j, j1, j2⟩ := asc_mem p 0 c (by rw [hP256 p hp]; decide) hc
      have hjl : j < m.length := by have := lt_of_some j1; rw [hP256 p hp] at this; rw [hI.ml]; exact this
      obtain ⟨c2, d1, d2⟩ := asc_of m 0 j (by rw [hI.ml]; decide) ((hI.mr j).2 ⟨p, hp, j1⟩)
      rw [← hs] at d1
      obtain ⟨t, ht, hte⟩ := List.getElem_of_mem d1
      rw [List.any_eq_true]
      refine ⟨(t : Int), List.mem_map.2 ⟨t, List.mem_range.2 ht, rfl⟩, ?_⟩
      unfold hit
      rw [Int.toNat_natCast, List.getElem?_eq_getElem ht, Option.getD_some, hte]
      have : c2.toNat = j := by omega
      rw [this, j1]
      rfl
    obtain ⟨ch, c1, c0, c2, c3⟩ := se_l3 P s hsl hP256 (by omega) hfull s.length N 0 (by omega) (by omega)
    rw [show ((0 : Nat) : Int) = 0 from rfl] at c3
    have h16 : ¬ ((s.length : Int) > 16) := by omega
    rw [← hs] at ea
    refine ⟨ch.map (lt1 s), ?_, by simpa using c0, fun i k i1 i2 => ?_⟩
    · simp only [ea, Option.bind_some, h16, decide_false, cond_false, c3]
    · have hmem := hI.cov i k i1 i2 (by omega)
      unfold tell at c2
      rw [List.all_eq_true] at c2
      have := c2 _ hmem
      rw [List.any_eq_true] at this
      obtain ⟨x, x1, x2⟩ := this
      have hx := c1 x x1
      have hxl : x.toNat < s.length := by omega
      unfold hit at x2
      rw [List.getElem?_eq_getElem hxl, Option.getD_some] at x2
      have hj : (pr L i k)[(s[x.toNat]).toNat]? = some true := by
        cases hq : (pr L i k)[(s[x.toNat]).toNat]? with
        | none => rw [hq] at x2; cases x2
        | some b => rw [hq] at x2; simp at x2; rw [x2]
      obtain ⟨c, d1, d2⟩ := asc_of (pr L i k) 0 _ (by rw [hP256 _ hmem]; decide) hj
      refine ⟨c, d1, List.mem_map.2 ⟨x, x1, ?_⟩⟩
      unfold lt1
      rw [List.getElem?_eq_getElem hxl, Option.getD_some]
      have : c = s[x.toNat] := UInt8.toNat_inj.1 (by omega)
      rw [this]
end Go.Proofs.Ythifimjkndpmpaa
