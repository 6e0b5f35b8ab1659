/-
  Plain lemmas on these functions. No conditions but those that each states.
-/
import Derived.Test.YthmocnbnlpdggaaFnSeenLettersP7
namespace Go.Proofs.Ythmocnbnlpdggaa
set_option linter.unusedVariables false
set_option linter.unusedSimpArgs false
theorem pr_byte (c : UInt8) : (decide (c ≥ 32) && decide (c < 127)) = pr c := by
  have h := c.toNat_lt
  unfold pr
  rw [Bool.eq_iff_iff]
  simp only [Bool.and_eq_true, decide_eq_true_eq, Bool.not_eq_true', Bool.or_eq_false_iff, decide_eq_false_iff_not, gt_iff_lt, ge_iff_le, UInt8.lt_iff_toNat_lt, UInt8.le_iff_toNat_le]
  have e1 : (32 : UInt8).toNat = 32 := rfl
  have e2 : (127 : UInt8).toNat = 127 := rfl
  have e4 : (126 : UInt8).toNat = 126 := rfl
  omega
def one1 (s : Str) : Bool := match s with
  | [c] => pr c
  | _ => false
theorem Byte_eq (s : Str) : s_l12Byte s = some (one1 s) := by
  by_cases h : s.length = 1
  · obtain ⟨c, rfl⟩ := List.length_eq_one_iff.1 h
    have e0 : idx [c] 0 = some c := rfl
    have e : one1 [c] = (decide (c ≥ 32) && decide (c < 127)) := (pr_byte c).symm
    simp only [s_l12Byte, e0, Option.bind_some, List.length_cons, List.length_nil, e]
    cases decide (c ≥ 32) <;> cases decide (c < 127) <;> rfl
  · have h' : ((s.length : Int) == 1) = false := by simp; omega
    have e : one1 s = false := by
      unfold one1; split
      · simp at h
      · rfl
    simp [s_l12Byte, h', e]
theorem Two_eq (N : Nat) (a b : Str) (ha : a.length ≤ 100) (hb : b.length ≤ 100) (hN : 300 < N) :
    ((orO ((a.length : Int) != 1) (some ((b.length : Int) != 1))).bind fun t9 => (orO t9 ((cat a b).bind fun s15 => (i_isText N s15 32 2).bind fun r17 => some (!r17)))) = some (!one1 a || !one1 b) := by
  by_cases h1 : a.length = 1
  · by_cases h2 : b.length = 1
    · obtain ⟨c, rfl⟩ := List.length_eq_one_iff.1 h1
      obtain ⟨d, rfl⟩ := List.length_eq_one_iff.1 h2
      have e1 : cat [c] [d] = some [c, d] := by rw [cat_some _ _ (by simp; unfold LIM; omega)]; rfl
      have e2 := (Text_eq N [c, d] 2 (by simp; unfold LIM; omega) (by simp; omega)).2
      have e3 : okT 2 [c, d] = (pr c && pr d) := by simp [okT]
      have e4 : one1 [c] = pr c := rfl
      have e5 : one1 [d] = pr d := rfl
      simp only [e1, Option.bind_some, e2, e3, List.length_cons, List.length_nil, e4, e5]
      cases pr c <;> cases pr d <;> rfl
    · have h' : ((b.length : Int) != 1) = true := by simp; omega
      have e : one1 b = false := by
        unfold one1; split
        · simp at h2
        · rfl
      have h'' : ((a.length : Int) != 1) = false := by simp; omega
      simp [h', h'', e]
  · have h' : ((a.length : Int) != 1) = true := by simp; omega
    have e : one1 a = false := by
      unfold one1; split
      · simp at h1
      · rfl
    simp [h', e]
theorem one1_iff {s : Str} (h : one1 s = true) : ∃ c, s = [c] ∧ pr c = true := by
  unfold one1 at h
  split at h
  · exact ⟨_, rfl, h⟩
  · cases h
theorem SeenOk (N : Nat) (l : List Over) (hR : Ru l) (hv : i_ValidOvers N l = some true) (u t : UInt8) (hu : pr u = true) (ht : pr t = true) (hN : 300 < N) : i_SeenOver N l [u] [t] = some (bif sn l u t != 0 then ([sn l u t], 0) else ([], 3)) := by
  have h2 := Two_eq N [u] [t] (by simp) (by simp) hN
  obtain ⟨s1, _⟩ := seen_eq N l hR u t (pr_nz hu) (pr_nz ht) (by omega)
  have e0 : idx [u] 0 = some u := rfl
  have e1 : idx [t] 0 = some t := rfl
  have e4 : one1 [u] = true := hu
  have e5 : one1 [t] = true := ht
  rw [e4, e5] at h2
  unfold i_SeenOver
  simp only [hv, Option.bind_some, Bool.not_true, cond_false]
  rw [← Option.bind_assoc, h2]
  simp only [Option.bind_some, Bool.not_true, Bool.or_self, cond_false, e0, e1, s1]
  cases (sn l u t != 0) <;> rfl
theorem SeenOver_eq (N : Nat) (l : List Over) (a b : Str) (hl : l.length ≤ 1000) (ha : a.length ≤ 100) (hb : b.length ≤ 100) (hN : 2 * l.length + 400 < N) : ∃ p : Str × Int, i_SeenOver N l a b = some p ∧ s_SeenOver N l a b = some p ∧ ((p.2 = 1 ∨ p.2 = 2) ∨ (Ru l ∧ i_ValidOvers N l = some true ∧ one1 a = true ∧ one1 b = true)) := by
  obtain ⟨t, h1, h2⟩ := Ok_eq l hl
  obtain ⟨h3, h4⟩ := h2 N (by omega)
  cases t
  · exact ⟨([], 1), by simp [i_SeenOver, h4], by simp [s_SeenOver, h3], .inl (.inl rfl)⟩
  · have hR := Ru.of (h1.1 rfl)
    have h5 := Two_eq N a b ha hb (by omega)
    cases h6 : (!one1 a || !one1 b)
    · have ha1 : one1 a = true := by cases g : one1 a <;> simp [g] at h6 ⊢
      have hb1 : one1 b = true := by cases g : one1 b <;> simp [g, ha1] at h6 ⊢
      obtain ⟨u, rfl, hu⟩ := one1_iff ha1
      obtain ⟨c, rfl, hc⟩ := one1_iff hb1
      have g1 := SeenOk N l hR h4 u c hu hc (by omega)
      obtain ⟨_, s2⟩ := seen_eq N l hR u c (pr_nz hu) (pr_nz hc) (by omega)
      have e0 : idx [u] 0 = some u := rfl
      have e1 : idx [c] 0 = some c := rfl
      refine ⟨_, g1, ?_, .inr ⟨hR, h4, ha1, hb1⟩⟩
      simp only [s_SeenOver, h3, Option.bind_some, Bool.not_true, cond_false, Byte_eq, ha1, hb1, orO_some, Bool.or_self, e0, e1, s2]
      cases hx : (sn l u c != 0)
      · have : (sn l u c == 0) = true := by simpa using hx
        rw [this]; rfl
      · have : (sn l u c == 0) = false := by simpa using hx
        rw [this]; rfl
    · refine ⟨([], 2), ?_, ?_, .inl (.inr rfl)⟩
      · unfold i_SeenOver
        simp only [h4, Option.bind_some, Bool.not_true, cond_false]
        rw [← Option.bind_assoc, h5, h6]; rfl
      · simp only [s_SeenOver, h3, Option.bind_some, Bool.not_true, cond_false, Byte_eq, orO_some, h6, cond_true]
/-- the byte of a line at a place -/
def ch (s : Str) (i : Int) : UInt8 := if 0 ≤ i ∧ i < s.length then s.getD i.toNat 32 else 32
theorem At_eq (s : Str) (i : Int) (hs : s.length ≤ 1000) : i_byteAt s i = some (ch s i) ∧ s_l12At s i = some (ch s i) := by
  have ew : w64 ((s.length : Int) - 1) = (s.length : Int) - 1 := w64_id (by omega) (by omega)
  unfold i_byteAt s_l12At
  simp only [orO_some, Option.bind_some, s_l00In_eq, ew]
  by_cases h : 0 ≤ i ∧ i < s.length
  · have c1 : (decide (i < 0) || decide (i ≥ (s.length : Int))) = false := by simp; omega
    have c2 : inr i 0 ((s.length : Int) - 1) = true := inr_iff.2 ⟨h.1, by omega⟩
    have e : idx s i = some (ch s i) := by
      rw [idx_int s i h.1 h.2]
      unfold ch
      rw [if_pos h, List.getD_eq_getElem?_getD, List.getElem?_eq_getElem]; rfl
    simp only [c1, c2, cond_false, Bool.not_true, e, Option.bind_some, and_self]
  · have c1 : (decide (i < 0) || decide (i ≥ (s.length : Int))) = true := by
      rw [Bool.or_eq_true, decide_eq_true_eq, decide_eq_true_eq]; omega
    have c2 : inr i 0 ((s.length : Int) - 1) = false := by
      rw [← Bool.not_eq_true, inr_iff]; omega
    have e : ch s i = 32 := by unfold ch; rw [if_neg h]
    simp only [c1, c2, cond_true, Bool.not_false, e, and_self]
theorem ch_out (s : Str) (i : Int) (h : i < 0 ∨ (s.length : Int) ≤ i) : ch s i = 32 := by unfold ch; rw [if_neg (by omega)]
/-- how many places differ -/
def dc (a b : Str) (sh at_ : Int) : Nat → Nat
  | 0 => 0
  | n + 1 => (bif ch a (at_ - sh) != ch b at_ then 1 else 0) + dc a b sh (at_ + 1) n
def wrl (a b : Str) (i : Nat) : Nat → List Int
  | 0 => []
  | n + 1 => (bif ch a i != ch b i then [(i : Int)] else []) ++ wrl a b (i + 1) n
theorem wrl_len (a b : Str) : ∀ (n i : Nat), (wrl a b i n).length = dc a b 0 i n
  | 0, _ => rfl
  | n + 1, i => by
    have := wrl_len a b n (i + 1)
    simp only [wrl, dc, List.length_append, this, Int.sub_zero]
    have e : ((i + 1 : Nat) : Int) = (i : Int) + 1 := by omega
    rw [e]
    cases (ch a i != ch b i) <;> rfl
theorem wrl_le (a b : Str) : ∀ (n i : Nat), (wrl a b i n).length ≤ n
  | 0, _ => by simp [wrl]
  | n + 1, i => by
    have := wrl_le a b n (i + 1)
    simp only [wrl, List.length_append]
    cases (ch a i != ch b i) <;> simp <;> omega
theorem Wrong_l1 (a b : Str) (ha : a.length ≤ 1000) (hb : b.length ≤ 1000) : ∀ (n i N : Nat) (o : List Int), i + n = 60 → n < N → o.length ≤ i → (∀ K, i_WrongPlaces_l1 K a b N o (i : Int) = K (o ++ wrl a b i n)) ∧ ∀ K, s_WrongPlaces_l1 K a b N o (i : Int) = K (o ++ wrl a b i n) := by
  intro n
  induction n with
  | zero =>
    intro i N o h1 h3 ho
    obtain ⟨N, rfl⟩ := pos_fuel h3
    have hi : ¬ ((i : Int) < 60) := by omega
    exact ⟨fun K => by simp [i_WrongPlaces_l1, hi, wrl], fun K => by simp [s_WrongPlaces_l1, hi, wrl]⟩
  | succ n ih =>
    intro i N o h1 h3 ho
    obtain ⟨N, rfl⟩ := pos_fuel h3
    have hi : (i : Int) < 60 := by omega
    obtain ⟨a1, a2⟩ := At_eq a i ha
    obtain ⟨b1, b2⟩ := At_eq b i hb
    have ea : app o [(i : Int)] = some (o ++ [(i : Int)]) := app_some _ _ (by simp; unfold LIM; omega)
    obtain ⟨g1, g2⟩ := ih (i + 1) N (o ++ [(i : Int)]) (by omega) (by omega) (by simp; omega)
    obtain ⟨f1, f2⟩ := ih (i + 1) N o (by omega) (by omega) (by omega)
    refine ⟨fun K => ?_, fun K => ?_⟩
    · simp only [i_WrongPlaces_l1, hi, decide_true, cond_true, withK_eq, a1, b1, Option.bind_some, ea, w64_nat i (by omega), g1, f1, wrl]
      cases (ch a i != ch b i) <;> simp
    · simp only [s_WrongPlaces_l1, hi, decide_true, cond_true, withK_eq, a2, b2, Option.bind_some, ea, w64_nat i (by omega), g2, f2, wrl]
      cases (ch a i != ch b i) <;> simp
theorem Wrong_eq (N : Nat) (a b : Str) (ha : a.length ≤ 1000) (hb : b.length ≤ 1000) (hN : 2000 < N) : ∃ p : List Int × Int, i_WrongPlaces N a b = some p ∧ s_WrongPlaces N a b = some p ∧ p.1.length ≤ 60 ∧ (p.2 = 0 → okT 60 a = true ∧ okT 60 b = true) ∧ (okT 60 a = true → okT 60 b = true → p = (wrl a b 0 60, 0)) := by
  obtain ⟨a1, a2⟩ := Text_eq N a 60 (by unfold LIM; omega) (by omega)
  obtain ⟨b1, b2⟩ := Text_eq N b 60 (by unfold LIM; omega) (by omega)
  obtain ⟨g1, g2⟩ := Wrong_l1 a b ha hb 60 0 N [] rfl (by omega) (by simp)
  rw [show ((0 : Nat) : Int) = 0 from rfl] at g1 g2
  unfold i_WrongPlaces s_WrongPlaces
  simp only [i_isCorrectLine, s_l12Line, a1, a2, b1, b2, Option.bind_some, orO_some, withK_eq, g1, g2, List.nil_append]
  cases okT 60 a
  · exact ⟨([], 2), rfl, rfl, by simp, fun h => by simp at h, fun h => by cases h⟩
  · cases okT 60 b
    · exact ⟨([], 2), rfl, rfl, by simp, fun h => by simp at h, fun _ h => by cases h⟩
    · exact ⟨(wrl a b 0 60, 0), rfl, rfl, wrl_le a b 60 0, fun _ => ⟨rfl, rfl⟩, fun _ _ => rfl⟩
theorem dc_add (a b : Str) (sh : Int) : ∀ (n m : Nat) (i : Int), dc a b sh i (n + m) = dc a b sh i n + dc a b sh (i + n) m
  | 0, m, i => by simp [dc]
  | n + 1, m, i => by
    rw [show n + 1 + m = (n + m) + 1 by omega]
    simp only [dc, dc_add a b sh n m (i + 1)]
    rw [show i + 1 + (n : Int) = i + ((n + 1 : Nat) : Int) by omega]
    omega
theorem dc_out (a b : Str) : ∀ (n : Nat) (i : Int), (∀ j : Int, i ≤ j → j < i + n → ch a j = 32 ∧ ch b j = 32) → dc a b 0 i n = 0
  | 0, _, _ => rfl
  | n + 1, i, h => by
    have h1 := h i (Int.le_refl _) (by omega)
    have h2 := dc_out a b n (i + 1) (fun j hj hj2 => h j (by omega) (by omega))
    simp only [dc, Int.sub_zero, h1.1, h1.2, bne_self_eq_false, cond_false, h2]
theorem dc_whole (a b : Str) (ha : a.length ≤ 60) (hb : b.length ≤ 60) : dc a b 0 (-60) 180 = dc a b 0 0 60 := by
  rw [show (180 : Nat) = 60 + (60 + 60) from rfl, dc_add, dc_add]
  rw [dc_out a b 60 (-60) (fun j h1 h2 => ⟨ch_out _ _ (by omega), ch_out _ _ (by omega)⟩)]
  rw [dc_out a b 60 (-60 + ((60 : Nat) : Int) + ((60 : Nat) : Int)) (fun j h1 h2 => ⟨ch_out _ _ (by omega), ch_out _ _ (by omega)⟩)]
  simp
theorem dc_le (a b : Str) (sh : Int) : ∀ (n : Nat) (i : Int), dc a b sh i n ≤ n
  | 0, _ => Nat.le_refl _
  | n + 1, i => by
    have := dc_le a b sh n (i + 1)
    simp only [dc]
    cases (ch a (i - sh) != ch b i) <;> simp <;> omega
end Go.Proofs.Ythmocnbnlpdggaa
