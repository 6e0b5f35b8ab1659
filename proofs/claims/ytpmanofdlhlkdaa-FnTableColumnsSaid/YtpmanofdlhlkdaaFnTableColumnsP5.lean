/-
  Plain lemmas on these functions. No conditions but those that each states.
-/
import Derived.Test.YtpmanofdlhlkdaaFnTableColumnsP4
namespace Go.Proofs.Ytpmanofdlhlkdaa
set_option linter.unusedVariables false
set_option linter.unusedSimpArgs false
theorem withK_n {A B : Type} (k : A) (b : A → B) : withK k b = b k := Eq.trans rfl rfl
def inr (x lo hi : Int) : Bool := decide (x ≥ lo) && decide (x ≤ hi)
theorem s_l00In_eq (x lo hi : Int) : s_l00In x lo hi = some (inr x lo hi) := by simp only [s_l00In, andO_some, inr, Option.bind_some]
theorem i_between_eq (x lo hi : Int) : i_between x lo hi = some (inr x lo hi) := by simp only [i_between, andO_some, inr, Option.bind_some]
theorem inr_iff {x lo hi : Int} : inr x lo hi = true ↔ lo ≤ x ∧ x ≤ hi := by simp [inr]
/-- a sign that can be typed -/
def pr (c : UInt8) : Bool := !(decide (c < 32) || decide (c > 126))
theorem isText_l1_eq (s : Str) (ha : s.length ≤ LIM) : ∀ (n i N : Nat), i + n = s.length → n < N → ∀ K, s_l00Text_l1 K s N (i : Int) = (bif (s.drop i).all pr then K else some false) ∧ i_isText_l1 K s 32 N (i : Int) = (bif (s.drop i).all pr then K else some false) := by
  intro n
  induction n with
  | zero =>
    intro i N h1 h3 K
    obtain ⟨N, rfl⟩ := pos_fuel h3
    have hi : ¬ ((i : Int) < (s.length : Int)) := by omega
    have e2 : s.drop i = [] := List.drop_of_length_le (by omega)
    simp [s_l00Text_l1, i_isText_l1, hi, e2]
  | succ n ih =>
    intro i N h1 h3 K
    obtain ⟨N, rfl⟩ := pos_fuel h3
    have hi : (i : Int) < (s.length : Int) := by omega
    have hn : i < s.length := by omega
    unfold LIM at ha
    obtain ⟨h4, h5⟩ := ih (i + 1) N (by omega) (by omega) K
    simp only [s_l00Text_l1, i_isText_l1, hi, decide_true, cond_true, idx_lt s i hn, Option.bind_some, orO_some, w64_nat i (by omega), h4, h5, drop_cons s i hn, List.all_cons]
    have e : pr s[i] = !(decide (s[i] < 32) || decide (s[i] > 126)) := rfl
    rw [e]
    cases (decide (s[i] < 32) || decide (s[i] > 126)) <;> exact ⟨rfl, rfl⟩
def okT (m : Int) (s : Str) : Bool := decide ((s.length : Int) ≤ m) && s.all pr
theorem Text_eq (N : Nat) (s : Str) (m : Int) (ha : s.length ≤ LIM) (hN : s.length < N) : s_l00Text N s m = some (okT m s) ∧ i_isText N s 32 m = some (okT m s) := by
  have h := fun K => isText_l1_eq s ha s.length 0 N (by omega) hN K
  simp only [List.drop_zero] at h
  rw [show ((0 : Nat) : Int) = 0 from rfl] at h
  have e : decide ((s.length : Int) > m) = !(decide ((s.length : Int) ≤ m)) := by simp [← Int.not_le]
  unfold s_l00Text i_isText okT
  simp only [withK_eq, (h _).1, (h _).2, e]
  cases decide ((s.length : Int) ≤ m) <;> cases s.all pr <;> exact ⟨rfl, rfl⟩
theorem okT_iff {m : Int} {s : Str} : okT m s = true ↔ (s.length : Int) ≤ m ∧ ∀ c ∈ s, pr c = true := by
  unfold okT; rw [Bool.and_eq_true, decide_eq_true_eq, List.all_eq_true]
/-- a letter -/
def isL (s : Str) : Bool := match s with
  | [c] => !(decide (c < 33) || decide (c > 126))
  | _ => false
theorem low33 (c : UInt8) : (decide (c > 32) && decide (c < 127)) = !(decide (c < 33) || decide (c > 126)) := by
  have h := c.toNat_lt
  rw [Bool.eq_iff_iff]
  simp only [Bool.and_eq_true, decide_eq_true_eq, Bool.not_eq_true', Bool.or_eq_false_iff, decide_eq_false_iff_not, gt_iff_lt, UInt8.lt_iff_toNat_lt]
  have e1 : (32 : UInt8).toNat = 32 := rfl
  have e2 : (127 : UInt8).toNat = 127 := rfl
  have e3 : (33 : UInt8).toNat = 33 := rfl
  have e4 : (126 : UInt8).toNat = 126 := rfl
  omega
theorem isL_iff {s : Str} (h : isL s = true) : ∃ c : UInt8, s = [c] ∧ 33 ≤ c.toNat ∧ c.toNat ≤ 126 := by
  unfold isL at h
  split at h
  · rename_i c
    refine ⟨c, rfl, ?_⟩
    simp only [Bool.not_eq_true', Bool.or_eq_false_iff, decide_eq_false_iff_not, gt_iff_lt, UInt8.lt_iff_toNat_lt] at h
    have e3 : (33 : UInt8).toNat = 33 := rfl
    have e4 : (126 : UInt8).toNat = 126 := rfl
    omega
  · cases h
theorem repeat_l1_eq (c : UInt8) (m : Nat) (hm : m ≤ 1000000) : ∀ (n i N : Nat) (o : List UInt8), i + n = m → n < N → o.length = i → ∀ K, i_repeat_l1 K [c] (m : Int) N o (i : Int) = K (o ++ List.replicate n c) := by
  intro n
  induction n with
  | zero =>
    intro i N o h1 h2 h3 K
    obtain ⟨N, rfl⟩ := pos_fuel h2
    have hi : ¬ ((i : Int) < imax (m : Int) 0) := by unfold imax; rw [if_neg (by omega)]; omega
    simp [i_repeat_l1, hi]
  | succ n ih =>
    intro i N o h1 h2 h3 K
    obtain ⟨N, rfl⟩ := pos_fuel h2
    have hi : (i : Int) < imax (m : Int) 0 := by unfold imax; rw [if_neg (by omega)]; omega
    have ea : app o [c] = some (o ++ [c]) := app_some _ _ (by simp; unfold LIM; omega)
    simp only [i_repeat_l1, hi, decide_true, cond_true, ea, Option.bind_some, w64_nat i (by omega)]
    rw [ih (i + 1) N (o ++ [c]) (by omega) (by omega) (by simp; omega) K]
    simp [List.replicate_succ]
theorem repeat_eq (N : Nat) (c : UInt8) (x : Int) (hx : x ≤ 1000000) (hN : x < N) (hN0 : 0 < N) : i_repeat N [c] x = some (List.replicate x.toNat c) := by
  unfold i_repeat
  simp only [withK_eq]
  by_cases h : 0 ≤ x
  · obtain ⟨m, rfl⟩ := Int.eq_ofNat_of_zero_le h
    have := repeat_l1_eq c m (by omega) m 0 N [] (by omega) (by omega) rfl (fun l => some l)
    rw [show ((0 : Nat) : Int) = 0 from rfl] at this
    rw [this]; simp
  · obtain ⟨N, rfl⟩ := pos_fuel hN0
    have hi : ¬ ((0 : Int) < imax x 0) := by unfold imax; rw [if_pos (by omega)]; omega
    have : x.toNat = 0 := by omega
    simp [i_repeat_l1, hi, this]
theorem blanks_l1_eq (x : Int) (hx : x ≤ 1000000) : ∀ (n i N : Nat) (o : List UInt8), (x - i).toNat = n → n < N → o.length = i → i ≤ 1000000 → ∀ K, s_l08Blanks_l1 K x N o (i : Int) = K (o ++ List.replicate n 32) := by
  intro n
  induction n with
  | zero =>
    intro i N o h1 h2 h3 h4 K
    obtain ⟨N, rfl⟩ := pos_fuel h2
    have hi : ¬ ((i : Int) < x) := by omega
    simp [s_l08Blanks_l1, hi]
  | succ n ih =>
    intro i N o h1 h2 h3 h4 K
    obtain ⟨N, rfl⟩ := pos_fuel h2
    have hi : (i : Int) < x := by omega
    have ea : app o [32] = some (o ++ [32]) := app_some _ _ (by simp; unfold LIM; omega)
    simp only [s_l08Blanks_l1, hi, decide_true, cond_true, ea, Option.bind_some, w64_nat i (by omega)]
    rw [ih (i + 1) N (o ++ [32]) (by omega) (by omega) (by simp; omega) (by omega) K]
    simp [List.replicate_succ]
theorem blanks_eq (N : Nat) (x : Int) (hx : x ≤ 1000000) (hN : x < N) (hN0 : 0 < N) : s_l08Blanks N x = some (List.replicate x.toNat 32) := by
  unfold s_l08Blanks
  have := blanks_l1_eq x hx x.toNat 0 N [] (by simp) (by omega) rfl (by omega) (fun l => some l)
  simpa using this
theorem f6texts_l1_eq (a : List Str) (ha : a.length ≤ LIM) : ∀ (n i N : Nat), i + n = a.length → n < N → w_f6texts_l1 (some true) a a N (i : Int) = some true := by
  intro n
  induction n with
  | zero =>
    intro i N h1 h3
    obtain ⟨N, rfl⟩ := pos_fuel h3
    have hi : ¬ ((i : Int) < (a.length : Int)) := by omega
    simp only [w_f6texts_l1, hi, decide_false, cond_false]
  | succ n ih =>
    intro i N h1 h3
    obtain ⟨N, rfl⟩ := pos_fuel h3
    have hi : (i : Int) < (a.length : Int) := by omega
    have hn : i < a.length := by omega
    unfold LIM at ha
    simp only [w_f6texts_l1, hi, decide_true, cond_true, idx_lt a i hn, Option.bind_some, bne_self_eq_false, cond_false, w64_nat i (by omega)]
    exact ih (i + 1) N (by omega) (by omega)
theorem f6texts_eq {N : Nat} (a : List Str) (ha : a.length ≤ LIM) (hN : a.length < N) : w_f6texts N a a = some true := by
  unfold w_f6texts
  simp only [bne_self_eq_false, cond_false, withK_eq]
  exact f6texts_l1_eq a ha a.length 0 N (by omega) hN
theorem i_isColumn_eq (x : Int) : i_isColumn x = some (inr x 0 119) := by simp only [i_isColumn, i_between, andO_some, inr, Option.bind_some]
/-- from place i on the stops are right -/
def rgt (l : List Int) (i : Nat) : Prop := ∀ j, i ≤ j → ∀ h : j < l.length, (0 ≤ l[j] ∧ l[j] ≤ 119) ∧ ∀ h0 : 0 < j, l[j - 1]'(by omega) < l[j]
theorem Rack_l1_eq (l : List Int) (ha : l.length ≤ LIM) : ∀ (n i : Nat), i + n = l.length → ∃ t : Bool, (t = true ↔ rgt l i) ∧ ∀ N, n < N →
    s_l00Rises_l1 (some true) l 0 119 N (i : Int) = some t ∧ i_ValidRack_l1 (some true) l N (i : Int) = some t := by
  intro n
  induction n with
  | zero =>
    intro i h1
    have hi : ¬ ((i : Int) < (l.length : Int)) := by omega
    refine ⟨true, ⟨fun _ j hj h => by omega, fun _ => rfl⟩, fun N hN => ?_⟩
    obtain ⟨N, rfl⟩ := pos_fuel hN
    simp [s_l00Rises_l1, i_ValidRack_l1, hi]
  | succ n ih =>
    intro i h1
    have hi : (i : Int) < (l.length : Int) := by omega
    have hn : i < l.length := by omega
    have la := ha
    unfold LIM at la
    obtain ⟨t, h2, h3⟩ := ih (i + 1) (by omega)
    by_cases h0 : 0 < i
    · have e1 : w64 ((i : Int) - 1) = ((i - 1 : Nat) : Int) := by rw [w64_id (by omega) (by omega)]; omega
      have hx := idx_lt l (i - 1) (by omega)
      refine ⟨inr l[i] 0 119 && (decide (l[i - 1] < l[i]) && t), ?_, fun N hN => ?_⟩
      · simp only [Bool.and_eq_true, inr_iff, decide_eq_true_eq, h2]
        constructor
        · rintro ⟨g1, g2, g3⟩ j hj hj2
          by_cases e : j = i
          · subst e; exact ⟨g1, fun _ => g2⟩
          · exact g3 j (by omega) hj2
        · intro g
          exact ⟨(g i (by omega) hn).1, (g i (by omega) hn).2 h0, fun j hj hj2 => g j (by omega) hj2⟩
      · obtain ⟨N, rfl⟩ := pos_fuel (by omega : 0 < N)
        obtain ⟨h4, h5⟩ := h3 N (by omega)
        have g0 : (i : Int) > 0 := by omega
        have c1 : decide (l[i - 1] ≥ l[i]) = !(decide (l[i - 1] < l[i])) := by simp [← Int.not_lt]
        have c2 : decide (l[i] ≤ l[i - 1]) = !(decide (l[i - 1] < l[i])) := by simp [← Int.not_lt]
        simp only [s_l00Rises_l1, i_ValidRack_l1, hi, decide_true, cond_true, idx_lt l i hn, Option.bind_some, s_l00In_eq, i_isColumn_eq, g0, andO_true, e1, hx, orO_some, c1, c2, w64_nat i (by omega), h4, h5]
        cases inr l[i] 0 119 <;> cases decide (l[i - 1] < l[i]) <;> exact ⟨rfl, rfl⟩
    · have : i = 0 := by omega
      subst this
      refine ⟨inr l[0] 0 119 && t, ?_, fun N hN => ?_⟩
      · simp only [Bool.and_eq_true, inr_iff, h2]
        constructor
        · rintro ⟨g1, g3⟩ j hj hj2
          by_cases e : j = 0
          · subst e; exact ⟨g1, fun h => absurd h (by omega)⟩
          · exact g3 j (by omega) hj2
        · intro g
          exact ⟨(g 0 (by omega) hn).1, fun j hj hj2 => g j (by omega) hj2⟩
      · obtain ⟨N, rfl⟩ := pos_fuel (by omega : 0 < N)
        obtain ⟨h4, h5⟩ := h3 N (by omega)
        have g0 : ¬ (((0 : Nat) : Int) > 0) := by omega
        simp only [s_l00Rises_l1, i_ValidRack_l1, hi, decide_true, cond_true, idx_lt l 0 hn, Option.bind_some, s_l00In_eq, i_isColumn_eq, g0, decide_false, andO_false, orO_some, Bool.or_false, w64_nat 0 (by omega), h4, h5]
        cases inr l[0] 0 119 <;> exact ⟨rfl, rfl⟩
def VR (l : List Int) : Prop := l.length ≤ 12 ∧ rgt l 0
theorem Rack_eq (l : List Int) (ha : l.length ≤ LIM) : ∃ t : Bool, (t = true ↔ VR l) ∧ ∀ N, l.length < N → s_l08Ok N l = some t ∧ i_ValidRack N l = some t := by
  obtain ⟨t, h1, h2⟩ := Rack_l1_eq l ha l.length 0 (by omega)
  refine ⟨decide ((l.length : Int) ≤ 12) && t, ?_, fun N hN => ?_⟩
  · simp only [Bool.and_eq_true, decide_eq_true_eq, h1, VR]
    constructor
    · rintro ⟨a, b⟩; exact ⟨by omega, b⟩
    · rintro ⟨a, b⟩; exact ⟨by omega, b⟩
  · obtain ⟨h3, h4⟩ := h2 N hN
    rw [show ((0 : Nat) : Int) = 0 from rfl] at h3 h4
    have e : decide ((l.length : Int) > 12) = !(decide ((l.length : Int) ≤ 12)) := by simp [← Int.not_le]
    simp only [s_l08Ok, s_l00Rises, i_ValidRack, withK_eq, h3, h4, Option.bind_some, andO_some, e]
    cases decide ((l.length : Int) ≤ 12) <;> cases t <;> simp
/-! Faults of a layout's text, and its rows. -/
/-! Mirrored rows. -/
/-! shares -/
def isum : List Int → Int
  | [] => 0
  | x :: r => x + isum r
theorem isum_set : ∀ (l : List Int) (i : Nat) (h : i < l.length), isum (l.set i (l[i] + 1)) = isum l + 1
  | x :: r, 0, _ => by simp only [List.set_cons_zero, List.getElem_cons_zero, isum]; omega
  | x :: r, i + 1, h => by
    have := isum_set r i (by simpa using h)
    simp only [List.set_cons_succ, List.getElem_cons_succ, isum, this]; omega
theorem isum_rep : ∀ n : Nat, isum (List.replicate n 0) = 0
  | 0 => rfl
  | n + 1 => by rw [List.replicate_succ, isum, isum_rep n]; rfl
/-! the text -/
theorem joinTail_cons (sep x : Str) (r : List Str) : Lib.joinTail sep (x :: r) = sep ++ x ++ Lib.joinTail sep r := by simp [Lib.joinTail]
theorem join_le : ∀ (r : List Str) (sep : Str), (∀ w ∈ r, w.length ≤ 100) → (Lib.joinTail sep r).length ≤ (100 + sep.length) * r.length
  | [], _, _ => by simp [Lib.joinTail]
  | x :: r, sep, h => by
    have h1 := h x List.mem_cons_self
    have h2 := join_le r sep fun w hw => h w (List.mem_cons_of_mem _ hw)
    rw [joinTail_cons, List.length_append, List.length_append, List.length_cons, Nat.mul_add]
    omega
theorem join_len (rows : List Str) (hr : rows.length ≤ 10) (hw : ∀ w ∈ rows, w.length ≤ 100) : (Lib.join rows [47]).length ≤ 2000 := by
  cases rows with
  | nil => simp [Lib.join_nil]
  | cons w0 r =>
    have h1 := hw w0 List.mem_cons_self
    have h2 := join_le r [47] fun w h => hw w (List.mem_cons_of_mem _ h)
    rw [Lib.join_cons, List.length_append]
    simp only [List.length_cons, List.length_nil] at hr h2
    omega
/-! Drawn layouts. -/
/-! what is the same as itself -/
theorem fi_l1 (l : List Int) (hl : l.length ≤ 100) (kj : Option Bool) : ∀ (q x N : Nat), x + q = l.length → q < N → w_f6ints_l1 kj l l N (x : Int) = kj := by
  intro q
  induction q with
  | zero =>
    intro x N hx hN
    obtain ⟨N, rfl⟩ := pos_fuel hN
    rw [w_f6ints_l1, decide_eq_false (by omega : ¬ (x : Int) < (l.length : Int)), cond_false]
  | succ q ih =>
    intro x N hx hN
    obtain ⟨N, rfl⟩ := pos_fuel hN
    have hlt : x < l.length := by omega
    have hne : (l[x] != l[x]) = false := by simp
    rw [w_f6ints_l1, decide_eq_true (by omega : (x : Int) < (l.length : Int)), cond_true, idx_lt l x hlt, Option.bind_some, Option.bind_some, hne, cond_false, w64_nat x (by omega)]
    exact ih (x + 1) N (by omega) (by omega)
theorem ints_ok (l : List Int) (hl : l.length ≤ 100) (N : Nat) (hN : 200 < N) : w_f6ints N l l = some true := by
  unfold w_f6ints
  have hne : ((l.length : Int) != (l.length : Int)) = false := by simp
  rw [hne, cond_false, withK_n]
  exact fi_l1 l hl (some true) l.length 0 N (by omega) (by omega)
theorem fs_l1 (l : List Int) (hl : l.length ≤ 100) (hb : ∀ v ∈ l, 0 ≤ v ∧ v ≤ 300) (kj : Int → Option Int) : ∀ (q x N : Nat) (s : Int), x + q = l.length → q < N → 0 ≤ s → s ≤ 300 * x → w_f6sum_l1 kj l N s (x : Int) = kj (s + isum (l.drop x)) := by
  intro q
  induction q with
  | zero =>
    intro x N s hx hN h0 h1
    obtain ⟨N, rfl⟩ := pos_fuel hN
    rw [w_f6sum_l1, decide_eq_false (by omega : ¬ (x : Int) < (l.length : Int)), cond_false, List.drop_eq_nil_of_le (by omega)]
    simp only [isum, Int.add_zero]
  | succ q ih =>
    intro x N s hx hN h0 h1
    obtain ⟨N, rfl⟩ := pos_fuel hN
    have hlt : x < l.length := by omega
    have hv := hb _ (List.getElem_mem hlt)
    rw [w_f6sum_l1, decide_eq_true (by omega : (x : Int) < (l.length : Int)), cond_true, idx_lt l x hlt, Option.bind_some, w64_nat x (by omega), w64_id (by omega) (by omega), List.drop_eq_getElem_cons hlt, isum, ← Int.add_assoc]
    exact ih (x + 1) N _ (by omega) (by omega) (by omega) (by omega)
theorem sum_ok (l : List Int) (hl : l.length ≤ 100) (hb : ∀ v ∈ l, 0 ≤ v ∧ v ≤ 300) (N : Nat) (hN : 200 < N) : w_f6sum N l = some (isum l) := by
  unfold w_f6sum
  rw [withK_n]
  have := fs_l1 l hl hb (fun s => some s) l.length 0 N 0 (by omega) (by omega) (Int.le_refl _) (by omega)
  rw [show ((0 : Nat) : Int) = 0 from rfl, List.drop_zero, Int.zero_add] at this
  exact this
end Go.Proofs.Ytpmanofdlhlkdaa
