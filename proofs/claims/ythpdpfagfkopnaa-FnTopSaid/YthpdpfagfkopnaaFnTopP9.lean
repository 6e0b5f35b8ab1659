/-
  Plain lemmas on these functions. No conditions but those that each states.
-/
import Derived.Test.YthpdpfagfkopnaaFnTopP8
namespace Go.Proofs.Ythpdpfagfkopnaa
set_option linter.unusedVariables false
set_option linter.unusedSimpArgs false
/-! Steps between two texts, and the least number of errors. -/
def Sx : List UInt8 := [43, 45, 61, 120, 126]
def stp (a b : Str) (s : UInt8) : Option (Nat × Nat × Int) :=
  if s = 43 then (match b with
    | _ :: _ => some (0, 1, 1)
    | [] => none)
  else if s = 45 then (match a with
    | _ :: _ => some (1, 0, 1)
    | [] => none)
  else if s = 61 then (match a, b with
    | x :: _, y :: _ => if x = y then some (1, 1, 0) else none
    | _, _ => none)
  else if s = 120 then (match a, b with
    | x :: _, y :: _ => if x = y then none else some (1, 1, 1)
    | _, _ => none)
  else if s = 126 then (match a, b with
    | x :: x2 :: _, y :: y2 :: _ => if x ≠ x2 ∧ x = y2 ∧ x2 = y then some (2, 2, 1) else none
    | _, _ => none)
  else none
theorem stp_plus (a b : Str) : stp a b 43 = (match b with
    | _ :: _ => some (0, 1, 1)
    | [] => none) := rfl
theorem stp_minus (a b : Str) : stp a b 45 = (match a with
    | _ :: _ => some (1, 0, 1)
    | [] => none) := rfl
theorem stp_eq (a b : Str) : stp a b 61 = (match a, b with
    | x :: _, y :: _ => if x = y then some (1, 1, 0) else none
    | _, _ => none) := rfl
theorem stp_x (a b : Str) : stp a b 120 = (match a, b with
    | x :: _, y :: _ => if x = y then none else some (1, 1, 1)
    | _, _ => none) := rfl
theorem stp_swap (a b : Str) : stp a b 126 = (match a, b with
    | x :: x2 :: _, y :: y2 :: _ => if x ≠ x2 ∧ x = y2 ∧ x2 = y then some (2, 2, 1) else none
    | _, _ => none) := rfl
/-- what a step that can be made looks like -/
theorem stp_cases {a b : Str} {s : UInt8} {di dk : Nat} {e : Int} (h : stp a b s = some (di, dk, e)) :
    (s = 43 ∧ di = 0 ∧ dk = 1 ∧ e = 1 ∧ ∃ y b', b = y :: b') ∨ (s = 45 ∧ di = 1 ∧ dk = 0 ∧ e = 1 ∧ ∃ x a', a = x :: a') ∨
    (s = 61 ∧ di = 1 ∧ dk = 1 ∧ e = 0 ∧ ∃ x a' b', a = x :: a' ∧ b = x :: b') ∨ (s = 120 ∧ di = 1 ∧ dk = 1 ∧ e = 1 ∧ ∃ x a' y b', a = x :: a' ∧ b = y :: b' ∧ x ≠ y) ∨
    (s = 126 ∧ di = 2 ∧ dk = 2 ∧ e = 1 ∧ ∃ x y a' b', a = x :: y :: a' ∧ b = y :: x :: b' ∧ x ≠ y) := by
  by_cases h1 : s = 43
  · subst h1
    rw [stp_plus] at h
    cases b with
    | nil => cases h
    | cons y b => simp at h; obtain ⟨rfl, rfl, rfl⟩ := h; exact .inl ⟨rfl, rfl, rfl, rfl, y, b, rfl⟩
  by_cases h2 : s = 45
  · subst h2
    rw [stp_minus] at h
    cases a with
    | nil => cases h
    | cons x a => simp at h; obtain ⟨rfl, rfl, rfl⟩ := h; exact .inr (.inl ⟨rfl, rfl, rfl, rfl, x, a, rfl⟩)
  by_cases h3 : s = 61
  · subst h3
    rw [stp_eq] at h
    match a, b, h with
    | x :: a, y :: b, h =>
      by_cases hxy : x = y
      · subst hxy; simp at h; obtain ⟨rfl, rfl, rfl⟩ := h
        exact .inr (.inr (.inl ⟨rfl, rfl, rfl, rfl, x, a, b, rfl, rfl⟩))
      · simp [hxy] at h
    | [], _, h => cases h
    | _ :: _, [], h => cases h
  by_cases h4 : s = 120
  · subst h4
    rw [stp_x] at h
    match a, b, h with
    | x :: a, y :: b, h =>
      by_cases hxy : x = y
      · simp [hxy] at h
      · simp [hxy] at h; obtain ⟨rfl, rfl, rfl⟩ := h
        exact .inr (.inr (.inr (.inl ⟨rfl, rfl, rfl, rfl, x, a, y, b, rfl, rfl, hxy⟩)))
    | [], _, h => cases h
    | _ :: _, [], h => cases h
  by_cases h5 : s = 126
  · subst h5
    rw [stp_swap] at h
    match a, b, h with
    | x :: x2 :: a, y :: y2 :: b, h =>
      by_cases hc : x ≠ x2 ∧ x = y2 ∧ x2 = y
      · obtain ⟨g1, rfl, rfl⟩ := hc
        simp [g1] at h; obtain ⟨rfl, rfl, rfl⟩ := h
        exact .inr (.inr (.inr (.inr ⟨rfl, rfl, rfl, rfl, x, x2, a, b, rfl, rfl, g1⟩)))
      · simp only [hc, if_false] at h; cases h
    | [], _, h => cases h
    | [_], _, h => cases h
    | _ :: _ :: _, [], h => cases h
    | _ :: _ :: _, [_], h => cases h
  · unfold stp at h
    simp [h1, h2, h3, h4, h5] at h
theorem stp_dec {a b : Str} {s : UInt8} {di dk : Nat} {e : Int} (h : stp a b s = some (di, dk, e)) : di ≤ a.length ∧ dk ≤ b.length ∧ 1 ≤ di + dk ∧ 0 ≤ e ∧ e ≤ 1 ∧ di ≤ 2 ∧ dk ≤ 2 := by
  rcases stp_cases h with ⟨_, rfl, rfl, rfl, y, b', rfl⟩ | ⟨_, rfl, rfl, rfl, x, a', rfl⟩ | ⟨_, rfl, rfl, rfl, x, a', b', rfl, rfl⟩ | ⟨_, rfl, rfl, rfl, x, a', y, b', rfl, rfl, _⟩ | ⟨_, rfl, rfl, rfl, x, y, a', b', rfl, rfl, _⟩ <;> simp
def fb (f : Str → Str → Int) (a b : Str) (best : Int) (s : UInt8) : Int := match stp a b s with
  | some (di, dk, e) => if best < 0 ∨ f (a.drop di) (b.drop dk) + e < best then f (a.drop di) (b.drop dk) + e else best
  | none => best
def levF : Nat → Str → Str → Int
  | 0, _, _ => 0
  | n + 1, a, b => imax (Sx.foldl (fb (levF n) a b) (-1)) 0
def lev (a b : Str) : Int := levF (a.length + b.length + 1) a b
theorem fb_congr {f g : Str → Str → Int} {a b : Str} (h : ∀ di dk : Nat, di ≤ a.length → dk ≤ b.length → 1 ≤ di + dk → f (a.drop di) (b.drop dk) = g (a.drop di) (b.drop dk)) : fb f a b = fb g a b := by
  funext best s
  unfold fb
  cases hs : stp a b s with
  | none => rfl
  | some t =>
    obtain ⟨di, dk, e⟩ := t
    have hd := stp_dec hs
    simp only [h di dk hd.1 hd.2.1 hd.2.2.1]
theorem levF_stable : ∀ (n m : Nat) (a b : Str), a.length + b.length < n → a.length + b.length < m → levF n a b = levF m a b
  | 0, _, _, _, h, _ => by omega
  | _ + 1, 0, _, _, _, h => by omega
  | n + 1, m + 1, a, b, h1, h2 => by
    simp only [levF]
    rw [fb_congr (g := levF m) fun di dk q1 q2 q3 => levF_stable n m _ _ (by rw [List.length_drop, List.length_drop]; omega) (by rw [List.length_drop, List.length_drop]; omega)]
theorem lev_eq (a b : Str) : lev a b = imax (Sx.foldl (fb lev a b) (-1)) 0 := by
  show imax (Sx.foldl (fb (levF (a.length + b.length)) a b) (-1)) 0 = _
  rw [fb_congr (g := lev) fun di dk q1 q2 q3 => levF_stable _ _ _ _ (by rw [List.length_drop, List.length_drop]; omega) (by omega)]
theorem lev_nn (a b : Str) : 0 ≤ lev a b := by
  rw [lev_eq]
  unfold imax
  split <;> omega
theorem fold_spec (f : Str → Str → Int) (hf : ∀ a b, 0 ≤ f a b) (a b : Str) : ∀ (l : List UInt8) (best : Int), (0 ≤ best → l.foldl (fb f a b) best ≤ best) ∧ (0 ≤ best → 0 ≤ l.foldl (fb f a b) best) ∧
    (∀ s ∈ l, ∀ di dk e, stp a b s = some (di, dk, e) → 0 ≤ l.foldl (fb f a b) best ∧ l.foldl (fb f a b) best ≤ f (a.drop di) (b.drop dk) + e) ∧
    (l.foldl (fb f a b) best = best ∨ ∃ s ∈ l, ∃ di dk e, stp a b s = some (di, dk, e) ∧ l.foldl (fb f a b) best = f (a.drop di) (b.drop dk) + e)
  | [], best => ⟨fun _ => Int.le_refl _, fun h => h, (fun s hs => by cases hs), .inl rfl⟩
  | s :: l, best => by
    obtain ⟨h1, h2, h3, h4⟩ := fold_spec f hf a b l (fb f a b best s)
    simp only [List.foldl_cons]
    have hc : (stp a b s = none ∧ fb f a b best s = best) ∨ ∃ di dk e, stp a b s = some (di, dk, e) ∧ 0 ≤ e ∧ ((fb f a b best s = f (a.drop di) (b.drop dk) + e ∧ (best < 0 ∨ f (a.drop di) (b.drop dk) + e < best)) ∨ (fb f a b best s = best ∧ 0 ≤ best ∧ best ≤ f (a.drop di) (b.drop dk) + e)) := by
      unfold fb
      cases hs : stp a b s with
      | none => exact .inl ⟨rfl, rfl⟩
      | some t =>
        obtain ⟨di, dk, e⟩ := t
        have hd := stp_dec hs
        right
        refine ⟨di, dk, e, rfl, hd.2.2.2.1, ?_⟩
        by_cases hq : best < 0 ∨ f (a.drop di) (b.drop dk) + e < best
        · left; exact ⟨by simp only [hq, if_true], hq⟩
        · right; exact ⟨by simp only [hq, if_false], by omega, by omega⟩
    rcases hc with ⟨g1, g2⟩ | ⟨di, dk, e, g1, g0, g2⟩
    · rw [g2] at h1 h2 h3 h4 ⊢
      refine ⟨h1, h2, fun s' hs' di dk e hst => ?_, ?_⟩
      · rcases List.mem_cons.1 hs' with rfl | hs'
        · rw [g1] at hst; cases hst
        · exact h3 s' hs' di dk e hst
      · rcases h4 with h4 | ⟨s', q1, q2⟩
        · exact .inl h4
        · exact .inr ⟨s', List.mem_cons_of_mem _ q1, q2⟩
    · have hfn := hf (a.drop di) (b.drop dk)
      have hpos : 0 ≤ fb f a b best s ∧ fb f a b best s ≤ f (a.drop di) (b.drop dk) + e ∧ (0 ≤ best → fb f a b best s ≤ best) := by
        rcases g2 with ⟨g2, g3⟩ | ⟨g2, g3, g4⟩ <;> rw [g2] <;> refine ⟨by omega, by omega, fun _ => by omega⟩
      have k1 := h1 hpos.1
      have k2 := h2 hpos.1
      refine ⟨fun hb => ?_, fun _ => k2, fun s' hs' di' dk' e' hst => ?_, ?_⟩
      · have := hpos.2.2 hb; omega
      · rcases List.mem_cons.1 hs' with rfl | hs'
        · rw [g1] at hst
          obtain ⟨rfl, rfl, rfl⟩ : di = di' ∧ dk = dk' ∧ e = e' := by simpa using hst
          exact ⟨k2, by omega⟩
        · exact h3 s' hs' di' dk' e' hst
      · rcases h4 with h4 | ⟨s', q1, q2⟩
        · rcases g2 with ⟨g2, _⟩ | ⟨g2, _⟩
          · exact .inr ⟨s, List.mem_cons_self, di, dk, e, g1, by rw [h4, g2]⟩
          · exact .inl (by rw [h4, g2])
        · exact .inr ⟨s', List.mem_cons_of_mem _ q1, q2⟩
theorem lev_le {a b : Str} {s : UInt8} (hs : s ∈ Sx) {di dk : Nat} {e : Int} (h : stp a b s = some (di, dk, e)) : lev a b ≤ lev (a.drop di) (b.drop dk) + e := by
  have h1 := (fold_spec lev lev_nn a b Sx (-1)).2.2.1 s hs di dk e h
  rw [lev_eq a b]
  unfold imax
  split <;> omega
theorem lev_nil : lev [] [] = 0 := by
  rw [lev_eq]
  rfl
theorem lev_ex {a b : Str} (h : a ≠ [] ∨ b ≠ []) : ∃ s ∈ Sx, ∃ di dk e, stp a b s = some (di, dk, e) ∧ lev a b = lev (a.drop di) (b.drop dk) + e := by
  obtain ⟨_, _, h3, h4⟩ := fold_spec lev lev_nn a b Sx (-1)
  have hnn : 0 ≤ Sx.foldl (fb lev a b) (-1) := by
    rcases h with h | h
    · cases a with
      | nil => exact absurd rfl h
      | cons x a => exact (h3 45 (by decide) 1 0 1 rfl).1
    · cases b with
      | nil => exact absurd rfl h
      | cons y b => exact (h3 43 (by decide) 0 1 1 rfl).1
  have he : lev a b = Sx.foldl (fb lev a b) (-1) := by
    rw [lev_eq a b]
    unfold imax
    split <;> omega
  rcases h4 with h4 | ⟨s, q1, di, dk, e, q2, q3⟩
  · omega
  · exact ⟨s, q1, di, dk, e, q2, by rw [he, q3]⟩
theorem in43 : (43 : UInt8) ∈ Sx := by decide
theorem in45 : (45 : UInt8) ∈ Sx := by decide
theorem in61 : (61 : UInt8) ∈ Sx := by decide
theorem in120 : (120 : UInt8) ∈ Sx := by decide
theorem in126 : (126 : UInt8) ∈ Sx := by decide
theorem lev_ins (a : Str) (y : UInt8) (b : Str) : lev a (y :: b) ≤ lev a b + 1 := lev_le in43 (di := 0) (dk := 1) (e := 1) rfl
theorem lev_del (x : UInt8) (a b : Str) : lev (x :: a) b ≤ lev a b + 1 := lev_le in45 (di := 1) (dk := 0) (e := 1) rfl
theorem lev_same (x : UInt8) (a b : Str) : lev (x :: a) (x :: b) ≤ lev a b := by
  have := lev_le (a := x :: a) (b := x :: b) in61 (di := 1) (dk := 1) (e := 0) (by rw [stp_eq]; simp)
  simpa using this
theorem lev_sub (x y : UInt8) (hxy : x ≠ y) (a b : Str) : lev (x :: a) (y :: b) ≤ lev a b + 1 := by
  have := lev_le (a := x :: a) (b := y :: b) in120 (di := 1) (dk := 1) (e := 1) (by rw [stp_x]; simp [hxy])
  simpa using this
theorem lev_swap (x y : UInt8) (hxy : x ≠ y) (a b : Str) : lev (x :: y :: a) (y :: x :: b) ≤ lev a b + 1 := by
  have := lev_le (a := x :: y :: a) (b := y :: x :: b) in126 (di := 2) (dk := 2) (e := 1) (by rw [stp_swap]; simp [hxy])
  simpa using this
theorem lev_up : ∀ (a b : Str), lev a b ≤ a.length + b.length
  | [], [] => by rw [lev_nil]; simp
  | [], y :: b => by have := lev_ins [] y b; have := lev_up [] b; simp at *; omega
  | x :: a, b => by have := lev_del x a b; have := lev_up a b; simp at *; omega
/-- the other way round -/
theorem lev_comm_le : ∀ (n : Nat) (a b : Str), a.length + b.length ≤ n → lev b a ≤ lev a b
  | 0, a, b, h => by
    have ha : a = [] := List.length_eq_zero_iff.1 (by omega)
    have hb : b = [] := List.length_eq_zero_iff.1 (by omega)
    subst ha hb
    exact Int.le_refl _
  | n + 1, a, b, h => by
    by_cases he : a ≠ [] ∨ b ≠ []
    · obtain ⟨s, _, di, dk, e, h1, h2⟩ := lev_ex he
      rw [h2]
      have hd := stp_dec h1
      have ih := lev_comm_le n (a.drop di) (b.drop dk) (by rw [List.length_drop, List.length_drop]; omega)
      rcases stp_cases h1 with ⟨_, rfl, rfl, rfl, y, b', rfl⟩ | ⟨_, rfl, rfl, rfl, x, a', rfl⟩ | ⟨_, rfl, rfl, rfl, x, a', b', rfl, rfl⟩ | ⟨_, rfl, rfl, rfl, x, a', y, b', rfl, rfl, hxy⟩ | ⟨_, rfl, rfl, rfl, x, y, a', b', rfl, rfl, hxy⟩ <;> simp only [List.drop_zero, List.drop_succ_cons] at ih ⊢
      · have := lev_del y b' a; omega
      · have := lev_ins b x a'; omega
      · have := lev_same x b' a'; omega
      · have := lev_sub y x (fun e => hxy e.symm) b' a'; omega
      · have := lev_swap y x (fun e => hxy e.symm) b' a'; omega
    · have ha : a = [] := by by_cases ha : a = []; exact ha; exact absurd (.inl ha) he
      have hb : b = [] := by by_cases hb : b = []; exact hb; exact absurd (.inr hb) he
      subst ha hb
      exact Int.le_refl _
theorem lev_comm (a b : Str) : lev a b = lev b a := Int.le_antisymm (lev_comm_le _ b a (Nat.le_refl _)) (lev_comm_le _ a b (Nat.le_refl _))
theorem lev_self : ∀ a : Str, lev a a = 0
  | [] => lev_nil
  | x :: a => by have := lev_same x a a; have := lev_self a; have := lev_nn (x :: a) (x :: a); omega
theorem lev_zero : ∀ (n : Nat) (a b : Str), a.length + b.length ≤ n → lev a b = 0 → a = b
  | 0, a, b, h, _ => by
    have ha : a = [] := List.length_eq_zero_iff.1 (by omega)
    have hb : b = [] := List.length_eq_zero_iff.1 (by omega)
    rw [ha, hb]
  | n + 1, a, b, h, h0 => by
    by_cases he : a ≠ [] ∨ b ≠ []
    · obtain ⟨s, _, di, dk, e, h1, h2⟩ := lev_ex he
      have hd := stp_dec h1
      have hnn := lev_nn (a.drop di) (b.drop dk)
      have ih := lev_zero n (a.drop di) (b.drop dk) (by rw [List.length_drop, List.length_drop]; omega) (by omega)
      rcases stp_cases h1 with ⟨_, rfl, rfl, rfl, y, b', rfl⟩ | ⟨_, rfl, rfl, rfl, x, a', rfl⟩ | ⟨_, rfl, rfl, rfl, x, a', b', rfl, rfl⟩ | ⟨_, rfl, rfl, rfl, x, a', y, b', rfl, rfl, hxy⟩ | ⟨_, rfl, rfl, rfl, x, y, a', b', rfl, rfl, hxy⟩
      · omega
      · omega
      · simp only [List.drop_succ_cons, List.drop_zero] at ih; rw [ih]
      · omega
      · omega
    · have ha : a = [] := by by_cases ha : a = []; exact ha; exact absurd (.inl ha) he
      have hb : b = [] := by by_cases hb : b = []; exact hb; exact absurd (.inr hb) he
      rw [ha, hb]
/-- one letter more at the end -/
theorem lev_more (q : UInt8) : ∀ (n : Nat) (a b : Str), a.length + b.length ≤ n → lev a (b ++ [q]) ≤ lev a b + 1
  | 0, a, b, h => by
    have ha : a = [] := List.length_eq_zero_iff.1 (by omega)
    have hb : b = [] := List.length_eq_zero_iff.1 (by omega)
    subst ha hb
    exact lev_ins [] q []
  | n + 1, a, b, h => by
    by_cases he : a ≠ [] ∨ b ≠ []
    · obtain ⟨s, _, di, dk, e, h1, h2⟩ := lev_ex he
      have hd := stp_dec h1
      have ih := lev_more q n (a.drop di) (b.drop dk) (by rw [List.length_drop, List.length_drop]; omega)
      rw [h2]
      rcases stp_cases h1 with ⟨_, rfl, rfl, rfl, y, b', rfl⟩ | ⟨_, rfl, rfl, rfl, x, a', rfl⟩ | ⟨_, rfl, rfl, rfl, x, a', b', rfl, rfl⟩ | ⟨_, rfl, rfl, rfl, x, a', y, b', rfl, rfl, hxy⟩ | ⟨_, rfl, rfl, rfl, x, y, a', b', rfl, rfl, hxy⟩ <;> simp only [List.drop_zero, List.drop_succ_cons] at ih ⊢ <;> try simp only [List.cons_append] at ih ⊢
      · have := lev_ins a y (b' ++ [q]); omega
      · have := lev_del x a' (b ++ [q]); omega
      · have := lev_same x a' (b' ++ [q]); omega
      · have := lev_sub x y hxy a' (b' ++ [q]); omega
      · have := lev_swap x y hxy a' (b' ++ [q]); omega
    · have ha : a = [] := by by_cases ha : a = []; exact ha; exact absurd (.inl ha) he
      have hb : b = [] := by by_cases hb : b = []; exact hb; exact absurd (.inr hb) he
      subst ha hb
      exact lev_ins [] q []
theorem lev_less (q : UInt8) : ∀ (n : Nat) (a b : Str), a.length + b.length ≤ n → lev a b ≤ lev a (b ++ [q]) + 1
  | 0, a, b, h => by
    have ha : a = [] := List.length_eq_zero_iff.1 (by omega)
    have hb : b = [] := List.length_eq_zero_iff.1 (by omega)
    subst ha hb
    have := lev_nn [] ([] ++ [q])
    rw [lev_nil]; omega
  | n + 1, a, b, h => by
    obtain ⟨s, _, di, dk, e, h1, h2⟩ := lev_ex (a := a) (b := b ++ [q]) (.inr (by simp))
    rw [h2]
    rcases stp_cases h1 with ⟨_, rfl, rfl, rfl, y, b', hb⟩ | ⟨_, rfl, rfl, rfl, x, a', rfl⟩ | ⟨_, rfl, rfl, rfl, x, a', b', rfl, hb⟩ | ⟨_, rfl, rfl, rfl, x, a', y, b', rfl, hb, hxy⟩ | ⟨_, rfl, rfl, rfl, x, y, a', b', rfl, hb, hxy⟩
    · cases b with
      | nil => simp; omega
      | cons z b =>
        have ih := lev_less q n a b (by simp at h; omega)
        have := lev_ins a z b
        simp only [List.cons_append, List.drop_succ_cons, List.drop_zero]; omega
    · have ih := lev_less q n a' b (by simp at h; omega)
      have := lev_del x a' b
      simp only [List.drop_succ_cons, List.drop_zero]; omega
    · cases b with
      | nil =>
        have := lev_del x a' []
        simp; omega
      | cons z b =>
        simp only [List.cons_append, List.cons.injEq] at hb
        obtain ⟨rfl, _⟩ := hb
        have ih := lev_less q n a' b (by simp at h; omega)
        have := lev_same z a' b
        simp only [List.cons_append, List.drop_succ_cons, List.drop_zero]; omega
    · cases b with
      | nil =>
        have := lev_del x a' []
        simp; omega
      | cons z b =>
        simp only [List.cons_append, List.cons.injEq] at hb
        obtain ⟨rfl, _⟩ := hb
        have ih := lev_less q n a' b (by simp at h; omega)
        have := lev_sub x z hxy a' b
        simp only [List.cons_append, List.drop_succ_cons, List.drop_zero]; omega
    · match b, hb, h with
      | [], hb, _ => simp at hb
      | [z], hb, _ =>
        simp at hb
        obtain ⟨rfl, rfl, rfl⟩ := hb
        have g1 := lev_del q (z :: a') [z]
        have g2 := lev_same z a' []
        simp; omega
      | z :: z2 :: b, hb, h =>
        simp only [List.cons_append, List.cons.injEq] at hb
        obtain ⟨rfl, rfl, _⟩ := hb
        have ih := lev_less q n a' b (by simp at h; omega)
        have := lev_swap z2 z hxy a' b
        simp only [List.cons_append, List.drop_succ_cons, List.drop_zero]; omega
end Go.Proofs.Ythpdpfagfkopnaa
