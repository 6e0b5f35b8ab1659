/-
  Plain lemmas on these functions. No conditions but those that each states.
-/
import Derived.Test.YtdnnnakjhehfkaaDoorFnReplacementsP3
namespace Go.Proofs.YtdnnnakjhehfkaaDoor
set_option linter.unusedVariables false
set_option linter.unusedSimpArgs false
theorem mget_mset (l : List (Str × Bool)) (k s : Str) : mget (mset l k true) s = (s == k || mget l s) := by
  induction l with
  | nil => simp only [mset, mget]; cases s == k <;> rfl
  | cons p r ih =>
    obtain ⟨a, b⟩ := p
    simp only [mset]
    by_cases h : k = a
    · subst h; simp only [beq_self_eq_true, cond_true, mget]; cases s == k <;> rfl
    · have : (k == a) = false := by simpa using h
      simp only [this, cond_false, mget]
      by_cases h2 : s = a
      · subst h2
        have : (s == k) = false := by simp; exact fun e => h e.symm
        simp [this]
      · have : (s == a) = false := by simpa using h2
        simp only [this, cond_false]; exact ih
def sml (c : UInt8) : Bool := decide (c ≥ 97) && decide (c ≤ 122)
def dig (c : UInt8) : Bool := decide (c ≥ 48) && decide (c ≤ 57)
def okc (c : UInt8) : Bool := sml c || (dig c || c == 45)
def nm (s : Str) : Bool := match s with
  | [] => false
  | c :: r => decide (r.length < 12) && (sml c && r.all okc)
theorem s_l01Small_eq (c : UInt8) : s_l01Small c = some (sml c) := by simp only [s_l01Small, andO_some, sml, Option.bind_some]
theorem s_l01Digit_eq (c : UInt8) : s_l01Digit c = some (dig c) := by simp only [s_l01Digit, andO_some, dig, Option.bind_some]
theorem i_isDigit_eq (c : UInt8) : i_isDigit c = some (dig c) := by simp only [i_isDigit, andO_some, dig, Option.bind_some]
theorem s_IsName_l1_eq (k : Option Bool) (s : Str) (ha : s.length ≤ LIM) : ∀ (n i N : Nat), i + n = s.length → n < N → s_IsName_l1 k s N (i : Int) = bif (s.drop i).all okc then k else some false := by
  intro n
  induction n with
  | zero =>
    intro i N h1 h3
    obtain ⟨N, rfl⟩ := pos_fuel h3
    have hi : ¬ ((i : Int) < (s.length : Int)) := by omega
    have e2 : s.drop i = [] := List.drop_of_length_le (by omega)
    simp only [s_IsName_l1, hi, decide_false, cond_false, e2, List.all_nil, cond_true]
  | succ n ih =>
    intro i N h1 h3
    obtain ⟨N, rfl⟩ := pos_fuel h3
    have hi : (i : Int) < (s.length : Int) := by omega
    have hn : i < s.length := by omega
    unfold LIM at ha
    simp only [s_IsName_l1, hi, decide_true, cond_true, idx_lt s i hn, Option.bind_some, s_l01Small_eq, s_l01Digit_eq, andO_some, w64_nat i (by omega), ih (i + 1) N (by omega) (by omega), drop_cons s i hn, List.all_cons, okc, bne]
    cases sml s[i] <;> cases dig s[i] <;> cases (s[i] == 45) <;> rfl
theorem i_IsName_l1_eq (k : Option Bool) (s : Str) (ha : s.length ≤ LIM) : ∀ (n i N : Nat), i + n = s.length → n < N → 0 < i → i_IsName_l1 k s N (i : Int) = bif (s.drop i).all okc then k else some false := by
  intro n
  induction n with
  | zero =>
    intro i N h1 h3 h0
    obtain ⟨N, rfl⟩ := pos_fuel h3
    have hi : ¬ ((i : Int) < (s.length : Int)) := by omega
    have e2 : s.drop i = [] := List.drop_of_length_le (by omega)
    simp only [i_IsName_l1, hi, decide_false, cond_false, e2, List.all_nil, cond_true]
  | succ n ih =>
    intro i N h1 h3 h0
    obtain ⟨N, rfl⟩ := pos_fuel h3
    have hi : (i : Int) < (s.length : Int) := by omega
    have hn : i < s.length := by omega
    have hz : ((i : Int) == 0) = false := by simp; omega
    unfold LIM at ha
    simp only [i_IsName_l1, hi, decide_true, cond_true, idx_lt s i hn, Option.bind_some, i_isDigit_eq, andO_some, orO_some, w64_nat i (by omega), ih (i + 1) N (by omega) (by omega) (by omega), drop_cons s i hn, List.all_cons, okc, sml, bne, hz]
    cases decide (s[i] ≥ 97) <;> cases decide (s[i] ≤ 122) <;> cases dig s[i] <;> cases (s[i] == 45) <;> rfl
theorem s_IsName_eq (N : Nat) (hN : 14 < N) (s : Str) : s_IsName N s = some (nm s) := by
  unfold s_IsName
  cases s with
  | nil => rfl
  | cons c r =>
    by_cases h : r.length < 12
    · have h' : ¬ (((c :: r).length : Int) > 12) := by simp; omega
      have e : (c :: r == []) = false := rfl
      have e2 : idx (c :: r) 0 = some c := rfl
      simp only [e, h', e2, orO_some, decide_false, Bool.or_false, Option.bind_some, s_l01Small_eq, Bool.false_or, withK_eq, nm, h, decide_true, Bool.true_and]
      have h0 : s_IsName_l1 (some true) (c :: r) N 0 = _ := s_IsName_l1_eq (some true) (c :: r) (by simp; unfold LIM; omega) (c :: r).length 0 N (by omega) (by simp; omega)
      rw [h0]
      simp only [List.drop_zero, List.all_cons, okc]
      cases sml c <;> cases r.all okc <;> simp
    · have h' : (((c :: r).length : Int) > 12) := by simp; omega
      have e : (c :: r == []) = false := rfl
      simp only [e, h', orO_some, decide_true, Bool.or_true, Option.bind_some, orO_true, cond_true, nm, h, decide_false, Bool.false_and]
theorem i_IsName_eq (N : Nat) (hN : 14 < N) (s : Str) : i_IsName N s = some (nm s) := by
  unfold i_IsName
  cases s with
  | nil => rfl
  | cons c r =>
    by_cases h : r.length < 12
    · have h' : ¬ (((c :: r).length : Int) > 12) := by simp; omega
      have e : (((c :: r).length : Int) == 0) = false := by simp; omega
      have e2 : idx (c :: r) 0 = some c := rfl
      have e3 : (0 : Int) < (((c :: r).length : Nat) : Int) := by simp only [List.length_cons]; omega
      obtain ⟨N, rfl⟩ := pos_fuel hN
      have e4 : w64 (0 + 1) = ((1 : Nat) : Int) := rfl
      have := i_IsName_l1_eq (some true) (c :: r) (by simp; unfold LIM; omega) r.length 1 N (by simp; omega) (by omega) (by omega)
      simp only [e, h', e2, orO_some, decide_false, Bool.or_false, Option.bind_some, Bool.false_or, withK_eq, nm, h, decide_true, Bool.true_and, cond_false, i_IsName_l1, e3, cond_true, andO_some, orO_true, beq_self_eq_true, Bool.and_true, e4, this, List.drop_one, List.tail_cons]
      show (bif !(sml c) then _ else _) = _
      cases sml c <;> cases r.all okc <;> rfl
    · have h' : (((c :: r).length : Int) > 12) := by simp; omega
      have e : (((c :: r).length : Int) == 0) = false := by simp; omega
      simp only [e, h', orO_some, decide_true, Bool.or_true, Option.bind_some, orO_true, cond_true, nm, h, decide_false, Bool.false_and]
/-! ## the parts -/
def inr (x lo hi : Int) : Bool := decide (x ≥ lo) && decide (x ≤ hi)
theorem s_l00In_eq (x lo hi : Int) : s_l00In x lo hi = some (inr x lo hi) := by simp only [s_l00In, andO_some, inr, Option.bind_some]
theorem i_between_eq (x lo hi : Int) : i_between x lo hi = some (inr x lo hi) := by simp only [i_between, andO_some, inr, Option.bind_some]
theorem s_l24Many_eq (x : Int) : s_l24Many x = some (inr x 0 100000) := by simp only [s_l24Many, s_l00In_eq, Option.bind_some]
theorem inr_iff {x lo hi : Int} : inr x lo hi = true ↔ lo ≤ x ∧ x ≤ hi := by simp [inr]
def fok (len : Int) (e : SparePart) : Bool := nm e.name && (inr e.stock 0 100000 && (inr e.target 0 100000 && (inr e.days 0 365 && inr e.instead (-1) (len - 1))))
def dst (l : List SparePart) (i : Nat) (n : Str) : Bool := (l.take i).all fun y => y.name != n
def nx (l : List SparePart) (x : Int) : Int := match l[x.toNat]? with
  | some e => e.instead
  | none => -1
def alv (l : List SparePart) : Nat → Int → Bool
  | 0, x => decide (x ≥ 0)
  | n + 1, x => decide (x ≥ 0) && alv l n (nx l x)
theorem nx_lt (l : List SparePart) (k : Nat) (h : k < l.length) : nx l (k : Int) = l[k].instead := by
  unfold nx; rw [Int.toNat_natCast, List.getElem?_eq_getElem h]
theorem alv_mono (l : List SparePart) : ∀ (n : Nat) (x : Int), alv l (n + 1) x = true → alv l n x = true := by
  intro n
  induction n with
  | zero => intro x h; simp only [alv, Bool.and_eq_true] at h; simpa [alv] using h.1
  | succ n ih =>
    intro x h
    rw [alv, Bool.and_eq_true] at h
    rw [alv, Bool.and_eq_true]
    exact ⟨h.1, ih _ h.2⟩
def itn (l : List SparePart) : Nat → Int → Int
  | 0, x => x
  | n + 1, x => itn l n (nx l x)
theorem itn_add (l : List SparePart) : ∀ (a b : Nat) (x : Int), itn l (a + b) x = itn l b (itn l a x) := by
  intro a
  induction a with
  | zero => intro b x; rw [Nat.zero_add]; rfl
  | succ a ih => intro b x; rw [Nat.succ_add]; exact ih b _
theorem alv_itn (l : List SparePart) : ∀ (n : Nat) (x : Int), alv l n x = true ↔ ∀ m, m ≤ n → 0 ≤ itn l m x := by
  intro n
  induction n with
  | zero =>
    intro x
    simp only [alv, decide_eq_true_eq]
    constructor
    · intro h m hm; obtain rfl : m = 0 := by omega
      exact h
    · intro h; exact h 0 (by omega)
  | succ n ih =>
    intro x
    rw [alv, Bool.and_eq_true, ih, decide_eq_true_eq]
    constructor
    · intro ⟨h1, h2⟩ m hm
      cases m with
      | zero => exact h1
      | succ m => exact h2 m (by omega)
    · intro h; exact ⟨h 0 (by omega), fun m hm => h (m + 1) (by omega)⟩
theorem pigeon : ∀ (n : Nat) (l : List Nat), l.Nodup → (∀ x ∈ l, x < n) → l.length ≤ n := by
  intro n
  induction n with
  | zero => intro l _ h; cases l with
    | nil => simp
    | cons a r => exact absurd (h a (by simp)) (by omega)
  | succ n ih =>
    intro l hd h
    by_cases hm : n ∈ l
    · have h1 := ih (l.erase n) (hd.erase n) (fun x hx => by
        have := (hd.mem_erase_iff).1 hx
        have := h x this.2
        omega)
      rw [List.length_erase_of_mem hm] at h1; omega
    · have := ih l hd (fun x hx => by
        have h2 := h x hx
        have : x ≠ n := fun e => hm (e ▸ hx)
        omega)
      omega
/-- a chain longer than the list never ends -/
theorem alv_more (l : List SparePart) (hl : ∀ e ∈ l, e.instead < l.length) (x : Int) (hx : x < l.length) (h : alv l l.length x = true) (n : Nat) : alv l n x = true := by
  rw [alv_itn] at h
  have bnd : ∀ m, itn l m x < l.length := by
    intro m
    induction m with
    | zero => exact hx
    | succ m _ =>
      rw [itn_add l m 1 x]
      show nx l _ < _
      unfold nx
      split
      · rename_i e he; exact hl _ (List.mem_of_getElem? he)
      · omega
  -- two equal places
  have : ∃ a b, a < b ∧ b ≤ l.length ∧ itn l a x = itn l b x := by
    refine Classical.byContradiction fun hc => ?_
    have hd : ((List.range (l.length + 1)).map fun m => (itn l m x).toNat).Nodup := by
      unfold List.Nodup
      rw [List.pairwise_map]
      refine List.pairwise_iff_getElem.2 fun i j hi hj hij => ?_
      simp only [List.length_range] at hi hj
      simp only [List.getElem_range]
      intro e
      have h1 := h i (by omega)
      have h2 := h j (by omega)
      exact hc ⟨i, j, hij, by omega, by omega⟩
    have := pigeon l.length _ hd (fun y hy => by
      obtain ⟨m, hm, rfl⟩ := List.mem_map.1 hy
      have := bnd m
      rw [List.mem_range] at hm
      have := h m (by omega)
      omega)
    simp at this
    omega
  obtain ⟨a, b, hab, hb, e⟩ := this
  have hall : ∀ m, 0 ≤ itn l m x := by
    intro m
    induction m using Nat.strongRecOn with
    | ind m ih =>
      by_cases hm : m ≤ l.length
      · exact h m hm
      · have e1 : itn l m x = itn l (a + (m - b)) x := by
          rw [itn_add l a (m - b) x, e, ← itn_add l b (m - b) x]
          congr 1; omega
        rw [e1]; exact ih _ (by omega)
  exact (alv_itn l n x).2 fun m _ => hall m

theorem s_l24Ok_l2_eq (k : Option Bool) (l : List SparePart) (i : Nat) (hi : i ≤ l.length) (ha : l.length ≤ LIM) (e : SparePart) : ∀ (n j N : Nat), j + n = i → n < N → s_l24Ok_l2 k l (i : Int) e N (j : Int) = bif ((l.take i).drop j).all (fun y => y.name != e.name) then k else some false := by
  intro n
  induction n with
  | zero =>
    intro j N h1 h3
    obtain ⟨N, rfl⟩ := pos_fuel h3
    have hj : ¬ ((j : Int) < (i : Int)) := by omega
    have e2 : (l.take i).drop j = [] := List.drop_of_length_le (by simp; omega)
    simp only [s_l24Ok_l2, hj, decide_false, cond_false, e2, List.all_nil, cond_true]
  | succ n ih =>
    intro j N h1 h3
    obtain ⟨N, rfl⟩ := pos_fuel h3
    have hj : (j : Int) < (i : Int) := by omega
    have hn : j < l.length := by omega
    have hn' : j < (l.take i).length := by simp; omega
    unfold LIM at ha
    simp only [s_l24Ok_l2, hj, decide_true, cond_true, idx_lt l j hn, Option.bind_some, w64_nat j (by omega), ih (j + 1) N (by omega) (by omega), drop_cons _ j hn', List.all_cons, List.getElem_take, bne]
    cases l[j].name == e.name <;> rfl
theorem s_l24Ok_l3_or (k : Option Bool) (l : List SparePart) (ha : l.length ≤ LIM) : ∀ (n : Nat) (N : Nat) (x c : Int), c + n = l.length + 2 → 0 ≤ c → n < N → s_l24Ok_l3 k l N x c = k ∨ s_l24Ok_l3 k l N x c = some false := by
  intro n
  induction n with
  | zero =>
    intro N x c h1 h2 h3
    obtain ⟨N, rfl⟩ := pos_fuel h3
    have hc : c > (l.length : Int) := by omega
    simp only [s_l24Ok_l3, hc, decide_true, orO_true, Option.bind_some, cond_true]
    cases decide (x ≥ 0)
    · exact .inl rfl
    · exact .inr rfl
  | succ n ih =>
    intro N x c h1 h2 h3
    obtain ⟨N, rfl⟩ := pos_fuel h3
    unfold LIM at ha
    have e1 : w64 (c + 1) = c + 1 := w64_id (by omega) (by omega)
    have e2 : w64 ((l.length : Int) - 1) = (l.length : Int) - 1 := w64_id (by omega) (by omega)
    simp only [s_l24Ok_l3, s_l00In_eq, Option.bind_some, orO_some, e1, e2]
    by_cases hx : x ≥ 0
    · simp only [hx, decide_true, cond_true]
      by_cases hb : (decide (c > (l.length : Int)) || !(inr x 0 ((l.length : Int) - 1))) = true
      · simp only [hb, cond_true]; exact .inr trivial
      · rw [Bool.not_eq_true] at hb
        simp only [hb, cond_false]
        simp only [Bool.or_eq_false_iff, Bool.not_eq_false', inr_iff] at hb
        rw [idx_int l x hx (by omega)]
        exact ih N _ (c + 1) (by omega) (by omega) (by omega)
    · simp only [hx, decide_false, cond_false]; exact .inl trivial
theorem s_l24Ok_l3_eq (k : Option Bool) (l : List SparePart) (ha : l.length ≤ LIM) (hl : ∀ e ∈ l, e.instead < l.length) : ∀ (n : Nat) (N : Nat) (x c : Int), c + n = l.length + 1 → 0 ≤ c → n < N → x < l.length → s_l24Ok_l3 k l N x c = bif alv l n x then some false else k := by
  intro n
  induction n with
  | zero =>
    intro N x c h1 h2 h3 h4
    obtain ⟨N, rfl⟩ := pos_fuel h3
    have hc : c > (l.length : Int) := by omega
    simp only [s_l24Ok_l3, hc, decide_true, orO_true, Option.bind_some, cond_true, alv]
  | succ n ih =>
    intro N x c h1 h2 h3 h4
    obtain ⟨N, rfl⟩ := pos_fuel h3
    unfold LIM at ha
    have e1 : w64 (c + 1) = c + 1 := w64_id (by omega) (by omega)
    have e2 : w64 ((l.length : Int) - 1) = (l.length : Int) - 1 := w64_id (by omega) (by omega)
    have hc : ¬ c > (l.length : Int) := by omega
    simp only [s_l24Ok_l3, s_l00In_eq, Option.bind_some, orO_some, e1, e2, alv, hc, decide_false, Bool.false_or]
    by_cases hx : x ≥ 0
    · have hb : inr x 0 ((l.length : Int) - 1) = true := inr_iff.2 ⟨hx, by omega⟩
      have hn : nx l x = (l[x.toNat]'(by omega)).instead := by unfold nx; rw [List.getElem?_eq_getElem (by omega)]
      simp only [hx, decide_true, cond_true, hb, Bool.not_true, cond_false, idx_int l x hx (by omega), Option.bind_some, Bool.true_and]
      rw [ih N _ (c + 1) (by omega) (by omega) (by omega) (hl _ (List.getElem_mem _)), hn]
    · simp only [hx, decide_false, cond_false, Bool.false_and]
theorem i_ValidParts_l3_eq (k : Option Bool) (l : List SparePart) (ha : l.length ≤ LIM) (hl : ∀ e ∈ l, e.instead < l.length) : ∀ (n : Nat) (N : Nat) (x c : Int), c + n = l.length → 0 ≤ c → n < N → x < l.length → i_ValidParts_l3 k l N x c = bif alv l n x then some false else k := by
  intro n
  induction n with
  | zero =>
    intro N x c h1 h2 h3 h4
    obtain ⟨N, rfl⟩ := pos_fuel h3
    unfold LIM at ha
    have e1 : w64 (c + 1) = c + 1 := w64_id (by omega) (by omega)
    have hc : c + 1 > (l.length : Int) := by omega
    by_cases hx : x ≥ 0
    · simp only [i_ValidParts_l3, hx, e1, hc, decide_true, cond_true, idx_int l x hx (by omega), Option.bind_some, alv]
    · simp only [i_ValidParts_l3, hx, decide_false, cond_false, alv]
  | succ n ih =>
    intro N x c h1 h2 h3 h4
    obtain ⟨N, rfl⟩ := pos_fuel h3
    unfold LIM at ha
    have e1 : w64 (c + 1) = c + 1 := w64_id (by omega) (by omega)
    have hc : ¬ c + 1 > (l.length : Int) := by omega
    by_cases hx : x ≥ 0
    · have hn : nx l x = (l[x.toNat]'(by omega)).instead := by unfold nx; rw [List.getElem?_eq_getElem (by omega)]
      simp only [i_ValidParts_l3, hx, decide_true, cond_true, idx_int l x hx (by omega), Option.bind_some, e1, hc, decide_false, cond_false, alv, Bool.true_and]
      rw [ih N _ (c + 1) (by omega) (by omega) (by omega) (hl _ (List.getElem_mem _)), hn]
    · simp only [i_ValidParts_l3, hx, decide_false, cond_false, alv, Bool.false_and]
/-- one part is right at its place -/
def gdP (l : List SparePart) (i : Nat) (h : i < l.length) : Prop := fok l.length l[i] = true ∧ dst l i l[i].name = true ∧ alv l (l.length + 1) l[i].instead = false
theorem s_l24Ok_step (k : Option Bool) (l : List SparePart) (ha : l.length ≤ LIM) (i N : Nat) (hi : i < l.length) (hN : l.length + 30 < N) :
    s_l24Ok_l1 k l (N + 1) (i : Int) = bif !(fok l.length l[i]) then some false else bif dst l i l[i].name then s_l24Ok_l3 (s_l24Ok_l1 k l N ((i + 1 : Nat) : Int)) l N l[i].instead 0 else some false := by
  have hi' : (i : Int) < (l.length : Int) := by omega
  have la := ha
  unfold LIM at ha
  have e2 : w64 ((l.length : Int) - 1) = (l.length : Int) - 1 := w64_id (by omega) (by omega)
  simp only [s_l24Ok_l1, hi', decide_true, cond_true, withK_eq, idx_lt l i hi, Option.bind_some, s_IsName_eq N (by omega), s_l24Many_eq, s_l00In_eq, orO_some, e2, w64_nat i (by omega)]
  have := s_l24Ok_l2_eq (s_l24Ok_l3 (s_l24Ok_l1 k l N ((i + 1 : Nat) : Int)) l N l[i].instead 0) l i (by omega) la l[i] i 0 N (by omega) (by omega)
  rw [show ((0 : Nat) : Int) = 0 from rfl, List.drop_zero] at this
  rw [this]
  simp only [fok, Bool.not_and]
  show (bif ((((_ || _) || _) || _) || _) then _ else _) = _
  cases nm l[i].name <;> cases inr l[i].stock 0 100000 <;> cases inr l[i].target 0 100000 <;> cases inr l[i].days 0 365 <;> cases inr l[i].instead (-1) (↑l.length - 1) <;> rfl
theorem s_l24Ok_bad0 (k : Option Bool) (l : List SparePart) (ha : l.length ≤ LIM) : ∀ (n i N : Nat), i + n = l.length → n + l.length + 40 < N → (∃ j, i ≤ j ∧ ∃ h : j < l.length, fok l.length l[j] = false) → s_l24Ok_l1 k l N (i : Int) = some false := by
  intro n
  induction n with
  | zero => intro i N h1 h3 ⟨j, h4, h5, _⟩; omega
  | succ n ih =>
    intro i N h1 h3 ⟨j, h4, h5, h6⟩
    obtain ⟨N, rfl⟩ := pos_fuel (by omega : 0 < N)
    rw [s_l24Ok_step k l ha i N (by omega) (by omega)]
    by_cases hj : i = j
    · subst hj; simp only [h6, Bool.not_false, cond_true]
    · cases fok l.length (l[i]'(by omega))
      · rfl
      · cases dst l i (l[i]'(by omega)).name
        · rfl
        · simp only [Bool.not_true, cond_false, cond_true]
          rcases s_l24Ok_l3_or (s_l24Ok_l1 k l N ((i + 1 : Nat) : Int)) l ha (l.length + 2) N (l[i]'(by omega)).instead 0 (by omega) (by omega) (by omega) with h | h
          · rw [h]; exact ih (i + 1) N (by omega) (by omega) ⟨j, by omega, h5, h6⟩
          · exact h
theorem s_l24Ok_bad (k : Option Bool) (l : List SparePart) (ha : l.length ≤ LIM) (hl : ∀ e ∈ l, e.instead < l.length) : ∀ (n i N : Nat), i + n = l.length → n + l.length + 40 < N → (∃ j, i ≤ j ∧ ∃ h : j < l.length, ¬ gdP l j h) → s_l24Ok_l1 k l N (i : Int) = some false := by
  intro n
  induction n with
  | zero => intro i N h1 h3 ⟨j, h4, h5, _⟩; omega
  | succ n ih =>
    intro i N h1 h3 ⟨j, h4, h5, h6⟩
    obtain ⟨N, rfl⟩ := pos_fuel (by omega : 0 < N)
    have hi : i < l.length := by omega
    rw [s_l24Ok_step k l ha i N hi (by omega), s_l24Ok_l3_eq _ l ha hl (l.length + 1) N _ 0 (by omega) (by omega) (by omega) (hl _ (List.getElem_mem hi))]
    by_cases hj : i = j
    · subst hj
      unfold gdP at h6
      cases h7 : fok l.length l[i]
      · rfl
      · cases h8 : dst l i l[i].name
        · rfl
        · cases h9 : alv l (l.length + 1) l[i].instead
          · exact absurd ⟨h7, h8, h9⟩ h6
          · rfl
    · rw [ih (i + 1) N (by omega) (by omega) ⟨j, by omega, h5, h6⟩]
      cases fok l.length l[i] <;> cases dst l i l[i].name <;> cases alv l (l.length + 1) l[i].instead <;> rfl
theorem s_l24Ok_good (k : Option Bool) (l : List SparePart) (ha : l.length ≤ LIM) (hl : ∀ e ∈ l, e.instead < l.length) : ∀ (n i N : Nat), i + n = l.length → n + l.length + 40 < N → (∀ j, i ≤ j → ∀ h : j < l.length, gdP l j h) → s_l24Ok_l1 k l N (i : Int) = k := by
  intro n
  induction n with
  | zero =>
    intro i N h1 h3 h4
    obtain ⟨N, rfl⟩ := pos_fuel (by omega : 0 < N)
    have hi : ¬ ((i : Int) < (l.length : Int)) := by omega
    simp only [s_l24Ok_l1, hi, decide_false, cond_false]
  | succ n ih =>
    intro i N h1 h3 h4
    obtain ⟨N, rfl⟩ := pos_fuel (by omega : 0 < N)
    have hi : i < l.length := by omega
    obtain ⟨h5, h6, h7⟩ := h4 i (by omega) hi
    rw [s_l24Ok_step k l ha i N hi (by omega), s_l24Ok_l3_eq _ l ha hl (l.length + 1) N _ 0 (by omega) (by omega) (by omega) (hl _ (List.getElem_mem hi)), h5, h6, h7]
    exact ih (i + 1) N (by omega) (by omega) (fun j hj => h4 j (by omega))
end Go.Proofs.YtdnnnakjhehfkaaDoor
