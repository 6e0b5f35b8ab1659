/-
  Plain lemmas on these functions. No conditions but those that each states.
-/
import Derived.Test.YtpodlgibcfbbiaaDoorFnPressesP7
namespace Go.Proofs.YtpodlgibcfbbiaaDoor
set_option linter.unusedVariables false
set_option linter.unusedSimpArgs false
/-! Valid keys and accents: both ways. -/
/-- a key that can stand behind others -/
def okB (ks : List Key) (k : Key) : Bool := isL k.low && isL k.high && !(k.low == k.high) && !(hasK ks k.low) && !(hasK ks k.high)
def okKs : List Key → List Key → Bool
  | _, [] => true
  | p, k :: ks => okB p k && okKs (p ++ [k]) ks
def okA (keys : List Key) (p : List Accent) (a : Accent) : Bool :=
  (hasK keys a.mark && deadK keys a.mark && hasK keys a.letter && !(deadK keys a.letter) && !(hasK keys a.made) && isL a.made) && !(p.any fun b => b.made == a.made || (b.mark == a.mark && b.letter == a.letter))
def okAs (keys : List Key) : List Accent → List Accent → Bool
  | _, [] => true
  | p, a :: as => okA keys p a && okAs keys (p ++ [a]) as
def okKA (keys : List Key) (as : List Accent) : Bool := okKs [] keys && okAs keys [] as && (decide (keys.length ≤ 40) && decide (as.length ≤ 20))
theorem s_accent (keys : List Key) (a : Accent) (hl : keys.length ≤ 1000) (N : Nat) (hN : 1000 < N) : s_l02Accent N keys a = some (hasK keys a.mark && deadK keys a.mark && hasK keys a.letter && !(deadK keys a.letter) && !(hasK keys a.made) && isL a.made) := by
  unfold s_l02Accent
  rw [s_find keys _ hl N hN, s_find keys _ hl N hN, s_find keys _ hl N hN]
  simp only [Option.bind_some, fndK_pos, fndK_neg, s_letter, andO_some]
  have g : ∀ c, hasK keys c = true → ∃ k, idx keys (fndK c 0 keys).1 = some k ∧ k.dead = deadK keys c := fun c hc => by
    obtain ⟨j, k, e1, e2, _, _, e5⟩ := fndK_ge c keys 0 hc
    exact ⟨k, by rw [e1, Nat.zero_add, idx_nat]; exact e2, e5⟩
  cases h1 : hasK keys a.mark
  · simp
  · obtain ⟨k1, e1, d1⟩ := g _ h1
    simp only [e1, andO_true, Option.bind_some, d1]
    cases deadK keys a.mark
    · simp
    · cases h2 : hasK keys a.letter
      · simp
      · obtain ⟨k2, e2, d2⟩ := g _ h2
        simp only [Bool.and_self, e2, andO_true, Option.bind_some, d2, andO_some, Bool.true_and]
theorem s_ok_l1 (keys : List Key) (kj : Option Bool) (b : Bool) (hk : kj = some b) (hl : keys.length ≤ 1000) : ∀ (n i N : Nat), i + n = keys.length → n + 1001 < N → s_l02Ok_l1 kj keys N (i : Int) = some (okKs (keys.take i) (keys.drop i) && b) := by
  intro n
  induction n with
  | zero =>
    intro i N hi hN
    obtain ⟨N, rfl⟩ := pos_fuel hN
    have hz : ¬ (i : Int) < (keys.length : Int) := by omega
    simp only [s_l02Ok_l1, hz, decide_false, cond_false, hk]
    rw [List.drop_eq_nil_of_le (by omega)]; simp [okKs]
  | succ n ih =>
    intro i N hi hN
    obtain ⟨N, rfl⟩ := pos_fuel hN
    have hz : (i : Int) < (keys.length : Int) := by omega
    have hs : sub keys 0 (i : Int) = some (keys.take i) := by rw [sub_some keys 0 i (by omega) (by omega) (by omega)]; simp
    have hlt : (keys.take i).length ≤ 1000 := by rw [List.length_take]; omega
    simp only [s_l02Ok_l1, hz, decide_true, cond_true]
    rw [idx_lt keys i (by omega), w64_nat i (by omega), ih (i + 1) N (by omega) (by omega), hs]
    simp only [Option.bind_some, s_letter, s_find _ _ hlt N (by omega), fndK_pos, orO_some]
    rw [List.drop_eq_getElem_cons (by omega : i < keys.length), okKs, List.take_succ_eq_append_getElem (by omega : i < keys.length), okB]
    cases isL keys[i].low <;> cases isL keys[i].high <;> cases keys[i].low == keys[i].high <;> cases hasK (keys.take i) keys[i].low <;> cases hasK (keys.take i) keys[i].high <;> simp
theorem s_ok_l3 (as : List Accent) (a : Accent) (i : Nat) (kj : Option Bool) (ha : as[i]? = some a) (hl : as.length ≤ 1000) : ∀ (n k N : Nat), k + n = i → n < N → s_l02Ok_l3 kj as (i : Int) N (k : Int) = bif ((as.take i).drop k).any (fun b => b.made == a.made || (b.mark == a.mark && b.letter == a.letter)) then some false else kj := by
  have hi' : i < as.length := (List.getElem?_eq_some_iff.1 ha).1
  intro n
  induction n with
  | zero =>
    intro k N hi hN
    obtain ⟨N, rfl⟩ := pos_fuel hN
    have hz : ¬ (k : Int) < (i : Int) := by omega
    simp only [s_l02Ok_l3, hz, decide_false, cond_false]
    rw [List.drop_eq_nil_of_le (by rw [List.length_take]; omega)]; rfl
  | succ n ih =>
    intro k N hi hN
    obtain ⟨N, rfl⟩ := pos_fuel hN
    have hz : (k : Int) < (i : Int) := by omega
    have hk : k < (as.take i).length := by rw [List.length_take]; omega
    simp only [s_l02Ok_l3, hz, decide_true, cond_true]
    rw [idx_nat as i, ha, idx_lt as k (by omega), w64_nat k (by omega), ih (k + 1) N (by omega) (by omega), List.drop_eq_getElem_cons hk, List.any_cons, List.getElem_take]
    simp only [Option.bind_some, andO_some, orO_some]
    cases as[k].made == a.made || (as[k].mark == a.mark && as[k].letter == a.letter) <;> rfl
theorem s_ok_l2 (keys : List Key) (as : List Accent) (kj : Option Bool) (b : Bool) (hk : kj = some b) (hl : keys.length ≤ 1000) (hl2 : as.length ≤ 1000) : ∀ (n i N : Nat), i + n = as.length → n + 1001 < N → s_l02Ok_l2 kj keys as N (i : Int) = some (okAs keys (as.take i) (as.drop i) && b) := by
  intro n
  induction n with
  | zero =>
    intro i N hi hN
    obtain ⟨N, rfl⟩ := pos_fuel hN
    have hz : ¬ (i : Int) < (as.length : Int) := by omega
    simp only [s_l02Ok_l2, hz, decide_false, cond_false, hk]
    rw [List.drop_eq_nil_of_le (by omega)]; simp [okAs]
  | succ n ih =>
    intro i N hi hN
    obtain ⟨N, rfl⟩ := pos_fuel hN
    have hz : (i : Int) < (as.length : Int) := by omega
    simp only [s_l02Ok_l2, hz, decide_true, cond_true, withK_eq]
    rw [idx_lt as i (by omega), w64_nat i (by omega), ih (i + 1) N (by omega) (by omega)]
    have h3 := s_ok_l3 as as[i] i (some (okAs keys (as.take (i + 1)) (as.drop (i + 1)) && b)) (List.getElem?_eq_getElem (by omega)) hl2 i 0 N (by omega) (by omega)
    simp only [Int.natCast_zero, List.drop_zero] at h3
    simp only [Option.bind_some, s_accent keys _ hl N (by omega), h3]
    rw [List.drop_eq_getElem_cons (by omega : i < as.length), okAs, List.take_succ_eq_append_getElem (by omega : i < as.length), okA]
    cases hasK keys as[i].mark && deadK keys as[i].mark && hasK keys as[i].letter && !(deadK keys as[i].letter) && !(hasK keys as[i].made) && isL as[i].made
    · simp
    · cases (as.take i).any (fun b => b.made == as[i].made || (b.mark == as[i].mark && b.letter == as[i].letter)) <;> simp
theorem s_ok (keys : List Key) (as : List Accent) (hl : keys.length ≤ 1000) (hl2 : as.length ≤ 1000) (N : Nat) (hN : 3000 < N) : s_l02Ok N keys as = some (okKA keys as) := by
  unfold s_l02Ok
  simp only [withK_eq]
  have h2 := fun (b : Bool) => s_ok_l2 keys as (some b) b rfl hl hl2 as.length 0 N (by omega) (by omega)
  have h1 := fun (b : Bool) => s_ok_l1 keys (some b) b rfl hl keys.length 0 N (by omega) (by omega)
  simp only [Int.natCast_zero, List.take_zero, List.drop_zero] at h1 h2
  simp only [andO_some, Option.bind_some, h2, h1, okKA]
  refine congrArg some ?_
  have e1 : decide ((keys.length : Int) ≤ 40) = decide (keys.length ≤ 40) := by rw [Bool.eq_iff_iff]; simp; omega
  have e2 : decide ((as.length : Int) ≤ 20) = decide (as.length ≤ 20) := by rw [Bool.eq_iff_iff]; simp; omega
  rw [e1, e2, Bool.and_assoc]
theorem mget_msetv (l : List (Str × Bool)) (k s : Str) (v : Bool) : mget (mset l k v) s = if s == k then v else mget l s := by
  induction l with
  | nil => cases h : s == k <;> simp [mset, mget, h]
  | cons x r ih =>
    obtain ⟨a, b⟩ := x
    simp only [mset]
    cases hk : k == a
    · simp only [cond_false, mget, ih]
      cases hs : s == a
      · simp
      · have hsk : (s == k) = false := by
          rw [beq_iff_eq] at hs
          rw [beq_eq_false_iff_ne] at hk ⊢
          exact fun e => hk (e ▸ hs)
        simp [hsk]
    · have e : k = a := by simpa using hk
      subst e
      simp only [cond_true, mget]
      cases hs : s == k <;> simp
/-- one key, in maps -/
theorem i_valid_l2 (e : Key) (d k : List (Str × Bool)) (kj : List (Str × Bool) → List (Str × Bool) → Option Bool) (p : List Key) (hd : ∀ s, mget d s = deadK p s) (hk : ∀ s, mget k s = hasK p s) (N : Nat) (hN : 1003 < N) :
    ∃ d' k', (okB p e = true → (∀ s, mget d' s = deadK (p ++ [e]) s) ∧ (∀ s, mget k' s = hasK (p ++ [e]) s)) ∧ i_ValidKeys_l2 kj e N d k 0 = bif okB p e then kj d' k' else some false := by
  obtain ⟨N, rfl⟩ := pos_fuel (show 0 < N by omega)
  obtain ⟨N, rfl⟩ := pos_fuel (show 0 < N by omega)
  obtain ⟨N, rfl⟩ := pos_fuel (show 0 < N by omega)
  refine ⟨mset (mset d e.low e.dead) e.high e.dead, mset (mset k e.low true) e.high true, fun hok => ?_, ?_⟩
  · simp only [okB, Bool.and_eq_true, Bool.not_eq_true'] at hok
    obtain ⟨⟨⟨⟨_, _⟩, hne⟩, hl⟩, hh⟩ := hok
    refine ⟨fun s => ?_, fun s => ?_⟩
    · rw [mget_msetv, mget_msetv, hd, deadK_snoc]
      cases h1 : s == e.high
      · cases h2 : s == e.low
        · have g1 : (e.high == s) = false := by rw [beq_eq_false_iff_ne] at h1 ⊢; exact fun q => h1 q.symm
          have g2 : (e.low == s) = false := by rw [beq_eq_false_iff_ne] at h2 ⊢; exact fun q => h2 q.symm
          simp only [g1, g2]
          cases hp : hasK p s
          · cases hdp : deadK p s
            · rfl
            · rw [deadK_has p s hdp] at hp; cases hp
          · simp
        · have g2 : s = e.low := by simpa using h2
          subst g2
          simp [hl]
      · have g2 : s = e.high := by simpa using h1
        subst g2
        simp [hh]
    · rw [mget_msetv, mget_msetv, hk, hasK_snoc]
      have c1 : (e.high == s) = (s == e.high) := by rw [Bool.eq_iff_iff]; simp only [beq_iff_eq]; exact ⟨Eq.symm, Eq.symm⟩
      have c2 : (e.low == s) = (s == e.low) := by rw [Bool.eq_iff_iff]; simp only [beq_iff_eq]; exact ⟨Eq.symm, Eq.symm⟩
      rw [c1, c2]
      cases s == e.high <;> cases s == e.low <;> cases hasK p s <;> rfl
  · have h0 : decide ((0 : Int) < (([e.low, e.high] : List Str).length : Int)) = true := rfl
    have h1 : decide ((1 : Int) < (([e.low, e.high] : List Str).length : Int)) = true := rfl
    have h2 : decide ((2 : Int) < (([e.low, e.high] : List Str).length : Int)) = false := rfl
    have i0 : idx ([e.low, e.high] : List Str) 0 = some e.low := rfl
    have i1 : idx ([e.low, e.high] : List Str) 1 = some e.high := rfl
    have w0 : w64 ((0 : Int) + 1) = 1 := rfl
    have w1 : w64 ((1 : Int) + 1) = 2 := rfl
    simp only [i_ValidKeys_l2, h0, h1, h2, i0, i1, w0, w1, cond_true, cond_false, Option.bind_some, i_letter e.low (N + 1 + 1) (by omega), i_letter e.high (N + 1) (by omega), orO_some, mget_msetv, hk, okB]
    have c2 : (e.high == e.low) = (e.low == e.high) := by rw [Bool.eq_iff_iff]; simp only [beq_iff_eq]; exact ⟨Eq.symm, Eq.symm⟩
    rw [c2]
    cases isL e.low <;> cases isL e.high <;> cases e.low == e.high <;> cases hasK p e.low <;> cases hasK p e.high <;> simp
theorem i_valid_l1 (keys : List Key) (kj : List (Str × Bool) → List (Str × Bool) → Option Bool) (b : Bool) (hl : keys.length ≤ 1000) (hkj : ∀ d k, (∀ s, mget d s = deadK keys s) → (∀ s, mget k s = hasK keys s) → kj d k = some b) : ∀ (n i N : Nat) (d k : List (Str × Bool)), i + n = keys.length → n + 1010 < N → (∀ s, mget d s = deadK (keys.take i) s) → (∀ s, mget k s = hasK (keys.take i) s) → i_ValidKeys_l1 kj keys N d k (i : Int) = some (okKs (keys.take i) (keys.drop i) && b) := by
  intro n
  induction n with
  | zero =>
    intro i N d k hi hN hd hk
    obtain ⟨N, rfl⟩ := pos_fuel hN
    have hz : ¬ (i : Int) < (keys.length : Int) := by omega
    simp only [i_ValidKeys_l1, hz, decide_false, cond_false]
    rw [List.take_of_length_le (by omega)] at hd hk
    rw [List.drop_eq_nil_of_le (by omega), hkj d k hd hk]; simp [okKs]
  | succ n ih =>
    intro i N d k hi hN hd hk
    obtain ⟨N, rfl⟩ := pos_fuel hN
    have hz : (i : Int) < (keys.length : Int) := by omega
    simp only [i_ValidKeys_l1, hz, decide_true, cond_true, withK_eq]
    rw [idx_lt keys i (by omega), w64_nat i (by omega)]
    simp only [Option.bind_some]
    obtain ⟨d', k', h1, h2⟩ := i_valid_l2 keys[i] d k (fun (mp21 : List (Str × Bool)) (mp22 : List (Str × Bool)) => i_ValidKeys_l1 kj keys N mp21 mp22 ((i + 1 : Nat) : Int)) (keys.take i) hd hk N (by omega)
    rw [h2, List.drop_eq_getElem_cons (by omega : i < keys.length), okKs, ← List.take_succ_eq_append_getElem (by omega : i < keys.length)]
    cases hb : okB (keys.take i) keys[i]
    · simp
    · obtain ⟨h3, h4⟩ := h1 hb
      rw [← List.take_succ_eq_append_getElem (by omega : i < keys.length)] at h3 h4
      simp only [cond_true, Bool.true_and]
      exact ih (i + 1) N d' k' (by omega) (by omega) h3 h4
theorem app_inj1 (a b c d : Str) (h1 : a.length = 1) (h2 : c.length = 1) : (a ++ b == c ++ d) = (a == c && b == d) := by
  rw [Bool.eq_iff_iff]
  simp only [Bool.and_eq_true, beq_iff_eq]
  exact ⟨fun h => List.append_inj h (by omega), fun h => by rw [h.1, h.2]⟩
theorem isL_len {s : Str} (h : isL s = true) : s.length = 1 := by
  unfold isL at h
  split at h
  · rfl
  · cases h
theorem okKs_letters : ∀ (ks p : List Key), okKs p ks = true → (∀ k ∈ ks, isL k.low = true ∧ isL k.high = true ∧ (k.low == k.high) = false) := by
  intro ks
  induction ks with
  | nil => intro p _ k hk; cases hk
  | cons k ks ih =>
    intro p h x hx
    simp only [okKs, okB, Bool.and_eq_true, Bool.not_eq_true'] at h
    rcases List.mem_cons.1 hx with rfl | hx
    · exact ⟨h.1.1.1.1.1, h.1.1.1.1.2, h.1.1.1.2⟩
    · exact ih _ h.2 x hx
theorem hasK_len {ks : List Key} (h : okKs [] ks = true) {c : Str} (hc : hasK ks c = true) : isL c = true := by
  unfold hasK at hc
  obtain ⟨k, hk, h1⟩ := List.any_eq_true.1 hc
  have := okKs_letters ks [] h k hk
  rcases Bool.or_eq_true _ _ ▸ h1 with h2 | h2
  · rw [← eq_of_beq h2]; exact this.1
  · rw [← eq_of_beq h2]; exact this.2.1
theorem i_valid_l3 (keys : List Key) (as : List Accent) (d k : List (Str × Bool)) (kj : Option Bool) (hkj : kj = some true) (hok : okKs [] keys = true) (hd : ∀ s, mget d s = deadK keys s) (hk : ∀ s, mget k s = hasK keys s) (hl2 : as.length ≤ 1000) : ∀ (n i N : Nat) (q m : List (Str × Bool)), i + n = as.length → n + 1010 < N →
    (∀ a ∈ as.take i, a.mark.length = 1 ∧ a.letter.length = 1) → (∀ s, mget q s = (as.take i).any fun b => b.mark ++ b.letter == s) → (∀ s, mget m s = (as.take i).any fun b => b.made == s) → i_ValidKeys_l3 kj as d k N q m (i : Int) = some (okAs keys (as.take i) (as.drop i)) := by
  intro n
  induction n with
  | zero =>
    intro i N q m hi hN _ _ _
    obtain ⟨N, rfl⟩ := pos_fuel hN
    have hz : ¬ (i : Int) < (as.length : Int) := by omega
    simp only [i_ValidKeys_l3, hz, decide_false, cond_false, hkj]
    rw [List.drop_eq_nil_of_le (by omega)]; rfl
  | succ n ih =>
    intro i N q m hi hN hp hq hm
    obtain ⟨N, rfl⟩ := pos_fuel hN
    have hz : (i : Int) < (as.length : Int) := by omega
    simp only [i_ValidKeys_l3, hz, decide_true, cond_true]
    rw [idx_lt as i (by omega), w64_nat i (by omega)]
    simp only [Option.bind_some, orO_some, hk, hd, hm, hq, i_letter as[i].made N (by omega)]
    rw [List.drop_eq_getElem_cons (by omega : i < as.length), okAs, ← List.take_succ_eq_append_getElem (by omega : i < as.length), okA]
    cases h1 : hasK keys as[i].mark
    · simp
    cases h2 : deadK keys as[i].mark
    · simp
    cases h3 : hasK keys as[i].letter
    · simp
    cases h4 : deadK keys as[i].letter
    case true => simp
    have l1 := isL_len (hasK_len hok h1)
    have l2 := isL_len (hasK_len hok h3)
    rw [cat_some _ _ (by unfold LIM; omega)]
    simp only [Bool.not_true, Bool.or_false, Bool.or_self, cond_false, Bool.not_false, Bool.and_true, Bool.true_and, Option.bind_some, orO_some, hq]
    cases h5 : isL as[i].made
    · simp
    cases h6 : hasK keys as[i].made
    case true => simp
    have e : ((as.take i).any fun b => b.made == as[i].made || (b.mark == as[i].mark && b.letter == as[i].letter)) = (((as.take i).any fun b => b.made == as[i].made) || ((as.take i).any fun b => b.mark ++ b.letter == as[i].mark ++ as[i].letter)) := by
      have e2 : ((as.take i).any fun b => b.mark ++ b.letter == as[i].mark ++ as[i].letter) = ((as.take i).any fun b => b.mark == as[i].mark && b.letter == as[i].letter) := by
        rw [Bool.eq_iff_iff, List.any_eq_true, List.any_eq_true]
        exact ⟨fun ⟨x, hx, h⟩ => ⟨x, hx, by rw [app_inj1 _ _ _ _ (hp x hx).1 l1] at h; exact h⟩, fun ⟨x, hx, h⟩ => ⟨x, hx, by rw [app_inj1 _ _ _ _ (hp x hx).1 l1]; exact h⟩⟩
      rw [e2, Bool.eq_iff_iff]
      simp only [Bool.or_eq_true, List.any_eq_true]
      constructor
      · rintro ⟨x, hx, h | h⟩
        · exact .inl ⟨x, hx, h⟩
        · exact .inr ⟨x, hx, h⟩
      · rintro (⟨x, hx, h⟩ | ⟨x, hx, h⟩)
        · exact ⟨x, hx, .inl h⟩
        · exact ⟨x, hx, .inr h⟩
    rw [e]
    simp only [Bool.not_true, Bool.or_false, Bool.false_or, Bool.not_false, Bool.and_true, Bool.true_and]
    cases h7 : ((as.take i).any fun b => b.made == as[i].made)
    case true => simp
    cases h8 : ((as.take i).any fun b => b.mark ++ b.letter == as[i].mark ++ as[i].letter)
    case true => simp
    simp only [Bool.or_self, cond_false, Bool.not_false, Bool.true_and]
    refine ih (i + 1) N _ _ (by omega) (by omega) ?_ ?_ ?_
    · intro a ha
      rw [List.take_succ_eq_append_getElem (by omega : i < as.length)] at ha
      rcases List.mem_append.1 ha with ha | ha
      · exact hp a ha
      · rw [List.mem_singleton.1 ha]; exact ⟨l1, l2⟩
    · intro s
      rw [mget_msetv, hq, List.take_succ_eq_append_getElem (by omega : i < as.length), List.any_append]
      have c : (as[i].mark ++ as[i].letter == s) = (s == as[i].mark ++ as[i].letter) := by rw [Bool.eq_iff_iff]; simp only [beq_iff_eq]; exact ⟨Eq.symm, Eq.symm⟩
      simp only [List.any_cons, List.any_nil, c, Bool.or_false]
      cases s == as[i].mark ++ as[i].letter <;> simp
    · intro s
      rw [mget_msetv, hm, List.take_succ_eq_append_getElem (by omega : i < as.length), List.any_append]
      have c : (as[i].made == s) = (s == as[i].made) := by rw [Bool.eq_iff_iff]; simp only [beq_iff_eq]; exact ⟨Eq.symm, Eq.symm⟩
      simp only [List.any_cons, List.any_nil, c, Bool.or_false]
      cases s == as[i].made <;> simp
theorem i_valid (keys : List Key) (as : List Accent) (hl : keys.length ≤ 1000) (hl2 : as.length ≤ 1000) (N : Nat) (hN : 3000 < N) : i_ValidKeys N keys as = some (okKA keys as) := by
  unfold i_ValidKeys
  simp only [withK_eq, orO_some, Option.bind_some]
  have e1 : decide ((keys.length : Int) > 40) = !(decide (keys.length ≤ 40)) := by rw [Bool.eq_iff_iff]; simp; omega
  have e2 : decide ((as.length : Int) > 20) = !(decide (as.length ≤ 20)) := by rw [Bool.eq_iff_iff]; simp; omega
  rw [e1, e2]
  unfold okKA
  cases decide (keys.length ≤ 40)
  · simp
  cases decide (as.length ≤ 20)
  · simp
  simp only [Bool.not_true, Bool.or_self, cond_false, Bool.and_true]
  cases hok : okKs [] keys
  · have h := i_valid_l1 keys (fun (mp13 : List (Str × Bool)) (mp14 : List (Str × Bool)) => some false) false hl (fun _ _ _ _ => rfl)
    have g : ∀ (kj : List (Str × Bool) → List (Str × Bool) → Option Bool) (n i N : Nat) (d k : List (Str × Bool)), i + n = keys.length → n + 1010 < N → (∀ s, mget d s = deadK (keys.take i) s) → (∀ s, mget k s = hasK (keys.take i) s) → okKs (keys.take i) (keys.drop i) = false → i_ValidKeys_l1 kj keys N d k (i : Int) = some false := by
      intro kj n
      induction n with
      | zero =>
        intro i N d k hi hN hd hk ho
        rw [List.drop_eq_nil_of_le (by omega)] at ho; cases ho
      | succ n ih =>
        intro i N d k hi hN hd hk ho
        obtain ⟨N, rfl⟩ := pos_fuel hN
        have hz : (i : Int) < (keys.length : Int) := by omega
        simp only [i_ValidKeys_l1, hz, decide_true, cond_true, withK_eq]
        rw [idx_lt keys i (by omega), w64_nat i (by omega)]
        simp only [Option.bind_some]
        obtain ⟨d', k', h1, h2⟩ := i_valid_l2 keys[i] d k (fun (mp21 : List (Str × Bool)) (mp22 : List (Str × Bool)) => i_ValidKeys_l1 kj keys N mp21 mp22 ((i + 1 : Nat) : Int)) (keys.take i) hd hk N (by omega)
        rw [h2]
        rw [List.drop_eq_getElem_cons (by omega : i < keys.length), okKs, ← List.take_succ_eq_append_getElem (by omega : i < keys.length)] at ho
        cases hb : okB (keys.take i) keys[i]
        · rfl
        · obtain ⟨h3, h4⟩ := h1 hb
          rw [← List.take_succ_eq_append_getElem (by omega : i < keys.length)] at h3 h4
          rw [hb] at ho
          simp only [cond_true]
          exact ih (i + 1) N d' k' (by omega) (by omega) h3 h4 (by simpa using ho)
    have := g (fun (mp13 : List (Str × Bool)) (mp14 : List (Str × Bool)) => i_ValidKeys_l3 (some true) as mp13 mp14 N [] [] 0) keys.length 0 N [] [] (by omega) (by omega) (fun s => rfl) (fun s => rfl) (by simpa using hok)
    simpa using this
  · have := i_valid_l1 keys (fun (mp13 : List (Str × Bool)) (mp14 : List (Str × Bool)) => i_ValidKeys_l3 (some true) as mp13 mp14 N [] [] 0) (okAs keys [] as) hl (fun d k hd hk => by
      have h := i_valid_l3 keys as d k (some true) rfl hok hd hk hl2 as.length 0 N [] [] (by omega) (by omega) (by simp) (fun s => rfl) (fun s => rfl)
      simpa using h) keys.length 0 N [] [] (by omega) (by omega) (fun s => rfl) (fun s => rfl)
    simpa [hok] using this
end Go.Proofs.YtpodlgibcfbbiaaDoor
