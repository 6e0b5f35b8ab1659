/-
  Plain lemmas on these functions. No conditions but those that each states.
-/
import Derived.Test.YtllaacpkpofbiaaFnExchangesP4
namespace Go.Proofs.Ytllaacpkpofbiaa
set_option linter.unusedVariables false
set_option linter.unusedSimpArgs false
/-! Keys: what is found. -/
def isL (s : Str) : Bool := match s with
  | [c] => decide (33 ≤ c.toNat) && decide (c.toNat ≤ 126)
  | _ => false
theorem s_letter (s : Str) : s_l02Letter s = some (isL s) := by
  unfold s_l02Letter isL
  match s with
  | [] => rfl
  | [c] =>
    have h0 : ((([c] : Str).length : Int) == 1) = true := rfl
    have h1 : idx ([c] : Str) 0 = some c := rfl
    simp only [h0, h1, andO_true, Option.bind_some, andO_some]
    refine congrArg some ?_
    show _ = (decide (33 ≤ c.toNat) && decide (c.toNat ≤ 126))
    rw [Bool.eq_iff_iff]
    have e1 : (32 : UInt8).toNat = 32 := rfl
    have e2 : (127 : UInt8).toNat = 127 := rfl
    simp only [Bool.and_eq_true, decide_eq_true_eq, gt_iff_lt, UInt8.lt_iff_toNat_lt, e1, e2, true_and]
    omega
  | c :: d :: r =>
    have h0 : (((c :: d :: r : Str).length : Int) == 1) = false := by simp; omega
    simp only [h0, andO_false, Option.bind_some]
/-- text of letters -/
def isT (s : Str) (low : Nat) : Bool := s.all fun c => decide (low ≤ c.toNat) && decide (c.toNat ≤ 126)
theorem i_text_l1 (s : Str) (low : UInt8) (kj : Option Bool) (hk : kj = some true) (hl : s.length ≤ 1000) : ∀ (n i N : Nat), i + n = s.length → n < N → i_isText_l1 kj s low N (i : Int) = some (isT (s.drop i) low.toNat) := by
  intro n
  induction n with
  | zero =>
    intro i N hi hN
    obtain ⟨N, rfl⟩ := pos_fuel hN
    have hz : ¬ (i : Int) < (s.length : Int) := by omega
    simp only [i_isText_l1, hz, decide_false, cond_false, hk]
    rw [List.drop_eq_nil_of_le (by omega)]; rfl
  | succ n ih =>
    intro i N hi hN
    obtain ⟨N, rfl⟩ := pos_fuel hN
    have hz : (i : Int) < (s.length : Int) := by omega
    simp only [i_isText_l1, hz, decide_true, cond_true]
    rw [idx_lt s i (by omega), w64_nat i (by omega), List.drop_eq_getElem_cons (by omega : i < s.length), ih (i + 1) N (by omega) (by omega)]
    simp only [Option.bind_some, orO_some, isT, List.all_cons]
    have e2 : (126 : UInt8).toNat = 126 := rfl
    have e : (decide (s[i] < low) || decide (s[i] > (126 : UInt8))) = !(decide (low.toNat ≤ s[i].toNat) && decide (s[i].toNat ≤ 126)) := by
      rw [Bool.eq_iff_iff]
      simp only [Bool.or_eq_true, Bool.not_eq_true', Bool.and_eq_false_iff, decide_eq_true_eq, decide_eq_false_iff_not, gt_iff_lt, UInt8.lt_iff_toNat_lt, e2]
      omega
    rw [e]
    cases decide (low.toNat ≤ s[i].toNat) && decide (s[i].toNat ≤ 126) <;> rfl
theorem i_text (s : Str) (low : UInt8) (most : Int) (hl : s.length ≤ 1000) (N : Nat) (hN : 1000 < N) : i_isText N s low most = some (decide ((s.length : Int) ≤ most) && isT s low.toNat) := by
  unfold i_isText
  simp only [withK_eq]
  by_cases h : (s.length : Int) > most
  · have h' : ¬ (s.length : Int) ≤ most := by omega
    simp [h, h']
  · have h' : (s.length : Int) ≤ most := by omega
    simp only [h, h', decide_false, cond_false, decide_true, Bool.true_and]
    exact i_text_l1 s low _ rfl hl s.length 0 N (by omega) (by omega)
/-! Faults of a layout's text, and its rows. -/
theorem withK_n {A B : Type} (k : A) (b : A → B) : withK k b = b k := Eq.trans rfl rfl
def ft : Str → Str → Nat → Nat → Nat → Int × Int
  | _, [], _, long, i => if long = 0 then (1, (i : Int)) else (0, 0)
  | pre, c :: r, rows, long, i => if c = 47 then (if long = 0 ∨ rows = 4 then (1, (i : Int)) else ft (pre ++ [c]) r (rows + 1) 0 (i + 1)) else if isL [c] = false then (2, (i : Int)) else if c ∈ pre then (3, (i : Int)) else if long + 1 > 12 then (4, (i : Int)) else ft (pre ++ [c]) r rows (long + 1) (i + 1)
theorem sub1 (s : Str) (x : Nat) (h : x < s.length) : sub s (x : Int) ((x + 1 : Nat) : Int) = some [s[x]] := by
  rw [sub_some s _ _ (by omega) (by omega) (by omega), Int.toNat_natCast, Int.toNat_natCast, List.drop_eq_getElem_cons h, show x + 1 - x = 1 by omega]
  rfl
def MK (l : List Bool) (pre : Str) : Prop := l.length = 256 ∧ ∀ c : UInt8, c ≠ 47 → idx l (c.toNat : Int) = some (decide (c ∈ pre))
theorem MK.add {l : List Bool} {pre : Str} (h : MK l pre) (c : UInt8) : MK (l.set c.toNat true) (pre ++ [c]) := by
  refine ⟨by simpa using h.1, fun d hd => ?_⟩
  have hc := UInt8.toNat_lt c
  by_cases e : d = c
  · subst e
    rw [idx_nat, List.getElem?_set_self (by rw [h.1]; exact hc)]
    simp
  · rw [idx_nat, List.getElem?_set_ne (fun g => e (UInt8.toNat_inj.1 g.symm)), ← idx_nat, h.2 d hd]
    simp [e]
theorem MK.skip {l : List Bool} {pre : Str} (h : MK l pre) : MK l (pre ++ [47]) := ⟨h.1, fun d hd => by rw [h.2 d hd]; simp [hd]⟩
theorem MK.zero : MK (List.replicate 256 false) [] := ⟨List.length_replicate, fun c _ => by
  rw [idx_nat, List.getElem?_replicate, if_pos (UInt8.toNat_lt c)]; rfl⟩
def FT (s : Str) : Int × Int := ft [] s 1 0 0
theorem ft_rng : ∀ (r pre : Str) (rows long i : Nat), 0 ≤ (ft pre r rows long i).2 ∧ (ft pre r rows long i).2 ≤ ((i + r.length : Nat) : Int)
  | [], pre, rows, long, i => by
    simp only [ft]; split <;> simp
  | c :: r, pre, rows, long, i => by
    have h1 := ft_rng r (pre ++ [c]) (rows + 1) 0 (i + 1)
    have h2 := ft_rng r (pre ++ [c]) rows (long + 1) (i + 1)
    simp only [ft, List.length_cons]
    split
    · split
      · simp; omega
      · omega
    · split
      · simp; omega
      · split
        · simp; omega
        · split
          · simp; omega
          · omega
def spl : Str → Str → List Str
  | [], cur => [cur]
  | c :: r, cur => if c = 47 then cur :: spl r [] else spl r (cur ++ [c])
theorem spl_ne : ∀ (r cur : Str), ∃ y ys, spl r cur = y :: ys
  | [], cur => ⟨cur, [], rfl⟩
  | c :: r, cur => by
    simp only [spl]
    split
    · exact ⟨cur, _, rfl⟩
    · exact spl_ne r _
theorem spl_join : ∀ (r cur : Str), Lib.join (spl r cur) [47] = cur ++ r
  | [], cur => by rw [spl, Lib.join_one, List.append_nil]
  | c :: r, cur => by
    simp only [spl]
    split
    · rename_i hc
      have ih := spl_join r []
      obtain ⟨y, ys, e⟩ := spl_ne r []
      rw [e] at ih ⊢
      rw [Lib.join_cons] at ih ⊢
      rw [List.nil_append] at ih
      rw [hc, ← ih]
      simp [Lib.joinTail]
    · rw [spl_join r (cur ++ [c])]; simp
theorem tk_cur (s : Str) {st x : Nat} (h : st ≤ x) (hx : x < s.length) : (s.drop st).take (x + 1 - st) = (s.drop st).take (x - st) ++ [s[x]] := by
  have hl0 : x - st < (s.drop st).length := by rw [List.length_drop]; omega
  rw [show x + 1 - st = (x - st) + 1 by omega, List.take_succ_eq_append_getElem hl0]
  congr 2
  rw [List.getElem_drop]
  congr 1; omega
/-! Valid layouts, and where letters lie. -/
def vr : Str → Str → Bool
  | _, [] => true
  | seen, c :: r => !(c == 47) && (!(decide (c ∈ seen)) && vr (seen ++ [c]) r)
def vq : Str → Str → Bool
  | _, [] => true
  | seen, c :: r => !(decide (c ∈ seen)) && vq (seen ++ [c]) r
def ro (w : Str) : Bool := !((w.length : Int) == 0) && (decide (w.length ≤ 12) && isT w 33)
def rs (w : Str) : Bool := (w.all fun c => isL [c] && !(c == 47)) && decide (1 ≤ w.length ∧ w.length ≤ 12)
def vls : Str → List Str → Bool
  | _, [] => true
  | seen, w :: r => (ro w && vr seen w) && vls (seen ++ w) r
def VL (rows : List Str) : Bool := decide (1 ≤ rows.length ∧ rows.length ≤ 4) && vls [] rows
theorem vr_iff : ∀ (w seen : Str), vr seen w = true ↔ (∀ c ∈ w, c ≠ 47 ∧ c ∉ seen) ∧ w.Nodup
  | [], seen => by simp [vr]
  | c :: r, seen => by
    have ih := vr_iff r (seen ++ [c])
    simp only [vr, Bool.and_eq_true, Bool.not_eq_true', beq_eq_false_iff_ne, decide_eq_false_iff_not, ih, List.nodup_cons, List.mem_append, List.mem_singleton, not_or]
    constructor
    · rintro ⟨h1, h2, h3, h4⟩
      refine ⟨fun d hd => ?_, fun hc => (h3 c hc).2.2 rfl, h4⟩
      rcases List.mem_cons.1 hd with rfl | hd
      · exact ⟨h1, h2⟩
      · exact ⟨(h3 d hd).1, (h3 d hd).2.1⟩
    · rintro ⟨h1, h2, h3⟩
      refine ⟨(h1 c List.mem_cons_self).1, (h1 c List.mem_cons_self).2, fun d hd => ⟨(h1 d (List.mem_cons_of_mem _ hd)).1, (h1 d (List.mem_cons_of_mem _ hd)).2, fun e => h2 (e ▸ hd)⟩, h3⟩
theorem vr_vq : ∀ (w seen : Str), (∀ c ∈ w, c ≠ 47) → vr seen w = vq seen w
  | [], _, _ => rfl
  | c :: r, seen, h => by
    have h1 := h c List.mem_cons_self
    rw [vr, vq, vr_vq r _ fun d hd => h d (List.mem_cons_of_mem _ hd), beq_eq_false_iff_ne.2 h1]
    rfl
theorem vr_47 : ∀ (w seen : Str), 47 ∈ w → vr seen w = false
  | [], _, h => by cases h
  | c :: r, seen, h => by
    rw [vr]
    rcases List.mem_cons.1 h with rfl | h
    · rfl
    · rw [vr_47 r _ h]; simp
theorem ro_rs (w seen : Str) : (ro w && vr seen w) = (rs w && vq seen w) := by
  by_cases h : 47 ∈ w
  · rw [vr_47 w seen h, Bool.and_false]
    have : rs w = false := by
      unfold rs
      rw [Bool.and_eq_false_iff]
      left
      rw [List.all_eq_false]
      exact ⟨47, h, by decide⟩
    rw [this]; rfl
  · have hn : ∀ c ∈ w, c ≠ 47 := fun c hc e => h (e ▸ hc)
    rw [vr_vq w seen hn]
    congr 1
    unfold ro rs isT
    have e1 : (w.all fun c => isL [c] && !(c == 47)) = (w.all fun c => decide (33 ≤ c.toNat) && decide (c.toNat ≤ 126)) := by
      rw [Bool.eq_iff_iff, List.all_eq_true, List.all_eq_true]
      refine ⟨fun g c hc => ?_, fun g c hc => ?_⟩
      · have := g c hc
        rw [Bool.and_eq_true] at this
        exact this.1
      · rw [Bool.and_eq_true]
        exact ⟨g c hc, by rw [beq_eq_false_iff_ne.2 (hn c hc)]; rfl⟩
    rw [e1, Bool.eq_iff_iff]
    simp only [Bool.and_eq_true, Bool.not_eq_true', beq_eq_false_iff_ne, decide_eq_true_eq]
    constructor
    · rintro ⟨a1, a2, a3⟩; exact ⟨a3, by omega, a2⟩
    · rintro ⟨a3, a1, a2⟩; exact ⟨by omega, a2, a3⟩
def RWo (w : Str) : Prop := 1 ≤ w.length ∧ w.length ≤ 12 ∧ ∀ c ∈ w, isL [c] = true ∧ c ≠ 47
theorem rs_iff (w : Str) : rs w = true ↔ RWo w := by
  unfold rs RWo
  rw [Bool.and_eq_true, List.all_eq_true, decide_eq_true_eq]
  simp only [Bool.and_eq_true, Bool.not_eq_true', beq_eq_false_iff_ne]
  exact ⟨fun ⟨a, b, c⟩ => ⟨b, c, a⟩, fun ⟨b, c, a⟩ => ⟨a, b, c⟩⟩
theorem ro_iff (w seen : Str) : (ro w && vr seen w) = true ↔ RWo w ∧ (∀ c ∈ w, c ∉ seen) ∧ w.Nodup := by
  constructor
  · intro h
    have h2 := h
    rw [ro_rs, Bool.and_eq_true] at h
    rw [Bool.and_eq_true] at h2
    have h3 := (vr_iff w seen).1 h2.2
    exact ⟨(rs_iff w).1 h.1, fun c hc => (h3.1 c hc).2, h3.2⟩
  · rintro ⟨h1, h2, h3⟩
    have hv : vr seen w = true := (vr_iff w seen).2 ⟨fun c hc => ⟨(h1.2.2 c hc).2, h2 c hc⟩, h3⟩
    have hq : vq seen w = true := by rw [← vr_vq w seen fun c hc => (h1.2.2 c hc).2]; exact hv
    rw [ro_rs, (rs_iff w).2 h1, hq]; rfl
theorem vls_iff : ∀ (rows : List Str) (seen : Str), vls seen rows = true ↔ (∀ w ∈ rows, RWo w) ∧ rows.flatten.Nodup ∧ ∀ c ∈ rows.flatten, c ∉ seen
  | [], seen => by simp [vls]
  | w :: r, seen => by
    have ih := vls_iff r (seen ++ w)
    rw [vls, Bool.and_eq_true, ro_iff, ih]
    simp only [List.flatten_cons, List.nodup_append, List.mem_append, not_or]
    constructor
    · rintro ⟨⟨a1, a2, a3⟩, b1, b2, b3⟩
      refine ⟨fun x hx => ?_, ⟨a3, b2, fun a ha b hb e => (b3 b hb).2 (e ▸ ha)⟩, fun c hc => ?_⟩
      · rcases List.mem_cons.1 hx with rfl | hx
        · exact a1
        · exact b1 x hx
      · rcases hc with hc | hc
        · exact a2 c hc
        · exact (b3 c hc).1
    · rintro ⟨a, ⟨b1, b2, b3⟩, c1⟩
      exact ⟨⟨a w List.mem_cons_self, fun c hc => c1 c (.inl hc), b1⟩, fun x hx => a x (List.mem_cons_of_mem _ hx), b2, fun c hc => ⟨c1 c (.inr hc), fun hw => b3 c hw c hc rfl⟩⟩
def V (rows : List Str) : Prop := (1 ≤ rows.length ∧ rows.length ≤ 4) ∧ (∀ w ∈ rows, RWo w) ∧ rows.flatten.Nodup
theorem VL_iff (rows : List Str) : VL rows = true ↔ V rows := by
  unfold VL V
  rw [Bool.and_eq_true, decide_eq_true_eq, vls_iff]
  simp
/-! the one side -/
theorem vl_l2 (w seen : Str) (hw : w.length ≤ 100) (kj : List Bool → Option Bool) : ∀ (q y N : Nat) (l : List Bool), y + q = w.length → q < N → MK l (seen ++ w.take y) → (vr (seen ++ w.take y) (w.drop y) = true → ∃ l', MK l' (seen ++ w) ∧ i_ValidLayout_l2 kj w N l (y : Int) = kj l') ∧ (vr (seen ++ w.take y) (w.drop y) = false → i_ValidLayout_l2 kj w N l (y : Int) = some false) := by
  intro q
  induction q with
  | zero =>
    intro y N l hy hN hm
    obtain ⟨N, rfl⟩ := pos_fuel hN
    rw [i_ValidLayout_l2, decide_eq_false (by omega : ¬ (y : Int) < (w.length : Int)), cond_false, List.drop_eq_nil_of_le (by omega)]
    rw [List.take_of_length_le (by omega)] at hm
    exact ⟨fun _ => ⟨l, hm, rfl⟩, fun h => by simp [vr] at h⟩
  | succ q ih =>
    intro y N l hy hN hm
    obtain ⟨N, rfl⟩ := pos_fuel hN
    have hlt : y < w.length := by omega
    have htk : seen ++ w.take (y + 1) = (seen ++ w.take y) ++ [w[y]] := by rw [List.take_succ_eq_append_getElem hlt, List.append_assoc]
    rw [i_ValidLayout_l2, decide_eq_true (by omega : (y : Int) < (w.length : Int)), cond_true, idx_lt w y hlt, List.drop_eq_getElem_cons hlt, vr]
    simp only [Option.bind_some]
    by_cases hc : w[y] = 47
    · rw [beq_iff_eq.2 hc]
      refine ⟨fun h => by simp at h, fun _ => ?_⟩
      rw [orO_true, Option.bind_some, cond_true]
    · rw [beq_eq_false_iff_ne.2 hc, hm.2 _ hc, orO_false]
      simp only [Option.bind_some, Bool.not_false, Bool.true_and]
      by_cases hp : w[y] ∈ seen ++ w.take y
      · rw [decide_eq_true hp]
        exact ⟨fun h => by simp at h, fun _ => rfl⟩
      · rw [decide_eq_false hp, cond_false, Int.toNat_natCast, w64_nat y (by omega), Bool.not_false, Bool.true_and, ← htk]
        exact ih (y + 1) N _ (by omega) (by omega) (by rw [htk]; exact hm.add _)
theorem vl_l1 (rows : List Str) (hr : rows.length ≤ 10) (hw : ∀ w ∈ rows, w.length ≤ 100) : ∀ (q x N : Nat) (l : List Bool), x + q = rows.length → q + 1200 < N → MK l (rows.take x).flatten → i_ValidLayout_l1 (some true) (Layout.mk rows) N l (x : Int) = some (vls (rows.take x).flatten (rows.drop x)) := by
  intro q
  induction q with
  | zero =>
    intro x N l hx hN hm
    obtain ⟨N, rfl⟩ := pos_fuel (show 0 < N by omega)
    rw [i_ValidLayout_l1, decide_eq_false (by show ¬ (x : Int) < (rows.length : Int); omega), cond_false, List.drop_eq_nil_of_le (by omega)]
    rfl
  | succ q ih =>
    intro x N l hx hN hm
    obtain ⟨N, rfl⟩ := pos_fuel (show 0 < N by omega)
    have hlt : x < rows.length := by omega
    have hwl := hw _ (List.getElem_mem hlt)
    have htk : (rows.take (x + 1)).flatten = (rows.take x).flatten ++ rows[x] := by rw [List.take_succ_eq_append_getElem hlt, List.flatten_append, List.flatten_singleton]
    rw [i_ValidLayout_l1, decide_eq_true (by show (x : Int) < (rows.length : Int); omega), cond_true]
    simp only [withK_n]
    rw [idx_lt rows x hlt, Option.bind_some, i_text rows[x] 33 12 (by omega) N (by omega), w64_nat x (by omega), List.drop_eq_getElem_cons hlt, vls]
    simp only [Option.bind_some]
    rw [orO_some, Option.bind_some]
    have e1 : (((rows[x].length : Int) == 0) || !(decide ((rows[x].length : Int) ≤ 12) && isT rows[x] (33 : UInt8).toNat)) = !(ro rows[x]) := by
      have e2 : decide ((rows[x].length : Int) ≤ 12) = decide (rows[x].length ≤ 12) := by rw [Bool.eq_iff_iff, decide_eq_true_eq, decide_eq_true_eq]; omega
      have e3 : (33 : UInt8).toNat = 33 := rfl
      rw [e2, e3]
      unfold ro
      cases ((rows[x].length : Int) == 0) <;> rfl
    rw [e1]
    cases hro : ro rows[x] with
    | false => rfl
    | true =>
      rw [Bool.not_true, cond_false, Bool.true_and]
      obtain ⟨g1, g2⟩ := vl_l2 rows[x] (rows.take x).flatten hwl (fun l14 => i_ValidLayout_l1 (some true) (Layout.mk rows) N l14 ((x + 1 : Nat) : Int)) rows[x].length 0 N l (by omega) (by omega) (by rw [List.take_zero, List.append_nil]; exact hm)
      rw [List.take_zero, List.append_nil, List.drop_zero] at g1 g2
      cases hv : vr (rows.take x).flatten rows[x] with
      | false => exact g2 hv
      | true =>
        obtain ⟨l', m1, m2⟩ := g1 hv
        rw [Bool.true_and, ← htk]
        refine (m2 : _ = _).trans ?_
        exact ih (x + 1) N l' (by omega) (by omega) (by rw [htk]; exact m1)
theorem ivalid (rows : List Str) (hr : rows.length ≤ 10) (hw : ∀ w ∈ rows, w.length ≤ 100) (N : Nat) (hN : 2000 < N) : i_ValidLayout N (Layout.mk rows) = some (VL rows) := by
  have := vl_l1 rows hr hw rows.length 0 N _ (by omega) (by omega) (by exact MK.zero)
  rw [show ((0 : Nat) : Int) = 0 from rfl, List.take_zero, List.flatten_nil, List.drop_zero] at this
  unfold i_ValidLayout i_between VL
  show ((andO (decide ((rows.length : Int) ≥ 1)) (some (decide ((rows.length : Int) ≤ 4)))).bind fun t4 => some t4).bind _ = _
  rw [andO_some, Option.bind_some, Option.bind_some, withK_n, this]
  have e : (decide ((rows.length : Int) ≥ 1) && decide ((rows.length : Int) ≤ 4)) = decide (1 ≤ rows.length ∧ rows.length ≤ 4) := by
    rw [Bool.eq_iff_iff, Bool.and_eq_true, decide_eq_true_eq, decide_eq_true_eq, decide_eq_true_eq]; omega
  rw [e]
  cases decide (1 ≤ rows.length ∧ rows.length ≤ 4) <;> rfl
/-! where a letter lies first -/
def fc (c : UInt8) : Str → Nat → Option Nat
  | [], _ => none
  | d :: w, k => if d = c then some k else fc c w (k + 1)
def fo (c : UInt8) : List Str → Nat → Option (Nat × Nat)
  | [], _ => none
  | w :: r, i => match fc c w 0 with
    | some k => some (i, k)
    | none => fo c r (i + 1)
theorem fc_notin (c : UInt8) : ∀ (A r : Str) (k : Nat), c ∉ A → fc c (A ++ r) k = fc c r (k + A.length)
  | [], _, _, _ => rfl
  | d :: A, r, k, h => by
    rw [List.mem_cons, not_or] at h
    rw [List.cons_append, fc, if_neg (fun e => h.1 e.symm), fc_notin c A r (k + 1) h.2, List.length_cons]
    congr 1; omega
theorem fc_in (c : UInt8) : ∀ (A r : Str) (k : Nat), c ∈ A → ∃ j, fc c (A ++ r) k = some j ∧ k ≤ j ∧ j < k + A.length
  | [], _, _, h => by cases h
  | d :: A, r, k, h => by
    rw [List.cons_append, fc]
    by_cases e : d = c
    · rw [if_pos e]; exact ⟨k, rfl, Nat.le_refl _, by simp⟩
    · rw [if_neg e]
      obtain ⟨j, h1, h2, h3⟩ := fc_in c A r (k + 1) ((List.mem_cons.1 h).resolve_left fun g => e g.symm)
      exact ⟨j, h1, by omega, by simp only [List.length_cons]; omega⟩
theorem fc_none (c : UInt8) (w : Str) (k : Nat) (h : c ∉ w) : fc c w k = none := by
  have := fc_notin c w [] k h
  rw [List.append_nil] at this
  exact this
theorem fo_notin (c : UInt8) : ∀ (P r : List Str) (i : Nat), c ∉ P.flatten → fo c (P ++ r) i = fo c r (i + P.length)
  | [], _, _, _ => rfl
  | w :: P, r, i, h => by
    rw [List.flatten_cons, List.mem_append, not_or] at h
    rw [List.cons_append, fo, fc_none c w 0 h.1]
    show fo c (P ++ r) (i + 1) = _
    rw [fo_notin c P r (i + 1) h.2, List.length_cons]
    congr 1; omega
theorem fo_in (c : UInt8) : ∀ (P r : List Str) (i : Nat), c ∈ P.flatten → ∃ i' k w, fo c (P ++ r) i = some (i', k) ∧ i ≤ i' ∧ i' < i + P.length ∧ (P ++ r)[i' - i]? = some w ∧ w[k]? = some c
  | [], _, _, h => by cases h
  | w :: P, r, i, h => by
    rw [List.cons_append, fo]
    by_cases hw : c ∈ w
    · obtain ⟨A, B, rfl, hA⟩ : ∃ A B, w = A ++ c :: B ∧ c ∉ A := by
        clear h
        induction w with
        | nil => cases hw
        | cons d w ih =>
          by_cases e : d = c
          · exact ⟨[], w, by rw [e]; rfl, by simp⟩
          · obtain ⟨A, B, e1, e2⟩ := ih ((List.mem_cons.1 hw).resolve_left fun g => e g.symm)
            exact ⟨d :: A, B, by rw [e1]; rfl, by simp only [List.mem_cons, not_or]; exact ⟨fun g => e g.symm, e2⟩⟩
      rw [fc_notin c A _ 0 hA, fc, if_pos rfl]
      refine ⟨i, 0 + A.length, A ++ c :: B, rfl, Nat.le_refl _, by simp, by simp, ?_⟩
      rw [Nat.zero_add, List.getElem?_append_right (Nat.le_refl _), Nat.sub_self]
      rfl
    · rw [fc_none c w 0 hw]
      rw [List.flatten_cons, List.mem_append] at h
      obtain ⟨i', k, v, h1, h2, h3, h4, h5⟩ := fo_in c P r (i + 1) (h.resolve_left hw)
      refine ⟨i', k, v, h1, by omega, by simp only [List.length_cons]; omega, ?_, h5⟩
      rw [show i' - i = (i' - (i + 1)) + 1 by omega]
      exact h4
theorem fo_none (c : UInt8) (rows : List Str) (i : Nat) (h : c ∉ rows.flatten) : fo c rows i = none := by
  have := fo_notin c rows [] i h
  rw [List.append_nil] at this
  exact this
theorem fo_at (c : UInt8) (P R : List Str) (A B : Str) : ∃ i k, fo c (P ++ (A ++ c :: B) :: R) 0 = some (i, k) ∧ ((i = P.length ∧ k = A.length) ↔ (c ∉ P.flatten ∧ c ∉ A)) := by
  by_cases hP : c ∈ P.flatten
  · obtain ⟨i, k, w, h1, _, h3, _⟩ := fo_in c P ((A ++ c :: B) :: R) 0 hP
    exact ⟨i, k, h1, ⟨fun h => by omega, fun h => absurd hP h.1⟩⟩
  · rw [fo_notin c P _ 0 hP, fo]
    by_cases hA : c ∈ A
    · obtain ⟨j, h1, h2, h3⟩ := fc_in c A (c :: B) 0 hA
      rw [h1]
      exact ⟨_, _, rfl, ⟨fun h => by omega, fun h => absurd hA h.2⟩⟩
    · rw [fc_notin c A _ 0 hA, fc, if_pos rfl]
      exact ⟨_, _, rfl, ⟨fun _ => ⟨hP, hA⟩, fun _ => ⟨by omega, by omega⟩⟩⟩
/-! The other side; loops over rows. -/
theorem sr_l1 (s : Str) (hs : s.length ≤ 500) (kj : Option Bool) : ∀ (q x N : Nat), x + q = s.length → q < N → s_l06Row_l1 kj s N (x : Int) = (bif (s.drop x).all (fun c => isL [c] && !(c == 47)) then kj else some false) := by
  intro q
  induction q with
  | zero =>
    intro x N hx hN
    obtain ⟨N, rfl⟩ := pos_fuel hN
    rw [s_l06Row_l1, decide_eq_false (by omega : ¬ (x : Int) < (s.length : Int)), cond_false, List.drop_eq_nil_of_le (by omega)]
    rfl
  | succ q ih =>
    intro x N hx hN
    obtain ⟨N, rfl⟩ := pos_fuel hN
    have hlt : x < s.length := by omega
    rw [s_l06Row_l1, decide_eq_true (by omega : (x : Int) < (s.length : Int)), cond_true, w64_nat x (by omega), sub1 s x hlt, Option.bind_some, s_letter, Option.bind_some, idx_lt s x hlt, Option.bind_some, orO_some, Option.bind_some, ih (x + 1) N (by omega) (by omega), List.drop_eq_getElem_cons hlt, List.all_cons]
    cases isL [s[x]] with
    | false => rfl
    | true =>
      cases (s[x] == 47) <;> rfl
theorem srow (s : Str) (hs : s.length ≤ 500) (N : Nat) (hN : 600 < N) : s_l06Row N s = some (rs s) := by
  have := fun kj => sr_l1 s hs kj s.length 0 N (by omega) (by omega)
  rw [show ((0 : Nat) : Int) = 0 from rfl, List.drop_zero] at this
  unfold s_l06Row s_l00In
  rw [withK_n, this, andO_some, Option.bind_some, Option.bind_some]
  have e : (decide ((s.length : Int) ≥ 1) && decide ((s.length : Int) ≤ 12)) = decide (1 ≤ s.length ∧ s.length ≤ 12) := by
    rw [Bool.eq_iff_iff, Bool.and_eq_true, decide_eq_true_eq, decide_eq_true_eq, decide_eq_true_eq]; omega
  rw [e]
  unfold rs
  cases (s.all fun c => isL [c] && !(c == 47)) <;> rfl
def spI : Option (Nat × Nat) → Int × Int × Bool
  | some (i, k) => ((i : Int), (k : Int), true)
  | none => (0, 0, false)
def spS : Option (Nat × Nat) → Int × Int
  | some (i, k) => ((i : Int), (k : Int))
  | none => (-1, -1)
theorem is_l2 (w : Str) (hw : w.length ≤ 500) (c : UInt8) (x : Int) (kj : Option (Int × Int × Bool)) : ∀ (q y N : Nat), y + q = w.length → q < N → i_Layout_spot_l2 kj c x w N (y : Int) = (match fc c (w.drop y) y with | some k => some (x, (k : Int), true) | none => kj) := by
  intro q
  induction q with
  | zero =>
    intro y N hy hN
    obtain ⟨N, rfl⟩ := pos_fuel hN
    rw [i_Layout_spot_l2, decide_eq_false (by omega : ¬ (y : Int) < (w.length : Int)), cond_false, List.drop_eq_nil_of_le (by omega)]
    rfl
  | succ q ih =>
    intro y N hy hN
    obtain ⟨N, rfl⟩ := pos_fuel hN
    have hlt : y < w.length := by omega
    rw [i_Layout_spot_l2, decide_eq_true (by omega : (y : Int) < (w.length : Int)), cond_true, idx_lt w y hlt, Option.bind_some, w64_nat y (by omega), ih (y + 1) N (by omega) (by omega), List.drop_eq_getElem_cons hlt, fc]
    by_cases h : w[y] = c
    · rw [beq_iff_eq.2 h, cond_true, if_pos h]
    · rw [beq_eq_false_iff_ne.2 h, cond_false, if_neg h]
theorem is_l1 (rows : List Str) (hr : rows.length ≤ 10) (hw : ∀ w ∈ rows, w.length ≤ 100) (c : UInt8) : ∀ (q x N : Nat), x + q = rows.length → q + 200 < N → i_Layout_spot_l1 (some (0, 0, false)) (Layout.mk rows) c N (x : Int) = some (spI (fo c (rows.drop x) x)) := by
  intro q
  induction q with
  | zero =>
    intro x N hx hN
    obtain ⟨N, rfl⟩ := pos_fuel (show 0 < N by omega)
    rw [i_Layout_spot_l1, decide_eq_false (by show ¬ (x : Int) < (rows.length : Int); omega), cond_false, List.drop_eq_nil_of_le (by omega)]
    rfl
  | succ q ih =>
    intro x N hx hN
    obtain ⟨N, rfl⟩ := pos_fuel (show 0 < N by omega)
    have hlt : x < rows.length := by omega
    have hwl := hw _ (List.getElem_mem hlt)
    rw [i_Layout_spot_l1, decide_eq_true (by show (x : Int) < (rows.length : Int); omega), cond_true]
    simp only [withK_n]
    rw [idx_lt rows x hlt, Option.bind_some, w64_nat x (by omega), ih (x + 1) N (by omega) (by omega), List.drop_eq_getElem_cons hlt, fo]
    have := is_l2 rows[x] (by omega) c (x : Int) (some (spI (fo c (rows.drop (x + 1)) (x + 1)))) rows[x].length 0 N (by omega) (by omega)
    rw [show ((0 : Nat) : Int) = 0 from rfl, List.drop_zero] at this
    rw [this]
    cases fc c rows[x] 0 <;> rfl
theorem ispot (rows : List Str) (hr : rows.length ≤ 10) (hw : ∀ w ∈ rows, w.length ≤ 100) (c : UInt8) (N : Nat) (hN : 300 < N) : i_Layout_spot N (Layout.mk rows) c = some (spI (fo c rows 0)) := by
  unfold i_Layout_spot
  rw [withK_n]
  exact is_l1 rows hr hw c rows.length 0 N (by omega) (by omega)
theorem sa_l2 (rows : List Str) (x : Nat) (w : Str) (hx : idx rows (x : Int) = some w) (hw : w.length ≤ 500) (c : UInt8) (kj : Option (Int × Int)) : ∀ (q y N : Nat), y + q = w.length → q < N → s_l06At_l2 kj rows c (x : Int) N (y : Int) = (match fc c (w.drop y) y with | some k => some ((x : Int), (k : Int)) | none => kj) := by
  intro q
  induction q with
  | zero =>
    intro y N hy hN
    obtain ⟨N, rfl⟩ := pos_fuel hN
    rw [s_l06At_l2, hx, Option.bind_some, decide_eq_false (by omega : ¬ (y : Int) < (w.length : Int)), cond_false, List.drop_eq_nil_of_le (by omega)]
    rfl
  | succ q ih =>
    intro y N hy hN
    obtain ⟨N, rfl⟩ := pos_fuel hN
    have hlt : y < w.length := by omega
    rw [s_l06At_l2, hx, Option.bind_some, decide_eq_true (by omega : (y : Int) < (w.length : Int)), cond_true, Option.bind_some, idx_lt w y hlt, Option.bind_some, w64_nat y (by omega), ih (y + 1) N (by omega) (by omega), List.drop_eq_getElem_cons hlt, fc]
    by_cases h : w[y] = c
    · rw [beq_iff_eq.2 h, cond_true, if_pos h]
    · rw [beq_eq_false_iff_ne.2 h, cond_false, if_neg h]
theorem sa_l1 (rows : List Str) (hr : rows.length ≤ 10) (hw : ∀ w ∈ rows, w.length ≤ 100) (c : UInt8) : ∀ (q x N : Nat), x + q = rows.length → q + 200 < N → s_l06At_l1 (some ((-1), (-1))) rows c N (x : Int) = some (spS (fo c (rows.drop x) x)) := by
  intro q
  induction q with
  | zero =>
    intro x N hx hN
    obtain ⟨N, rfl⟩ := pos_fuel (show 0 < N by omega)
    rw [s_l06At_l1, decide_eq_false (by omega : ¬ (x : Int) < (rows.length : Int)), cond_false, List.drop_eq_nil_of_le (by omega)]
    rfl
  | succ q ih =>
    intro x N hx hN
    obtain ⟨N, rfl⟩ := pos_fuel (show 0 < N by omega)
    have hlt : x < rows.length := by omega
    have hwl := hw _ (List.getElem_mem hlt)
    rw [s_l06At_l1, decide_eq_true (by omega : (x : Int) < (rows.length : Int)), cond_true]
    simp only [withK_n]
    rw [w64_nat x (by omega), ih (x + 1) N (by omega) (by omega), List.drop_eq_getElem_cons hlt, fo]
    have := sa_l2 rows x rows[x] (idx_lt rows x hlt) (by omega) c (some (spS (fo c (rows.drop (x + 1)) (x + 1)))) rows[x].length 0 N (by omega) (by omega)
    rw [show ((0 : Nat) : Int) = 0 from rfl, List.drop_zero] at this
    rw [this]
    cases fc c rows[x] 0 <;> rfl
theorem sat (rows : List Str) (hr : rows.length ≤ 10) (hw : ∀ w ∈ rows, w.length ≤ 100) (c : UInt8) (N : Nat) (hN : 300 < N) : s_l06At N rows c = some (spS (fo c rows 0)) := by
  unfold s_l06At
  rw [withK_n]
  exact sa_l1 rows hr hw c rows.length 0 N (by omega) (by omega)
theorem so_l2 (rows : List Str) (hr : rows.length ≤ 10) (hw : ∀ w ∈ rows, w.length ≤ 100) (x : Nat) (hx : x < rows.length) (kj : Option Bool) : ∀ (q y N : Nat), y + q = (rows[x]).length → q + 400 < N → s_l06Ok_l2 kj (Layout.mk rows) (x : Int) N (y : Int) = (bif vq ((rows.take x).flatten ++ (rows[x]).take y) ((rows[x]).drop y) then kj else some false) := by
  have hwl := hw _ (List.getElem_mem hx)
  have hix := idx_lt rows x hx
  have hrow : rows = rows.take x ++ rows[x] :: rows.drop (x + 1) := by
    conv => lhs; rw [← List.take_append_drop x rows, List.drop_eq_getElem_cons hx]
  generalize hwe : rows[x] = w at *
  intro q
  induction q with
  | zero =>
    intro y N hy hN
    obtain ⟨N, rfl⟩ := pos_fuel (show 0 < N by omega)
    rw [s_l06Ok_l2, hix, Option.bind_some, decide_eq_false (by omega : ¬ (y : Int) < (w.length : Int)), cond_false, List.drop_eq_nil_of_le (by omega)]
    rfl
  | succ q ih =>
    intro y N hy hN
    obtain ⟨N, rfl⟩ := pos_fuel (show 0 < N by omega)
    have hlt : y < w.length := by omega
    have hwd : w = w.take y ++ w[y] :: w.drop (y + 1) := by
      conv => lhs; rw [← List.take_append_drop y w, List.drop_eq_getElem_cons hlt]
    have htk : (rows.take x).flatten ++ w.take (y + 1) = ((rows.take x).flatten ++ w.take y) ++ [w[y]] := by rw [List.take_succ_eq_append_getElem hlt, List.append_assoc]
    obtain ⟨i, k, f1, f2⟩ := fo_at w[y] (rows.take x) (rows.drop (x + 1)) (w.take y) (w.drop (y + 1))
    rw [← hwd, ← hrow] at f1
    have hl1 : (rows.take x).length = x := by rw [List.length_take]; omega
    have hl2 : (w.take y).length = y := by rw [List.length_take]; omega
    rw [hl1, hl2] at f2
    rw [s_l06Ok_l2, hix, Option.bind_some, decide_eq_true (by omega : (y : Int) < (w.length : Int)), cond_true, Option.bind_some, idx_lt w y hlt, Option.bind_some]
    rw [show s_l06At N (Layout.mk rows).rows w[y] = some (spS (fo w[y] rows 0)) from sat rows hr hw _ N (by omega), f1, Option.bind_some, orO_some, Option.bind_some, w64_nat y (by omega), ih (y + 1) N (by omega) (by omega), List.drop_eq_getElem_cons hlt, vq, htk]
    have e : (((spS (some (i, k))).1 != (x : Int)) || ((spS (some (i, k))).2 != (y : Int))) = decide (w[y] ∈ (rows.take x).flatten ++ w.take y) := by
      rw [Bool.eq_iff_iff, Bool.or_eq_true, bne_iff_ne, bne_iff_ne, decide_eq_true_eq, List.mem_append]
      show ((i : Int) ≠ x ∨ (k : Int) ≠ y) ↔ _
      constructor
      · intro g
        by_cases a : w[y] ∈ (rows.take x).flatten
        · exact .inl a
        · by_cases b : w[y] ∈ w.take y
          · exact .inr b
          · have := f2.2 ⟨a, b⟩; omega
      · intro g
        by_cases a : i = x ∧ k = y
        · have := f2.1 a
          rcases g with g | g
          · exact absurd g this.1
          · exact absurd g this.2
        · omega
    rw [e]
    cases decide (w[y] ∈ (rows.take x).flatten ++ w.take y) <;> rfl
theorem so_l1 (rows : List Str) (hr : rows.length ≤ 10) (hw : ∀ w ∈ rows, w.length ≤ 100) (b : Bool) : ∀ (q x N : Nat), x + q = rows.length → q + 800 < N → s_l06Ok_l1 (some b) (Layout.mk rows) N (x : Int) = some (vls (rows.take x).flatten (rows.drop x) && b) := by
  intro q
  induction q with
  | zero =>
    intro x N hx hN
    obtain ⟨N, rfl⟩ := pos_fuel (show 0 < N by omega)
    rw [s_l06Ok_l1, decide_eq_false (by show ¬ (x : Int) < (rows.length : Int); omega), cond_false, List.drop_eq_nil_of_le (by omega)]
    rfl
  | succ q ih =>
    intro x N hx hN
    obtain ⟨N, rfl⟩ := pos_fuel (show 0 < N by omega)
    have hlt : x < rows.length := by omega
    have hwl := hw _ (List.getElem_mem hlt)
    have htk : (rows.take (x + 1)).flatten = (rows.take x).flatten ++ rows[x] := by rw [List.take_succ_eq_append_getElem hlt, List.flatten_append, List.flatten_singleton]
    rw [s_l06Ok_l1, decide_eq_true (by show (x : Int) < (rows.length : Int); omega), cond_true]
    simp only [withK_n]
    rw [idx_lt rows x hlt, Option.bind_some, srow rows[x] (by omega) N (by omega), Option.bind_some, w64_nat x (by omega), ih (x + 1) N (by omega) (by omega), List.drop_eq_getElem_cons hlt, vls, ro_rs, ← htk]
    have := so_l2 rows hr hw x hlt (some (vls (rows.take (x + 1)).flatten (rows.drop (x + 1)) && b)) rows[x].length 0 N (by omega) (by omega)
    rw [show ((0 : Nat) : Int) = 0 from rfl, List.drop_zero, List.take_zero, List.append_nil] at this
    rw [this]
    cases rs rows[x] with
    | false => rfl
    | true => cases vq (rows.take x).flatten rows[x] <;> rfl
theorem svalid (rows : List Str) (hr : rows.length ≤ 10) (hw : ∀ w ∈ rows, w.length ≤ 100) (N : Nat) (hN : 2000 < N) : s_l06Ok N (Layout.mk rows) = some (VL rows) := by
  have := fun b => so_l1 rows hr hw b rows.length 0 N (by omega) (by omega)
  rw [show ((0 : Nat) : Int) = 0 from rfl] at this
  simp only [List.take_zero, List.flatten_nil, List.drop_zero] at this
  unfold s_l06Ok s_l00In
  rw [withK_n, andO_some, Option.bind_some, Option.bind_some, this]
  have e : (decide (((Layout.mk rows).rows.length : Int) ≥ 1) && decide (((Layout.mk rows).rows.length : Int) ≤ 4)) = decide (1 ≤ rows.length ∧ rows.length ≤ 4) := by
    show (decide ((rows.length : Int) ≥ 1) && decide ((rows.length : Int) ≤ 4)) = _
    rw [Bool.eq_iff_iff, Bool.and_eq_true, decide_eq_true_eq, decide_eq_true_eq, decide_eq_true_eq]; omega
  rw [e, Bool.and_comm]
  rfl
/-! exchanged letters -/
def sw1 (a b c : UInt8) : UInt8 := if c = a then b else if c = b then a else c
theorem ex_idx (f : UInt8 → UInt8) (w : Str) (x : Nat) (hx : x < w.length) : idx ((w.take x).map f ++ w.drop x) (x : Int) = some w[x] := by
  rw [idx_nat, List.getElem?_append_right (by simp; omega), List.length_map, List.length_take, show x - min x w.length = 0 by omega, List.getElem?_drop, Nat.add_zero, List.getElem?_eq_getElem hx]
theorem ex_set (f : UInt8 → UInt8) (w : Str) (x : Nat) (hx : x < w.length) : ((w.take x).map f ++ w.drop x).set x (f w[x]) = (w.take (x + 1)).map f ++ w.drop (x + 1) := by
  rw [List.set_append_right _ _ (by simp; omega), List.length_map, List.length_take, show x - min x w.length = 0 by omega, List.drop_eq_getElem_cons hx, List.set_cons_zero, List.take_succ_eq_append_getElem hx, List.map_append]
  simp
theorem ex_keep (f : UInt8 → UInt8) (w : Str) (x : Nat) (hx : x < w.length) (h : f w[x] = w[x]) : (w.take x).map f ++ w.drop x = (w.take (x + 1)).map f ++ w.drop (x + 1) := by
  rw [List.take_succ_eq_append_getElem hx, List.map_append, List.drop_eq_getElem_cons hx]
  simp [h]
theorem ie_l2 (a b : UInt8) (w : Str) (hw : w.length ≤ 500) (kj : List UInt8 → Option Layout) : ∀ (q x N : Nat), x + q = w.length → q < N → i_Layout_exchanged_l2 kj a b w N ((w.take x).map (sw1 a b) ++ w.drop x) (x : Int) = kj (w.map (sw1 a b)) ∧ s_l06Change_l2 kj a b N ((w.take x).map (sw1 a b) ++ w.drop x) (x : Int) = kj (w.map (sw1 a b)) := by
  intro q
  induction q with
  | zero =>
    intro x N hx hN
    obtain ⟨N, rfl⟩ := pos_fuel hN
    have hl : ((w.take x).map (sw1 a b) ++ w.drop x).length = w.length := by simp; omega
    constructor
    · rw [i_Layout_exchanged_l2, decide_eq_false (by omega : ¬ (x : Int) < (w.length : Int)), cond_false, List.take_of_length_le (by omega), List.drop_eq_nil_of_le (by omega), List.append_nil]
    · rw [s_l06Change_l2, hl, decide_eq_false (by omega : ¬ (x : Int) < (w.length : Int)), cond_false, List.take_of_length_le (by omega), List.drop_eq_nil_of_le (by omega), List.append_nil]
  | succ q ih =>
    intro x N hx hN
    obtain ⟨N, rfl⟩ := pos_fuel hN
    have hlt : x < w.length := by omega
    have hl : ((w.take x).map (sw1 a b) ++ w.drop x).length = w.length := by simp; omega
    obtain ⟨g1, g2⟩ := ih (x + 1) N (by omega) (by omega)
    have hi := ex_idx (sw1 a b) w x hlt
    have hs := ex_set (sw1 a b) w x hlt
    have hk := ex_keep (sw1 a b) w x hlt
    constructor
    · rw [i_Layout_exchanged_l2, decide_eq_true (by omega : (x : Int) < (w.length : Int)), cond_true]
      simp only [withK_n]
      rw [hi, Option.bind_some, Option.bind_some, Option.bind_some, w64_nat x (by omega), Int.toNat_natCast]
      by_cases ha : w[x] = a
      · have : sw1 a b w[x] = b := by unfold sw1; rw [if_pos ha]
        rw [this] at hs
        rw [beq_iff_eq.2 ha, cond_true, hs]; exact g1
      · by_cases hb : w[x] = b
        · have : sw1 a b w[x] = a := by unfold sw1; rw [if_neg ha, if_pos hb]
          rw [this] at hs
          rw [beq_eq_false_iff_ne.2 ha, cond_false, beq_iff_eq.2 hb, cond_true, hs]; exact g1
        · have : sw1 a b w[x] = w[x] := by unfold sw1; rw [if_neg ha, if_neg hb]
          rw [beq_eq_false_iff_ne.2 ha, cond_false, beq_eq_false_iff_ne.2 hb, cond_false, hk this]; exact g1
    · rw [s_l06Change_l2, hl, decide_eq_true (by omega : (x : Int) < (w.length : Int)), cond_true]
      simp only [withK_n]
      rw [hi, Option.bind_some, Option.bind_some, Option.bind_some, w64_nat x (by omega), Int.toNat_natCast]
      by_cases ha : w[x] = a
      · have : sw1 a b w[x] = b := by unfold sw1; rw [if_pos ha]
        rw [this] at hs
        rw [beq_iff_eq.2 ha, cond_true, hs]; exact g2
      · by_cases hb : w[x] = b
        · have : sw1 a b w[x] = a := by unfold sw1; rw [if_neg ha, if_pos hb]
          rw [this] at hs
          rw [beq_eq_false_iff_ne.2 ha, cond_false, beq_iff_eq.2 hb, cond_true, hs]; exact g2
        · have : sw1 a b w[x] = w[x] := by unfold sw1; rw [if_neg ha, if_neg hb]
          rw [beq_eq_false_iff_ne.2 ha, cond_false, beq_eq_false_iff_ne.2 hb, cond_false, hk this]; exact g2
theorem ie_l1 (a b : UInt8) (rows : List Str) (hr : rows.length ≤ 10) (hw : ∀ w ∈ rows, w.length ≤ 100) (kj : List Str → Option Layout) : ∀ (q x N : Nat) (acc : List Str), x + q = rows.length → q + 200 < N → acc.length ≤ x → i_Layout_exchanged_l1 kj (Layout.mk rows) a b N acc (x : Int) = kj (acc ++ (rows.drop x).map fun w => w.map (sw1 a b)) ∧ s_l06Change_l1 kj (Layout.mk rows) a b N acc (x : Int) = kj (acc ++ (rows.drop x).map fun w => w.map (sw1 a b)) := by
  intro q
  induction q with
  | zero =>
    intro x N acc hx hN ha
    obtain ⟨N, rfl⟩ := pos_fuel (show 0 < N by omega)
    rw [i_Layout_exchanged_l1, s_l06Change_l1, decide_eq_false (by show ¬ (x : Int) < (rows.length : Int); omega), cond_false, cond_false, List.drop_eq_nil_of_le (by omega)]
    simp
  | succ q ih =>
    intro x N acc hx hN ha
    obtain ⟨N, rfl⟩ := pos_fuel (show 0 < N by omega)
    have hlt : x < rows.length := by omega
    have hwl := hw _ (List.getElem_mem hlt)
    obtain ⟨g1, g2⟩ := ih (x + 1) N (acc ++ [rows[x].map (sw1 a b)]) (by omega) (by omega) (by simp; omega)
    have hl2 := fun kj => ie_l2 a b rows[x] (by omega) kj rows[x].length 0 N (by omega) (by omega)
    rw [show ((0 : Nat) : Int) = 0 from rfl, List.take_zero, List.map_nil, List.nil_append, List.drop_zero] at hl2
    rw [List.drop_eq_getElem_cons hlt, List.map_cons]
    constructor
    · rw [i_Layout_exchanged_l1, decide_eq_true (by show (x : Int) < (rows.length : Int); omega), cond_true]
      simp only [withK_n]
      rw [idx_lt rows x hlt, Option.bind_some, app_some _ _ (by unfold LIM; simp; omega), Option.bind_some, List.nil_append, (hl2 _).1, app_some _ _ (by unfold LIM; simp; omega), Option.bind_some, w64_nat x (by omega), g1, List.append_assoc, List.singleton_append]
    · rw [s_l06Change_l1, decide_eq_true (by show (x : Int) < (rows.length : Int); omega), cond_true]
      simp only [withK_n]
      rw [idx_lt rows x hlt, Option.bind_some, app_some _ _ (by unfold LIM; simp; omega), Option.bind_some, List.nil_append, (hl2 _).2, app_some _ _ (by unfold LIM; simp; omega), Option.bind_some, w64_nat x (by omega), g2, List.append_assoc, List.singleton_append]
def chg (a b : UInt8) (rows : List Str) : List Str := rows.map fun w => w.map (sw1 a b)
theorem change_ok (a b : UInt8) (rows : List Str) (hr : rows.length ≤ 10) (hw : ∀ w ∈ rows, w.length ≤ 100) (N : Nat) (hN : 300 < N) : i_Layout_exchanged N (Layout.mk rows) a b = some (Layout.mk (chg a b rows)) ∧ s_l06Change N (Layout.mk rows) a b = some (Layout.mk (chg a b rows)) := by
  have h := fun kj => ie_l1 a b rows hr hw kj rows.length 0 N [] (by omega) (by omega) (Nat.le_refl _)
  rw [show ((0 : Nat) : Int) = 0 from rfl, List.drop_zero, List.nil_append] at h
  unfold i_Layout_exchanged s_l06Change
  rw [withK_n, withK_n]
  exact ⟨(h _).1, (h _).2⟩
end Go.Proofs.Ytllaacpkpofbiaa
