/-
  Plain lemmas on these functions. No conditions but those that each states.
-/
import Derived.Test.YtpmanofdlhlkdaaFnTableColumnsP6
namespace Go.Proofs.Ytpmanofdlhlkdaa
set_option linter.unusedVariables false
set_option linter.unusedSimpArgs false
/-! The lines of a table. -/
def blk (n : Int) : Str := List.replicate n.toNat 32
theorem blk_len (n : Int) (h : 0 ≤ n) : ((blk n).length : Int) = n := by unfold blk; rw [List.length_replicate]; omega
def cel (w : Int) (sd : UInt8) (c : Str) : Str := bif sd == 108 then c ++ blk (w - c.length) else blk (w - c.length) ++ c
theorem cel_len (w : Int) (sd : UInt8) (c : Str) (h : (c.length : Int) ≤ w) : ((cel w sd c).length : Int) = w := by
  have := blk_len (w - c.length) (by omega)
  unfold cel
  cases sd == 108 <;> simp only [cond_true, cond_false, List.length_append] <;> omega
/-- what comes behind place k -/
def lin (gap : Int) : Nat → List Int → Str → List Str → Str
  | k, w :: ws, sd :: ss, c :: cs => (if k = 0 then [] else blk gap) ++ (cel w sd c ++ lin gap (k + 1) ws ss cs)
  | _, _, _, _ => []
def isum_ (l : List Int) : Int := isum l
theorem lin_len (gap : Int) (hg : 0 ≤ gap) : ∀ (ws : List Int) (ss : Str) (cs : List Str) (k : Nat), ss.length = ws.length → cs.length = ws.length → Fits ws cs → ((lin gap k ws ss cs).length : Int) = isum ws + (if k = 0 then (if ws = [] then 0 else gap * ((ws.length : Int) - 1)) else gap * (ws.length : Int))
  | [], ss, cs, k, h1, h2, h3 => by
    simp [lin, isum]
  | w :: ws, [], cs, k, h1, h2, h3 => by simp at h1
  | w :: ws, sd :: ss, [], k, h1, h2, h3 => by simp at h2
  | w :: ws, sd :: ss, c :: cs, k, h1, h2, h3 => by
    have ih := lin_len gap hg ws ss cs (k + 1) (by simpa using h1) (by simpa using h2) h3.2
    have hc := cel_len w sd c h3.1
    have hb := blk_len gap hg
    rw [if_neg (by omega)] at ih
    simp only [lin, List.length_append, isum, List.length_cons]
    by_cases h : k = 0
    · rw [if_pos h, if_pos h, if_neg (by simp)]
      simp only [List.length_nil]
      rw [show ((ws.length + 1 : Nat) : Int) - 1 = (ws.length : Int) by omega]
      omega
    · rw [if_neg h, if_neg h, show ((ws.length + 1 : Nat) : Int) = (ws.length : Int) + 1 by omega, Int.mul_add, Int.mul_one]
      omega
theorem line_l3 (rows : List (List Str)) (x : Nat) (hx : x < rows.length) (sides : Str) (gap : Int) (hg : 0 ≤ gap ∧ gap ≤ 20) (ws : List Int) (hw : ws.length = rows[x].length) (hs : sides.length = rows[x].length) (hm : rows[x].length ≤ 12) (hb : Bnd ws) (hc : ∀ c ∈ rows[x], c.length ≤ 30) (Ki Ks : Str → Option (List Str × Int)) :
    ∀ (q k N : Nat) (o : Str), k + q = rows[x].length → q + 100 < N → o.length ≤ 100 * k →
    i_TableLines_l3 Ki sides gap ws rows[x] N o (k : Int) = Ki (o ++ lin gap k (ws.drop k) (sides.drop k) (rows[x].drop k)) ∧ s_TableLines_l3 Ks rows sides gap ws (x : Int) N o (k : Int) = Ks (o ++ lin gap k (ws.drop k) (sides.drop k) (rows[x].drop k)) := by
  intro q
  induction q with
  | zero =>
    intro k N o h1 h2 h3
    obtain ⟨N, rfl⟩ := pos_fuel h2
    have hz : ¬ (k : Int) < (rows[x].length : Int) := by omega
    rw [List.drop_of_length_le (by omega : rows[x].length ≤ k)]
    have e : lin gap k (ws.drop k) (sides.drop k) [] = [] := by
      rw [List.drop_of_length_le (by omega : ws.length ≤ k)]; rfl
    simp only [i_TableLines_l3, s_TableLines_l3, idx_lt rows x hx, Option.bind_some, hz, decide_false, cond_false, e, List.append_nil]
    exact ⟨trivial, trivial⟩
  | succ q ih =>
    intro k N o h1 h2 h3
    obtain ⟨N, rfl⟩ := pos_fuel h2
    have hz : (k : Int) < (rows[x].length : Int) := by omega
    have hk : k < rows[x].length := by omega
    have hkw : k < ws.length := by omega
    have hks : k < sides.length := by omega
    have hcl := hc _ (List.getElem_mem hk)
    have hwb := hb _ (List.getElem_mem hkw)
    have e1 : w64 (ws[k] - (rows[x][k].length : Int)) = ws[k] - rows[x][k].length := w64_id (by omega) (by omega)
    have r1 := repeat_eq N 32 (ws[k] - rows[x][k].length) (by omega) (by omega) (by omega)
    have r2 := blanks_eq N (ws[k] - rows[x][k].length) (by omega) (by omega) (by omega)
    have g1 := repeat_eq N 32 gap (by omega) (by omega) (by omega)
    have g2 := blanks_eq N gap (by omega) (by omega) (by omega)
    have hbl : (List.replicate (ws[k] - (rows[x][k].length : Int)).toNat (32 : UInt8)).length ≤ 30 := by rw [List.length_replicate]; omega
    have hgl : (List.replicate gap.toNat (32 : UInt8)).length ≤ 20 := by rw [List.length_replicate]; omega
    have step : ∀ (o2 : Str), o2.length ≤ 100 * k + 20 →
        ((bif (sides[k] == (108 : UInt8)) then (cat rows[x][k] (List.replicate (ws[k] - (rows[x][k].length : Int)).toNat 32)).bind fun s86 => (cat o2 s86).bind fun s88 => i_TableLines_l3 Ki sides gap ws rows[x] N s88 ((k + 1 : Nat) : Int) else (cat (List.replicate (ws[k] - (rows[x][k].length : Int)).toNat 32) rows[x][k]).bind fun s90 => (cat o2 s90).bind fun s92 => i_TableLines_l3 Ki sides gap ws rows[x] N s92 ((k + 1 : Nat) : Int)) = Ki (o2 ++ (cel ws[k] sides[k] rows[x][k] ++ lin gap (k + 1) (ws.drop (k + 1)) (sides.drop (k + 1)) (rows[x].drop (k + 1))))) ∧
        ((bif (sides[k] == (108 : UInt8)) then (cat rows[x][k] (List.replicate (ws[k] - (rows[x][k].length : Int)).toNat 32)).bind fun s86 => (cat o2 s86).bind fun s88 => s_TableLines_l3 Ks rows sides gap ws (x : Int) N s88 ((k + 1 : Nat) : Int) else (cat (List.replicate (ws[k] - (rows[x][k].length : Int)).toNat 32) rows[x][k]).bind fun s90 => (cat o2 s90).bind fun s92 => s_TableLines_l3 Ks rows sides gap ws (x : Int) N s92 ((k + 1 : Nat) : Int)) = Ks (o2 ++ (cel ws[k] sides[k] rows[x][k] ++ lin gap (k + 1) (ws.drop (k + 1)) (sides.drop (k + 1)) (rows[x].drop (k + 1))))) := by
      intro o2 ho2
      unfold cel blk
      cases sides[k] == 108 with
      | true =>
        simp only [cond_true]
        rw [cat_some _ _ (by unfold LIM; omega), Option.bind_some, Option.bind_some, cat_some o2 _ (by unfold LIM; rw [List.length_append]; omega), Option.bind_some, Option.bind_some]
        obtain ⟨i1, i2⟩ := ih (k + 1) N (o2 ++ (rows[x][k] ++ List.replicate (ws[k] - (rows[x][k].length : Int)).toNat 32)) (by omega) (by omega) (by simp only [List.length_append]; omega)
        rw [i1, i2]
        simp only [List.append_assoc]
        exact ⟨trivial, trivial⟩
      | false =>
        simp only [cond_false]
        rw [cat_some _ _ (by unfold LIM; omega), Option.bind_some, Option.bind_some, cat_some o2 _ (by unfold LIM; rw [List.length_append]; omega), Option.bind_some, Option.bind_some]
        obtain ⟨i1, i2⟩ := ih (k + 1) N (o2 ++ (List.replicate (ws[k] - (rows[x][k].length : Int)).toNat 32 ++ rows[x][k])) (by omega) (by omega) (by simp only [List.length_append]; omega)
        rw [i1, i2]
        simp only [List.append_assoc]
        exact ⟨trivial, trivial⟩
    rw [drop_cons _ k hk, drop_cons ws k hkw, drop_cons sides k hks]
    simp only [i_TableLines_l3, s_TableLines_l3, idx_lt rows x hx, Option.bind_some, hz, decide_true, cond_true, withK_n, idx_lt _ k hk, idx_lt ws k hkw, idx_lt sides k hks, e1, r1, r2, g1, g2, w64_nat k (by omega), lin]
    by_cases h0 : k = 0
    · have z : decide ((k : Int) > 0) = false := decide_eq_false (by omega)
      simp only [z, cond_false, h0, if_true, List.nil_append]
      have := step o (by omega)
      simp only [h0] at this
      exact this
    · have z : decide ((k : Int) > 0) = true := decide_eq_true (by omega)
      simp only [z, cond_true, if_neg h0]
      rw [cat_some o _ (by unfold LIM; omega), Option.bind_some, Option.bind_some]
      have := step (o ++ List.replicate gap.toNat 32) (by rw [List.length_append]; omega)
      unfold blk
      rw [List.append_assoc] at this
      exact this
def lineOf (gap : Int) (ws : List Int) (sides : Str) (r : List Str) : Str := lin gap 0 ws sides r
theorem lines_l2 (rows : List (List Str)) (m : Nat) (h : GT rows m) (sides : Str) (gap : Int) (hg : 0 ≤ gap ∧ gap ≤ 20) (hs : sides.length = m) (Ki Ks : List Str → Option (List Str × Int)) :
    ∀ (q x N : Nat) (o : List Str), x + q = rows.length → q + 200 < N → o.length = x →
    i_TableLines_l2 Ki rows sides gap (wids rows m) N o (x : Int) = Ki (o ++ (rows.drop x).map (lineOf gap (wids rows m) sides)) ∧ s_TableLines_l2 Ks rows sides gap (wids rows m) N o (x : Int) = Ks (o ++ (rows.drop x).map (lineOf gap (wids rows m) sides)) := by
  have hl := h.len
  have hm := h.m12
  obtain ⟨w1, w2, w3⟩ := wids_p h
  intro q
  induction q with
  | zero =>
    intro x N o h1 h2 h3
    obtain ⟨N, rfl⟩ := pos_fuel h2
    have hz : ¬ (x : Int) < (rows.length : Int) := by omega
    rw [List.drop_of_length_le (by omega)]
    simp only [i_TableLines_l2, s_TableLines_l2, hz, decide_false, cond_false, List.map_nil, List.append_nil]
    exact ⟨trivial, trivial⟩
  | succ q ih =>
    intro x N o h1 h2 h3
    obtain ⟨N, rfl⟩ := pos_fuel h2
    have hz : (x : Int) < (rows.length : Int) := by omega
    have hx : x < rows.length := by omega
    obtain ⟨hr, hc⟩ := h.row _ (List.getElem_mem hx)
    have hL := fun Ki Ks => line_l3 rows x hx sides gap hg (wids rows m) (by omega) (by omega) (by omega) w2 hc Ki Ks rows[x].length 0 N [] (by omega) (by omega) (by simp)
    simp only [List.nil_append, List.drop_zero] at hL
    rw [show ((0 : Nat) : Int) = 0 from rfl] at hL
    obtain ⟨i1, i2⟩ := ih (x + 1) N (o ++ [lineOf gap (wids rows m) sides rows[x]]) (by omega) (by omega) (by simp; omega)
    rw [drop_cons _ x hx, List.map_cons]
    simp only [i_TableLines_l2, s_TableLines_l2, hz, decide_true, cond_true, withK_n, idx_lt rows x hx, Option.bind_some]
    rw [(hL _ (fun _ => none)).1, (hL (fun _ => none) _).2, w64_nat x (by omega)]
    have ea : app o [lin gap 0 (wids rows m) sides rows[x]] = some (o ++ [lin gap 0 (wids rows m) sides rows[x]]) := app_some _ _ (by unfold LIM; simp; omega)
    rw [ea, Option.bind_some, Option.bind_some]
    simp only [List.append_assoc, List.singleton_append] at i1 i2
    exact ⟨i1, i2⟩
theorem sides_l1 (sides : Str) (hs : sides.length ≤ 50) (Ki Ks : Option (List Str × Int)) : ∀ (q x N : Nat), x + q = sides.length → q < N →
    i_TableLines_l1 Ki sides N (x : Int) = (bif (sides.drop x).all (fun c => c == 108 || c == 114) then Ki else some ([], 2)) ∧ s_TableLines_l1 Ks sides N (x : Int) = (bif (sides.drop x).all (fun c => c == 108 || c == 114) then Ks else some ([], 2)) := by
  intro q
  induction q with
  | zero =>
    intro x N h1 h2
    obtain ⟨N, rfl⟩ := pos_fuel h2
    have hz : ¬ (x : Int) < (sides.length : Int) := by omega
    rw [List.drop_of_length_le (by omega)]
    simp only [i_TableLines_l1, s_TableLines_l1, hz, decide_false, cond_false, List.all_nil, cond_true]
    exact ⟨trivial, trivial⟩
  | succ q ih =>
    intro x N h1 h2
    obtain ⟨N, rfl⟩ := pos_fuel h2
    have hz : (x : Int) < (sides.length : Int) := by omega
    have hx : x < sides.length := by omega
    obtain ⟨i1, i2⟩ := ih (x + 1) N (by omega) (by omega)
    rw [drop_cons _ x hx, List.all_cons]
    simp only [i_TableLines_l1, s_TableLines_l1, hz, decide_true, cond_true, idx_lt sides x hx, Option.bind_some, andO_some, bne, w64_nat x (by omega), i1, i2]
    cases (sides[x] == 108) <;> cases (sides[x] == 114) <;> exact ⟨rfl, rfl⟩
theorem lines_ok (rows : List (List Str)) (h : SzT rows) (sides : Str) (hs : sides.length ≤ 50) (gap : Int) (hg : -100 ≤ gap ∧ gap ≤ 100) (N : Nat) (hN : 500 < N) : ∃ v : List Str × Int, i_TableLines N rows sides gap = some v ∧ s_TableLines N rows sides gap = some v ∧ v.1.length ≤ 50 ∧
    ∃ w : List Int × Int, i_ColumnWidths N rows = some w ∧ s_ColumnWidths N rows = some w ∧ w.1.length ≤ 20 ∧ (v.2 = 0 → 0 ≤ gap ∧ gap ≤ 20 ∧ v.1.length = rows.length ∧ 1 ≤ w.1.length ∧ Bnd w.1 ∧ ∀ l ∈ v.1, (l.length : Int) = isum w.1 + gap * ((w.1.length : Int) - 1)) := by
  obtain ⟨t1, t2⟩ := table_ok rows h N (by omega)
  unfold i_TableLines s_TableLines i_ColumnWidths s_ColumnWidths
  simp only [t1, t2, Option.bind_some]
  cases ht : tabB rows with
  | false => exact ⟨([], 1), rfl, rfl, by simp, ([], 1), rfl, rfl, by simp, by simp⟩
  | true =>
    obtain ⟨m, hm⟩ := gt_of ht
    obtain ⟨w1, w2⟩ := wids_ok rows m hm N (by omega)
    obtain ⟨p1, p2, p3⟩ := wids_p hm
    have hm12 := hm.m12
    have hm1 := hm.m1
    have hl := hm.len
    have h0 : idx rows 0 = some (rows[0]'hm.pos) := idx_lt rows 0 hm.pos
    have hr := (hm.row _ (List.getElem_mem hm.pos)).1
    have hsd := fun Ki Ks => sides_l1 sides hs Ki Ks sides.length 0 N (by omega) (by omega)
    simp only [List.drop_zero] at hsd
    rw [show ((0 : Nat) : Int) = 0 from rfl] at hsd
    simp only [h0, Option.bind_some, Bool.not_true, cond_false, withK_n, i_between_eq, s_l00In_eq, orO_some, w1, w2, hr]
    rw [(hsd _ none).1, (hsd none _).2]
    cases hb : ((sides.length : Int) != (m : Int) || !inr gap 0 20) with
    | true =>
      simp only [cond_true]
      refine ⟨([], 2), rfl, ?_, by simp, (wids rows m, 0), rfl, rfl, by show (wids rows m).length ≤ 20; omega, by simp⟩
      cases sides.all (fun c => c == 108 || c == 114) <;> rfl
    | false =>
      have hsl : sides.length = m := by
        cases hq : ((sides.length : Int) != (m : Int)) with
        | true => rw [hq] at hb; cases hb
        | false =>
          have : (sides.length : Int) = (m : Int) := by simpa using hq
          omega
      have hgp : 0 ≤ gap ∧ gap ≤ 20 := by
        cases hq : inr gap 0 20 with
        | false => rw [hq] at hb; simp at hb
        | true => exact inr_iff.1 hq
      simp only [cond_false]
      cases sides.all (fun c => c == 108 || c == 114) with
      | false => exact ⟨([], 2), rfl, rfl, by simp, (wids rows m, 0), rfl, rfl, by show (wids rows m).length ≤ 20; omega, by simp⟩
      | true =>
        obtain ⟨g1, g2⟩ := lines_l2 rows m hm sides gap hgp hsl (fun l38 => some (l38, 0)) (fun l38 => some (l38, 0)) rows.length 0 N [] (by omega) (by omega) rfl
        rw [show ((0 : Nat) : Int) = 0 from rfl, List.drop_zero] at g1 g2
        simp only [cond_true]
        rw [g1, g2]
        refine ⟨(rows.map (lineOf gap (wids rows m) sides), 0), rfl, rfl, by simp; omega, (wids rows m, 0), rfl, rfl, by show (wids rows m).length ≤ 20; omega, fun _ => ⟨hgp.1, hgp.2, by simp, by show 1 ≤ (wids rows m).length; omega, p2, fun l hl => ?_⟩⟩
        obtain ⟨r, hr, rfl⟩ := List.mem_map.1 hl
        have := lin_len gap hgp.1 (wids rows m) sides r 0 (by omega) (by rw [(hm.row r hr).1]; omega) (p3 r hr)
        unfold lineOf
        rw [this, if_pos rfl, if_neg]
        intro e
        rw [e] at p1
        simp at p1
        omega
end Go.Proofs.Ytpmanofdlhlkdaa
