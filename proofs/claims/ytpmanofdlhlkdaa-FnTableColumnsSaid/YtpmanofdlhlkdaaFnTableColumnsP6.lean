/-
  Plain lemmas on these functions. No conditions but those that each states.
-/
import Derived.Test.YtpmanofdlhlkdaaFnTableColumnsP5
namespace Go.Proofs.Ytpmanofdlhlkdaa
set_option linter.unusedVariables false
set_option linter.unusedSimpArgs false
/-! Tables: whether rows are one, and how wide their columns are. -/
def rowB (m : Nat) (r : List Str) : Bool := (r.length == m && inr (r.length : Int) 1 12) && r.all (okT 30)
/-- sizes -/
def SzT (rows : List (List Str)) : Prop := rows.length ≤ 50 ∧ ∀ r ∈ rows, r.length ≤ 20 ∧ ∀ c ∈ r, c.length ≤ 40
theorem cells_l2 (rows : List (List Str)) (h : SzT rows) (x : Nat) (hx : x < rows.length) (kj : Option Bool) : ∀ (q k N : Nat), k + q = rows[x].length → q + 100 < N →
    i_isTable_l2 kj rows[x] N (k : Int) = (bif (rows[x].drop k).all (okT 30) then kj else some false) ∧ s_l08Rows_l2 kj rows (x : Int) N (k : Int) = (bif (rows[x].drop k).all (okT 30) then kj else some false) := by
  obtain ⟨h1, h2⟩ := h
  obtain ⟨h3, h4⟩ := h2 _ (List.getElem_mem hx)
  intro q
  induction q with
  | zero =>
    intro k N g1 g2
    obtain ⟨N, rfl⟩ := pos_fuel g2
    have hz : ¬ (k : Int) < (rows[x].length : Int) := by omega
    rw [List.drop_of_length_le (by omega)]
    simp only [i_isTable_l2, s_l08Rows_l2, idx_lt rows x hx, Option.bind_some, hz, decide_false, cond_false, List.all_nil, cond_true]
    exact ⟨trivial, trivial⟩
  | succ q ih =>
    intro k N g1 g2
    obtain ⟨N, rfl⟩ := pos_fuel g2
    have hz : (k : Int) < (rows[x].length : Int) := by omega
    have hk : k < rows[x].length := by omega
    have h5 := h4 _ (List.getElem_mem hk)
    obtain ⟨t1, t2⟩ := Text_eq N rows[x][k] 30 (by unfold LIM; omega) (by omega)
    obtain ⟨i1, i2⟩ := ih (k + 1) N (by omega) (by omega)
    rw [drop_cons _ k hk, List.all_cons]
    simp only [i_isTable_l2, s_l08Rows_l2, idx_lt rows x hx, Option.bind_some, hz, decide_true, cond_true, idx_lt _ k hk, t1, t2, w64_nat k (by omega), i1, i2]
    cases okT 30 rows[x][k] <;> exact ⟨rfl, rfl⟩
theorem rows_l1 (rows : List (List Str)) (h : SzT rows) (h0 : 0 < rows.length) (kj : Option Bool) : ∀ (q x N : Nat), x + q = rows.length → q + 200 < N →
    i_isTable_l1 kj rows N (x : Int) = (bif (rows.drop x).all (rowB rows[0].length) then kj else some false) ∧ s_l08Rows_l1 kj rows N (x : Int) = (bif (rows.drop x).all (rowB rows[0].length) then kj else some false) := by
  intro q
  induction q with
  | zero =>
    intro x N g1 g2
    obtain ⟨N, rfl⟩ := pos_fuel g2
    have hz : ¬ (x : Int) < (rows.length : Int) := by omega
    rw [List.drop_of_length_le (by omega)]
    simp only [i_isTable_l1, s_l08Rows_l1, hz, decide_false, cond_false, List.all_nil, cond_true]
    exact ⟨trivial, trivial⟩
  | succ q ih =>
    intro x N g1 g2
    obtain ⟨N, rfl⟩ := pos_fuel g2
    have hz : (x : Int) < (rows.length : Int) := by omega
    have hx : x < rows.length := by omega
    have hrl := (h.2 _ (List.getElem_mem hx)).1
    obtain ⟨i1, i2⟩ := ih (x + 1) N (by have := h.1; omega) (by omega)
    have hc := fun kj => cells_l2 rows h x hx kj rows[x].length 0 N (by omega) (by omega)
    have hl := h.1
    have hi0 : idx rows 0 = some rows[0] := idx_lt rows 0 h0
    rw [drop_cons _ x hx, List.all_cons]
    have e : (((rows[x].length : Int) != (rows[0].length : Int)) || !inr (rows[x].length : Int) 1 12) = !(rows[x].length == rows[0].length && inr (rows[x].length : Int) 1 12) := by
      have : ((rows[x].length : Int) != (rows[0].length : Int)) = !(rows[x].length == rows[0].length) := by
        rw [Bool.eq_iff_iff]; simp; omega
      rw [this]
      cases (rows[x].length == rows[0].length) <;> cases inr (rows[x].length : Int) 1 12 <;> rfl
    simp only [i_isTable_l1, s_l08Rows_l1, hz, decide_true, cond_true, withK_n, idx_lt rows x hx, hi0, Option.bind_some, i_between_eq, s_l00In_eq, orO_some, e, w64_nat x (by omega), i1, i2]
    rw [show (0 : Int) = ((0 : Nat) : Int) from rfl, (hc _).1, (hc _).2, List.drop_zero]
    simp only [rowB]
    cases (rows[x].length == rows[0].length && inr (rows[x].length : Int) 1 12) <;> cases rows[x].all (okT 30) <;> exact ⟨rfl, rfl⟩
def tabB (rows : List (List Str)) : Bool := inr (rows.length : Int) 1 40 && rows.all (rowB (rows.headD []).length)
theorem table_ok (rows : List (List Str)) (h : SzT rows) (N : Nat) (hN : 300 < N) : i_isTable N rows = some (tabB rows) ∧ s_l08Rows N rows = some (tabB rows) := by
  have hl := h.1
  unfold i_isTable s_l08Rows tabB
  cases rows with
  | nil =>
    obtain ⟨N, rfl⟩ := pos_fuel hN
    simp only [withK_n]
    exact ⟨rfl, rfl⟩
  | cons r rs =>
    have hh := fun kj => rows_l1 (r :: rs) h (by simp) kj (r :: rs).length 0 N (by omega) (by omega)
    simp only [withK_n, i_between_eq, s_l00In_eq, Option.bind_some]
    rw [show (0 : Int) = ((0 : Nat) : Int) from rfl, (hh _).1, (hh _).2, List.drop_zero]
    show _ = some (inr ((r :: rs).length : Int) 1 40 && (r :: rs).all (rowB r.length)) ∧ _ = some (inr ((r :: rs).length : Int) 1 40 && (r :: rs).all (rowB r.length))
    rw [List.getElem_cons_zero]
    cases inr ((r :: rs).length : Int) 1 40 <;> cases (r :: rs).all (rowB r.length) <;> exact ⟨rfl, rfl⟩
/-- a table -/
structure GT (rows : List (List Str)) (m : Nat) : Prop where
  pos : 0 < rows.length
  len : rows.length ≤ 40
  m1 : 1 ≤ m
  m12 : m ≤ 12
  row : ∀ r ∈ rows, r.length = m ∧ ∀ c ∈ r, c.length ≤ 30
theorem gt_of {rows : List (List Str)} (h : tabB rows = true) : ∃ m, GT rows m := by
  unfold tabB at h
  rw [Bool.and_eq_true] at h
  obtain ⟨h1, h2⟩ := inr_iff.1 h.1
  have h3 := List.all_eq_true.1 h.2
  have hrow : ∀ r ∈ rows, r.length = (rows.headD []).length ∧ (1 ≤ (r.length : Int) ∧ (r.length : Int) ≤ 12) ∧ ∀ c ∈ r, c.length ≤ 30 := fun r hr => by
    have := h3 r hr
    unfold rowB at this
    simp only [Bool.and_eq_true, beq_iff_eq] at this
    refine ⟨this.1.1, inr_iff.1 this.1.2, fun c hc => ?_⟩
    have := (okT_iff.1 (List.all_eq_true.1 this.2 c hc)).1
    omega
  cases rows with
  | nil => simp at h1
  | cons r rs =>
    have := hrow r (List.mem_cons_self ..)
    exact ⟨r.length, by simp, by omega, by omega, by omega, fun x hx => ⟨(hrow x hx).1, (hrow x hx).2.2⟩⟩
def mx (a b : Int) : Int := if a > b then a else b
theorem imax_eq (a b : Int) : imax a b = mx a b := by unfold imax mx; omega
theorem smax_eq (a b : Int) : s_l00Max a b = some (mx a b) := by
  unfold s_l00Max mx
  by_cases h : a > b
  · simp [h]
  · simp [h]
def upd : List Int → List Str → List Int
  | w :: ws, c :: cs => mx w c.length :: upd ws cs
  | ws, _ => ws
theorem upd_len : ∀ (ws : List Int) (cs : List Str), (upd ws cs).length = ws.length
  | [], _ => by simp [upd]
  | w :: ws, [] => by simp [upd]
  | w :: ws, c :: cs => by simp [upd, upd_len ws cs]
theorem wid_l2 (rows : List (List Str)) (x : Nat) (hx : x < rows.length) (hl : rows[x].length ≤ 20) (Ki Ks : List Int → Option (List Int)) : ∀ (q k N : Nat) (P S : List Int), k + q = rows[x].length → q < N → P.length = k → S.length = q →
    i_columnWidths_l2 Ki rows[x] N (P ++ S) (k : Int) = Ki (P ++ upd S (rows[x].drop k)) ∧ s_l08Widths_l2 Ks rows (x : Int) N (P ++ S) (k : Int) = Ks (P ++ upd S (rows[x].drop k)) := by
  intro q
  induction q with
  | zero =>
    intro k N P S h1 h2 h3 h4
    obtain ⟨N, rfl⟩ := pos_fuel h2
    have hz : ¬ (k : Int) < (rows[x].length : Int) := by omega
    have hS : S = [] := List.eq_nil_of_length_eq_zero h4
    subst hS
    simp only [i_columnWidths_l2, s_l08Widths_l2, idx_lt rows x hx, Option.bind_some, hz, decide_false, cond_false, upd]
    exact ⟨trivial, trivial⟩
  | succ q ih =>
    intro k N P S h1 h2 h3 h4
    obtain ⟨N, rfl⟩ := pos_fuel h2
    have hz : (k : Int) < (rows[x].length : Int) := by omega
    have hk : k < rows[x].length := by omega
    obtain ⟨w, ws, rfl⟩ : ∃ w ws, S = w :: ws := by cases S with | nil => simp at h4 | cons w ws => exact ⟨w, ws, rfl⟩
    have e1 : idx (P ++ w :: ws) (k : Int) = some w := by
      rw [idx_nat, List.getElem?_append_right (by omega), h3, Nat.sub_self]; rfl
    have e2 : ∀ v : Int, (P ++ w :: ws).set ((k : Int)).toNat v = (P ++ [v]) ++ ws := fun v => by
      rw [Int.toNat_natCast, List.set_append_right _ _ (by omega), h3, Nat.sub_self, List.set_cons_zero, List.append_assoc]; rfl
    simp only [List.length_cons] at h4
    obtain ⟨i1, i2⟩ := ih (k + 1) N (P ++ [mx w rows[x][k].length]) ws (by omega) (by omega) (by simp; omega) (by omega)
    simp only [List.append_assoc, List.singleton_append] at i1 i2
    rw [drop_cons _ k hk]
    simp only [i_columnWidths_l2, s_l08Widths_l2, idx_lt rows x hx, Option.bind_some, hz, decide_true, cond_true, idx_lt _ k hk, e1, e2, imax_eq, smax_eq, w64_nat k (by omega), i1, i2, upd, List.append_assoc, List.singleton_append]
    exact ⟨trivial, trivial⟩
theorem wid_l1 (rows : List (List Str)) (m : Nat) (h : GT rows m) (Ki Ks : List Int → Option (List Int)) : ∀ (q x N : Nat) (ws : List Int), x + q = rows.length → q + 30 < N → ws.length = m →
    i_columnWidths_l1 Ki rows N ws (x : Int) = Ki ((rows.drop x).foldl upd ws) ∧ s_l08Widths_l1 Ks rows N ws (x : Int) = Ks ((rows.drop x).foldl upd ws) := by
  have hl := h.len
  have hm := h.m12
  intro q
  induction q with
  | zero =>
    intro x N ws h1 h2 h3
    obtain ⟨N, rfl⟩ := pos_fuel h2
    have hz : ¬ (x : Int) < (rows.length : Int) := by omega
    rw [List.drop_of_length_le (by omega)]
    simp only [i_columnWidths_l1, s_l08Widths_l1, hz, decide_false, cond_false, List.foldl_nil]
    exact ⟨trivial, trivial⟩
  | succ q ih =>
    intro x N ws h1 h2 h3
    obtain ⟨N, rfl⟩ := pos_fuel h2
    have hz : (x : Int) < (rows.length : Int) := by omega
    have hx : x < rows.length := by omega
    have hr := (h.row _ (List.getElem_mem hx)).1
    have hw := fun Ki Ks => wid_l2 rows x hx (by omega) Ki Ks rows[x].length 0 N [] ws (by omega) (by omega) rfl (by omega)
    obtain ⟨i1, i2⟩ := ih (x + 1) N (upd ws rows[x]) (by omega) (by omega) (by rw [upd_len]; exact h3)
    rw [drop_cons _ x hx, List.foldl_cons]
    simp only [List.nil_append, List.drop_zero] at hw
    rw [show ((0 : Nat) : Int) = 0 from rfl] at hw
    simp only [i_columnWidths_l1, s_l08Widths_l1, hz, decide_true, cond_true, withK_n, idx_lt rows x hx, Option.bind_some]
    rw [(hw _ (fun _ => none)).1, (hw (fun _ => none) _).2, w64_nat x (by omega)]
    exact ⟨i1, i2⟩
def wids (rows : List (List Str)) (m : Nat) : List Int := rows.foldl upd (List.replicate m 0)
theorem wids_ok (rows : List (List Str)) (m : Nat) (h : GT rows m) (N : Nat) (hN : 200 < N) : i_columnWidths N rows = some (wids rows m) ∧ s_l08Widths N rows = some (wids rows m) := by
  have hl := h.len
  have hm := h.m12
  have h0 : idx rows 0 = some (rows[0]'h.pos) := idx_lt rows 0 h.pos
  have hr := (h.row _ (List.getElem_mem h.pos)).1
  have hw := fun Ki Ks => wid_l1 rows m h Ki Ks rows.length 0 N (List.replicate m 0) (by omega) (by omega) (by simp)
  simp only [List.drop_zero] at hw
  rw [show ((0 : Nat) : Int) = 0 from rfl] at hw
  unfold i_columnWidths s_l08Widths
  rw [h0, Option.bind_some, Option.bind_some, hr, mk_some m 0 (by unfold LIM; omega), Option.bind_some, Option.bind_some, withK_n, withK_n, (hw _ (fun _ => none)).1, (hw (fun _ => none) _).2]
  exact ⟨rfl, rfl⟩
/-- what the widths are good for -/
def Fits : List Int → List Str → Prop
  | w :: ws, c :: cs => (c.length : Int) ≤ w ∧ Fits ws cs
  | _, _ => True
theorem mx_l (a b : Int) : a ≤ mx a b ∧ b ≤ mx a b := by unfold mx; split <;> omega
theorem upd_fits : ∀ (ws : List Int) (cs : List Str), Fits (upd ws cs) cs
  | [], cs => by simp [upd, Fits]
  | w :: ws, [] => by simp [upd, Fits]
  | w :: ws, c :: cs => ⟨(mx_l _ _).2, upd_fits ws cs⟩
theorem upd_keep : ∀ (ws : List Int) (cs ds : List Str), Fits ws ds → Fits (upd ws cs) ds
  | [], cs, ds, h => by simp [upd, Fits]
  | w :: ws, [], ds, h => by simpa [upd] using h
  | w :: ws, c :: cs, [], h => by simp [upd, Fits]
  | w :: ws, c :: cs, d :: ds, h => ⟨Int.le_trans h.1 (mx_l _ _).1, upd_keep ws cs ds h.2⟩
theorem fold_keep : ∀ (rows : List (List Str)) (ws : List Int) (ds : List Str), Fits ws ds → Fits (rows.foldl upd ws) ds
  | [], ws, ds, h => h
  | r :: rows, ws, ds, h => fold_keep rows _ ds (upd_keep ws r ds h)
theorem fold_fits : ∀ (rows : List (List Str)) (ws : List Int), ∀ r ∈ rows, Fits (rows.foldl upd ws) r
  | [], _, r, hr => by cases hr
  | x :: rows, ws, r, hr => by
    rcases List.mem_cons.1 hr with rfl | hr
    · exact fold_keep rows _ r (upd_fits ws r)
    · exact fold_fits rows _ r hr
theorem fold_len : ∀ (rows : List (List Str)) (ws : List Int), (rows.foldl upd ws).length = ws.length
  | [], _ => rfl
  | r :: rows, ws => (fold_len rows _).trans (upd_len ws r)
def Bnd (ws : List Int) : Prop := ∀ w ∈ ws, 0 ≤ w ∧ w ≤ 30
theorem upd_bnd : ∀ (ws : List Int) (cs : List Str), Bnd ws → (∀ c ∈ cs, c.length ≤ 30) → Bnd (upd ws cs)
  | [], cs, h, _ => by simpa [upd] using h
  | w :: ws, [], h, _ => by simpa [upd] using h
  | w :: ws, c :: cs, h, hc => fun x hx => by
    rcases List.mem_cons.1 hx with rfl | hx
    · have h1 := h w (List.mem_cons_self ..)
      have h2 := hc c (List.mem_cons_self ..)
      unfold mx; split <;> omega
    · exact upd_bnd ws cs (fun y hy => h y (List.mem_cons_of_mem _ hy)) (fun y hy => hc y (List.mem_cons_of_mem _ hy)) x hx
theorem fold_bnd : ∀ (rows : List (List Str)) (ws : List Int), Bnd ws → (∀ r ∈ rows, ∀ c ∈ r, c.length ≤ 30) → Bnd (rows.foldl upd ws)
  | [], ws, h, _ => h
  | r :: rows, ws, h, hr => fold_bnd rows _ (upd_bnd ws r h (hr r (List.mem_cons_self ..))) (fun x hx => hr x (List.mem_cons_of_mem _ hx))
theorem wids_p {rows : List (List Str)} {m : Nat} (h : GT rows m) : (wids rows m).length = m ∧ Bnd (wids rows m) ∧ ∀ r ∈ rows, Fits (wids rows m) r :=
  ⟨(fold_len _ _).trans (by simp), fold_bnd _ _ (fun w hw => by have := List.eq_of_mem_replicate hw; omega) (fun r hr => (h.row r hr).2), fold_fits _ _⟩
end Go.Proofs.Ytpmanofdlhlkdaa
