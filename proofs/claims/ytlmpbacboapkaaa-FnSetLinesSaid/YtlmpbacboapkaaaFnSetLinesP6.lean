/-
  Plain lemmas on these functions. No conditions but those that each states.
-/
import Derived.Test.YtlmpbacboapkaaaFnSetLinesP5
namespace Go.Proofs.Ytlmpbacboapkaaa
set_option linter.unusedVariables false
set_option linter.unusedSimpArgs false
/-! Words with gaps. -/
def GL : List (Nat × Str) → Str
  | [] => []
  | g :: r => List.replicate g.1 32 ++ (g.2 ++ GL r)
def WK (w : Str) : Prop := w ≠ [] ∧ ∀ c ∈ w, 33 ≤ c.toNat ∧ c.toNat ≤ 126
theorem WK.ne {w : Str} (h : WK w) {c : UInt8} (hc : c ∈ w) : c ≠ 32 := fun e => by
  have := h.2 c hc
  rw [e] at this
  exact absurd this.1 (by decide)
def sw : Str → Str → List Str
  | [], cur => if cur = [] then [] else [cur]
  | c :: r, cur => if c = 32 then (if cur = [] then sw r [] else cur :: sw r []) else sw r (cur ++ [c])
theorem sw_word : ∀ (u : Str), (∀ c ∈ u, c ≠ 32) → ∀ (r cur : Str), sw (u ++ r) cur = sw r (cur ++ u)
  | [], _, r, cur => by simp
  | c :: u, h, r, cur => by
    rw [List.cons_append, sw, if_neg (h c List.mem_cons_self), sw_word u (fun x hx => h x (List.mem_cons_of_mem _ hx))]
    simp
theorem sw_blanks : ∀ (k : Nat) (r : Str), sw (List.replicate k 32 ++ r) [] = sw r []
  | 0, _ => rfl
  | k + 1, r => by
    rw [List.replicate_succ, List.cons_append, sw, if_pos rfl, if_pos rfl]
    exact sw_blanks k r
theorem sw_gl : ∀ (g : List (Nat × Str)) (t : Nat) (w : Str), w ≠ [] → (∀ x ∈ g, 1 ≤ x.1 ∧ WK x.2) → sw (GL g ++ List.replicate t 32) w = w :: g.map (·.2)
  | [], 0, w, hw, _ => by simp [GL, sw, hw]
  | [], t + 1, w, hw, _ => by
    have := sw_blanks t []
    rw [List.append_nil] at this
    simp [GL, sw, hw, List.replicate_succ, this]
  | (k, x) :: r, t, w, hw, h => by
    obtain ⟨h1, h2⟩ := h (k, x) List.mem_cons_self
    simp only at h1 h2
    obtain ⟨k, rfl⟩ : ∃ j, k = j + 1 := ⟨k - 1, by omega⟩
    have ih := sw_gl r t x h2.1 fun y hy => h y (List.mem_cons_of_mem _ hy)
    rw [GL, List.append_assoc, List.append_assoc, List.replicate_succ, List.cons_append, sw, if_pos rfl, if_neg hw, sw_blanks, sw_word x (fun c hc => h2.ne hc), List.nil_append, ih]
    rfl
theorem sw_line (w0 : Str) (g : List (Nat × Str)) (t : Nat) (h0 : WK w0) (h : ∀ x ∈ g, 1 ≤ x.1 ∧ WK x.2) : sw (w0 ++ (GL g ++ List.replicate t 32)) [] = w0 :: g.map (·.2) := by
  rw [sw_word w0 (fun c hc => h0.ne hc), List.nil_append, sw_gl g t w0 h0.1 h]
/-- the gaps -/
def egaps : Str → Nat → Bool → List Nat
  | [], _, _ => []
  | c :: r, n, b => if c = 32 then egaps r (n + 1) b else (if 0 < n ∧ b = true then n :: egaps r 0 true else egaps r 0 true)
theorem eg_blanks : ∀ (k : Nat) (r : Str) (n : Nat) (b : Bool), egaps (List.replicate k 32 ++ r) n b = egaps r (n + k) b
  | 0, _, _, _ => rfl
  | k + 1, r, n, b => by
    rw [List.replicate_succ, List.cons_append, egaps, if_pos rfl, eg_blanks k r]
    congr 1; omega
theorem eg_word : ∀ (u : Str), (∀ c ∈ u, c ≠ 32) → ∀ (r : Str), egaps (u ++ r) 0 true = egaps r 0 true
  | [], _, _ => rfl
  | c :: u, h, r => by
    rw [List.cons_append, egaps, if_neg (h c List.mem_cons_self), if_neg (fun g => by omega)]
    exact eg_word u (fun x hx => h x (List.mem_cons_of_mem _ hx)) r
theorem eg_gl : ∀ (g : List (Nat × Str)) (t : Nat), (∀ x ∈ g, 1 ≤ x.1 ∧ WK x.2) → egaps (GL g ++ List.replicate t 32) 0 true = g.map (·.1)
  | [], t, _ => by
    have := eg_blanks t [] 0 true
    rw [List.append_nil] at this
    rw [GL, List.nil_append, this]; rfl
  | (k, x) :: r, t, h => by
    obtain ⟨h1, h2⟩ := h (k, x) List.mem_cons_self
    simp only at h1 h2
    have ih := eg_gl r t fun y hy => h y (List.mem_cons_of_mem _ hy)
    rw [GL, List.append_assoc, List.append_assoc, eg_blanks]
    cases x with
    | nil => exact absurd rfl h2.1
    | cons c u =>
      rw [List.cons_append, egaps, if_neg (h2.ne List.mem_cons_self), if_pos ⟨by simp; omega, rfl⟩, eg_word u (fun y hy => h2.ne (List.mem_cons_of_mem _ hy)), ih]
      simp
theorem eg_line (w0 : Str) (g : List (Nat × Str)) (t : Nat) (h0 : WK w0) (h : ∀ x ∈ g, 1 ≤ x.1 ∧ WK x.2) : egaps (w0 ++ (GL g ++ List.replicate t 32)) 0 false = g.map (·.1) := by
  cases w0 with
  | nil => exact absurd rfl h0.1
  | cons c u =>
    rw [List.cons_append, egaps, if_neg (h0.ne List.mem_cons_self), if_neg (fun e => by cases e.2), eg_word u (fun y hy => h0.ne (List.mem_cons_of_mem _ hy)), eg_gl g t h]
def CL (s : Str) : Prop := ∀ c ∈ s, 32 ≤ c.toNat ∧ c.toNat ≤ 126
theorem CL.rep (k : Nat) : CL (List.replicate k 32) := fun c hc => by rw [(List.mem_replicate.1 hc).2]; decide
theorem CL.app {a b : Str} (ha : CL a) (hb : CL b) : CL (a ++ b) := fun c hc => by
  rcases List.mem_append.1 hc with h | h
  · exact ha c h
  · exact hb c h
theorem WK.cl {w : Str} (h : WK w) : CL w := fun c hc => by have := h.2 c hc; omega
theorem GL.cl : ∀ (g : List (Nat × Str)), (∀ x ∈ g, WK x.2) → CL (GL g)
  | [], _ => fun c hc => by cases hc
  | x :: r, h => by
    rw [GL]
    exact (CL.rep _).app ((h x List.mem_cons_self).cl.app (GL.cl r fun y hy => h y (List.mem_cons_of_mem _ hy)))
/-! Justified lines. -/
def gz (q rm : Nat) : Nat → List Str → List (Nat × Str)
  | _, [] => []
  | k, w :: r => (q + (if k < rm then 1 else 0), w) :: gz q rm (k + 1) r
theorem gz_snd (q rm : Nat) : ∀ (l : List Str) (k : Nat), (gz q rm k l).map (·.2) = l
  | [], _ => rfl
  | w :: r, k => by simp only [gz, List.map_cons, gz_snd q rm r (k + 1)]
theorem gz_mem (q rm : Nat) (hq : 1 ≤ q) : ∀ (l : List Str) (k : Nat), (∀ w ∈ l, WK w) → ∀ x ∈ gz q rm k l, 1 ≤ x.1 ∧ WK x.2
  | [], _, _, x, hx => by cases hx
  | w :: r, k, h, x, hx => by
    rw [gz] at hx
    rcases List.mem_cons.1 hx with rfl | hx
    · exact ⟨by show 1 ≤ q + _; omega, h w List.mem_cons_self⟩
    · exact gz_mem q rm hq r (k + 1) (fun y hy => h y (List.mem_cons_of_mem _ hy)) x hx
theorem gz_len (q rm : Nat) : ∀ (l : List Str) (k : Nat), (GL (gz q rm k l)).length + min k rm = tl l + l.length * q + min (k + l.length) rm
  | [], k => by simp [gz, GL, tl]
  | w :: r, k => by
    have ih := gz_len q rm r (k + 1)
    simp only [gz, GL, List.length_append, List.length_replicate, tl, List.length_cons, Nat.add_mul, Nat.one_mul]
    rw [show k + 1 + r.length = k + (r.length + 1) by omega] at ih
    by_cases hk : k < rm
    · rw [if_pos hk]
      omega
    · rw [if_neg hk]
      omega
theorem gz_fst (q rm : Nat) : ∀ (l : List Str) (k : Nat), ((gz q rm k l).map (·.1)).Pairwise (fun a b => b ≤ a) ∧ ∀ a ∈ (gz q rm k l).map (·.1), q ≤ a ∧ a ≤ q + 1 ∧ (rm ≤ k → a = q)
  | [], _ => ⟨List.Pairwise.nil, fun a ha => by cases ha⟩
  | w :: r, k => by
    obtain ⟨h1, h2⟩ := gz_fst q rm r (k + 1)
    simp only [gz, List.map_cons]
    refine ⟨List.pairwise_cons.2 ⟨fun a ha => ?_, h1⟩, fun a ha => ?_⟩
    · have := h2 a ha
      split
      · omega
      · have := this.2.2 (by omega); omega
    · rcases List.mem_cons.1 ha with rfl | ha
      · split
        · exact ⟨by omega, by omega, fun h => by omega⟩
        · exact ⟨by omega, by omega, fun _ => rfl⟩
      · have := h2 a ha
        exact ⟨this.1, this.2.1, fun h => this.2.2 (by omega)⟩
/-- a line of just a width -/
def setL (W : Nat) : List Str → Str
  | [] => []
  | w0 :: r => if r = [] then w0 ++ List.replicate (W - w0.length) 32 else w0 ++ GL (gz ((W - tl (w0 :: r)) / r.length) ((W - tl (w0 :: r)) % r.length) 0 r)
theorem setL_form (W : Nat) (w0 : Str) (r : List Str) (h : ∀ w ∈ w0 :: r, WK w) (hW : tl (w0 :: r) + r.length ≤ W) : ∃ g t, setL W (w0 :: r) = w0 ++ (GL g ++ List.replicate t 32) ∧ g.map (·.2) = r ∧ (∀ x ∈ g, 1 ≤ x.1 ∧ WK x.2) ∧ (g.map (·.1)).Pairwise (fun a b => b ≤ a) ∧ (∀ a ∈ g.map (·.1), ∀ b ∈ g.map (·.1), a ≤ b + 1) ∧ (setL W (w0 :: r)).length = W := by
  by_cases hr : r = []
  · subst hr
    simp only [setL, if_true]
    refine ⟨[], W - w0.length, rfl, rfl, (fun x hx => by cases hx), List.Pairwise.nil, (fun a ha => by cases ha), ?_⟩
    simp only [tl, List.length_nil] at hW
    rw [List.length_append, List.length_replicate]; omega
  · have hpos : 0 < r.length := List.length_pos_iff.2 hr
    simp only [setL, if_neg hr]
    have hq : 1 ≤ (W - tl (w0 :: r)) / r.length := (Nat.le_div_iff_mul_le hpos).2 (by omega)
    have hm := Nat.mod_lt (W - tl (w0 :: r)) hpos
    have hdm := Nat.div_add_mod (W - tl (w0 :: r)) r.length
    obtain ⟨p1, p2⟩ := gz_fst ((W - tl (w0 :: r)) / r.length) ((W - tl (w0 :: r)) % r.length) r 0
    have hl := gz_len ((W - tl (w0 :: r)) / r.length) ((W - tl (w0 :: r)) % r.length) r 0
    refine ⟨_, 0, by simp, gz_snd _ _ r 0, gz_mem _ _ hq r 0 (fun w hw => h w (List.mem_cons_of_mem _ hw)), p1, fun a ha b hb => ?_, ?_⟩
    · have := p2 a ha; have := p2 b hb; omega
    · rw [List.length_append]
      generalize (W - tl (w0 :: r)) / r.length = q at *
      generalize (W - tl (w0 :: r)) % r.length = rm at *
      simp only [tl] at hdm hW
      rw [Nat.zero_add] at hl
      omega
/-- joined words -/
theorem join_gl (w0 : Str) (r : List Str) : Lib.join (w0 :: r) [32] = w0 ++ (GL (r.map fun w => (1, w)) ++ List.replicate 0 32) := by
  rw [Lib.join_cons]
  congr 1
  unfold Lib.joinTail
  rw [List.replicate_zero, List.append_nil]
  induction r with
  | nil => rfl
  | cons x r ih => simp only [List.map_cons, List.flatten_cons, GL, ih]; simp
theorem gl1_len : ∀ r : List Str, (GL (r.map fun w => (1, w))).length = tl r + r.length
  | [] => rfl
  | x :: r => by
    have := gl1_len r
    simp only [List.map_cons, GL, List.length_append, List.length_replicate, this, tl, List.length_cons]; omega
end Go.Proofs.Ytlmpbacboapkaaa
