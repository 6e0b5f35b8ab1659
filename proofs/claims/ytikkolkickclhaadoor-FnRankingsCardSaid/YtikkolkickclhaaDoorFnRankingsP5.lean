/-
  Plain lemmas on these functions. No conditions but those that each states.
-/
import Derived.Test.YtikkolkickclhaaDoorFnRankingsP4
namespace Go.Proofs.YtikkolkickclhaaDoor
set_option linter.unusedVariables false
set_option linter.unusedSimpArgs false
/-! Results: when they are valid. -/
def inR (n lo hi : Int) : Bool := decide (n ≥ lo) && decide (n ≤ hi)
theorem bw_i (n lo hi : Int) : i_between n lo hi = some (inR n lo hi) := by unfold i_between inR; simp only [andO_some, Option.bind_some]
theorem bw_s (n lo hi : Int) : s_l00In n lo hi = some (inR n lo hi) := by unfold s_l00In inR; simp only [andO_some, Option.bind_some]
def fR (x : Result) : Bool := nm x.name && (inR x.net 0 100000 && inR x.errors 0 100000)
theorem one_s (N : Nat) (hN : 14 < N) (x : Result) : s_l22One N x = some (fR x) := by
  unfold s_l22One fR
  simp only [s_IsName_eq N hN, bw_s, andO_some, Option.bind_some, Bool.and_assoc]
def nmB (l : List Result) (i : Nat) (s : Str) : Bool := (l.take i).any fun y => y.name == s
theorem nmB_succ (l : List Result) (i : Nat) (hi : i < l.length) (s : Str) : nmB l (i + 1) s = (s == l[i].name || nmB l i s) := by
  unfold nmB
  rw [List.take_succ_eq_append_getElem hi, List.any_append, Bool.or_comm]
  congr 1
  simp only [List.any_cons, List.any_nil, Bool.or_false]
  by_cases h : l[i].name = s
  · rw [h]
  · have h2 : ¬ s = l[i].name := fun e => h e.symm
    rw [beq_eq_false_iff_ne.2 h, beq_eq_false_iff_ne.2 h2]
def vq (l : List Result) : Nat → Nat → Bool
  | 0, _ => true
  | q + 1, i => (match l[i]? with
    | none => true
    | some x => fR x && !(nmB l i x.name)) && vq l q (i + 1)
theorem vq_succ (l : List Result) (q i : Nat) (hi : i < l.length) : vq l (q + 1) i = ((fR l[i] && !(nmB l i l[i].name)) && vq l q (i + 1)) := by
  simp only [vq, List.getElem?_eq_getElem hi]
theorem vi_l1 (l : List Result) (hl : l.length ≤ 1000) (kj : Option Bool) : ∀ (q i N : Nat) (mp : List (Str × Bool)), i + q = l.length → q + 50 < N → (∀ s, mget mp s = nmB l i s) → i_ValidResults_l1 kj l N mp (i : Int) = bif vq l q i then kj else some false := by
  intro q
  induction q with
  | zero =>
    intro i N mp h1 h2 _
    obtain ⟨N, rfl⟩ := pos_fuel h2
    have hz : ¬ (i : Int) < (l.length : Int) := by omega
    simp only [i_ValidResults_l1, hz, decide_false, cond_false, vq, cond_true]
  | succ q ih =>
    intro i N mp h1 h2 hm
    obtain ⟨N, rfl⟩ := pos_fuel h2
    have hi : i < l.length := by omega
    have hz : (i : Int) < (l.length : Int) := by omega
    rw [vq_succ l q i hi]
    simp only [i_ValidResults_l1, hz, decide_true, cond_true, idx_lt l i hi, Option.bind_some, i_IsName_eq N (by omega), bw_i, orO_some, hm, w64_nat i (by omega)]
    rw [ih (i + 1) N _ (by omega) (by omega) (fun s => by rw [mget_mset, hm, nmB_succ l i hi])]
    unfold fR
    cases nm l[i].name <;> cases nmB l i l[i].name <;> cases inR l[i].net 0 100000 <;> cases inR l[i].errors 0 100000 <;> rfl
theorem vs_l2 (l : List Result) (hl : l.length ≤ 1000) (i : Nat) (hi : i < l.length) (kj : Option Bool) : ∀ (q k N : Nat), k + q = i → q < N → s_l22Ok_l2 kj l (i : Int) N (k : Int) = bif ((l.take i).drop k).any (fun y => y.name == l[i].name) then some false else kj := by
  intro q
  induction q with
  | zero =>
    intro k N h1 h2
    obtain ⟨N, rfl⟩ := pos_fuel h2
    have hz : ¬ (k : Int) < (i : Int) := by omega
    rw [List.drop_eq_nil_of_le (by simp; omega)]
    simp only [s_l22Ok_l2, hz, decide_false, cond_false, List.any_nil]
  | succ q ih =>
    intro k N h1 h2
    obtain ⟨N, rfl⟩ := pos_fuel h2
    have hz : (k : Int) < (i : Int) := by omega
    have hk : k < (l.take i).length := by simp; omega
    have e : (l.take i)[k] = l[k]'(by omega) := by simp
    rw [drop_cons _ k hk, List.any_cons, e]
    simp only [s_l22Ok_l2, hz, decide_true, cond_true, idx_lt l k (Nat.lt_trans (by omega : k < i) hi), idx_lt l i hi, Option.bind_some, w64_nat k (by omega)]
    rw [ih (k + 1) N (by omega) (by omega)]
    cases (l[k]'(by omega)).name == l[i].name <;> rfl
theorem vs_l1 (l : List Result) (hl : l.length ≤ 1000) (kj : Option Bool) : ∀ (q i N : Nat), i + q = l.length → q + l.length + 50 < N → s_l22Ok_l1 kj l N (i : Int) = bif vq l q i then kj else some false := by
  intro q
  induction q with
  | zero =>
    intro i N h1 h2
    obtain ⟨N, rfl⟩ := pos_fuel h2
    have hz : ¬ (i : Int) < (l.length : Int) := by omega
    simp only [s_l22Ok_l1, hz, decide_false, cond_false, vq, cond_true]
  | succ q ih =>
    intro i N h1 h2
    obtain ⟨N, rfl⟩ := pos_fuel h2
    have hi : i < l.length := by omega
    have hz : (i : Int) < (l.length : Int) := by omega
    rw [vq_succ l q i hi]
    simp only [s_l22Ok_l1, hz, decide_true, cond_true, withK_n, idx_lt l i hi, Option.bind_some, one_s N (by omega), w64_nat i (by omega)]
    rw [ih (i + 1) N (by omega) (by omega), show (0 : Int) = ((0 : Nat) : Int) from rfl, vs_l2 l hl i hi _ i 0 N (by omega) (by omega), List.drop_zero]
    show _ = bif (fR l[i] && !(nmB l i l[i].name)) && vq l q (i + 1) then kj else some false
    unfold nmB
    cases fR l[i] <;> cases (l.take i).any (fun y => y.name == l[i].name) <;> rfl
def vR (l : List Result) : Bool := vq l l.length 0 && decide (l.length ≤ 40)
theorem valid_ok (l : List Result) (hl : l.length ≤ 1000) (N : Nat) (hN : 2 * l.length + 100 < N) : i_ValidResults N l = some (vR l) ∧ s_l22Ok N l = some (vR l) := by
  have e : decide ((l.length : Int) ≤ 40) = decide (l.length ≤ 40) := decide_eq_decide.2 (by omega)
  have h1 := vi_l1 l hl (some (decide ((l.length : Int) ≤ 40))) l.length 0 N [] (by omega) (by omega) (fun s => by simp [mget, nmB])
  have h2 := vs_l1 l hl (some (decide ((l.length : Int) ≤ 40))) l.length 0 N (by omega) (by omega)
  rw [show ((0 : Nat) : Int) = 0 from rfl, e] at h1 h2
  unfold i_ValidResults s_l22Ok vR
  rw [withK_n, withK_n, e, h1, h2]
  cases vq l l.length 0 <;> exact ⟨rfl, rfl⟩
theorem vR_len {l : List Result} (h : vR l = true) : l.length ≤ 40 := by
  unfold vR at h
  rw [Bool.and_eq_true] at h
  simpa using h.2
end Go.Proofs.YtikkolkickclhaaDoor
