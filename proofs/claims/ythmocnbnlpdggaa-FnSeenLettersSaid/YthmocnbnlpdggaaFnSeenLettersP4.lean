/-
  Plain lemmas on these functions. No conditions but those that each states.
-/
import Derived.Test.YthmocnbnlpdggaaFnSeenLettersP3
namespace Go.Proofs.Ythmocnbnlpdggaa
set_option linter.unusedVariables false
set_option linter.unusedSimpArgs false
def hd (s : Str) : UInt8 := s.headD 0
theorem Ru.hds {l : List Over} (h : Ru l) {x : Over} (hx : x ∈ l) : idx x.under 0 = some (hd x.under) ∧ idx x.top 0 = some (hd x.top) ∧ idx x.seen 0 = some (hd x.seen) := by
  obtain ⟨u, t, s, rfl, _⟩ := h.one x hx
  exact ⟨rfl, rfl, rfl⟩
theorem nz {c : UInt8} (h : 0 < c.toNat) : c ≠ 0 := fun e => by subst e; simp at h
theorem pr_nz {c : UInt8} (h : pr c = true) : c ≠ 0 := fun e => by subst e; revert h; decide
def okp (c : UInt8) : Bool := !(c != 46 && c != 43 && c != 35)
def isP (p : Str) : Bool := p.all okp && decide ((p.length : Int) ≤ 60)
theorem isPlan_l1 (p : Str) (hp : p.length ≤ 1000) : ∀ (n i N : Nat), i + n = p.length → n < N → ∀ K, i_isPlan_l1 K p N (i : Int) = (bif (p.drop i).all okp then K else some false) ∧ s_l12IsPlan_l1 K p N (i : Int) = (bif (p.drop i).all okp then K else some false) := by
  intro n
  induction n with
  | zero =>
    intro i N h1 h3 K
    obtain ⟨N, rfl⟩ := pos_fuel h3
    have hi : ¬ ((i : Int) < (p.length : Int)) := by omega
    have e2 : p.drop i = [] := List.drop_of_length_le (by omega)
    simp [i_isPlan_l1, s_l12IsPlan_l1, hi, e2]
  | succ n ih =>
    intro i N h1 h3 K
    obtain ⟨N, rfl⟩ := pos_fuel h3
    have hi : (i : Int) < (p.length : Int) := by omega
    have hn : i < p.length := by omega
    obtain ⟨h4, h5⟩ := ih (i + 1) N (by omega) (by omega) K
    simp only [i_isPlan_l1, s_l12IsPlan_l1, hi, decide_true, cond_true, idx_lt p i hn, Option.bind_some, andO_some, w64_nat i (by omega), h4, h5, drop_cons p i hn, List.all_cons]
    have e : okp p[i] = !(p[i] != 46 && p[i] != 43 && p[i] != 35) := rfl
    rw [e]
    cases (p[i] != 46 && p[i] != 43 && p[i] != 35) <;> exact ⟨rfl, rfl⟩
theorem isPlan_eq (N : Nat) (p : Str) (hp : p.length ≤ 1000) (hN : p.length < N) : i_isPlan N p = some (isP p) ∧ s_l12IsPlan N p = some (isP p) := by
  have h := fun K => isPlan_l1 p hp p.length 0 N (by omega) hN K
  rw [show ((0 : Nat) : Int) = 0 from rfl] at h
  simp only [List.drop_zero] at h
  unfold i_isPlan s_l12IsPlan isP
  simp only [withK_eq, (h _).1, (h _).2]
  cases p.all okp <;> exact ⟨rfl, rfl⟩
def fnd (l : List Over) (u t : UInt8) : UInt8 := match l.find? (fun x => hd x.under == u && hd x.top == t) with
  | some x => hd x.seen
  | none => 0
/-- what one sees -/
def sn (l : List Over) (u t : UInt8) : UInt8 := bif u == t || t == 32 then u else bif u == 32 then t else fnd l u t
theorem seen_l1 (l : List Over) (hr : Ru l) (u t : UInt8) : ∀ (n i N : Nat), i + n = l.length → n < N → i_seen_l1 (some (0, false)) l u t N (i : Int) = some (fnd (l.drop i) u t, fnd (l.drop i) u t != 0) ∧ s_l12Seen_l1 (some 0) l u t N (i : Int) = some (fnd (l.drop i) u t) := by
  have hl := hr.len
  intro n
  induction n with
  | zero =>
    intro i N h1 h3
    obtain ⟨N, rfl⟩ := pos_fuel h3
    have hi : ¬ ((i : Int) < (l.length : Int)) := by omega
    have e2 : l.drop i = [] := List.drop_of_length_le (by omega)
    simp [i_seen_l1, s_l12Seen_l1, hi, e2, fnd]
  | succ n ih =>
    intro i N h1 h3
    obtain ⟨N, rfl⟩ := pos_fuel h3
    have hi : (i : Int) < (l.length : Int) := by omega
    have hn : i < l.length := by omega
    obtain ⟨e1, e2, e3⟩ := hr.hds (List.getElem_mem hn)
    obtain ⟨g1, g2⟩ := ih (i + 1) N (by omega) (by omega)
    have hs : hd l[i].seen ≠ 0 := by
      obtain ⟨_, _, s, e, _, _, _, _, h, _⟩ := hr.one _ (List.getElem_mem hn)
      rw [e]; exact nz (show 0 < s.toNat by omega)
    simp only [i_seen_l1, s_l12Seen_l1, hi, decide_true, cond_true, idx_lt l i hn, Option.bind_some, e1, e2, e3, andO_some, w64_nat i (by omega), g1, g2, drop_cons l i hn]
    unfold fnd
    rw [List.find?_cons]
    cases (hd l[i].under == u && hd l[i].top == t)
    · exact ⟨rfl, rfl⟩
    · have : (hd l[i].seen != 0) = true := by simpa using hs
      simp only [cond_true, this]; exact ⟨trivial, trivial⟩
theorem seen_eq (N : Nat) (l : List Over) (hr : Ru l) (u t : UInt8) (hu : u ≠ 0) (ht : t ≠ 0) (hN : 30 < N) : i_seen N l u t = some (sn l u t, sn l u t != 0) ∧ s_l12Seen N l u t = some (sn l u t) := by
  have hl := hr.len
  obtain ⟨g1, g2⟩ := seen_l1 l hr u t l.length 0 N (by omega) (by omega)
  rw [show ((0 : Nat) : Int) = 0 from rfl, List.drop_zero] at g1 g2
  have hu' : (u != 0) = true := by simpa using hu
  have ht' : (t != 0) = true := by simpa using ht
  unfold i_seen s_l12Seen sn
  simp only [orO_some, Option.bind_some, withK_eq, g1, g2]
  cases (u == t || t == 32)
  · cases (u == 32)
    · exact ⟨rfl, rfl⟩
    · simp only [cond_false, cond_true, ht']; exact ⟨trivial, trivial⟩
  · simp only [cond_true, hu']; exact ⟨trivial, trivial⟩
end Go.Proofs.Ythmocnbnlpdggaa
