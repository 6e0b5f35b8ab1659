/-
  Plain lemmas on these functions. No conditions but those that each states.
-/
import Derived.Test.YtllaacpkpofbiaaFnExchangesP10
namespace Go.Proofs.Ytllaacpkpofbiaa
set_option linter.unusedVariables false
set_option linter.unusedSimpArgs false
/-! The letters that move. -/
theorem Mrk.off {t : List Bool} {o : Str} (h : Mrk t o) {c : UInt8} (hc : c ∉ o) : Mrk (t.set c.toNat false) o := by
  obtain ⟨h1, h2, h3⟩ := h
  refine ⟨by rw [List.length_set]; exact h1, h2, fun x => ?_⟩
  have hl : c.toNat < t.length := by rw [h1]; exact c.toNat_lt
  by_cases e : c.toNat = x.toNat
  · have e2 : x = c := (UInt8.toNat_inj.1 e).symm
    subst e2
    rw [List.getElem?_set_self hl]
    exact ⟨fun g => absurd g (by decide), fun g => absurd g hc⟩
  · rw [List.getElem?_set_ne e]; exact h3 x
def mvw : Str → Str → Str → Str
  | o, d :: u, c :: v => mvw (if d = c then o else putC o d) u v
  | o, _, _ => o
theorem mvw_nil (o v : Str) : mvw o [] v = o := by cases v <;> rfl
theorem mvw_app : ∀ (u v r s o : Str), u.length = v.length → mvw o (u ++ r) (v ++ s) = mvw (mvw o u v) r s
  | [], [], r, s, o, _ => by rw [mvw_nil]; rfl
  | [], _ :: _, _, _, _, h => by cases h
  | _ :: _, [], _, _, _, h => by cases h
  | d :: u, c :: v, r, s, o, h => by
    rw [List.cons_append, List.cons_append, mvw, mvw, mvw_app u v r s _ (by simpa using h)]
theorem mvw_mem : ∀ (u v o : Str) (x : UInt8), x ∈ mvw o u v → x ∈ o ∨ x ∈ u
  | [], v, o, x, h => by rw [mvw_nil] at h; exact .inl h
  | d :: u, [], o, x, h => .inl h
  | d :: u, c :: v, o, x, h => by
    rw [mvw] at h
    rcases mvw_mem u v _ x h with g | g
    · by_cases e : d = c
      · rw [if_pos e] at g; exact .inl g
      · rw [if_neg e, putC_mem] at g
        rcases g with g | g
        · exact .inr (g ▸ List.mem_cons_self)
        · exact .inl g
    · exact .inr (List.mem_cons_of_mem _ g)
theorem putC_len1 (c : UInt8) : ∀ o : Str, c ∉ o → (putC o c).length = o.length + 1
  | [], _ => rfl
  | x :: o, h => by
    rw [List.mem_cons, not_or] at h
    unfold putC
    split
    · rw [List.length_cons, putC_len1 c o h.2, List.length_cons]
    · split
      · rename_i hx
        rw [beq_iff_eq] at hx
        exact absurd hx.symm h.1
      · rfl
theorem mvw_len : ∀ (u v o : Str), u.length = v.length → u.Nodup → (∀ x ∈ u, x ∉ o) → (mvw o u v).length = o.length + df u v
  | [], [], o, _, _, _ => rfl
  | [], _ :: _, _, h, _, _ => by cases h
  | _ :: _, [], _, h, _, _ => by cases h
  | d :: u, c :: v, o, h, hu, ho => by
    rw [List.nodup_cons] at hu
    rw [mvw, df, mvw_len u v _ (by simpa using h) hu.2 (fun x hx => ?_)]
    · by_cases e : d = c
      · rw [if_pos e, if_pos e]; omega
      · rw [if_neg e, if_neg e, putC_len1 d o (ho d List.mem_cons_self)]; omega
    · have := ho x (List.mem_cons_of_mem _ hx)
      by_cases e : d = c
      · rw [if_pos e]; exact this
      · rw [if_neg e, putC_mem, not_or]
        exact ⟨fun g => hu.1 (g ▸ hx), this⟩
theorem mv_l2 (A B : List Str) (x : Nat) (w z : Str) (ha : idx A (x : Int) = some w) (hb : idx B (x : Int) = some z) (hwz : w.length = z.length) (hw : w.length ≤ 100) (hn : w.Nodup) (ki : List Bool → Option (Str × Int)) (ks : Str → Option (Str × Int)) : ∀ (q y N : Nat) (l : List Bool) (o : Str), y + q = w.length → q + 1400 < N → Mrk l o → (∀ d ∈ w.drop y, d ∉ o) → o.length + q ≤ 1000 →
    ∃ l', Mrk l' (mvw o (w.drop y) (z.drop y)) ∧ i_MovedLetters_l2 ki (Layout.mk B) (x : Int) w N l (y : Int) = ki l' ∧ s_MovedLetters_l2 ks (Layout.mk A) (Layout.mk B) (x : Int) N o (y : Int) = ks (mvw o (w.drop y) (z.drop y)) := by
  have ha' : idx (Layout.mk A).rows (x : Int) = some w := ha
  have hb' : idx (Layout.mk B).rows (x : Int) = some z := hb
  intro q
  induction q with
  | zero =>
    intro y N l o hy hN hm hd ho
    obtain ⟨N, rfl⟩ := pos_fuel (show 0 < N by omega)
    rw [i_MovedLetters_l2, s_MovedLetters_l2, ha', Option.bind_some, decide_eq_false (by omega : ¬ (y : Int) < (w.length : Int)), cond_false, cond_false, List.drop_eq_nil_of_le (by omega), mvw_nil]
    exact ⟨l, hm, rfl, rfl⟩
  | succ q ih =>
    intro y N l o hy hN hm hd ho
    obtain ⟨N, rfl⟩ := pos_fuel (show 0 < N by omega)
    have hlt : y < w.length := by omega
    have hltz : y < z.length := by omega
    have hdw := List.drop_eq_getElem_cons hlt
    have hdz := List.drop_eq_getElem_cons hltz
    have hnd : (w.drop y).Nodup := hn.sublist (List.drop_sublist _ _)
    rw [hdw, List.nodup_cons] at hnd
    rw [hdw] at hd
    have hd0 := hd _ List.mem_cons_self
    obtain ⟨b, hbi⟩ := hm.idx w[y]
    rw [i_MovedLetters_l2, s_MovedLetters_l2, ha', Option.bind_some, decide_eq_true (by omega : (y : Int) < (w.length : Int)), cond_true, cond_true]
    simp only [withK_n]
    rw [hb']
    simp only [Option.bind_some]
    rw [idx_lt w y hlt, idx_lt z y hltz]
    simp only [Option.bind_some]
    rw [hbi]
    simp only [Option.bind_some]
    rw [w64_nat y (by omega), Int.toNat_natCast, hdw, hdz, mvw]
    by_cases e : w[y] = z[y]
    · have e1 : (w[y] != z[y]) = false := by rw [e]; simp
      have e2 : (z[y] != w[y]) = false := by rw [e]; simp
      rw [e1, e2, if_pos e, cond_false]
      exact ih (y + 1) N _ o (by omega) (by omega) (hm.off hd0) (fun d hdd => hd d (List.mem_cons_of_mem _ hdd)) (by omega)
    · have e1 : (w[y] != z[y]) = true := bne_iff_ne.2 e
      have e2 : (z[y] != w[y]) = true := bne_iff_ne.2 fun g => e g.symm
      rw [e1, e2, if_neg e, cond_true, sub1 w y hlt, Option.bind_some, s_put o w[y] (by omega) N (by omega), Option.bind_some]
      have := putC_len o w[y]
      exact ih (y + 1) N _ _ (by omega) (by omega) (hm.put w[y]) (fun d hdd => by
        rw [putC_mem, not_or]
        exact ⟨fun g => hnd.1 (g ▸ hdd), hd d (List.mem_cons_of_mem _ hdd)⟩) (by omega)
theorem mv_l1 (A B : List Str) (hA : A.length ≤ 10 ∧ ∀ w ∈ A, w.length ≤ 100) (hlen : A.map List.length = B.map List.length) (ki : List Bool → Option (Str × Int)) (ks : Str → Option (Str × Int)) : ∀ (q x N : Nat) (l : List Bool) (o : Str), x + q = A.length → q + 1700 < N → Mrk l o → (A.drop x).flatten.Nodup → (∀ d ∈ (A.drop x).flatten, d ∉ o) → o.length + 90 * q ≤ 900 → (∀ w ∈ A, w.length ≤ 90) →
    ∃ l', Mrk l' (mvw o (A.drop x).flatten (B.drop x).flatten) ∧ i_MovedLetters_l1 ki (Layout.mk A) (Layout.mk B) N l (x : Int) = ki l' ∧ s_MovedLetters_l1 ks (Layout.mk A) (Layout.mk B) N o (x : Int) = ks (mvw o (A.drop x).flatten (B.drop x).flatten) := by
  intro q
  induction q with
  | zero =>
    intro x N l o hx hN hm hn hd ho h90
    obtain ⟨N, rfl⟩ := pos_fuel (show 0 < N by omega)
    rw [i_MovedLetters_l1, s_MovedLetters_l1, decide_eq_false (by show ¬ (x : Int) < (A.length : Int); omega), cond_false, cond_false, List.drop_eq_nil_of_le (show A.length ≤ x by omega), List.flatten_nil, mvw_nil]
    exact ⟨l, hm, rfl, rfl⟩
  | succ q ih =>
    intro x N l o hx hN hm hn hd ho h90
    obtain ⟨N, rfl⟩ := pos_fuel (show 0 < N by omega)
    have hlt : x < A.length := by omega
    have hll : A.length = B.length := by simpa using congrArg List.length hlen
    have hltB : x < B.length := by omega
    have hwz : A[x].length = B[x].length := by
      have h1 : (A.map List.length)[x]? = (B.map List.length)[x]? := by rw [hlen]
      rw [List.getElem?_map, List.getElem?_map, List.getElem?_eq_getElem hlt, List.getElem?_eq_getElem hltB] at h1
      simpa using h1
    have hw9 := h90 _ (List.getElem_mem hlt)
    rw [List.drop_eq_getElem_cons hlt, List.flatten_cons] at hn hd
    rw [List.nodup_append] at hn
    rw [List.drop_eq_getElem_cons hlt, List.drop_eq_getElem_cons hltB, List.flatten_cons, List.flatten_cons, mvw_app _ _ _ _ _ hwz]
    have e1 : idx (Layout.mk A).rows (x : Int) = some A[x] := idx_lt A x hlt
    rw [i_MovedLetters_l1, s_MovedLetters_l1, decide_eq_true (by show (x : Int) < (A.length : Int); omega), cond_true, cond_true]
    simp only [withK_n]
    rw [e1, Option.bind_some, w64_nat x (by omega)]
    have l2 := fun ki ks => mv_l2 A B x A[x] B[x] (idx_lt A x hlt) (idx_lt B x hltB) hwz (by omega) hn.1 ki ks A[x].length 0 N l o (by omega) (by omega) hm (fun d g => hd d (List.mem_append_left _ g)) (by omega)
    simp only [List.drop_zero] at l2
    rw [show ((0 : Nat) : Int) = 0 from rfl] at l2
    obtain ⟨l', m1, m2, m3⟩ := l2 (fun l19 => i_MovedLetters_l1 ki (Layout.mk A) (Layout.mk B) N l19 ((x + 1 : Nat) : Int)) (fun o18 => s_MovedLetters_l1 ks (Layout.mk A) (Layout.mk B) N o18 ((x + 1 : Nat) : Int))
    have hle : (mvw o A[x] B[x]).length ≤ o.length + 90 := by
      rw [mvw_len _ _ _ hwz hn.1 fun d g => hd d (List.mem_append_left _ g)]
      have : ∀ u v : Str, df u v ≤ u.length := by
        intro u
        induction u with
        | nil => intro v; exact Nat.zero_le _
        | cons d u ihu =>
          intro v
          match v with
          | [] => exact Nat.zero_le _
          | c :: v => rw [df, List.length_cons]; have := ihu v; split <;> omega
      have := this A[x] B[x]
      omega
    obtain ⟨l'', k1, k2, k3⟩ := ih (x + 1) N l' (mvw o A[x] B[x]) (by omega) (by omega) m1 hn.2.1 (fun d g h => by
      rcases mvw_mem _ _ _ _ h with h | h
      · exact hd d (List.mem_append_right _ g) h
      · exact hn.2.2 d h d g rfl) (by omega) h90
    exact ⟨l'', k1, m2.trans k2, m3.trans k3⟩
def MV (A B : List Str) : Str := mvw [] A.flatten B.flatten
theorem moved_ok (A B : List Str) (h : Sm A B) (N : Nat) (hN : 3000 < N) :
    (withK (fun (l13 : List Bool) => (i_ascending N l13).bind fun r43 => some (r43, (0 : Int))) fun (kj14 : (List Bool) → Option (Str × Int)) => i_MovedLetters_l1 kj14 (Layout.mk A) (Layout.mk B) N (List.replicate 256 false) 0) = some (MV A B, 0) ∧
    (withK (fun (out12 : Str) => some (out12, (0 : Int))) fun (kj13 : Str → Option (Str × Int)) => s_MovedLetters_l1 kj13 (Layout.mk A) (Layout.mk B) N [] 0) = some (MV A B, 0) := by
  obtain ⟨hA, hB, hl, _⟩ := h
  have h4 := hA.1.2
  obtain ⟨l', m1, m2, m3⟩ := mv_l1 A B (V_b hA) hl (fun (l13 : List Bool) => (i_ascending N l13).bind fun r43 => some (r43, (0 : Int))) (fun (out12 : Str) => some (out12, (0 : Int))) A.length 0 N _ [] (by omega) (by omega) Mrk.nil (by rw [List.drop_zero]; exact hA.2.2) (fun _ _ g => by cases g) (by rw [List.length_nil]; omega) (fun w hw => by have := (hA.2.1 w hw).2.1; omega)
  rw [show ((0 : Nat) : Int) = 0 from rfl, List.drop_zero, List.drop_zero] at *
  rw [withK_n, withK_n, m2, m3, m1.asc N (by omega)]
  exact ⟨rfl, rfl⟩
end Go.Proofs.Ytllaacpkpofbiaa
