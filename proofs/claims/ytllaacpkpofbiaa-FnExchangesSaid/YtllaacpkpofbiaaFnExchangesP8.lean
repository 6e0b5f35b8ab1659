/-
  Plain lemmas on these functions. No conditions but those that each states.
-/
import Derived.Test.YtllaacpkpofbiaaFnExchangesP7
namespace Go.Proofs.Ytllaacpkpofbiaa
set_option linter.unusedVariables false
set_option linter.unusedSimpArgs false
/-! The plan of exchanges, and how long it is. -/
def fpN : Nat → Str → Str → List Str
  | 0, _, _ => []
  | _ + 1, [], _ => []
  | _ + 1, _ :: _, [] => []
  | n + 1, d :: u, c :: v => if d = c then fpN n u v else [d, c] :: fpN n (u.map (sw1 d c)) v
def fp (u v : Str) : List Str := fpN v.length u v
theorem fp_nil (u : Str) : fp u [] = [] := rfl
theorem fp_cons (d c : UInt8) (u v : Str) : fp (d :: u) (c :: v) = if d = c then fp u v else [d, c] :: fp (u.map (sw1 d c)) v := rfl
def df : Str → Str → Nat
  | d :: u, c :: v => (if d = c then 0 else 1) + df u v
  | _, _ => 0
theorem df_self : ∀ u : Str, df u u = 0
  | [] => rfl
  | d :: u => by rw [df, if_pos rfl, df_self u]
theorem df_zero : ∀ (u v : Str), u.length = v.length → df u v = 0 → u = v
  | [], [], _, _ => rfl
  | [], _ :: _, h, _ => by cases h
  | _ :: _, [], h, _ => by cases h
  | d :: u, c :: v, h, h0 => by
    rw [df] at h0
    by_cases e : d = c
    · rw [e, df_zero u v (by simpa using h) (by omega)]
    · rw [if_neg e] at h0; omega
theorem df_sw (d c : UInt8) (hdc : d ≠ c) : ∀ (u v : Str), u.length = v.length → d ∉ u → c ∉ v → df (u.map (sw1 d c)) v ≤ df u v ∧ df u v ≤ df (u.map (sw1 d c)) v + u.count c ∧ u.count c ≤ df u v
  | [], [], _, _, _ => ⟨Nat.le_refl _, Nat.zero_le _, Nat.le_refl _⟩
  | [], _ :: _, h, _, _ => by cases h
  | _ :: _, [], h, _, _ => by cases h
  | e :: u, f :: v, h, hd, hc => by
    rw [List.mem_cons, not_or] at hd hc
    obtain ⟨g1, g2, g3⟩ := df_sw d c hdc u v (by simpa using h) hd.2 hc.2
    rw [List.map_cons, df, df, List.count_cons]
    by_cases he : e = c
    · have e1 : (e == c) = true := by rw [he]; exact beq_self_eq_true c
      have : e ≠ f := fun g => hc.1 (he ▸ g)
      rw [if_neg this, if_pos e1]
      split <;> omega
    · have e1 : ¬ (e == c) = true := by rw [beq_iff_eq]; exact he
      have e2 : sw1 d c e = e := by unfold sw1; rw [if_neg fun g => hd.1 g.symm, if_neg he]
      rw [e2, if_neg e1]
      omega
theorem count_le {u : Str} (h : u.Nodup) (c : UInt8) : u.count c ≤ 1 := by
  induction u with
  | nil => exact Nat.zero_le _
  | cons d u ih =>
    rw [List.nodup_cons] at h
    rw [List.count_cons]
    by_cases e : d = c
    · have : u.count c = 0 := List.count_eq_zero.2 (e ▸ h.1)
      rw [this]; split <;> omega
    · have e1 : ¬ (d == c) = true := by rw [beq_iff_eq]; exact e
      rw [if_neg e1]; exact ih h.2
theorem nodup_sw {u : Str} (h : u.Nodup) (a b : UInt8) : (u.map (sw1 a b)).Nodup := by
  unfold List.Nodup
  rw [List.pairwise_map]
  exact h.imp fun hne e => hne (sw1_inj e)
theorem sub_sw {d c : UInt8} {u v : Str} (hd : d ∉ u) (hs : ∀ x ∈ v, x ∈ d :: u) (hc : c ∉ v) (hcu : c ∈ u) (hdc : d ≠ c) : ∀ x ∈ v, x ∈ u.map (sw1 d c) := by
  intro x hx
  have hxc : x ≠ c := fun e => hc (e ▸ hx)
  rcases List.mem_cons.1 (hs x hx) with e | e
  · refine List.mem_map.2 ⟨c, hcu, ?_⟩
    unfold sw1
    rw [if_neg fun g => hdc g.symm, if_pos rfl, e]
  · refine List.mem_map.2 ⟨x, e, ?_⟩
    unfold sw1
    rw [if_neg fun (g : x = d) => hd (g ▸ e), if_neg hxc]
theorem sub_back : ∀ (A B : Str), A.Nodup → (∀ x ∈ A, x ∈ B) → B.length ≤ A.length → ∀ x ∈ B, x ∈ A
  | [], B, _, _, h, x, hx => by rw [List.eq_nil_of_length_eq_zero (Nat.le_zero.1 h)] at hx; exact hx
  | a :: A, B, hn, hs, h, x, hx => by
    rw [List.nodup_cons] at hn
    by_cases e : x = a
    · rw [e]; exact List.mem_cons_self
    · have ha := hs a List.mem_cons_self
      refine List.mem_cons_of_mem _ (sub_back A (B.erase a) hn.2 (fun y hy => ?_) ?_ x ((List.mem_erase_of_ne e).2 hx))
      · exact (List.mem_erase_of_ne (fun (g : y = a) => hn.1 (g ▸ hy))).2 (hs y (List.mem_cons_of_mem _ hy))
      · rw [List.length_erase_of_mem ha]; rw [List.length_cons] at h; omega
theorem fp_len : ∀ (v u : Str), u.length = v.length → u.Nodup → v.Nodup → (∀ x ∈ v, x ∈ u) → (fp u v = [] ∨ (fp u v).length < df u v) ∧ df u v ≤ 2 * (fp u v).length
  | [], [], _, _, _, _ => ⟨.inl rfl, Nat.le_refl _⟩
  | [], _ :: _, h, _, _, _ => by cases h
  | _ :: _, [], h, _, _, _ => by cases h
  | c :: v, d :: u, h, hu, hv, hs => by
    rw [fp_cons, df]
    rw [List.nodup_cons] at hu hv
    by_cases e : d = c
    · rw [if_pos e, if_pos e, Nat.zero_add]
      refine fp_len v u (by simpa using h) hu.2 hv.2 fun x hx => ?_
      rcases List.mem_cons.1 (hs x (List.mem_cons_of_mem _ hx)) with g | g
      · exact absurd (g.trans e ▸ hx) hv.1
      · exact g
    · rw [if_neg e, if_neg e]
      have hcu : c ∈ u := (List.mem_cons.1 (hs c List.mem_cons_self)).resolve_left fun g => e g.symm
      have hl : u.length = v.length := by simpa using h
      obtain ⟨g1, g2, g3⟩ := df_sw d c e u v hl hu.1 hv.1
      have hc1 : 1 ≤ u.count c := List.count_pos_iff.2 hcu
      have hc2 := count_le hu.2 c
      obtain ⟨i1, i2⟩ := fp_len v (u.map (sw1 d c)) (by simpa using hl) (nodup_sw hu.2 d c) hv.2 (sub_sw hu.1 (fun x hx => hs x (List.mem_cons_of_mem _ hx)) hv.1 hcu e)
      rw [List.length_cons]
      refine ⟨.inr ?_, by omega⟩
      rcases i1 with i1 | i1
      · rw [i1]; show 0 + 1 < _; omega
      · omega
theorem fp_zero (u v : Str) (h : u.length = v.length) (hu : u.Nodup) (hv : v.Nodup) (hs : ∀ x ∈ v, x ∈ u) : (fp u v = [] ↔ df u v = 0) := by
  obtain ⟨h1, h2⟩ := fp_len v u h hu hv hs
  constructor
  · intro e; rw [e] at h2; exact Nat.le_zero.1 h2
  · intro e; rcases h1 with h1 | h1
    · exact h1
    · omega
theorem fp_le : ∀ (v u : Str), (fp u v).length ≤ v.length
  | [], u => Nat.le_refl _
  | c :: v, [] => Nat.zero_le _
  | c :: v, d :: u => by
    rw [fp_cons]
    split
    · have := fp_le v u; rw [List.length_cons]; omega
    · have := fp_le v (u.map (sw1 d c)); rw [List.length_cons, List.length_cons]; omega
end Go.Proofs.Ytllaacpkpofbiaa
