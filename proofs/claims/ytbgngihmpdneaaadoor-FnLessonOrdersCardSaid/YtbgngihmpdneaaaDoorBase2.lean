/-
  More rules by which a call is walked. No conditions.
-/
import Derived.Test.YtbgngihmpdneaaaDoorBase
namespace Go.Proofs.YtbgngihmpdneaaaDoor
set_option linter.unusedVariables false
set_option linter.unusedSimpArgs false
open Go.RowKit Go.ChangeShapes Go.WideShapes Go.ChangeAt

/-! Numerals: strconv.FormatInt at base 10. It reads a table of the library, which must lie as it was laid. -/

def Tab (P : Program) (nm : String) (w : World) (F : Nat → Prop) : Prop := Lib.TabIs P w nm .u64 Lib.pow10Tab ∧ ∃ g, P.globalNamed nm = some g ∧ F g

theorem Tab.mono {P : Program} {nm : String} {w w' : World} {F F' : Nat → Prop} (h : Tab P nm w F) (hF : ∀ b, F b → F' b) (hb : ∀ b, F b → w'.heap[b]? = w.heap[b]?) : Tab P nm w' F' := by
  obtain ⟨h1, g, hg, hFg⟩ := h
  refine ⟨?_, g, hg, hF g hFg⟩
  unfold Lib.TabIs World.var? at *
  rw [hg] at h1 ⊢
  simp only [Option.bind_some] at h1 ⊢
  rw [hb g hFg]
  exact h1
theorem Tab.st {P : Program} {nm : String} {c : Cx} {w : World} {L : List Asn} (h : Tab P nm c.w0 c.Fz) (hw : St c w L) : Tab P nm w (cx w).Fz :=
  h.mono (fun b hb => ⟨Nat.lt_of_lt_of_le hb.1 hw.chg.size, fun h => h⟩) (fun b hb => hw.frozen b hb)
theorem Tab.st1 {P : Program} {nm : String} {c : Cx} {S : Nat → Prop} {w : World} {L : List Asn} (h : Tab P nm c.w0 c.Fz) (hw : St c w L) (hS : ∀ b, S b → c.Ow b) : Tab P nm w (Cx.Fz ⟨w, S⟩) :=
  h.mono (fun _ hb => ⟨Nat.lt_of_lt_of_le hb.1 hw.chg.size, fun hs => Cx.apart hb (hS _ hs)⟩) (fun b hb => hw.frozen b hb)

def fmtI (a b : Int) : Option (List UInt8) := if b = 10 ∧ -9223372036854775808 ≤ a ∧ a ≤ 9223372036854775807 then some (Lib.itoa a) else none

theorem fmtI_ok {P : Program} {f : FuncId} {nm : String} (hF : ∀ n : Int, -9223372036854775808 ≤ n → n ≤ 9223372036854775807 → ∀ w, Lib.TabIs P w nm .u64 Lib.pow10Tab →
    Calls P f #[.int .i64 n, .int .i64 10] w fun e w' => e = .returned (.string ⟨(Lib.itoa n).toArray⟩) ∧ ∃ k os, w' = Sort.grow (w.drewN k) os)
    {a b : Int} {r : List UInt8} (hm : fmtI a b = some r) (w : World) (hT : Tab P nm w (cx w).Fz) : Calls P f #[.int .i64 a, .int .i64 b] w (Ret (cx w) (str r)) := by
  unfold fmtI at hm
  split at hm
  case isFalse => cases hm
  rename_i hb
  obtain rfl := Option.some.inj hm
  obtain ⟨rfl, h0, h1⟩ := hb
  refine (hF a h0 h1 w hT.1).mono fun e w' ⟨he, k, os, hw⟩ => ?_
  subst he hw
  refine ⟨_, [], rfl, ⟨rfl, rfl⟩, ⟨⟨rfl, rfl, rfl, ?_, fun b hb _ => ?_⟩, fun _ _ => False, fun _ _ h => by simp at h, fun _ _ _ hi => by simp at hi, fun _ _ hk => by simp at hk⟩⟩
  · simp [Sort.grow, World.drewN, cx]
  · show (w.heap ++ os)[b]? = w.heap[b]?
    exact Array.getElem?_append_left hb

/-! What is owned and only read: a view. -/

def vw {α : Type} (v : Value) (R : Rp α) (l : List α) : Asn where
  holds w S := RdS w S v R l ∧ ∀ b, S b → b < w.heap.size
  loc {w w' S} h k := ⟨h.1.mono (fun _ h => h) k, fun b hb => by
    have h1 := k b hb
    rw [Array.getElem?_eq_getElem (h.2 b hb)] at h1
    exact (Array.getElem?_eq_some_iff.1 h1).1⟩
  foot h b hb := h.2 b hb

theorem St.vw_rd {α : Type} {c : Cx} {w : World} {L : List Asn} {k : Nat} {v : Value} {R : Rp α} {l : List α} (hw : St c w L) (hk : L[k]? = some (vw v R l)) : RdS w (cx w).Fz v R l := by
  obtain ⟨S, hA, _⟩ := hw.at hk
  exact hA.1.mono (fun b hb => ⟨hA.2 b hb, fun h => h⟩) (fun _ _ => rfl)
theorem Beside.vw_rd {α : Type} {L : List Asn} {w : World} {S : Nat → Prop} {k j : Nat} {v : Value} {R : Rp α} {ls : List α} (h : Beside L k w S) (hj : L[j]? = some (vw v R ls)) (hne : Nat.beq j k = false) : RdS w (Cx.Fz ⟨w, S⟩) v R ls := by
  obtain ⟨T, hB, hd⟩ := h j _ hj (fun e => by subst e; simp at hne)
  exact hB.1.mono (fun b hb => ⟨hB.2 b hb, hd b hb⟩) (fun _ _ => rfl)

def vAt (v : Value) (j : Nat) : Value := match v with
  | .slice (some a) _ _ => .pointer (some (a.add j))
  | _ => .pointer none

section
variable {P : Program} {Q : Exit → Act → World → Prop} {c : Cx} {n : Nat} {m : List (Nat × Value)} {L : List Asn} {ops : Array Oper} {l : List Oper} {v : Value}
variable {d : Nat} {ty : TypeId} {ps : String} {af : Array Edge} {dd : Option Tmp} {gd : Option (Nat × Bool)}
variable {α : Type} {R : FRp α} {Rn : Rp α} {xs ys : List α} {e : TypeId}

theorem St.view {w : World} {k : Nat} (hw : St c w L) (hk : L[k]? = some (row v e R xs)) : St c w (L.set k (vw v R.rp xs)) := by
  obtain ⟨S, hA, _, hset⟩ := hw.set hk
  exact hset w _ S (Chg.refl _ _) ⟨YtbgngihmpdneaaaDoor.row_rd hA (fun _ h => h), fun b hb => (row v e R xs).foot hA b hb⟩ (fun b hb => .inl hb)
theorem PJ.view {x : Exit} (k : Nat) (hk : L[k]? = some (row v e R xs)) (h : PJ Q c n x m (L.set k (vw v R.rp xs))) : PJ Q c n x m L := fun a w ha hw => h a w ha (hw.view hk)

theorem SJ.sliceRow {x : Operand} {t e' : TypeId} {lo hi : Option Operand} {i j : Option Int} {r : List α} {k : Nat} (hr : sub xs (i.getD 0) (j.getD xs.length) = some r) (hk : L[k]? = some (row v e R xs)) (ht : ∀ w, (underlying t).run P w = .ok (.slice e') w) (hs : ∀ w, (sizeOf e').run P w = .ok R.size w)
    (hx : ev m x = some v) (hlo : evo m lo i) (hhi : evo m hi j) (hd : Nat.blt d n = true) (h : ∀ v', SJ P ops Q c n l ((d, v') :: m) (L.set k (vw v' R.rp r))) :
    SJ P ops Q c n (⟨some d, .slice t x lo hi none, ty, ps, af, none⟩ :: l) m L :=
  SJ.x (T := fun v' L' => L' = L.set k (vw v' R.rp r)) (fun a w ha hw => by
    obtain ⟨S, hA, _, hset⟩ := hw.set hk
    obtain ⟨v', hv, hy⟩ := RdS.part (i := i) (j := j) (YtbgngihmpdneaaaDoor.row_rd hA (fun _ h => h)) hr
    exact ⟨v', w, _, hy (C := fun _ => True) ht hs hx hlo hhi a ha w trivial, rfl, hset w _ S (Chg.refl _ _) ⟨hv, fun b hb => (row v e R xs).foot hA b hb⟩ (fun b hb => .inl hb)⟩) hd
    (fun v' L' hT => by subst hT; exact h v')

theorem SJ.sliceVw {x : Operand} {t e' : TypeId} {lo hi : Option Operand} {i j : Option Int} {r : List α} {k : Nat} (hr : sub xs (i.getD 0) (j.getD xs.length) = some r) (hk : L[k]? = some (vw v Rn xs)) (ht : ∀ w, (underlying t).run P w = .ok (.slice e') w) (hs : ∀ w, (sizeOf e').run P w = .ok Rn.size w)
    (hx : ev m x = some v) (hlo : evo m lo i) (hhi : evo m hi j) (hd : Nat.blt d n = true) (h : ∀ v', SJ P ops Q c n l ((d, v') :: m) (L.set k (vw v' Rn r))) :
    SJ P ops Q c n (⟨some d, .slice t x lo hi none, ty, ps, af, none⟩ :: l) m L :=
  SJ.x (T := fun v' L' => L' = L.set k (vw v' Rn r)) (fun a w ha hw => by
    obtain ⟨S, hA, _, hset⟩ := hw.set hk
    obtain ⟨v', hv, hy⟩ := RdS.part (i := i) (j := j) hA.1 hr
    exact ⟨v', w, _, hy (C := fun _ => True) ht hs hx hlo hhi a ha w trivial, rfl, hset w _ S (Chg.refl _ _) ⟨hv, hA.2⟩ (fun b hb => .inl hb)⟩) hd
    (fun v' L' hT => by subst hT; exact h v')

theorem y_lenRowV {x : Operand} {t e' : TypeId} {k : Nat} (hk : L[k]? = some (vw v Rn xs)) (ht : ∀ w, (underlying t).run P w = .ok (.slice e') w) (hx : ev m x = some v) :
    YldS P n m (fun w => St c w L) ⟨dd, .call { callee := .builtin .len, args := #[x], argTypes := #[t] }, ty, ps, af, gd⟩ (.int .i64 xs.length) :=
  .of_run fun a ha w hw => by
    obtain ⟨S, hA, _⟩ := hw.at hk
    obtain ⟨b, cap, rfl, _⟩ := hA.1
    simp [execOp, ha.ev hx, resolve, invoke, builtin, Builtin.len_, ht, goInt]

theorem y_ixRowV {s j : Operand} {t e' : TypeId} {k : Nat} {kd : IntKind} {i : Int} {x : α} (hk : L[k]? = some (vw v R.rp xs)) (ht : ∀ w, (underlying t).run P w = .ok (.slice e') w) (hs : ∀ w, (sizeOf e').run P w = .ok R.size w)
    (hx : ev m s = some v) (hj : ev m j = some (.int kd i)) (hi : idx xs i = some x) :
    YldS P n m (fun w => St c w L) ⟨dd, .indexAddr t s j, ty, ps, af, gd⟩ (vAt v (i.toNat * R.size)) :=
  .of_run fun a ha w hw => by
    obtain ⟨S, hA, _⟩ := hw.at hk
    obtain ⟨b, cap, rfl, _, _, h3⟩ := hA.1
    unfold idx at hi
    split at hi
    · rename_i h0
      obtain ⟨ad, cs, rfl, _⟩ := h3 _ x hi
      have hlt := lt_of_some hi
      simp [execOp, ha.ev hx, ha.ev hj, Instr.indexAt, asIntOf, ht, hs, h0, vAt]
      intro h4; omega
    · cases hi

theorem y_fldRV {x : Operand} {t i off ft sz k q o : Nat} {y : α} (h : FieldOk P t i off ft sz) (hk : L[k]? = some (vw v R.rp xs)) (hi : xs[q]? = some y) (hx : ev m x = some (vAt v (q * R.size + o))) :
    YldS P n m (fun w => St c w L) ⟨dd, .fieldAddr t x i, ty, ps, af, gd⟩ (vAt v (q * R.size + (o + off))) := fun a ha w hw => by
  obtain ⟨S, hA, _⟩ := hw.at hk
  obtain ⟨b, cap, rfl, _, _, h3⟩ := hA.1
  obtain ⟨ad, cs, rfl, _⟩ := h3 _ y hi
  have h2 := y_fld (P := P) (n := n) (C := fun w => St c w L) (dd := dd) (ty := ty) (ps := ps) (af := af) (gd := gd) (ad := ad.add (q * R.size + o)) h hx
  have h4 := h2 a ha w hw
  rw [add_of_add, Nat.add_assoc] at h4
  exact h4

theorem vw_cell {w : World} {S : Nat → Prop} {q off : Nat} {y : α} {u : Value} (h : RdS w S v R.rp xs) (hi : xs[q]? = some y) (hc : (R.enc y)[off]? = some u) : ∃ ad cap, v = .slice (some ad) xs.length cap ∧ w.cell? (ad.add (q * R.size + off)) = some u := by
  obtain ⟨b, cap, rfl, _, _, h3⟩ := h
  obtain ⟨ad, cs, rfl, hr, hat⟩ := h3 _ y hi
  have hr' : cs = R.enc y := hr
  subst hr'
  refine ⟨ad, cap, rfl, ?_⟩
  have := (hat off u hc).2
  rwa [add_of_add] at this

theorem y_loadRV {x : Operand} {t : TypeId} {k i off : Nat} {y : α} {u : Value} (hk : L[k]? = some (vw v R.rp xs)) (hg : ∀ w, (isAgg t).run P w = .ok false w) (hx : ev m x = some (vAt v (i * R.size + off))) (hi : xs[i]? = some y)
    (hc : (R.enc y)[off]? = some u) : YldS P n m (fun w => St c w L) ⟨dd, .load t x, ty, ps, af, gd⟩ u :=
  .of_run fun a ha w hw => by
    obtain ⟨S, hA, _⟩ := hw.at hk
    obtain ⟨ad, cap, rfl, h3⟩ := vw_cell hA.1 hi hc
    simp [execOp, ha.ev hx, Instr.loadAt, Instr.sureAddr, loadVar, hg, h3, vAt]

theorem y_loadRNV {x : Operand} {t : TypeId} {k i off : Nat} {y : α} {us : List Value} (hk : L[k]? = some (vw v R.rp xs)) (hg : ∀ w, (isAgg t).run P w = .ok true w) (hs : ∀ w, (sizeOf t).run P w = .ok us.length w)
    (hx : ev m x = some (vAt v (i * R.size + off))) (hi : xs[i]? = some y) (hc : ((R.enc y).drop off).take us.length = us) : YldS P n m (fun w => St c w L) ⟨dd, .load t x, ty, ps, af, gd⟩ (.agg us.toArray) :=
  .of_run fun a ha w hw => by
    obtain ⟨S, hA, _⟩ := hw.at hk
    obtain ⟨b, cap, rfl, h1, h2, h3⟩ := id hA.1
    obtain ⟨ad, cs, rfl, _, _⟩ := h3 _ y hi
    have h4 := run_loadCellsFrom_at P w (ad.add (i * R.size + off)) us 0 #[] (fun j u hu => by
      rw [← hc, List.getElem?_take] at hu
      split at hu
      · rw [List.getElem?_drop] at hu
        obtain ⟨ad', cap', he, h5⟩ := vw_cell hA.1 hi hu
        simp at he
        obtain ⟨rfl, _⟩ := he
        rw [add_of_add, Nat.zero_add, Nat.add_assoc]; exact h5
      · cases hu)
    simp [execOp, ha.ev hx, Instr.loadAt, Instr.sureAddr, loadVar, hg, hs, loadCells, h4, vAt]
end

/-! Arrays that are handed back, and arrays whose length must be asked. -/
def chkA {α : Type} (q : Nat) (l : List α) : Option (List α) := if l.length = q then some l else none
theorem chkA_len {α : Type} {q : Nat} {l x : List α} (h : chkA q l = some x) : l.length = q := by
  unfold chkA at h
  split at h
  · assumption
  · cases h
theorem PJ.boxA {Q : Exit → Act → World → Prop} {c : Cx} {n : Nat} {m : List (Nat × Value)} {L : List Asn} {x : Exit} {α : Type} {R : FRp α} {xs : List α} {t : TypeId} {g q : Nat} (k : Nat) (hk : L[k]? = some (row (av g q) t R xs))
    (h : xs.length = q → PJ Q c n x m (L.set k (box g t (encs R xs)))) : PJ Q c n x m L := fun a w ha hw => by
  obtain ⟨S, hA, _, hset⟩ := hw.set hk
  have hq := av_len hA
  refine h hq.symm a w ha (hset w _ S (Chg.refl _ _) ?_ (fun b hb => .inl hb))
  rcases hA.1.2 with ⟨hv, _⟩ | ⟨g', cap, cur, hv, _, hgg, hc1, hc2, hcs, htake⟩
  · unfold av at hv; cases hv
  · unfold av at hv
    injection hv with e1 e2 e3
    injection e1 with e1
    injection e1 with e1
    subst e1 e3
    have hfull : cur.toList = encs R xs := by
      rw [← htake, List.take_of_length_le (by rw [Array.length_toList, hcs, hq]; exact Nat.le_refl _)]
    refine ⟨?_, fun b => (hA.2 b).trans (by unfold av; simp [Value.ownBlock]; exact eq_comm)⟩
    rw [← hfull, Array.toArray_toList]
    exact hgg

/-! Two resources as one. -/
def star (A B : Asn) : Asn where
  holds w S := ∃ S1 S2 : Nat → Prop, A.holds w S1 ∧ B.holds w S2 ∧ (∀ b, S1 b → ¬ S2 b) ∧ ∀ b, S b ↔ (S1 b ∨ S2 b)
  loc h k := by
    obtain ⟨S1, S2, h1, h2, h3, h4⟩ := h
    exact ⟨S1, S2, A.loc h1 (fun b hb => k b ((h4 b).2 (.inl hb))), B.loc h2 (fun b hb => k b ((h4 b).2 (.inr hb))), h3, h4⟩
  foot h b hb := by
    obtain ⟨S1, S2, h1, h2, h3, h4⟩ := h
    rcases (h4 b).1 hb with hb | hb
    · exact A.foot h1 b hb
    · exact B.foot h2 b hb

theorem St.unstar {c : Cx} {w : World} {A B : Asn} {L : List Asn} (h : St c w (star A B :: L)) : St c w (A :: B :: L) := by
  obtain ⟨hb, fp, h1⟩ := h
  obtain ⟨S1, S2, hA, hB, hd, hS⟩ := h1.holds 0 (star A B) rfl
  have h0 : 0 < (star A B :: L).length := by simp
  refine ⟨hb, fun i => match i with | 0 => S1 | 1 => S2 | i + 2 => fp (i + 1), ⟨fun k C hk => ?_, fun i j b hi hj hib hjb => ?_, fun k b hk hkb => ?_⟩⟩
  · match k with
    | 0 => simp at hk; subst hk; exact hA
    | 1 => simp at hk; subst hk; exact hB
    | k + 2 => exact h1.holds (k + 1) C (by simpa using hk)
  · have f1 : ∀ b, S1 b → fp 0 b := fun b hb => (hS b).2 (.inl hb)
    have f2 : ∀ b, S2 b → fp 0 b := fun b hb => (hS b).2 (.inr hb)
    simp only [List.length_cons] at hi hj
    have hl : ∀ q, q + 2 < L.length + 1 + 1 → q + 1 < (star A B :: L).length := fun q hq => by simp; omega
    match i, j with
    | 0, 0 => rfl
    | 1, 1 => rfl
    | 0, 1 => exact (hd b hib hjb).elim
    | 1, 0 => exact (hd b hjb hib).elim
    | 0, j + 2 => have := h1.dis 0 (j + 1) b h0 (hl j hj) (f1 b hib) hjb; omega
    | 1, j + 2 => have := h1.dis 0 (j + 1) b h0 (hl j hj) (f2 b hib) hjb; omega
    | i + 2, 0 => have := h1.dis (i + 1) 0 b (hl i hi) h0 hib (f1 b hjb); omega
    | i + 2, 1 => have := h1.dis (i + 1) 0 b (hl i hi) h0 hib (f2 b hjb); omega
    | i + 2, j + 2 => have := h1.dis (i + 1) (j + 1) b (hl i hi) (hl j hj) hib hjb; omega
  · simp only [List.length_cons] at hk
    match k with
    | 0 => exact h1.own 0 b h0 ((hS b).2 (.inl hkb))
    | 1 => exact h1.own 0 b h0 ((hS b).2 (.inr hkb))
    | k + 2 => exact h1.own (k + 1) b (by simp; omega) hkb

theorem St.star {c : Cx} {w : World} {A B : Asn} {L : List Asn} (h : St c w (A :: B :: L)) : St c w (star A B :: L) := by
  obtain ⟨hb, fp, h1⟩ := h
  have h0 : 0 < (A :: B :: L).length := by simp
  have h10 : 1 < (A :: B :: L).length := by simp
  refine ⟨hb, fun i => match i with | 0 => fun b => fp 0 b ∨ fp 1 b | i + 1 => fp (i + 2), ⟨fun k C hk => ?_, fun i j b hi hj hib hjb => ?_, fun k b hk hkb => ?_⟩⟩
  · match k with
    | 0 =>
      simp at hk; subst hk
      exact ⟨fp 0, fp 1, h1.holds 0 A rfl, h1.holds 1 B rfl, fun b ha hb => by have := h1.dis 0 1 b h0 h10 ha hb; omega, fun b => Iff.rfl⟩
    | k + 1 => exact h1.holds (k + 2) C (by simpa using hk)
  · simp only [List.length_cons] at hi hj
    have hl : ∀ q, q + 1 < L.length + 1 → q + 2 < (A :: B :: L).length := fun q hq => by simp; omega
    match i, j with
    | 0, 0 => rfl
    | 0, j + 1 =>
      rcases hib with hib | hib
      · have := h1.dis 0 (j + 2) b h0 (hl j hj) hib hjb; omega
      · have := h1.dis 1 (j + 2) b h10 (hl j hj) hib hjb; omega
    | i + 1, 0 =>
      rcases hjb with hjb | hjb
      · have := h1.dis (i + 2) 0 b (hl i hi) h0 hib hjb; omega
      · have := h1.dis (i + 2) 1 b (hl i hi) h10 hib hjb; omega
    | i + 1, j + 1 => have := h1.dis (i + 2) (j + 2) b (hl i hi) (hl j hj) hib hjb; omega
  · simp only [List.length_cons] at hk
    match k with
    | 0 =>
      rcases hkb with hkb | hkb
      · exact h1.own 0 b h0 hkb
      · exact h1.own 1 b h10 hkb
    | k + 1 => exact h1.own (k + 2) b (by simp; omega) hkb

section
variable {P : Program} {Q : Exit → Act → World → Prop} {c : Cx} {n : Nat} {m : List (Nat × Value)} {L L' : List Asn} {ops : Array Oper} {l : List Oper} {v : Value} {A B : Asn}
theorem SJ.sel (is : List Nat) (hs : Sel is L L') (h : SJ P ops Q c n l m L') : SJ P ops Q c n l m L := fun a w ha hw => h a w ha (hw.sel hs)
theorem SJ.star (h : SJ P ops Q c n l m (star A B :: L)) : SJ P ops Q c n l m (A :: B :: L) := fun a w ha hw => h a w ha hw.star
theorem SJ.unstar (h : SJ P ops Q c n l m (A :: B :: L)) : SJ P ops Q c n l m (YtbgngihmpdneaaaDoor.star A B :: L) := fun a w ha hw => h a w ha hw.unstar
theorem WJ.unstar {z : Code} (h : WJ P Q c n z m (A :: B :: L)) : WJ P Q c n z m (YtbgngihmpdneaaaDoor.star A B :: L) := fun a w ha hw => h a w ha hw.unstar
theorem PJ.star {e : Exit} (h : PJ Q c n e m (star A B :: L)) : PJ Q c n e m (A :: B :: L) := fun a w ha hw => h a w ha hw.star

/-- a row that is owned is one cell as a value -/
theorem row_cells {α : Type} {t : TypeId} {R : FRp α} {xs : List α} {w : World} {S : Nat → Prop} (h : (row v t R xs).holds w S) : v.cells.toList = [v] ∧ v.oneCell' = true := by
  obtain ⟨a, cap, hv⟩ := row_lt h
  subst hv
  exact ⟨rfl, rfl⟩
theorem SJ.rowCells {α : Type} {t : TypeId} {R : FRp α} {xs : List α} (k : Nat) (hk : L[k]? = some (row v t R xs)) (h : v.cells.toList = [v] ∧ v.oneCell' = true → SJ P ops Q c n l m L) : SJ P ops Q c n l m L := fun a w ha hw => by
  obtain ⟨S, hA, _⟩ := hw.at hk
  exact h (row_cells hA) a w ha hw
theorem PJ.rowCells {α : Type} {e : Exit} {t : TypeId} {R : FRp α} {xs : List α} (k : Nat) (hk : L[k]? = some (row v t R xs)) (h : v.cells.toList = [v] ∧ v.oneCell' = true → PJ Q c n e m L) : PJ Q c n e m L := fun a w ha hw => by
  obtain ⟨S, hA, _⟩ := hw.at hk
  exact h (row_cells hA) a w ha hw
end
theorem RdS.one1 {α : Type} {w : World} {F : Nat → Prop} {v : Value} {R : Rp α} {l : List α} (h : RdS w F v R l) : v.oneCell' = true := by
  obtain ⟨a, c, rfl, _⟩ := h
  rfl
theorem PJ.fin {P : Program} {fn : Func} {R : Ending → World → Prop} {c : Cx} {n : Nat} {m : List (Nat × Value)} {L : List Asn} (h : PJ (bodyPost P fn R) c n .ret m L) : PJ (bodyPost P fn R) c n .normal m L := h

/-! Arrays written out; parts of a row that stays; shifts; rows of other kinds as one cell. -/
def slcV (v : Value) (lo hi size : Nat) : Value := match v with
  | .slice a _ cap => .slice (if cap = lo then a else a.map (·.add (lo * size))) (hi - lo) (cap - lo)
  | v => v
theorem RdS.slc {α : Type} {R : Rp α} {w : World} {F : Nat → Prop} {v : Value} {l r : List α} {i j : Option Int} (h : RdS w F v R l) (hr : sub l (i.getD 0) (j.getD l.length) = some r) :
    RdS w F (slcV v (i.getD 0).toNat (j.getD l.length).toNat R.size) R r := by
  obtain ⟨a, cap, rfl, hc1, hc2, h3⟩ := h
  unfold sub at hr
  split at hr
  case isFalse => cases hr
  rename_i hb
  obtain rfl := Option.some.inj hr
  refine ⟨if cap = (i.getD 0).toNat then a else a.map (·.add ((i.getD 0).toNat * R.size)), cap - (i.getD 0).toNat, ?_, ?_, by omega, fun q x hq => ?_⟩
  · unfold slcV; congr 1; simp; omega
  · simp; omega
  · have hq1 := lt_of_some hq
    simp at hq1
    rw [List.getElem?_take, if_pos (by omega), List.getElem?_drop] at hq
    obtain ⟨ad, cs, rfl, hrd, hat⟩ := h3 _ x hq
    rw [if_neg (by omega)]
    refine ⟨_, cs, rfl, hrd, ?_⟩
    rw [add_of_add, ← Nat.add_mul]
    exact hat
theorem RdS.slc_yld {α : Type} {R : Rp α} {w : World} {F : Nat → Prop} {v : Value} {l r : List α} {i j : Option Int} (h : RdS w F v R l) (hr : sub l (i.getD 0) (j.getD l.length) = some r) {P : Program} {n : Nat} {m : List (Nat × Value)} {d : Option Tmp} {ty : TypeId} {ps : String} {af : Array Edge} {gd : Option (Nat × Bool)} {x : Operand} {lo hi : Option Operand} {t e : TypeId}
    (ht : ∀ w, (underlying t).run P w = .ok (.slice e) w) (hs : ∀ w, (sizeOf e).run P w = .ok R.size w) (hx : ev m x = some v) (hlo : evo m lo i) (hhi : evo m hi j) :
    YldS P n m (fun _ => True) ⟨d, .slice t x lo hi none, ty, ps, af, gd⟩ (slcV v (i.getD 0).toNat (j.getD l.length).toNat R.size) := by
  obtain ⟨a, cap, rfl, hc1, hc2, h3⟩ := h
  unfold sub at hr
  split at hr
  case isFalse => cases hr
  rename_i hb
  refine .of_run fun ac ha w _ => ?_
  have hbd := run_bounds (P := P) (w := w) ha true l.length cap hlo hhi hc1 hb
  simp [execOp, ha.ev hx, Instr.sliceAt, Instr.slice, ht, hs, hbd, slcV]

section
variable {P : Program} {Q : Exit → Act → World → Prop} {c : Cx} {n : Nat} {m : List (Nat × Value)} {L L' : List Asn} {ops : Array Oper} {l : List Oper} {v : Value}
variable {d : Nat} {ty : TypeId} {ps : String} {af : Array Edge} {dd : Option Tmp} {gd : Option (Nat × Bool)}
variable {α : Type} {R : FRp α} {Rn : Rp α} {xs ys : List α} {e : TypeId}
theorem y_slcRow {x : Operand} {t e' : TypeId} {lo hi : Option Operand} {i j : Option Int} {r : List α} {k : Nat} (hr : sub xs (i.getD 0) (j.getD xs.length) = some r) (hk : L[k]? = some (row v e R xs)) (ht : ∀ w, (underlying t).run P w = .ok (.slice e') w) (hs : ∀ w, (sizeOf e').run P w = .ok R.size w)
    (hx : ev m x = some v) (hlo : evo m lo i) (hhi : evo m hi j) : YldS P n m (fun w => St c w L) ⟨dd, .slice t x lo hi none, ty, ps, af, gd⟩ (slcV v (i.getD 0).toNat (j.getD xs.length).toNat R.size) := fun a ha w hw =>
  RdS.slc_yld (hw.row_rd hk) hr ht hs hx hlo hhi a ha w trivial
theorem y_slcVw {x : Operand} {t e' : TypeId} {lo hi : Option Operand} {i j : Option Int} {r : List α} {k : Nat} (hr : sub xs (i.getD 0) (j.getD xs.length) = some r) (hk : L[k]? = some (vw v Rn xs)) (ht : ∀ w, (underlying t).run P w = .ok (.slice e') w) (hs : ∀ w, (sizeOf e').run P w = .ok Rn.size w)
    (hx : ev m x = some v) (hlo : evo m lo i) (hhi : evo m hi j) : YldS P n m (fun w => St c w L) ⟨dd, .slice t x lo hi none, ty, ps, af, gd⟩ (slcV v (i.getD 0).toNat (j.getD xs.length).toNat Rn.size) := fun a ha w hw =>
  RdS.slc_yld (hw.vw_rd hk) hr ht hs hx hlo hhi a ha w trivial

theorem vw_cells {w : World} {S : Nat → Prop} (h : (vw v Rn xs).holds w S) : v.cells.toList = [v] ∧ v.oneCell' = true := by
  obtain ⟨a, cap, hv, _⟩ := h.1
  subst hv
  exact ⟨rfl, rfl⟩
theorem SJ.vwCells (k : Nat) (hk : L[k]? = some (vw v Rn xs)) (h : v.cells.toList = [v] ∧ v.oneCell' = true → SJ P ops Q c n l m L) : SJ P ops Q c n l m L := fun a w ha hw => by
  obtain ⟨S, hA, _⟩ := hw.at hk
  exact h (vw_cells hA) a w ha hw

theorem y_buildA {t e' : TypeId} {k : Nat} {z : Array Value} {os : List Operand} {parts : Array (Nat × Operand)} {us : List Value} (xs : List α) (ht : ∀ w, (underlying t).run P w = .ok (.array k e') w) (hz : ∀ w, (zeroValue t).run P w = .ok (.agg z) w) (hs : ∀ w, (sizeOf e').run P w = .ok R.size w)
    (hp : parts = ((os.zipIdx 0).map fun p => (p.2, p.1)).toArray) (hos : evs m os = some us) (hxs : us.map (fun u => u.cells.toList) = xs.map R.enc) (hzl : z.size = xs.length * R.size) {C : World → Prop} :
    YldS P n m C ⟨dd, .build t parts, ty, ps, af, gd⟩ (.agg (encs R xs).toArray) :=
  .of_run fun a ha w _ => by
    have hev := ha.evs hos
    have hux : us.length = xs.length := by simpa using congrArg List.length hxs
    have hu : ∀ u ∈ us, u.cells.size = R.size := fun u hu => by
      have : u.cells.toList ∈ xs.map R.enc := by rw [← hxs]; exact List.mem_map_of_mem hu
      obtain ⟨x, _, hx⟩ := List.mem_map.1 this
      have := R.len x
      rw [hx] at this
      simpa using this
    have hf := fill_seq R.size us 0 z.toList hu (by rw [Nat.zero_add, hux]; simp [hzl])
    have hparts : parts.map (fun p => (p.1, a.eval p.2)) = ((us.zipIdx 0).map fun p => (p.2, p.1)).toArray := by
      subst hp
      rw [← hev]
      simp [List.zipIdx_map, Function.comp_def]
    rw [Array.toArray_toList] at hf
    have hput : putL z.toList (0 * R.size) (us.flatMap fun u => u.cells.toList) = encs R xs := by
      rw [encs_flat R us xs hxs]
      unfold putL
      rw [Nat.zero_mul, List.take_zero, List.nil_append, Nat.zero_add, List.drop_of_length_le (by rw [length_encs, Array.length_toList, hzl]; exact Nat.le_refl _), List.append_nil]
    rw [hput] at hf
    simp only [execOp]
    rw [show (parts.map fun x => match x with | (i, x) => (i, a.eval x)) = ((us.zipIdx 0).map fun p => (p.2, p.1)).toArray from hparts]
    have hcells : (Value.agg z).cells = z := rfl
    simp only [Instr.build, Sem.run_bind, hz, ht, hs, Result.andThen_ok, hcells, hf, Sem.run_pure]

def ishl (a b : Int) : Int := IntKind.i64.wrap (a * 2 ^ (min b.toNat 64))
theorem y_shl {x y : Operand} {xt yt : TypeId} {i : Int} {k : IntKind} {j : Int} (hx : ev m x = some (.int .i64 i)) (hy : ev m y = some (.int k j)) (hr : decide (j < 0) = false) {C : World → Prop} :
    YldS P n m C ⟨dd, .binOp .shl xt x y yt, ty, ps, af, gd⟩ (.int .i64 (ishl i j)) :=
  .of_run fun a ha w _ => by
    have hj : ¬ j < 0 := of_decide_eq_false hr
    simp [execOp, ha.ev hx, ha.ev hy, eqGuard, binOp, Op.shift, hj, ishl, IntKind.bits]
def shlO (a b : Int) : Option Int := if b < 0 then none else some (ishl a b)
theorem y_shl' {x y : Operand} {xt yt : TypeId} {i r : Int} {k : IntKind} {j : Int} (h : shlO i j = some r) (hx : ev m x = some (.int .i64 i)) (hy : ev m y = some (.int k j)) {C : World → Prop} :
    YldS P n m C ⟨dd, .binOp .shl xt x y yt, ty, ps, af, gd⟩ (.int .i64 r) := by
  unfold shlO at h
  split at h
  · cases h
  · rename_i hj
    obtain rfl := Option.some.inj h
    exact y_shl hx hy (decide_eq_false hj)
def shrO (a b : Int) : Option Int := if b < 0 then none else some (a.fdiv (2 ^ (min b.toNat 64)))
theorem y_shr' {x y : Operand} {xt yt : TypeId} {i r : Int} {k : IntKind} {j : Int} (h : shrO i j = some r) (hx : ev m x = some (.int .i64 i)) (hy : ev m y = some (.int k j)) {C : World → Prop} :
    YldS P n m C ⟨dd, .binOp .shr xt x y yt, ty, ps, af, gd⟩ (.int .i64 r) := by
  unfold shrO at h
  split at h
  · cases h
  · rename_i hj
    obtain rfl := Option.some.inj h
    exact .of_run fun a ha w _ => by simp [execOp, ha.ev hx, ha.ev hy, eqGuard, binOp, Op.shift, hj, IntKind.bits]
def iand (a b : Int) : Int := IntKind.i64.wrap ((BitVec.ofInt 64 a &&& BitVec.ofInt 64 b).toNat : Int)
def ior (a b : Int) : Int := IntKind.i64.wrap ((BitVec.ofInt 64 a ||| BitVec.ofInt 64 b).toNat : Int)
theorem y_and {x y : Operand} {xt yt : TypeId} {i j : Int} (hx : ev m x = some (.int .i64 i)) (hy : ev m y = some (.int .i64 j)) {C : World → Prop} :
    YldS P n m C ⟨dd, .binOp .and xt x y yt, ty, ps, af, gd⟩ (.int .i64 (iand i j)) :=
  .of_run fun a ha w _ => by
    simp only [execOp, ha.ev hx, ha.ev hy, eqGuard, binOp, Op.intBits, iand]
    simp
    rfl
theorem y_or {x y : Operand} {xt yt : TypeId} {i j : Int} (hx : ev m x = some (.int .i64 i)) (hy : ev m y = some (.int .i64 j)) {C : World → Prop} :
    YldS P n m C ⟨dd, .binOp .or xt x y yt, ty, ps, af, gd⟩ (.int .i64 (ior i j)) :=
  .of_run fun a ha w _ => by
    simp only [execOp, ha.ev hx, ha.ev hy, eqGuard, binOp, Op.intBits, ior]
    simp
    rfl
end
theorem St.slc_rd {α : Type} {c : Cx} {w : World} {L : List Asn} {k : Nat} {v : Value} {t : TypeId} {R : FRp α} {xs r : List α} {i j : Option Int} (hw : St c w L) (hk : L[k]? = some (row v t R xs)) (hr : sub xs (i.getD 0) (j.getD xs.length) = some r) :
    RdS w (cx w).Fz (slcV v (i.getD 0).toNat (j.getD xs.length).toNat R.size) R.rp r := RdS.slc (hw.row_rd hk) hr
theorem St.slcV_rd {α : Type} {c : Cx} {w : World} {L : List Asn} {k : Nat} {v : Value} {R : Rp α} {xs r : List α} {i j : Option Int} (hw : St c w L) (hk : L[k]? = some (vw v R xs)) (hr : sub xs (i.getD 0) (j.getD xs.length) = some r) :
    RdS w (cx w).Fz (slcV v (i.getD 0).toNat (j.getD xs.length).toNat R.size) R r := RdS.slc (hw.vw_rd hk) hr
theorem Beside.slc_rd {α : Type} {L : List Asn} {w : World} {S : Nat → Prop} {k j' : Nat} {v : Value} {t : TypeId} {R : FRp α} {xs r : List α} {i j : Option Int} (h : Beside L k w S) (hj : L[j']? = some (row v t R xs)) (hne : Nat.beq j' k = false) (hr : sub xs (i.getD 0) (j.getD xs.length) = some r) :
    RdS w (Cx.Fz ⟨w, S⟩) (slcV v (i.getD 0).toNat (j.getD xs.length).toNat R.size) R.rp r := RdS.slc (h.row_rd hj hne) hr
theorem RdS.nil0 {α : Type} {w : World} {F : Nat → Prop} {R : Rp α} : RdS w F (.slice none 0 0) R ([] : List α) := ⟨none, 0, rfl, Nat.le_refl _, Nat.zero_le _, fun i x h => by simp at h⟩
theorem RdS.elemA {α : Type} {R : Rp α} {w0 : World} {F : Nat → Prop} {l : List α} {ad0 : Addr} {q : Nat} (h : RdS w0 F (.slice (some ad0) q q) R l) {i : Int} {x : α} (hi : idx l i = some x) :
    ∃ ad cs, R.rd w0 F cs x ∧ At w0 F ad cs ∧ ∀ {P : Program} {n : Nat} {m : List (Nat × Value)} {C : World → Prop} {d : Option Tmp} {ty : TypeId} {ps : String} {af : Array Edge} {gd : Option (Nat × Bool)} {s j : Operand} {t e : TypeId} {k : IntKind},
      (∀ w, (underlying t).run P w = .ok (.array q e) w) → (∀ w, (sizeOf e).run P w = .ok R.size w) → ev m s = some (.pointer (some ad0)) → ev m j = some (.int k i) →
      YldS P n m C ⟨d, .indexAddr t s j, ty, ps, af, gd⟩ (.pointer (some ad)) := by
  obtain ⟨a, c, he, _, _, h3⟩ := h
  cases he
  unfold idx at hi
  split at hi
  · rename_i h0
    obtain ⟨ad, cs, ha0, hr, hat⟩ := h3 _ x hi
    cases ha0
    have hlt : i.toNat < l.length := (List.getElem?_eq_some_iff.1 hi).1
    refine ⟨_, cs, hr, hat, fun ht hs hsv hj => .of_run fun a ha w _ => ?_⟩
    simp [execOp, ha.ev hsv, ha.ev hj, Instr.indexAt, asIntOf, ht, hs, h0, Instr.sureAddr]
    have h2 : i < (l.length : Int) := by omega
    intro h4; omega
  · cases hi
section
variable {P : Program} {Q : Exit → Act → World → Prop} {c : Cx} {n : Nat} {m : List (Nat × Value)} {L : List Asn} {ops : Array Oper} {l : List Oper} {v : Value} {α : Type} {R : FRp α} {xs : List α} {e : TypeId}
theorem St.viewM {w : World} {k : Nat} (hw : St c w L) (hk : L[k]? = some (rowM v e R xs)) : St c w (L.set k (vw v R.rp xs)) :=
  by
  obtain ⟨S, hA, _, hset⟩ := hw.set hk
  exact hset w _ S (Chg.refl _ _) ⟨YtbgngihmpdneaaaDoor.rowM_rd hA (fun _ h => h), fun b hb => (rowM v e R xs).foot hA b hb⟩ (fun b hb => .inl hb)
theorem SJ.viewM (k : Nat) (hk : L[k]? = some (rowM v e R xs)) (h : SJ P ops Q c n l m (L.set k (vw v R.rp xs))) : SJ P ops Q c n l m L := fun a w ha hw => h a w ha (hw.viewM hk)
end
/-! Rows of rows: the outer row's cells as raw values, and what they read as. -/
def Raw (n : Nat) : Type := {l : List Value // l.length = n ∧ ∀ u ∈ l, u.oneCell' = true}
def fRaw (n : Nat) (h : 0 < n) : FRp (Raw n) := ⟨n, fun x => x.1, fun x => x.2.1, h, fun x => x.2.2⟩
def fRaw1 : FRp (Raw 1) := fRaw 1 Nat.zero_lt_one
def mkRaw1 (v : Value) (h : v.oneCell' = true) : Raw 1 := ⟨[v], rfl, fun u hu => by rw [List.mem_singleton.1 hu]; exact h⟩
def raw0 (y : Raw 1) : Value := y.1.headD undef
theorem raw_eq (y : Raw 1) : y.1 = [raw0 y] := by
  obtain ⟨l, h, _⟩ := y
  match l, h with
  | [v], _ => rfl
theorem raw_get (y : Raw 1) : (fRaw1.enc y)[0]? = some (raw0 y) := by
  show y.1[0]? = _
  rw [raw_eq y]; rfl
/-- what raw cells read as, and the blocks that they reach -/
def inn {α : Type} {n : Nat} (R : Rp α) (vs : List (Raw n)) (ll : List α) : Asn where
  holds w S := (vs.length = ll.length ∧ ∀ (i : Nat) (u : Raw n) (x : α), vs[i]? = some u → ll[i]? = some x → R.rd w S u.1 x) ∧ ∀ b, S b → b < w.heap.size
  loc {w w' S} h k := ⟨⟨h.1.1, fun i u x hu hx => R.mono (h.1.2 i u x hu hx) (fun _ h => h) k⟩, fun b hb => by
    have h1 := k b hb
    rw [Array.getElem?_eq_getElem (h.2 b hb)] at h1
    exact (Array.getElem?_eq_some_iff.1 h1).1⟩
  foot h b hb := h.2 b hb
theorem inn_idx {α : Type} {n : Nat} {vs : List (Raw n)} {ll : List α} {i : Int} {x : α} (hl : vs.length = ll.length) (hx : idx ll i = some x) : ∃ y, idx vs i = some y := by
  unfold idx at hx ⊢
  split at hx
  · rename_i h0
    rw [if_pos h0]
    have := lt_of_some hx
    exact ⟨_, List.getElem?_eq_getElem (by omega)⟩
  · cases hx
section
variable {P : Program} {Q : Exit → Act → World → Prop} {c : Cx} {n : Nat} {m : List (Nat × Value)} {L L' : List Asn} {ops : Array Oper} {l : List Oper} {v : Value}
variable {d : Nat} {ty : TypeId} {ps : String} {af : Array Edge} {dd : Option Tmp} {gd : Option (Nat × Bool)}
variable {α : Type} {R : FRp α} {Rn : Rp α} {xs ys : List α} {e : TypeId}
theorem SJ.inn_nil {q : Nat} (R : Rp α) (h : SJ P ops Q c n l m (inn (n := q) R [] [] :: L)) : SJ P ops Q c n l m L := fun a w ha hw =>
  h a w ha (hw.new (Chg.refl _ _) (S := fun _ => False) ⟨⟨rfl, fun i u x hu _ => by simp at hu⟩, fun b hb => hb.elim⟩ (fun _ h => h.elim))
theorem PJ.inn_nil {x : Exit} {q : Nat} (R : Rp α) (h : PJ Q c n x m (inn (n := q) R [] [] :: L)) : PJ Q c n x m L := fun a w ha hw =>
  h a w ha (hw.new (Chg.refl _ _) (S := fun _ => False) ⟨⟨rfl, fun i u x hu _ => by simp at hu⟩, fun b hb => hb.elim⟩ (fun _ h => h.elim))
theorem SJ.conv0 {A B : Asn} (hAB : ∀ w S, A.holds w S → B.holds w S) (h : SJ P ops Q c n l m (B :: L)) : SJ P ops Q c n l m (A :: L) := fun a w ha hw => by
  obtain ⟨S, hA, _, hset⟩ := hw.set (k := 0) rfl
  exact h a w ha (hset w B S (Chg.refl _ _) (hAB w S hA) (fun b hb => .inl hb))
theorem inn_push {w : World} {S : Nat → Prop} {vx : Value} {lx : List α} {vs : List (Raw 1)} {ll : List (List α)} (hv : vx.oneCell' = true) (h : (star (row vx e R lx) (inn (rSl R.rp) vs ll)).holds w S) :
    (inn (rSl R.rp) (vs ++ [mkRaw1 vx hv]) (ll ++ [lx])).holds w S := by
  obtain ⟨S1, S2, h1, h2, _, h4⟩ := h
  obtain ⟨⟨hl, hr⟩, hf⟩ := h2
  refine ⟨⟨by simp [hl], fun i u x hu hx => ?_⟩, fun b hb => ?_⟩
  · by_cases hi : i < vs.length
    · rw [List.getElem?_append_left hi] at hu
      rw [List.getElem?_append_left (by omega)] at hx
      exact (rSl R.rp).mono (hr i u x hu hx) (fun b hb => (h4 b).2 (.inr hb)) (fun _ _ => rfl)
    · rw [List.getElem?_append_right (by omega)] at hu hx
      have hi' : i = vs.length := by
        have := lt_of_some hu
        simp at this
        omega
      subst hi'
      rw [hl] at hx
      simp at hu hx
      subst hu hx
      exact ⟨vx, rfl, (YtbgngihmpdneaaaDoor.row_rd h1 (fun b hb => (h4 b).2 (.inl hb)))⟩
  · rcases (h4 b).1 hb with hb | hb
    · exact (row vx e R lx).foot h1 b hb
    · exact hf b hb
theorem SJ.inn_len {q : Nat} (k : Nat) {vs : List (Raw q)} (hk : L[k]? = some (inn Rn vs xs)) (h : vs.length = xs.length → SJ P ops Q c n l m L) : SJ P ops Q c n l m L := fun a w ha hw => by
  obtain ⟨S, hA, _⟩ := hw.at hk
  exact h hA.1.1 a w ha hw
theorem WJ.inn_len {z : Code} {q : Nat} (k : Nat) {vs : List (Raw q)} (hk : L[k]? = some (inn Rn vs xs)) (h : vs.length = xs.length → WJ P Q c n z m L) : WJ P Q c n z m L := fun a w ha hw => by
  obtain ⟨S, hA, _⟩ := hw.at hk
  exact h hA.1.1 a w ha hw
theorem St.inn_rd {w : World} {k : Nat} {vs : List (Raw 1)} {ll : List (List α)} {i j : Int} {y : Raw 1} {x : List α} (hw : St c w L) (hk : L[k]? = some (inn (rSl Rn) vs ll)) (hij : i = j) (hy : idx vs i = some y) (hx : idx ll j = some x) : RdS w (cx w).Fz (raw0 y) Rn x := by
  subst hij
  obtain ⟨S, hA, _⟩ := hw.at hk
  obtain ⟨v, h1, h2⟩ := hA.1.2 _ y x (idx_get hy) (idx_get hx)
  have : v = raw0 y := by rw [raw_eq y] at h1; simpa using h1.symm
  subst this
  exact h2.mono (fun b hb => ⟨hA.2 b hb, fun h => h⟩) (fun _ _ => rfl)
/-- the whole -/
theorem nst_rd {w : World} {F : Nat → Prop} {vs : List (Raw 1)} {ll : List (List α)} (h1 : RdS w F v fRaw1.rp vs) (h2 : vs.length = ll.length ∧ ∀ (i : Nat) (u : Raw 1) (x : List α), vs[i]? = some u → ll[i]? = some x → (rSl Rn).rd w F u.1 x) : RdS w F v (rSl Rn) ll := by
  obtain ⟨a, cp, rfl, hc1, hc2, h3⟩ := h1
  refine ⟨a, cp, by rw [h2.1], by omega, hc2, fun i x hx => ?_⟩
  have hi : i < vs.length := by have := lt_of_some hx; omega
  obtain ⟨ad, cs, rfl, hr, hat⟩ := h3 i vs[i] (List.getElem?_eq_getElem hi)
  exact ⟨ad, cs, rfl, by rw [show cs = vs[i].1 from hr]; exact h2.2 i vs[i] x (List.getElem?_eq_getElem hi) hx, hat⟩
theorem St.nst_rd {w : World} {k j : Nat} {vs : List (Raw 1)} {ll : List (List α)} (hw : St c w L) (hk : L[k]? = some (row v e fRaw1 vs)) (hj : L[j]? = some (inn (rSl Rn) vs ll)) : RdS w (cx w).Fz v (rSl Rn) ll := by
  obtain ⟨S, hA, _⟩ := hw.at hj
  exact YtbgngihmpdneaaaDoor.nst_rd (hw.row_rd hk) ⟨hA.1.1, fun i u x hu hx => (rSl Rn).mono (hA.1.2 i u x hu hx) (fun b hb => ⟨hA.2 b hb, fun h => h⟩) (fun _ _ => rfl)⟩
/-- what can be read, wherever it lies -/
theorem y_lenG {x : Operand} {t e' : TypeId} (hsrc : ∀ w, St c w L → RdS w (cx w).Fz v Rn xs) (ht : ∀ w, (underlying t).run P w = .ok (.slice e') w) (hx : ev m x = some v) :
    YldS P n m (fun w => St c w L) ⟨dd, .call { callee := .builtin .len, args := #[x], argTypes := #[t] }, ty, ps, af, gd⟩ (.int .i64 xs.length) :=
  .of_run fun a ha w hw => by
    obtain ⟨b, cap, rfl, _⟩ := hsrc w hw
    simp [execOp, ha.ev hx, resolve, invoke, builtin, Builtin.len_, ht, goInt]
theorem y_ixG {s j : Operand} {t e' : TypeId} {kd : IntKind} {i : Int} {x : α} (hsrc : ∀ w, St c w L → RdS w (cx w).Fz v R.rp xs) (ht : ∀ w, (underlying t).run P w = .ok (.slice e') w) (hs : ∀ w, (sizeOf e').run P w = .ok R.size w)
    (hx : ev m s = some v) (hj : ev m j = some (.int kd i)) (hi : idx xs i = some x) :
    YldS P n m (fun w => St c w L) ⟨dd, .indexAddr t s j, ty, ps, af, gd⟩ (vAt v (i.toNat * R.size)) :=
  .of_run fun a ha w hw => by
    obtain ⟨b, cap, rfl, _, _, h3⟩ := hsrc w hw
    unfold idx at hi
    split at hi
    · rename_i h0
      obtain ⟨ad, cs, rfl, _⟩ := h3 _ x hi
      have hlt := lt_of_some hi
      simp [execOp, ha.ev hx, ha.ev hj, Instr.indexAt, asIntOf, ht, hs, h0, vAt]
      intro h4; omega
    · cases hi
theorem y_loadG {x : Operand} {t : TypeId} {i off : Nat} {y : α} {u : Value} (hsrc : ∀ w, St c w L → RdS w (cx w).Fz v R.rp xs) (hg : ∀ w, (isAgg t).run P w = .ok false w) (hx : ev m x = some (vAt v (i * R.size + off))) (hi : xs[i]? = some y)
    (hc : (R.enc y)[off]? = some u) : YldS P n m (fun w => St c w L) ⟨dd, .load t x, ty, ps, af, gd⟩ u :=
  .of_run fun a ha w hw => by
    obtain ⟨ad, cap, rfl, h3⟩ := vw_cell (hsrc w hw) hi hc
    simp [execOp, ha.ev hx, Instr.loadAt, Instr.sureAddr, loadVar, hg, h3, vAt]
end
theorem app_raw {α β : Type} {ll ll2 zz : List α} {vs vs2 : List β} (h : app ll ll2 = some zz) (h1 : vs.length = ll.length) (h2 : vs2.length = ll2.length) : app vs vs2 = some (vs ++ vs2) := by
  unfold app at h ⊢
  split at h
  · rename_i hc
    rw [if_pos (by omega)]
  · cases h
theorem inn_app {α : Type} {Rn : Rp α} {q : Nat} {w : World} {S : Nat → Prop} {vs vs2 : List (Raw q)} {ll ll2 zz : List α} (hz : app ll ll2 = some zz) (h : (star (inn Rn vs ll) (inn Rn vs2 ll2)).holds w S) : (inn Rn (vs ++ vs2) zz).holds w S := by
  have hz' : zz = ll ++ ll2 := by
    unfold app at hz
    split at hz
    · exact (Option.some.inj hz).symm
    · cases hz
  subst hz'
  obtain ⟨S1, S2, h1, h2, _, h4⟩ := h
  obtain ⟨⟨hl, hr⟩, hf⟩ := h1
  obtain ⟨⟨hl2, hr2⟩, hf2⟩ := h2
  refine ⟨⟨by simp [hl, hl2], fun i u x hu hx => ?_⟩, fun b hb => ?_⟩
  · by_cases hi : i < vs.length
    · rw [List.getElem?_append_left hi] at hu
      rw [List.getElem?_append_left (by omega)] at hx
      exact Rn.mono (hr i u x hu hx) (fun b hb => (h4 b).2 (.inl hb)) (fun _ _ => rfl)
    · rw [List.getElem?_append_right (by omega)] at hu hx
      rw [hl] at hu
      exact Rn.mono (hr2 _ u x hu hx) (fun b hb => (h4 b).2 (.inr hb)) (fun _ _ => rfl)
  · rcases (h4 b).1 hb with hb | hb
    · exact hf b hb
    · exact hf2 b hb
/-! One more thing that reads, with the same blocks. -/
def ext {α : Type} (A : Asn) (v : Value) (R : Rp α) (l : List α) : Asn where
  holds w S := A.holds w S ∧ RdS w S v R l
  loc h k := ⟨A.loc h.1 k, h.2.mono (fun _ h => h) k⟩
  foot h b hb := A.foot h.1 b hb
section
variable {P : Program} {Q : Exit → Act → World → Prop} {c : Cx} {n : Nat} {m : List (Nat × Value)} {L L' : List Asn} {ops : Array Oper} {l : List Oper} {v : Value}
variable {α β : Type} {R : FRp α} {Rn : Rp α} {R2 : Rp β} {xs : List α} {ys : List β} {e : TypeId} {A : Asn}
theorem ext_new {w : World} {S : Nat → Prop} {vs : List (Raw 1)} {ll : List (List β)} (h : (star (row v e R xs) (inn (rSl R2) vs ll)).holds w S) : (ext (inn (rSl R2) vs ll) v R.rp xs).holds w S := by
  obtain ⟨S1, S2, h1, h2, _, h4⟩ := h
  refine ⟨⟨⟨h2.1.1, fun i u x hu hx => (rSl R2).mono (h2.1.2 i u x hu hx) (fun b hb => (h4 b).2 (.inr hb)) (fun _ _ => rfl)⟩, fun b hb => ?_⟩, YtbgngihmpdneaaaDoor.row_rd h1 (fun b hb => (h4 b).2 (.inl hb))⟩
  rcases (h4 b).1 hb with hb | hb
  · exact (row v e R xs).foot h1 b hb
  · exact h2.2 b hb
theorem St.ext_rd {w : World} {k : Nat} (hw : St c w L) (hk : L[k]? = some (ext A v Rn xs)) : RdS w (cx w).Fz v Rn xs := by
  obtain ⟨S, hA, _⟩ := hw.at hk
  exact hA.2.mono (fun b hb => ⟨A.foot hA.1 b hb, fun h => h⟩) (fun _ _ => rfl)
theorem WJ.inn_lenX {z : Code} {q : Nat} (k : Nat) {vs : List (Raw q)} (hk : L[k]? = some (ext (inn Rn vs xs) v R2 ys)) (h : vs.length = xs.length → WJ P Q c n z m L) : WJ P Q c n z m L := fun a w ha hw => by
  obtain ⟨S, hA, _⟩ := hw.at hk
  exact h hA.1.1.1 a w ha hw
theorem St.inn_rdX {w : World} {k : Nat} {vs : List (Raw 1)} {ll : List (List α)} {i j : Int} {y : Raw 1} {x : List α} (hw : St c w L) (hk : L[k]? = some (ext (inn (rSl Rn) vs ll) v R2 ys)) (hij : i = j) (hy : idx vs i = some y) (hx : idx ll j = some x) : RdS w (cx w).Fz (raw0 y) Rn x := by
  subst hij
  obtain ⟨S, hA, _⟩ := hw.at hk
  obtain ⟨v, h1, h2⟩ := hA.1.1.2 _ y x (idx_get hy) (idx_get hx)
  have : v = raw0 y := by rw [raw_eq y] at h1; simpa using h1.symm
  subst this
  exact h2.mono (fun b hb => ⟨hA.1.2 b hb, fun h => h⟩) (fun _ _ => rfl)
theorem PJ.ext_inn {x0 : Exit} (k : Nat) {vs : List (Raw 1)} {ll : List (List α)} {i : Int} {y : Raw 1} {x : List α} (hk : L[k]? = some (ext (inn (rSl Rn) vs ll) v R2 ys)) (hy : idx vs i = some y) (hx : idx ll i = some x)
    (h : PJ Q c n x0 m (L.set k (ext (inn (rSl Rn) vs ll) (raw0 y) Rn x))) : PJ Q c n x0 m L := fun a w ha hw => by
  obtain ⟨S, hA, _, hset⟩ := hw.set hk
  obtain ⟨v', h1, h2⟩ := hA.1.1.2 _ y x (idx_get hy) (idx_get hx)
  have : v' = raw0 y := by rw [raw_eq y] at h1; simpa using h1.symm
  subst this
  exact h a w ha (hset w _ S (Chg.refl _ _) ⟨hA.1, h2⟩ (fun b hb => .inl hb))
theorem St.nst_rdX {w : World} {k j : Nat} {vs : List (Raw 1)} {ll : List (List α)} {u : Value} (hw : St c w L) (hk : L[k]? = some (row v e fRaw1 vs)) (hj : L[j]? = some (ext (inn (rSl Rn) vs ll) u R2 ys)) : RdS w (cx w).Fz v (rSl Rn) ll := by
  obtain ⟨S, hA, _⟩ := hw.at hj
  exact YtbgngihmpdneaaaDoor.nst_rd (hw.row_rd hk) ⟨hA.1.1.1, fun i u x hu hx => (rSl Rn).mono (hA.1.1.2 i u x hu hx) (fun b hb => ⟨hA.1.2 b hb, fun h => h⟩) (fun _ _ => rfl)⟩
theorem PJ.ext_view {x0 : Exit} (k : Nat) (hk : L[k]? = some (ext A v Rn xs)) (h : PJ Q c n x0 m (L.set k (vw v Rn xs))) : PJ Q c n x0 m L := fun a w ha hw => by
  obtain ⟨S, hA, _, hset⟩ := hw.set hk
  exact h a w ha (hset w _ S (Chg.refl _ _) ⟨hA.2, fun b hb => A.foot hA.1 b hb⟩ (fun b hb => .inl hb))
end
section
variable {P : Program} {Q : Exit → Act → World → Prop} {c : Cx} {n : Nat} {m : List (Nat × Value)} {L L' : List Asn} {ops : Array Oper} {l : List Oper} {v : Value}
variable {d : Nat} {ty : TypeId} {ps : String} {af : Array Edge} {α : Type} {R : FRp α} {xs : List α}
theorem SJ.boxAr {x : Operand} {t : TypeId} (k : Nat) (hx : ev m x = some (.agg (List.toArray (encs R xs)))) (hk : xs.length = k) (hlen : Nat.ble k 1000000 = true) (hd : Nat.blt d n = true) (h : ∀ g, SJ P ops Q c n l ((d, pt g 0) :: m) (row (av g k) t R xs :: L)) :
    SJ P ops Q c n (⟨some d, .box t x, ty, ps, af, none⟩ :: l) m L :=
  SJ.x (T := fun v L' => ∃ g, v = pt g 0 ∧ L' = row (av g k) t R xs :: L) (fun a w ha hw => by
    subst hk
    have hl := Nat.le_of_ble_eq_true hlen
    refine ⟨pt w.heap.size 0, w.alloc (.cells (Value.agg (List.toArray (encs R xs))).cells t), _, by simp [execOp, ha.ev hx, Instr.box, newVar, newRow, pt], ⟨_, rfl, rfl⟩, ?_⟩
    have hc : (Value.agg (List.toArray (encs R xs))).cells = (encs R xs).toArray := rfl
    rw [hc]
    exact hw.new (Same.alloc _ _) (row_new w t R xs (by unfold maxLen; omega)) (fun b hb => by omega)) hd
    (fun v L' hT => by obtain ⟨g, rfl, rfl⟩ := hT; exact h g)
end
/-! maps from numbers to truths -/
def mgetI (l : List (Int × Bool)) (k : Int) : Bool := match l with
  | [] => false
  | (a, b) :: r => bif k == a then b else mgetI r k

def msetI (l : List (Int × Bool)) (k : Int) (v : Bool) : List (Int × Bool) := match l with
  | [] => [(k, v)]
  | (a, b) :: r => bif k == a then (k, v) :: r else (a, b) :: msetI r k v


def encEntriesI (l : List (Int × Bool)) (es : Array MapEntry) : Prop := es.toList.map (fun e => (e.key, e.val)) = l.map fun p => (Value.int .i64 p.1, Value.bool p.2)


def mpI (g : Nat) (l : List (Int × Bool)) : Asn where
  holds w S := (∃ es ck, w.heap[g]? = some (.map es ck) ∧ encEntriesI l es) ∧ ∀ b, S b ↔ b = g
  loc h k := by
    obtain ⟨⟨es, ck, h1, h2⟩, h3⟩ := h
    exact ⟨⟨es, ck, by rw [k g ((h3 g).2 rfl)]; exact h1, h2⟩, h3⟩
  foot h b hb := by
    have := (h.2 b).1 hb
    subst this
    obtain ⟨⟨es, ck, h1, _⟩, _⟩ := h
    exact (Array.getElem?_eq_some_iff.1 h1).1


theorem findNowI (k : Int) : ∀ (l : List (Int × Bool)) (es : List MapEntry) (i : Nat), es.map (fun e => (e.key, e.val)) = l.map (fun p => (Value.int .i64 p.1, Value.bool p.2)) →
    (Instr.findNow (.int .i64) (Value.int .i64 k) es i = some none ∧ mgetI l k = false ∧ msetI l k = fun v => l ++ [(k, v)]) ∨
    (∃ j b, Instr.findNow (.int .i64) (Value.int .i64 k) es i = some (some (i + j, .bool b)) ∧ mgetI l k = b ∧ j < l.length ∧ (∀ v, msetI l k v = l.set j (k, v)) ∧ (es[j]?).map (·.key) = some (Value.int .i64 k))
  | [], [], i, _ => .inl ⟨rfl, rfl, rfl⟩
  | [], _ :: _, _, h => by simp at h
  | _ :: _, [], _, h => by simp at h
  | (a, b) :: l, e :: es, i, h => by
    simp only [List.map_cons, List.cons.injEq, Prod.mk.injEq] at h
    obtain ⟨⟨hk, hv⟩, ht⟩ := h
    have hs : Instr.sameNow (.int .i64) (Value.int .i64 k) e.key = some (k == a) := by
      rw [hk]
      simp [Instr.sameNow]
    by_cases hka : k = a
    · subst hka
      refine .inr ⟨0, b, ?_, by simp [mgetI], by simp, fun v => by simp [msetI], by simp [hk]⟩
      simp only [Instr.findNow, hs, beq_self_eq_true, hv]
      rfl
    · have hf : (k == a) = false := by simpa using hka
      rcases findNowI k l es (i + 1) ht with ⟨h1, h2, h3⟩ | ⟨j, b', h1, h2, h3, h4, h5⟩
      · refine .inl ⟨by simp only [Instr.findNow, hs, hf]; exact h1, by simp [mgetI, hf, h2], ?_⟩
        funext v
        simp [msetI, hf, h3]
      · refine .inr ⟨j + 1, b', ?_, by simp [mgetI, hf, h2], by simp; omega, fun v => by simp [msetI, hf, h4], by simpa using h5⟩
        simp only [Instr.findNow, hs, hf]
        rw [h1, show i + 1 + j = i + (j + 1) by omega]


section
variable {P : Program} {Q : Exit → Act → World → Prop} {c : Cx} {n : Nat} {m : List (Nat × Value)} {L L' : List Asn} {ops : Array Oper} {l : List Oper} {v : Value} {C : World → Prop}
variable {d : Nat} {ty : TypeId} {ps : String} {af : Array Edge} {dd : Option Tmp} {gd : Option (Nat × Bool)}
theorem SJ.makeMapI {t : TypeId} (hd : Nat.blt d n = true) (h : ∀ g, SJ P ops Q c n l ((d, .map (some g)) :: m) (mpI g [] :: L)) : SJ P ops Q c n (⟨some d, .makeMap t none, ty, ps, af, none⟩ :: l) m L :=
  SJ.x (T := fun v L' => ∃ g, v = .map (some g) ∧ L' = mpI g [] :: L) (fun a w ha hw => by
    refine ⟨.map (some w.heap.size), w.alloc (.map #[] 0), _, ?_, ⟨_, rfl, rfl⟩, ?_⟩
    · simp only [execOp, Option.map, Instr.makeMap, Sem.run_bind, Sem.run_pure, Result.andThen_ok]
      rfl
    · exact hw.new (Same.alloc _ _) (S := fun b => b = w.heap.size) ⟨⟨#[], 0, heap_alloc_new w _, rfl⟩, fun _ => Iff.rfl⟩ (fun b hb => by omega)) hd
    (fun v L' hT => by obtain ⟨g, rfl, rfl⟩ := hT; exact h g)


theorem y_lookupIB {x y : Operand} {t kt et : TypeId} {g k : Nat} {ml : List (Int × Bool)} {key : Int} (hk : L[k]? = some (mpI g ml)) (ht : P.underlying t = some (.map kt et)) (hkt : P.underlying kt = some (.int .i64)) (hz : ∀ w, (zeroValue et).run P w = .ok (.bool false) w)
    (hx : ev m x = some (.map (some g))) (hy : ev m y = some (Value.int .i64 key)) : YldS P n m (fun w => St c w L) ⟨dd, .lookup t x y false, ty, ps, af, gd⟩ (.bool (mgetI ml key)) :=
  .of_run fun a ha w hw => by
    obtain ⟨S, ⟨⟨es, ck, h1, h2⟩, _⟩, _⟩ := hw.at hk
    have hck0 : ∀ q e, (Instr.checkKey e (q + 1) kt (Value.int .i64 key)).run P w = .ok () w := fun q e => by simp [Instr.checkKey, run_underlying hkt]
    have hck : ∀ e, (Instr.checkKey e 10000 kt (Value.int .i64 key)).run P w = .ok () w := fun e => hck0 9999 e
    have hg : (getObj g).run P w = .ok (.map es ck) w := by simp [getObj, Sem.run, h1]
    have hf := findNowI key ml es.toList 0 h2
    simp only [execOp, ha.ev hx, ha.ev hy, Instr.lookup, Sem.run_bind, run_underlying ht, Result.andThen_ok, hg, Sem.run_pure, hck, Instr.findKey, run_underlying hkt]
    rcases hf with ⟨h3, h4, _⟩ | ⟨j, b, h3, h4, _⟩
    · simp [h3, h4, hz]
    · simp [h3, h4]


theorem SJ.mapUpdateIB {x y z : Operand} {t kt et : TypeId} {g k : Nat} {ml : List (Int × Bool)} {key : Int} {b : Bool} (ht : P.underlying t = some (.map kt et)) (hkt : P.underlying kt = some (.int .i64)) (hk : L[k]? = some (mpI g ml))
    (hx : ev m x = some (.map (some g))) (hy : ev m y = some (Value.int .i64 key)) (hz : ev m z = some (.bool b)) (h : SJ P ops Q c n l m (L.set k (mpI g (msetI ml key b)))) : SJ P ops Q c n (⟨none, .mapUpdate t x y z, ty, ps, af, none⟩ :: l) m L :=
  SJ.u (fun a w ha hw => by
    obtain ⟨S, ⟨⟨es, ck, h1, h2⟩, hS⟩, _, hset⟩ := hw.set hk
    have hck0 : ∀ q e, (Instr.checkKey e (q + 1) kt (Value.int .i64 key)).run P w = .ok () w := fun q e => by simp [Instr.checkKey, run_underlying hkt]
    have hck : ∀ e, (Instr.checkKey e 10000 kt (Value.int .i64 key)).run P w = .ok () w := fun e => hck0 9999 e
    have hg : (getObj g).run P w = .ok (.map es ck) w := by simp [getObj, Sem.run, h1]
    have hso : ∀ o, (setObj g o).run P w = .ok () { w with heap := w.heap.setIfInBounds g o } := fun o => by simp [setObj, Sem.run, h1]
    have hlt : g < w.heap.size := (Array.getElem?_eq_some_iff.1 h1).1
    have hch : ∀ o, Chg S w { w with heap := w.heap.setIfInBounds g o } := fun o => ⟨rfl, rfl, rfl, by simp, fun b _ hn => by
      have hne : g ≠ b := fun e => hn ((hS b).2 e.symm)
      simp [Array.getElem?_setIfInBounds_ne hne]⟩
    have hat : ∀ o, ({ w with heap := w.heap.setIfInBounds g o } : World).heap[g]? = some o := fun o => by simp [hlt]
    have hf := findNowI key ml es.toList 0 h2
    rcases hf with ⟨h3, h4, h5⟩ | ⟨j, b', h3, h4, h5, h6, h7⟩
    · refine ⟨{ w with heap := w.heap.setIfInBounds g (.map (es.push { key := Value.int .i64 key, val := .bool b, born := ck }) (ck + 1)) }, ?_, ?_⟩
      · simp only [execOp, ha.ev hx, ha.ev hy, ha.ev hz, Instr.mapUpdate, Sem.run_bind, run_underlying ht, Result.andThen_ok, hg, Sem.run_pure, hck, Instr.findKey, run_underlying hkt, h3]
        simp [hso]
      · refine hset _ _ S (hch _) ⟨⟨_, _, hat _, ?_⟩, hS⟩ (fun b hb => .inl hb)
        unfold encEntriesI at h2 ⊢
        rw [h5]
        simp [h2]
    · have hkey : ((es[0 + j]?).map (·.key)).getD (Value.int .i64 key) = Value.int .i64 key := by
        have : (es[j]?).map (·.key) = some (Value.int .i64 key) := by simpa using h7
        rw [Nat.zero_add, this]; rfl
      have hst : (Instr.keyThatStays (Value.int .i64 key) (Value.int .i64 key)).run P w = .ok (Value.int .i64 key) w := by
        have hsb : ∀ q, Instr.sameBits q (Value.int .i64 key) (Value.int .i64 key) = true := fun q => by cases q <;> simp [Instr.sameBits]
        simp only [Instr.keyThatStays, hsb, if_true, Sem.run_pure]
      refine ⟨{ w with heap := w.heap.setIfInBounds g (.map (es.modify (0 + j) fun e => { e with key := Value.int .i64 key, val := .bool b }) ck) }, ?_, ?_⟩
      · simp only [execOp, ha.ev hx, ha.ev hy, ha.ev hz, Instr.mapUpdate, Sem.run_bind, run_underlying ht, Result.andThen_ok, hg, Sem.run_pure, hck, Instr.findKey, run_underlying hkt, h3]
        simp only [hkey, hst, Result.andThen_ok, hso]
      · refine hset _ _ S (hch _) ⟨⟨_, _, hat _, ?_⟩, hS⟩ (fun b hb => .inl hb)
        unfold encEntriesI at h2 ⊢
        rw [h6]
        have hl : es.toList.length = ml.length := by simpa using congrArg List.length h2
        refine List.ext_getElem? fun q => ?_
        have h8 : ∀ q : Nat, (es.toList.map (fun e => (e.key, e.val)))[q]? = (ml.map fun p => (Value.int .i64 p.1, Value.bool p.2))[q]? := fun q => by rw [h2]
        simp only [List.getElem?_map, Array.getElem?_toList, Array.getElem?_modify, List.getElem?_set, Nat.zero_add] at h8 ⊢
        by_cases hq : j = q
        · subst hq
          have hje : j < es.size := by simpa using (by omega : j < es.toList.length)
          simp [hje, h5]
        · simp only [hq, if_false]
          exact h8 q) h

end
/-! Functions that leave the world wholly alone, but for draws: what the library's sort asks of its 'less'. -/
def Dr (w0 w : World) : Prop := ∃ q, w = w0.drewN q
theorem Dr.refl (w : World) : Dr w w := ⟨0, rfl⟩
theorem Dr.trans {a b c : World} (h : Dr a b) (k : Dr b c) : Dr a c := by
  obtain ⟨q, rfl⟩ := h
  obtain ⟨p, rfl⟩ := k
  exact ⟨q + p, by simp⟩
theorem Dr.st {w0 w : World} (h : Dr w0 w) : St (cx w0) w [] := by
  obtain ⟨q, rfl⟩ := h
  exact (St.init w0).grow ⟨rfl, rfl, rfl, Nat.le_refl _, fun _ _ _ => rfl⟩
def RetD (w : World) (v : Value) : Ending → World → Prop := fun e w' => e = .returned v ∧ Dr w w'

section
variable {P : Program} {Q : Exit → Act → World → Prop} {w0 : World} {n : Nat} {m m' : List (Nat × Value)} {ops : Array Oper} {l : List Oper} {v : Value} {o : Oper} {C : World → Prop}
theorem YldS.still (h : YldS P n m (fun w => St (cx w0) w []) o v) : YldS P n m (Dr w0) o v := fun a ha w hw => h a ha w hw.st
def PX (Q : Exit → Act → World → Prop) (w0 : World) (n : Nat) (e : Exit) (m : List (Nat × Value)) : Prop := ∀ a w, Has n a m → Dr w0 w → Q e a w
def WX (P : Program) (Q : Exit → Act → World → Prop) (w0 : World) (n : Nat) (z : Code) (m : List (Nat × Value)) : Prop := ∀ a w, Has n a m → Dr w0 w → z.wp P Q a w
theorem WX.seq {x y : Code} (h : WX P (Exit.then (fun a w => y.wp P Q a w) Q) w0 n x m) : WX P Q w0 n (.seq x y) m := fun a w ha hw => wp_seq (h a w ha hw)
theorem WX.skip (h : PX Q w0 n .normal m) : WX P Q w0 n .skip m := fun a w ha hw => wp_skip (h a w ha hw)
theorem WX.ret (h : PX Q w0 n .ret m) : WX P Q w0 n .ret m := fun a w ha hw => wp_ret (h a w ha hw)
theorem WX.exit {id : Nat} (h : PX Q w0 n (.exit id) m) : WX P Q w0 n (.exit id) m := fun a w ha hw => wp_exit (h a w ha hw)
theorem WX.block {id : Nat} {z : Code} (h : WX P (Exit.inBlock id Q) w0 n z m) : WX P Q w0 n (.block id z) m := fun a w ha hw => wp_block (h a w ha hw)
theorem WX.cond {q : Operand} {x y : Code} {t : Bool} (hc : ev m q = some (.bool t)) (ht : t = true → WX P Q w0 n x m) (hf : t = false → WX P Q w0 n y m) : WX P Q w0 n (.cond q x y) m := fun a w ha hw =>
  wp_cond_split (ha.ev hc) (fun e => ht e a w ha hw) (fun e => hf e a w ha hw)
theorem PX.next {y : Code} (h : WX P Q w0 n y m) : PX (Exit.then (fun a w => y.wp P Q a w) Q) w0 n .normal m := h
theorem PX.then_ret {K : Act → World → Prop} (h : PX Q w0 n .ret m) : PX (Exit.then K Q) w0 n .ret m := h
theorem PX.then_exit {K : Act → World → Prop} {id : Nat} (h : PX Q w0 n (.exit id) m) : PX (Exit.then K Q) w0 n (.exit id) m := h
theorem PX.block_normal {id : Nat} (h : PX Q w0 n .normal m) : PX (Exit.inBlock id Q) w0 n .normal m := h
theorem PX.block_ret {id : Nat} (h : PX Q w0 n .ret m) : PX (Exit.inBlock id Q) w0 n .ret m := h
theorem PX.block_exit {id : Nat} (h : PX Q w0 n .normal m) : PX (Exit.inBlock id Q) w0 n (.exit id) m := fun a w ha hw => by
  simp only [Exit.inBlock, if_true]; exact h a w ha hw
theorem PX.block_exit_ne {id id' : Nat} (hne : Nat.beq id' id = false) (h : PX Q w0 n (.exit id') m) : PX (Exit.inBlock id Q) w0 n (.exit id') m := fun a w ha hw => by
  have : id' ≠ id := fun e => by subst e; simp at hne
  simp only [Exit.inBlock, if_neg this]; exact h a w ha hw
theorem PX.fin {fn : Func} {R : Ending → World → Prop} (h : PX (bodyPost P fn R) w0 n .ret m) : PX (bodyPost P fn R) w0 n .normal m := h
theorem WX.quiet {id : Nat} (h : QJ P l.toArray (Dr w0) n (fun a => ∀ w, Dr w0 w → Q .normal a w) l m) : WX P Q w0 n (.region id l.toArray false) m := fun a w ha hw =>
  wp_region_lit (wpList_of_quiet (C := Dr w0) (fun _ w hw hk => hk w hw) l a w hw (h a ha))
theorem WX.quiet_draw {id : Nat} (hm : P.follows .mixedOrders = true) (hB : Region.lexB .any l.toArray = true) (h : QJ P l.toArray (Dr w0) n (fun a => ∀ w, Dr w0 w → Q .normal a w) l m) :
    WX P Q w0 n (.region id l.toArray true) m := fun a w ha hw =>
  wp_region_quiet (C := Dr w0) hm hB (hw.trans ⟨1, rfl⟩) (by simpa using h a ha)
theorem QJ.doneX (h : PX Q w0 n .normal m) : QJ P ops C n (fun a => ∀ w, Dr w0 w → Q .normal a w) [] m := QJ.nil fun a ha w hw => h a w ha hw
theorem RetD.quiet {f : FuncId} {vs : Array Value} (h : ∀ w, St (cx w0) w [] → Calls P f vs w (RetD w v)) :
    ∀ w, Dr w0 w → Calls P f vs w fun e w' => e = .returned v ∧ Dr w0 w' := fun w hw => (h w hw.st).mono fun _ _ ⟨he, hd⟩ => ⟨he, hw.trans hd⟩
theorem PX.retn {fn : Func} {rs : List ResultVar} {vs : List Value} (hres : fn.results = rs.toArray) (h : RVs P [] m rs vs) : PX (bodyPost P fn (RetD w0 (tup vs))) w0 n .ret m := fun a w ha hw => by
  have h1 := RVs.run ha hw.st h
  have h2 : (results fn a.tmps).run P w = .ok (tup vs) w := by
    rw [results_eq, hres, Sem.run_bind, List.mapM_toArray]
    rw [Sem.run_map, h1]
    cases vs with
    | nil => simp [tup]
    | cons v vs => cases vs <;> simp [tup]
  exact bodyPost_ret h2 ha.2.1 ⟨rfl, hw⟩
end
theorem Calls.enterX {P : Program} {f n : Nat} {fn : Func} {z : Code} {R : Ending → World → Prop} {w : World} (args : List Value) (hf : P.funcs[f]? = some fn) (hb : fn.body = some z) (hn : fn.ntmps = n) (hl : Nat.ble args.length n = true)
    (h : WX P (bodyPost P fn R) w n z (enum 0 args)) : Calls P f args.toArray w R :=
  calls_of_wp hf hb (h _ _ (by rw [hn]; exact Has.init n args hl) (Dr.refl w))

/-! The sort by insertion, on lists; what is behind is told first. -/
def insB {α : Type} (lt : α → α → Bool) (x : α) : List α → List α
  | [] => [x]
  | y :: r => bif lt x y then y :: insB lt x r else x :: y :: r
def isortB {α : Type} (lt : α → α → Bool) : List α → List α → List α
  | acc, [] => acc
  | acc, x :: r => isortB lt (insB lt x acc) r
def isort {α : Type} (lt : α → α → Bool) (l : List α) : List α := (isortB lt [] l).reverse
def ltOf {α : Type} (less : Int → Int → List α → Option Bool) (x y : α) : Bool := (less 0 1 [x, y]).getD false
def srtO {α : Type} (less : Int → Int → List α → Option Bool) (l : List α) : Option (List α) :=
  bif decide (l.length ≤ 12) && l.all fun x => l.all fun y => (less 0 1 [x, y]).isSome then some (isort (ltOf less) l) else none

section
variable {α β : Type} [Inhabited α] (f : α → β) (lt : β → β → Bool)
theorem map_get {d : Array α} {l : List β} {i : Nat} {x : β} (hd : d.toList.map f = l) (hx : l[i]? = some x) : i < d.size ∧ f d[i]! = x := by
  subst hd
  rw [List.getElem?_map] at hx
  cases h : d.toList[i]? with
  | none => rw [h] at hx; cases hx
  | some y =>
    rw [h] at hx
    simp at hx
    have h1 : i < d.size := by simpa using lt_of_some h
    refine ⟨h1, ?_⟩
    have h2 : d[i]? = some y := by simpa using h
    simp only [getElem!_def, h2]
    exact hx
theorem insInner_map : ∀ (r : List β) (d : Array α) (x : β) (rest : List β), d.toList.map f = r.reverse ++ x :: rest →
    (Sort.insInner (fun a b => lt (f a) (f b)) 0 r.length d).toList.map f = (insB lt x r).reverse ++ rest
  | [], d, x, rest, h => by simpa [Sort.insInner, insB] using h
  | y :: r, d, x, rest, h => by
    have hx : (((y :: r).reverse ++ x :: rest) : List β)[r.length + 1]? = some x := by
      rw [List.getElem?_append_right (by simp)]; simp
    have hy : (((y :: r).reverse ++ x :: rest) : List β)[r.length]? = some y := by
      rw [List.getElem?_append_left (by simp), List.reverse_cons, List.getElem?_append_right (by simp)]; simp
    obtain ⟨h1, h2⟩ := map_get f h hx
    obtain ⟨h3, h4⟩ := map_get f h hy
    simp only [List.length_cons, Sort.insInner, h2, h4]
    have hj : decide (r.length + 1 > 0) = true := by simp
    simp only [hj, Bool.true_and, insB]
    cases hlt : lt x y with
    | false => simpa using h
    | true =>
      simp only [if_true, cond_true]
      have hs : (Sort.swp d (r.length + 1) r.length).toList.map f = r.reverse ++ x :: (y :: rest) := by
        unfold Sort.swp
        simp only [Array.toList_setIfInBounds, List.map_set, h, h2, h4]
        simp only [List.reverse_cons, List.append_assoc, List.singleton_append]
        rw [List.set_append_right _ _ (by simp), List.set_append_right _ _ (by simp)]
        simp
      rw [insInner_map r _ x (y :: rest) hs]
      simp
theorem insOuter_map : ∀ (rest : List β) (d : Array α) (r : List β), d.toList.map f = r.reverse ++ rest →
    (Sort.insOuter (fun a b => lt (f a) (f b)) 0 (r.length + rest.length) r.length d).toList.map f = (isortB lt r rest).reverse
  | [], d, r, h => by
    unfold Sort.insOuter
    rw [if_neg (by simp)]
    simpa [isortB] using h
  | x :: rest, d, r, h => by
    unfold Sort.insOuter
    rw [if_pos (by simp)]
    have h1 := insInner_map f lt r d x rest h
    have hl : (insB lt x r).length = r.length + 1 := by
      clear h h1
      induction r with
      | nil => rfl
      | cons y r ih => simp only [insB]; cases lt x y <;> simp [ih]
    have h2 := insOuter_map rest _ (insB lt x r) h1
    rw [hl] at h2
    rw [show r.length + (x :: rest).length = r.length + 1 + rest.length by simp; omega]
    simpa [isortB] using h2
theorem isort_map (d : Array α) (l : List β) (h : d.toList.map f = l) (h0 : l ≠ []) : (Sort.insertionSort (fun a b => lt (f a) (f b)) d 0 d.size).toList.map f = isort lt l := by
  cases l with
  | nil => exact (h0 rfl).elim
  | cons x rest =>
    have h1 := insOuter_map f lt rest d [x] (by simpa using h)
    have hs : d.size = 1 + rest.length := by
      have := congrArg List.length h
      simp at this; omega
    unfold Sort.insertionSort
    rw [hs]
    simpa [isort, isortB, insB] using h1
end

/-- what is known of the library's sort at a slice of numbers -/
def SortC (P : Program) (f t : Nat) : Prop :=
  (∀ (p : Option Addr) (n c : Nat) (lf : Fn) (la lb : Array Value) (w : World), n ≤ 1 → Calls P f #[.iface t (.slice p n c), .func lf la lb] w fun e w' => e = .returned (.tuple #[]) ∧ ∃ os, w' = Sort.grow w os) ∧
  ∀ (α : Type) [Inhabited α] (enc : α → Value) (lt : α → α → Bool) (g : Nat) (lb : Array Value) (blk off c : Nat) (d : Array α) (w : World), (∀ x, (enc x).oneCell' = true) →
    (∀ args w, (callFunc g args).run P w = .ok (.enter g args) w) → 2 ≤ d.size → d.size ≤ 12 →
    (∀ (m : Nat) (os : Array Obj) (dk : Array α), dk.size = d.size → ∀ i j : Nat, i < d.size → j < d.size →
      Calls P g (#[.int .i64 i, .int .i64 j] ++ lb) (Sort.grow (Sort.putRow enc (Sort.ahead w m) blk off dk) os) fun e w' => e = .returned (.bool (lt dk[i]! dk[j]!)) ∧ ∃ q, w' = (Sort.grow (Sort.putRow enc (Sort.ahead w m) blk off dk) os).drewN q) →
    Sort.Holds enc w blk off d → blk < w.heap.size →
    Calls P f #[.iface t (.slice (some ⟨blk, off, none⟩) d.size c), .func (.func g) #[] lb] w fun e w' => e = .returned (.tuple #[]) ∧ ∃ n os, w' = Sort.grow (Sort.putRow enc (Sort.ahead w n) blk off (Sort.insertionSort lt d 0 d.size)) os

section
variable {P : Program} {Q : Exit → Act → World → Prop} {c : Cx} {n : Nat} {m : List (Nat × Value)} {L L' : List Asn} {ops : Array Oper} {l : List Oper} {v : Value}
theorem encs_i64 (ys : List Int) : encs fI64 ys = ys.map (Value.int .i64) := flat1 _ ys

/-- the row of numbers of a state holds other numbers, and new blocks lie behind -/
theorem St.reput {α : Type} [Inhabited α] {w : World} {k e g cap : Nat} {xs ys : List Int} {val : α → Int} {dk : Array α} {q : Nat} {os : Array Obj} (hw : St c w L) (hk : L[k]? = some (row (.slice (some ⟨g, 0, none⟩) xs.length cap) e fI64 xs)) (hy : dk.toList.map val = ys) (hl : ys.length = xs.length) :
    St c (Sort.grow (Sort.putRow (fun a => Value.int .i64 (val a)) (Sort.ahead w q) g 0 dk) os) (L.set k (row (.slice (some ⟨g, 0, none⟩) xs.length cap) e fI64 ys)) := by
  obtain ⟨S, hA, _, hset⟩ := hw.set hk
  rcases hA.1.2 with ⟨hn, _⟩ | ⟨g', cap', cur, hv, _, hg, hc1, hc2, hcs, htake⟩
  · cases hn
  · injection hv with e1 e2 e3
    injection e1 with e1
    injection e1 with e1
    subst e1 e3
    have hlt : g < w.heap.size := (Array.getElem?_eq_some_iff.1 hg).1
    have hS : S g := (hA.2 g).2 rfl
    have hR : fI64.size = 1 := rfl
    rw [hR, Nat.mul_one] at hcs htake
    have hds : dk.size = ys.length := by rw [← hy]; simp
    have hheap : ∀ b, b < w.heap.size → (Sort.grow (Sort.putRow (fun a => Value.int .i64 (val a)) (Sort.ahead w q) g 0 dk) os).heap[b]? = if g = b then (w.heap[b]?).map (Sort.onCells (Sort.putCells (fun a => Value.int .i64 (val a)) 0 dk)) else w.heap[b]? := fun b hb => by
      rw [Sort.heap_grow_old _ _ (by simpa using hb)]
      simp only [Sort.putRow, Sort.mapBlock, Sort.heap_ahead, Array.getElem?_modify]
    refine hset _ _ S ⟨rfl, rfl, rfl, by simp, fun b hb hn => ?_⟩ ⟨⟨by rw [encs_i64]; simp [hR, fI64], .inr ⟨g, cap, Sort.putCells (fun a => Value.int .i64 (val a)) 0 dk cur, by rw [hl], Nat.zero_le _, ?_, by rw [hl]; exact hc1, hc2, ?_, ?_⟩⟩, hA.2⟩ (fun b hb => .inl hb)
    · rw [hheap b hb, if_neg (fun h => hn (by subst h; exact hS))]
    · rw [hheap g hlt, if_pos rfl, hg]; rfl
    · rw [hR, Nat.mul_one]; simp [Sort.putCells, hcs]
    · rw [hR, Nat.mul_one, encs_i64]
      refine List.ext_getElem? fun i => ?_
      rw [List.getElem?_take]
      by_cases hi : i < ys.length
      · rw [if_pos hi, ← hy]
        have hi2 : i < cur.size := by rw [hcs]; omega
        simp only [Sort.putCells, Array.getElem?_toList, Array.getElem?_mapIdx, List.map_map, List.getElem?_map]
        have h3 : i < dk.size := by omega
        have hcond : 0 ≤ i ∧ i < 0 + dk.size := ⟨Nat.zero_le _, by omega⟩
        rw [Array.getElem?_eq_getElem hi2, Array.getElem?_eq_getElem h3]
        simp [hcond, h3]
      · rw [if_neg hi, List.getElem?_eq_none (by simpa using Nat.le_of_not_lt hi)]

theorem idx_some {α : Type} {l : List α} {i : Nat} {x : α} (h : l[i]? = some x) : idx l (i : Int) = some x := by
  unfold idx
  rw [if_pos (Int.natCast_nonneg i)]
  simpa using h

theorem sort_call {f t e g k : Nat} {v : Value} {xs zs : List Int} {lb : List Value} {less : Int → Int → List Int → Option Bool} (hC : SortC P f t) (heg : ∀ args w, (callFunc g args).run P w = .ok (.enter g args) w) (hz : srtO less xs = some zs)
    (hun : ∀ dk i j x y, idx dk i = some x → idx dk j = some y → less i j dk = less 0 1 [x, y]) (hk : L[k]? = some (row v e fI64 xs))
    (hless : ∀ w dk, St c w (L.set k (row v e fI64 dk)) → ∀ i j b, less i j dk = some b → Calls P g (.int .i64 i :: .int .i64 j :: lb).toArray w (RetD w (.bool b))) :
    ∀ w, St c w L → Calls P f #[.iface t v, .func (.func g) #[] lb.toArray] w fun e' w' => e' = .returned (.tuple #[]) ∧ St c w' (L.set k (row v e fI64 zs)) := fun w hw => by
  unfold srtO at hz
  cases hb : decide (xs.length ≤ 12) && xs.all fun x => xs.all fun y => (less 0 1 [x, y]).isSome with
  | false => rw [hb] at hz; cases hz
  | true =>
    rw [hb] at hz
    obtain rfl := Option.some.inj hz
    rw [Bool.and_eq_true] at hb
    obtain ⟨h12, hall⟩ := hb
    have h12 := of_decide_eq_true h12
    obtain ⟨S, hA, _⟩ := hw.at hk
    obtain ⟨a, cap, hv⟩ := row_lt hA
    by_cases h2 : xs.length ≤ 1
    · subst hv
      refine (hC.1 a xs.length cap (.func g) #[] lb.toArray w h2).mono fun e' w' ⟨he, os, hw'⟩ => ⟨he, ?_⟩
      have hzs : isort (ltOf less) xs = xs := by
        match xs, h2 with
        | [], _ => rfl
        | [x], _ => rfl
      have hL : L.set k (row (.slice a xs.length cap) e fI64 xs) = L := by
        refine List.ext_getElem? fun i => ?_
        rw [List.getElem?_set]
        by_cases hik : k = i
        · subst hik; rw [if_pos rfl, if_pos (lt_of_some hk), hk]
        · simp [hik]
      rw [hzs, hL, hw']
      exact hw.grow ⟨rfl, rfl, rfl, by simp, fun b hb _ => Sort.heap_grow_old _ _ hb⟩
    · have h2 : 2 ≤ xs.length := by omega
      have h0 : xs ≠ [] := fun h => by subst h; simp at h2
      have hx0 : xs[0]? = some (xs.head h0) := by cases xs with
        | nil => simp at h0
        | cons x r => rfl
      obtain ⟨g0, cap', cur, hv', hg, hS, _, _, hcs, _, _⟩ := row_at hA hx0
      rw [hv] at hv'
      injection hv' with e1 _ e3
      subst e1 hv
      letI : Inhabited { x // x ∈ xs } := ⟨⟨xs.head h0, List.head_mem h0⟩⟩
      have hgl : g0 < w.heap.size := (Array.getElem?_eq_some_iff.1 hg).1
      have hds : xs.attach.toArray.size = xs.length := by simp
      have hH : Sort.Holds (fun a : { x // x ∈ xs } => Value.int .i64 a.1) w g0 0 xs.attach.toArray := fun j hj => by
        rw [hds] at hj
        have hj2 : xs[j]? = some xs[j] := List.getElem?_eq_getElem hj
        obtain ⟨g1, cap1, cur1, hv1, hg1, _, _, _, _, _, hcell⟩ := row_at hA hj2
        injection hv1 with e4 _ _
        injection e4 with e4
        injection e4 with e4
        subst e4
        refine ⟨?_, ?_⟩
        · rw [cell_of_row w g0 _ cur1 e _ hg1]
          have h3 := hcell 0 (.int .i64 xs[j]) rfl
          have hR : fI64.size = 1 := rfl
          rw [hR, Nat.mul_one, Nat.add_zero] at h3
          rw [Nat.zero_add, h3]
          have h4 : xs.attach.toArray[j]! = ⟨xs[j], List.getElem_mem hj⟩ := by
            rw [getElem!_pos _ _ (by simpa using hj)]; simp
          rw [h4]
        · simp [World.frozen?, hg1]
      have key := hC.2 { x // x ∈ xs } (fun a => Value.int .i64 a.1) (fun a b => ltOf less a.1 b.1) g lb.toArray g0 0 cap xs.attach.toArray w (fun _ => rfl) heg (by rw [hds]; exact h2) (by rw [hds]; exact h12)
        (fun q os dk hdk i j hi hj => by
          rw [hds] at hdk hi hj
          have hst := hw.reput (dk := dk) (q := q) (os := os) (val := fun a : { x // x ∈ xs } => a.1) hk rfl (by simp [hdk])
          have hxi : idx (dk.toList.map fun a => a.1) (i : Int) = some dk[i]!.1 := idx_some (by
            rw [List.getElem?_map, Array.getElem?_toList, Array.getElem?_eq_getElem (by omega), getElem!_pos _ _ (by omega)]; rfl)
          have hxj : idx (dk.toList.map fun a => a.1) (j : Int) = some dk[j]!.1 := idx_some (by
            rw [List.getElem?_map, Array.getElem?_toList, Array.getElem?_eq_getElem (by omega), getElem!_pos _ _ (by omega)]; rfl)
          have hs := hun _ _ _ _ _ hxi hxj
          have hsome : (less 0 1 [dk[i]!.1, dk[j]!.1]).isSome = true := by
            have := List.all_eq_true.1 hall _ dk[i]!.2
            exact List.all_eq_true.1 this _ dk[j]!.2
          obtain ⟨b, hb⟩ := Option.isSome_iff_exists.1 hsome
          rw [hb] at hs
          have h6 := hless _ _ hst i j b hs
          have h7 : ltOf less dk[i]!.1 dk[j]!.1 = b := by unfold ltOf; rw [hb]; rfl
          have h8 : (#[Value.int .i64 (i : Int), Value.int .i64 (j : Int)] ++ lb.toArray) = (Value.int .i64 (i : Int) :: Value.int .i64 (j : Int) :: lb).toArray := by simp
          rw [h8, h7]
          exact h6) hH hgl
      rw [hds] at key
      refine key.mono fun e' w' ⟨he, q, os, hw'⟩ => ⟨he, ?_⟩
      rw [hw']
      have hm := isort_map (fun a : { x // x ∈ xs } => a.1) (ltOf less) xs.attach.toArray xs (by simp) h0
      rw [hds] at hm
      refine hw.reput (val := fun a : { x // x ∈ xs } => a.1) hk hm ?_
      have h9 : ∀ r acc : List Int, (isortB (ltOf less) acc r).length = acc.length + r.length := fun r => by
        induction r with
        | nil => intro acc; simp [isortB]
        | cons x r ih =>
          intro acc
          have hl : ∀ a : List Int, (insB (ltOf less) x a).length = a.length + 1 := fun a => by
            induction a with
            | nil => rfl
            | cons y a ih => simp only [insB]; cases ltOf less x y <;> simp [ih]
          simp only [isortB, ih, hl, List.length_cons]; omega
      simp [isort, h9]

theorem SJ.sort {d t e g k f : Nat} {ty : TypeId} {ps : String} {af : Array Edge} {os : List Operand} {ts : Array TypeId} {xs zs : List Int} {lb : List Value} {less : Int → Int → List Int → Option Bool} (hC : SortC P f t) (hf : ∀ (as : Array Value) w, (callFunc f as).run P w = .ok (.enter f as) w) (heg : ∀ args w, (callFunc g args).run P w = .ok (.enter g args) w) (hz : srtO less xs = some zs)
    (hun : ∀ dk i j x y, idx dk i = some x → idx dk j = some y → less i j dk = less 0 1 [x, y]) (hk : L[k]? = some (row v e fI64 xs)) (hx : evs m os = some [.iface t v, .func (.func g) #[] lb.toArray])
    (hless : ∀ w dk, St c w (L.set k (row v e fI64 dk)) → ∀ i j b, less i j dk = some b → Calls P g (.int .i64 i :: .int .i64 j :: lb).toArray w (RetD w (.bool b))) (hd : Nat.blt d n = true)
    (h : SJ P ops Q c n l ((d, .tuple #[]) :: m) (L.set k (row v e fI64 zs))) :
    SJ P ops Q c n (⟨some d, .call { callee := .value (.func f), args := os.toArray, argTypes := ts }, ty, ps, af, none⟩ :: l) m L := fun a w ha hw => by
  have h1 := ha.evs hx
  have h2 : (execOp a.eval ⟨some d, .call { callee := .value (.func f), args := os.toArray, argTypes := ts }, ty, ps, af, none⟩).run P w = .ok (.enter f #[.iface t v, .func (.func g) #[] lb.toArray]) w := by
    simp [execOp, resolve, Act.eval, Deferred.ofValue, invoke, ← h1, hf]
  unfold wpList
  simp only [Region.wanted, if_true]
  refine .inl ?_
  unfold Oper.wp
  rw [h2]
  exact (sort_call hC heg hz hun hk hless w hw).mono fun e' w' ⟨he, hst⟩ => by
    subst he
    exact h _ _ (ha.put hd _) hst

variable {C : World → Prop} {dd : Option Tmp} {ty : TypeId} {ps : String} {af : Array Edge} {gd : Option (Nat × Bool)}
theorem y_iface {t : TypeId} {x : Operand} {e : TypeId} (ht : ∀ w, (underlying t).run P w = .ok (.slice e) w) (hx : ev m x = some v) : YldS P n m C ⟨dd, .makeInterface t x, ty, ps, af, gd⟩ (.iface t v) :=
  .of_run fun a ha w _ => by simp [execOp, ha.ev hx, Instr.makeInterface, ht]
theorem y_func {g : Nat} {bs : List Operand} {lb : List Value} (hx : evs m bs = some lb) : YldS P n m C ⟨dd, .makeFunc (.func g) #[] bs.toArray, ty, ps, af, gd⟩ (.func (.func g) #[] lb.toArray) :=
  .of_run fun a ha w _ => by
    have h1 := ha.evs hx
    simp [execOp, Instr.makeFunc, ← h1]
end
theorem idx2_0 {α : Type} (x y : α) : idx [x, y] 0 = some x := rfl
theorem idx2_1 {α : Type} (x y : α) : idx [x, y] 1 = some y := rfl
/-! Rows of rows whose inner rows are owned one by one. -/
def inm {α : Type} (E : TypeId) (R : FRp α) (vs : List (Raw 1)) (ll : List (List α)) : Asn where
  holds w S := (∃ F : Nat → Nat → Prop, vs.length = ll.length ∧ (∀ (i : Nat) (u : Raw 1) (x : List α), vs[i]? = some u → ll[i]? = some x → (row (raw0 u) E R x).holds w (F i)) ∧
    (∀ i j b, i < ll.length → j < ll.length → F i b → F j b → i = j) ∧ ∀ i b, i < ll.length → F i b → S b) ∧ ∀ b, S b → b < w.heap.size
  loc {w w' S} h k := by
    obtain ⟨⟨F, h1, h2, h3, h4⟩, h5⟩ := h
    refine ⟨⟨F, h1, fun i u x hu hx => (row (raw0 u) E R x).loc (h2 i u x hu hx) (fun b hb => k b (h4 i b (lt_of_some hx) hb)), h3, h4⟩, fun b hb => ?_⟩
    have h6 := k b hb
    rw [Array.getElem?_eq_getElem (h5 b hb)] at h6
    exact (Array.getElem?_eq_some_iff.1 h6).1
  foot h b hb := h.2 b hb
section
variable {P : Program} {Q : Exit → Act → World → Prop} {c : Cx} {n : Nat} {m : List (Nat × Value)} {L L' : List Asn} {ops : Array Oper} {l : List Oper} {v : Value}
variable {d : Nat} {ty : TypeId} {ps : String} {af : Array Edge} {dd : Option Tmp} {gd : Option (Nat × Bool)}
variable {α : Type} {R : FRp α} {E e : TypeId} {vs : List (Raw 1)} {ll : List (List α)}
theorem SJ.inm_nil (E : TypeId) (R : FRp α) (h : SJ P ops Q c n l m (inm E R [] [] :: L)) : SJ P ops Q c n l m L := fun a w ha hw =>
  h a w ha (hw.new (Chg.refl _ _) (S := fun _ => False) ⟨⟨fun _ _ => False, rfl, fun i u x hu _ => by simp at hu, fun i j b _ _ h => h.elim, fun _ _ _ h => h⟩, fun b hb => hb.elim⟩ (fun _ h => h.elim))
theorem PJ.inm_nil {x : Exit} (E : TypeId) (R : FRp α) (h : PJ Q c n x m (inm E R [] [] :: L)) : PJ Q c n x m L := fun a w ha hw =>
  h a w ha (hw.new (Chg.refl _ _) (S := fun _ => False) ⟨⟨fun _ _ => False, rfl, fun i u x hu _ => by simp at hu, fun i j b _ _ h => h.elim, fun _ _ _ h => h⟩, fun b hb => hb.elim⟩ (fun _ h => h.elim))
theorem WJ.inm_nil {z : Code} (E : TypeId) (R : FRp α) (h : WJ P Q c n z m (inm E R [] [] :: L)) : WJ P Q c n z m L := fun a w ha hw =>
  h a w ha (hw.new (Chg.refl _ _) (S := fun _ => False) ⟨⟨fun _ _ => False, rfl, fun i u x hu _ => by simp at hu, fun i j b _ _ h => h.elim, fun _ _ _ h => h⟩, fun b hb => hb.elim⟩ (fun _ h => h.elim))
theorem SJ.inm_len (k : Nat) (hk : L[k]? = some (inm E R vs ll)) (h : vs.length = ll.length → SJ P ops Q c n l m L) : SJ P ops Q c n l m L := fun a w ha hw => by
  obtain ⟨S, hA, _⟩ := hw.at hk
  obtain ⟨F, h1, _⟩ := hA.1
  exact h h1 a w ha hw
theorem WJ.inm_len {z : Code} (k : Nat) (hk : L[k]? = some (inm E R vs ll)) (h : vs.length = ll.length → WJ P Q c n z m L) : WJ P Q c n z m L := fun a w ha hw => by
  obtain ⟨S, hA, _⟩ := hw.at hk
  obtain ⟨F, h1, _⟩ := hA.1
  exact h h1 a w ha hw
theorem inm_rd0 {w : World} {S : Nat → Prop} (hA : (inm E R vs ll).holds w S) {i : Nat} {y : Raw 1} {x : List α} (hy : vs[i]? = some y) (hx : ll[i]? = some x) : RdS w S (raw0 y) R.rp x := by
  obtain ⟨⟨F, h1, h2, h3, h4⟩, h5⟩ := hA
  exact YtbgngihmpdneaaaDoor.row_rd (h2 i y x hy hx) (fun b hb => h4 i b (lt_of_some hx) hb)
theorem St.inm_rd {w : World} {k : Nat} {i j : Int} {y : Raw 1} {x : List α} (hw : St c w L) (hk : L[k]? = some (inm E R vs ll)) (hij : i = j) (hy : idx vs i = some y) (hx : idx ll j = some x) : RdS w (cx w).Fz (raw0 y) R.rp x := by
  subst hij
  obtain ⟨S, hA, _⟩ := hw.at hk
  exact (inm_rd0 hA (idx_get hy) (idx_get hx)).mono (fun b hb => ⟨hA.2 b hb, fun h => h⟩) (fun _ _ => rfl)
theorem inm_inn {w : World} {S : Nat → Prop} (hA : (inm E R vs ll).holds w S) : (inn (rSl R.rp) vs ll).holds w S := by
  have h5 := hA.2
  have h1 : vs.length = ll.length := by obtain ⟨⟨F, h1, _⟩, _⟩ := hA; exact h1
  exact ⟨⟨h1, fun i u x hu hx => ⟨raw0 u, raw_eq u, inm_rd0 hA hu hx⟩⟩, h5⟩
theorem St.nsm_rd {w : World} {k j : Nat} (hw : St c w L) (hk : L[k]? = some (row v e fRaw1 vs)) (hj : L[j]? = some (inm E R vs ll)) : RdS w (cx w).Fz v (rSl R.rp) ll := by
  obtain ⟨S, hA, _⟩ := hw.at hj
  have h2 := inm_inn hA
  exact YtbgngihmpdneaaaDoor.nst_rd (hw.row_rd hk) ⟨h2.1.1, fun i u x hu hx => (rSl R.rp).mono (h2.1.2 i u x hu hx) (fun b hb => ⟨h2.2 b hb, fun h => h⟩) (fun _ _ => rfl)⟩
/-- an own row is put on behind -/
theorem inm_push {w : World} {S : Nat → Prop} {vx : Value} {lx : List α} (hv : vx.oneCell' = true) (h : (star (row vx E R lx) (inm E R vs ll)).holds w S) :
    (inm E R (vs ++ [mkRaw1 vx hv]) (ll ++ [lx])).holds w S := by
  obtain ⟨S1, S2, h1, ⟨⟨F, g1, g2, g3, g4⟩, g5⟩, hd, hS⟩ := h
  refine ⟨⟨fun i => if i < ll.length then F i else S1, by simp [g1], fun i u x hu hx => ?_, fun i j b hi hj hib hjb => ?_, fun i b hi hib => ?_⟩, fun b hb => ?_⟩
  · by_cases hi : i < vs.length
    · rw [List.getElem?_append_left hi] at hu
      rw [List.getElem?_append_left (by omega)] at hx
      simp only [show i < ll.length by omega, if_true]
      exact g2 i u x hu hx
    · have hl := lt_of_some hu
      simp at hl
      have hi' : i = vs.length := by omega
      subst hi'
      rw [List.getElem?_append_right (by omega)] at hu hx
      simp [g1] at hu hx
      subst hu hx
      have : ¬ vs.length < ll.length := by omega
      simp only [this, if_false]
      exact h1
  · simp only [List.length_append, List.length_cons, List.length_nil] at hi hj
    by_cases hil : i < ll.length <;> by_cases hjl : j < ll.length
    · simp only [hil, hjl, if_true] at hib hjb; exact g3 i j b hil hjl hib hjb
    · simp only [hil, if_true, hjl, if_false] at hib hjb; exact (hd b hjb (g4 i b hil hib)).elim
    · simp only [hil, if_false, hjl, if_true] at hib hjb; exact (hd b hib (g4 j b hjl hjb)).elim
    · omega
  · by_cases hil : i < ll.length
    · simp only [hil, if_true] at hib; exact (hS b).2 (.inr (g4 i b hil hib))
    · simp only [hil, if_false] at hib; exact (hS b).2 (.inl hib)
  · rcases (hS b).1 hb with hb | hb
    · exact (row vx E R lx).foot h1 b hb
    · exact g5 b hb
theorem inm_app {w : World} {S : Nat → Prop} {vs2 : List (Raw 1)} {ll2 zz : List (List α)} (hz : app ll ll2 = some zz) (h : (star (inm E R vs ll) (inm E R vs2 ll2)).holds w S) : (inm E R (vs ++ vs2) zz).holds w S := by
  have hz' : zz = ll ++ ll2 := by
    unfold app at hz
    split at hz
    · exact (Option.some.inj hz).symm
    · cases hz
  subst hz'
  obtain ⟨S1, S2, ⟨⟨F1, f1, f2, f3, f4⟩, f5⟩, ⟨⟨F, g1, g2, g3, g4⟩, g5⟩, hd, hS⟩ := h
  refine ⟨⟨fun i => if i < ll.length then F1 i else F (i - ll.length), by simp [f1, g1], fun i u x hu hx => ?_, fun i j b hi hj hib hjb => ?_, fun i b hi hib => ?_⟩, fun b hb => ?_⟩
  · by_cases hi : i < ll.length
    · rw [List.getElem?_append_left (by omega)] at hu
      rw [List.getElem?_append_left hi] at hx
      simp only [hi, if_true]
      exact f2 i u x hu hx
    · rw [List.getElem?_append_right (by omega), f1] at hu
      rw [List.getElem?_append_right (by omega)] at hx
      simp only [hi, if_false]
      exact g2 _ u x hu hx
  · simp only [List.length_append] at hi hj
    by_cases hil : i < ll.length <;> by_cases hjl : j < ll.length
    · simp only [hil, hjl, if_true] at hib hjb; exact f3 i j b hil hjl hib hjb
    · simp only [hil, if_true, hjl, if_false] at hib hjb; exact (hd b (f4 i b hil hib) (g4 _ b (by omega) hjb)).elim
    · simp only [hil, if_false, hjl, if_true] at hib hjb; exact (hd b (f4 j b hjl hjb) (g4 _ b (by omega) hib)).elim
    · simp only [hil, hjl, if_false] at hib hjb
      have := g3 _ _ b (by omega) (by omega) hib hjb
      omega
  · simp only [List.length_append] at hi
    by_cases hil : i < ll.length
    · simp only [hil, if_true] at hib; exact (hS b).2 (.inl (f4 i b hil hib))
    · simp only [hil, if_false] at hib; exact (hS b).2 (.inr (g4 _ b (by omega) hib))
  · rcases (hS b).1 hb with hb | hb
    · exact f5 b hb
    · exact g5 b hb
theorem PJ.inm_inn {x : Exit} (k : Nat) (hk : L[k]? = some (inm E R vs ll)) (h : PJ Q c n x m (L.set k (inn (rSl R.rp) vs ll))) : PJ Q c n x m L := fun a w ha hw => by
  obtain ⟨S, hA, _, hset⟩ := hw.set hk
  exact h a w ha (hset w _ S (Chg.refl _ _) (YtbgngihmpdneaaaDoor.inm_inn hA) (fun b hb => .inl hb))
theorem raw_put (y : Raw 1) (v : Value) : [v] = putL (fRaw1.enc y) 0 [v] := by
  show [v] = putL y.1 0 [v]
  rw [raw_eq y]; rfl
/-- an own row is put into a place -/
theorem inm_set {w : World} {S : Nat → Prop} {vx : Value} {lx : List α} (hv : vx.oneCell' = true) {i0 : Nat} (h : (star (row vx E R lx) (inm E R vs ll)).holds w S) :
    (inm E R (vs.set i0 (mkRaw1 vx hv)) (ll.set i0 lx)).holds w S := by
  obtain ⟨S1, S2, h1, ⟨⟨F, g1, g2, g3, g4⟩, g5⟩, hd, hS⟩ := h
  refine ⟨⟨fun i => if i = i0 then S1 else F i, by simp [g1], fun i u x hu hx => ?_, fun i j b hi hj hib hjb => ?_, fun i b hi hib => ?_⟩, fun b hb => ?_⟩
  · have hl := lt_of_some hx
    simp at hl
    by_cases hi : i = i0
    · subst hi
      rw [List.getElem?_set_self (by omega)] at hu hx
      obtain rfl := Option.some.inj hu
      obtain rfl := Option.some.inj hx
      simp only [if_true]
      exact h1
    · rw [List.getElem?_set_ne (fun e => hi e.symm)] at hu hx
      simp only [hi, if_false]
      exact g2 i u x hu hx
  · simp only [List.length_set] at hi hj
    by_cases hil : i = i0 <;> by_cases hjl : j = i0
    · omega
    · simp only [hil, if_true, hjl, if_false] at hib hjb; exact (hd b hib (g4 j b hj hjb)).elim
    · simp only [hil, if_false, hjl, if_true] at hib hjb; exact (hd b hjb (g4 i b hi hib)).elim
    · simp only [hil, hjl, if_false] at hib hjb; exact g3 i j b hi hj hib hjb
  · simp only [List.length_set] at hi
    by_cases hil : i = i0
    · simp only [hil, if_true] at hib; exact (hS b).2 (.inl hib)
    · simp only [hil, if_false] at hib; exact (hS b).2 (.inr (g4 i b hi hib))
  · rcases (hS b).1 hb with hb | hb
    · exact (row vx E R lx).foot h1 b hb
    · exact g5 b hb
/-- a made row of nothing -/
theorem mk_raw {β γ : Type} {k : Int} {z : β} {z' : γ} {l' : List γ} (h : mk k z' = some l') : mk k z = some (List.replicate l'.length z) := by
  unfold mk at h ⊢
  split at h
  · rename_i hc
    obtain rfl := Option.some.inj h
    rw [if_pos hc]; simp
  · cases h
theorem mk_rep {γ : Type} {k : Int} {z' : γ} {l' : List γ} (h : mk k z' = some l') : l' = List.replicate l'.length z' := by
  unfold mk at h
  split at h
  · obtain rfl := Option.some.inj h; simp
  · cases h
def rawNil : Raw 1 := mkRaw1 (.slice none 0 0) rfl
theorem SJ.inm_make (E : TypeId) (R : FRp α) {k : Int} (hl : mk k ([] : List α) = some ll) (h : SJ P ops Q c n l m (inm E R (List.replicate ll.length rawNil) ll :: L)) : SJ P ops Q c n l m L := fun a w ha hw => by
  refine h a w ha (hw.new (Chg.refl _ _) (S := fun _ => False) ⟨⟨fun _ _ => False, by simp, fun i u x hu hx => ?_, fun i j b _ _ h => h.elim, fun _ _ _ h => h⟩, fun b hb => hb.elim⟩ (fun _ h => h.elim))
  have hr := mk_rep hl
  have hi : i < ll.length := lt_of_some hx
  have hx2 : x = [] := by
    have h2 := hx
    rw [hr, List.getElem?_replicate, if_pos hi] at h2
    exact (Option.some.inj h2).symm
  have hu2 : u = rawNil := by
    rw [List.getElem?_replicate, if_pos hi] at hu
    exact (Option.some.inj hu).symm
  subst hx2 hu2
  exact ⟨World.ownsRow_nil w 0 E R.size, fun b => by simp [raw0, rawNil, mkRaw1, Value.ownBlock]⟩
/-- one cell of an inner row is written -/
theorem SJ.storeG {x y : Operand} {t' : TypeId} {u : Value} {k q : Nat} {i : Int} {yr : Raw 1} {x0 : List α} {a0 b0 : α} (hk : L[k]? = some (inm E R vs ll)) (h1 : R.size = 1) (hyr : idx vs i = some yr) (hx0 : idx ll i = some x0)
    (hx : ev m x = some (vAt (raw0 yr) (q * R.size + 0))) (hq : x0[q]? = some a0) (hy : ev m y = some u) (hs : ∀ w, (sizeOf t').run P w = .ok 1 w) (hb : R.enc b0 = [u]) (hu : u.cells.toList = [u]) (hu1 : u.oneCell' = true)
    (h : SJ P ops Q c n l m (L.set k (inm E R vs (ll.set i.toNat (x0.set q b0))))) : SJ P ops Q c n (⟨none, .store t' x y, ty, ps, af, none⟩ :: l) m L :=
  SJ.u (fun ac w ha hw => by
    obtain ⟨S, hA, _, hset⟩ := hw.set hk
    obtain ⟨⟨F, g1, g2, g3, g4⟩, g5⟩ := hA
    have hy0 := idx_get hyr
    have hl0 := idx_get hx0
    have hlt := lt_of_some hl0
    have hrow := g2 _ _ _ hy0 hl0
    have hqx := lt_of_some hq
    obtain ⟨g, cap, cur, hv, hgg, hS, hc1, hc2, hcs, htake, _⟩ := row_at hrow hq
    rw [h1, Nat.mul_one] at hcs htake
    have hadd : (⟨g, 0, none⟩ : Addr).add (q * R.size + 0) = ⟨g, q, none⟩ := by rw [h1]; unfold Addr.add; split <;> simp_all
    have hr := run_storeVar_at (P := P) w g q E t' cur u [u] hgg (show (sizeOf t').run P w = .ok [u].length w from hs w) hu (by simp; omega) (fun v hv => by rw [List.mem_singleton.1 hv]; exact hu1)
    have hxp : ev m x = some (.pointer (some ⟨g, q, none⟩)) := by
      rw [hx, hv]
      show some (Value.pointer (some ((⟨g, 0, none⟩ : Addr).add (q * R.size + 0)))) = _
      rw [hadd]
    refine ⟨w.setRow g (putL cur.toList q [u]).toArray, by simp [execOp, ha.ev hxp, ha.ev hy, Instr.storeAt, Instr.sureAddr, hr], ?_⟩
    have hSg : S g := g4 _ g hlt hS
    have hgl : g < w.heap.size := (Array.getElem?_eq_some_iff.1 hgg).1
    refine hset _ _ S (setRow_chg w g _ hSg) ⟨⟨F, by simp [g1], fun j u' x' hu' hx' => ?_, fun i j b hi hj => g3 i j b (by simpa using hi) (by simpa using hj), fun j b hj hb => g4 j b (by simpa using hj) hb⟩, fun b hb => by simpa [World.setRow] using g5 b hb⟩ (fun b hb => .inl hb)
    by_cases hj : j = i.toNat
    · subst hj
      rw [hy0] at hu'
      obtain rfl := Option.some.inj hu'
      rw [List.getElem?_set_self hlt] at hx'
      obtain rfl := Option.some.inj hx'
      have hlen : (x0.set q b0).length = x0.length := by simp
      refine ⟨⟨by rw [length_encs], .inr ⟨g, cap, (putL cur.toList q [u]).toArray, by rw [hv, hlen], Nat.zero_le _, setRow_heap w g _ _ E _ hgg, by rw [hlen]; exact hc1, hc2, ?_, ?_⟩⟩, fun b => ?_⟩
      · rw [h1, Nat.mul_one, List.size_toArray, length_putL (by simp; omega)]; simpa using hcs
      · rw [hlen, h1, Nat.mul_one]
        have hset2 := encs_set R x0 q a0 b0 0 [u] hq (by rw [h1]; simp) (by
          have hla := R.len a0
          rw [h1] at hla
          rw [hb]
          unfold putL
          match h9 : R.enc a0, hla with
          | [z], _ => simp)
        rw [hset2, h1, Nat.mul_one, Nat.add_zero, ← htake]
        simp only [putL, List.length_cons, List.length_nil]
        rw [List.take_append, List.take_append, List.take_take, List.length_take, List.take_take, List.drop_take]
        have e1 : min q cur.toList.length = q := by simp; omega
        rw [e1, Nat.min_eq_right (by omega : q ≤ x0.length), Nat.min_eq_left (by omega : q ≤ x0.length)]
        have e2 : ([u] : List Value).take (x0.length - q) = [u] := List.take_of_length_le (by simp; omega)
        rw [e2]
        simp
        rw [show min q cur.size = q by omega]
      · have := hrow.2 b
        rw [this]
    · rw [List.getElem?_set_ne (fun e => hj e.symm)] at hx'
      have hr2 := g2 j u' x' hu' hx'
      refine (row (raw0 u') E R x').loc hr2 (fun b hb => setRow_other w g b _ (fun e => ?_))
      subst e
      exact hj (g3 j i.toNat b (lt_of_some hx') hlt hb hS)) h
end
/-! A row that bears a mark, or none. -/
def rowX {α : Type} (v : Value) (t : TypeId) (R : FRp α) (l : List α) : Asn where
  holds w S := (row v t R l).holds w S ∨ (rowM v t R l).holds w S
  loc h k := h.imp (fun h => (row v t R l).loc h k) (fun h => (rowM v t R l).loc h k)
  foot h b hb := by
    rcases h with h | h
    · exact (row v t R l).foot h b hb
    · exact (rowM v t R l).foot h b hb
theorem rowX_rd {α : Type} {v : Value} {t : TypeId} {R : FRp α} {l : List α} {w : World} {S F : Nat → Prop} (h : (rowX v t R l).holds w S) (hF : ∀ b, S b → F b) : RdS w F v R.rp l := by
  rcases h with h | h
  · exact YtbgngihmpdneaaaDoor.row_rd h hF
  · exact YtbgngihmpdneaaaDoor.rowM_rd h hF
theorem St.rowX_rd {α : Type} {c : Cx} {w : World} {L : List Asn} {k : Nat} {v : Value} {t : TypeId} {R : FRp α} {l : List α} (hw : St c w L) (hk : L[k]? = some (rowX v t R l)) : RdS w (cx w).Fz v R.rp l := by
  obtain ⟨S, hA, _⟩ := hw.at hk
  exact YtbgngihmpdneaaaDoor.rowX_rd hA (fun b hb => ⟨(rowX v t R l).foot hA b hb, fun h => h⟩)
theorem Beside.rowX_rd {α : Type} {L : List Asn} {w : World} {S : Nat → Prop} {k j : Nat} {t : TypeId} {v : Value} {R : FRp α} {ls : List α} (h : Beside L k w S) (hj : L[j]? = some (rowX v t R ls)) (hne : Nat.beq j k = false) : RdS w (Cx.Fz ⟨w, S⟩) v R.rp ls := by
  obtain ⟨T, hB, hd⟩ := h j _ hj (fun e => by subst e; simp at hne)
  exact YtbgngihmpdneaaaDoor.rowX_rd hB (fun b hb => ⟨(rowX v t R ls).foot hB b hb, hd b hb⟩)
section
variable {P : Program} {Q : Exit → Act → World → Prop} {c : Cx} {n : Nat} {m : List (Nat × Value)} {L L' : List Asn} {ops : Array Oper} {l : List Oper} {v : Value}
variable {d : Nat} {ty : TypeId} {ps : String} {af : Array Edge} {dd : Option Tmp} {gd : Option (Nat × Bool)}
variable {α : Type} {R : FRp α} {e : TypeId} {xs : List α}
theorem St.mixR {w : World} {k : Nat} (hw : St c w L) (hk : L[k]? = some (row v e R xs)) : St c w (L.set k (rowX v e R xs)) := by
  obtain ⟨S, hA, _, hset⟩ := hw.set hk
  exact hset w _ S (Chg.refl _ _) (.inl hA) (fun b hb => .inl hb)
theorem St.mixM {w : World} {k : Nat} (hw : St c w L) (hk : L[k]? = some (rowM v e R xs)) : St c w (L.set k (rowX v e R xs)) := by
  obtain ⟨S, hA, _, hset⟩ := hw.set hk
  exact hset w _ S (Chg.refl _ _) (.inr hA) (fun b hb => .inl hb)
theorem PJ.mixR {x : Exit} (k : Nat) (hk : L[k]? = some (row v e R xs)) (h : PJ Q c n x m (L.set k (rowX v e R xs))) : PJ Q c n x m L := fun a w ha hw => h a w ha (hw.mixR hk)
theorem PJ.mixM {x : Exit} (k : Nat) (hk : L[k]? = some (rowM v e R xs)) (h : PJ Q c n x m (L.set k (rowX v e R xs))) : PJ Q c n x m L := fun a w ha hw => h a w ha (hw.mixM hk)
theorem SJ.mixM (k : Nat) (hk : L[k]? = some (rowM v e R xs)) (h : SJ P ops Q c n l m (L.set k (rowX v e R xs))) : SJ P ops Q c n l m L := fun a w ha hw => h a w ha (hw.mixM hk)
theorem y_lenRowX {x : Operand} {t e' : TypeId} {k : Nat} (hk : L[k]? = some (rowX v e R xs)) (ht : ∀ w, (underlying t).run P w = .ok (.slice e') w) (hx : ev m x = some v) :
    YldS P n m (fun w => St c w L) ⟨dd, .call { callee := .builtin .len, args := #[x], argTypes := #[t] }, ty, ps, af, gd⟩ (.int .i64 xs.length) := y_lenG (fun w hw => hw.rowX_rd hk) ht hx
theorem y_ixRowX {s j : Operand} {t e' : TypeId} {k : Nat} {kd : IntKind} {i : Int} {x : α} (hk : L[k]? = some (rowX v e R xs)) (ht : ∀ w, (underlying t).run P w = .ok (.slice e') w) (hs : ∀ w, (sizeOf e').run P w = .ok R.size w)
    (hx : ev m s = some v) (hj : ev m j = some (.int kd i)) (hi : idx xs i = some x) :
    YldS P n m (fun w => St c w L) ⟨dd, .indexAddr t s j, ty, ps, af, gd⟩ (vAt v (i.toNat * R.size + 0)) := y_ixG (fun w hw => hw.rowX_rd hk) ht hs hx hj hi
theorem y_loadRX {x : Operand} {t : TypeId} {k i off : Nat} {y : α} {u : Value} (hk : L[k]? = some (rowX v e R xs)) (hg : ∀ w, (isAgg t).run P w = .ok false w) (hx : ev m x = some (vAt v (i * R.size + off))) (hi : xs[i]? = some y)
    (hc : (R.enc y)[off]? = some u) : YldS P n m (fun w => St c w L) ⟨dd, .load t x, ty, ps, af, gd⟩ u := y_loadG (fun w hw => hw.rowX_rd hk) hg hx hi hc
theorem y_slcX {x : Operand} {t e' : TypeId} {lo hi : Option Operand} {i j : Option Int} {r : List α} {k : Nat} (hr : sub xs (i.getD 0) (j.getD xs.length) = some r) (hk : L[k]? = some (rowX v e R xs)) (ht : ∀ w, (underlying t).run P w = .ok (.slice e') w) (hs : ∀ w, (sizeOf e').run P w = .ok R.size w)
    (hx : ev m x = some v) (hlo : evo m lo i) (hhi : evo m hi j) : YldS P n m (fun w => St c w L) ⟨dd, .slice t x lo hi none, ty, ps, af, gd⟩ (slcV v (i.getD 0).toNat (j.getD xs.length).toNat R.size) := fun a ha w hw =>
  RdS.slc_yld (hw.rowX_rd hk) hr ht hs hx hlo hhi a ha w trivial
theorem St.slcX_rd {w : World} {k : Nat} {r : List α} {i j : Option Int} (hw : St c w L) (hk : L[k]? = some (rowX v e R xs)) (hr : sub xs (i.getD 0) (j.getD xs.length) = some r) :
    RdS w (cx w).Fz (slcV v (i.getD 0).toNat (j.getD xs.length).toNat R.size) R.rp r := RdS.slc (hw.rowX_rd hk) hr
theorem rowX_vAt {w : World} {S : Nat → Prop} {i : Nat} {a : α} (hA : (rowX v e R xs).holds w S) (hi : xs[i]? = some a) (j : Nat) : vAt v j = rowAt v j := by
  have key : ∃ g cap, v = .slice (some ⟨g, 0, none⟩) xs.length cap := by
    rcases hA with hA | hA
    · obtain ⟨g, cap, _, hv, _⟩ := row_at hA hi; exact ⟨g, cap, hv⟩
    · obtain ⟨g, cap, _, _, hv, _⟩ := rowM_at hA; exact ⟨g, cap, hv⟩
  obtain ⟨g, cap, rfl⟩ := key
  have hadd : (⟨g, 0, none⟩ : Addr).add j = ⟨g, j, none⟩ := by unfold Addr.add; split <;> simp_all
  show Value.pointer (some ((⟨g, 0, none⟩ : Addr).add j)) = _
  rw [hadd]; rfl
theorem SJ.storeRLX {x y : Operand} {t' : TypeId} {u : Value} {us : List Value} {k i off : Nat} {a b : α} (hk : L[k]? = some (rowX v e R xs)) (hx : ev m x = some (vAt v (i * R.size + off))) (hi : xs[i]? = some a)
    (hy : ev m y = some u) (hus : u.cells.toList = us) (hs : ∀ w, (sizeOf t').run P w = .ok us.length w) (hl : Nat.ble (off + us.length) R.size = true) (h1 : us.all Value.oneCell' = true) (hb : R.enc b = putL (R.enc a) off us)
    (h : SJ P ops Q c n l m (L.set k (rowX v e R (xs.set i b)))) : SJ P ops Q c n (⟨none, .store t' x y, ty, ps, af, none⟩ :: l) m L := fun ac w ha hw => by
  obtain ⟨S, hA, _, hset⟩ := hw.set hk
  have hkl := lt_of_some hk
  rw [rowX_vAt hA hi] at hx
  rcases hA with hA | hA
  · have hw' := hset w (row v e R xs) S (Chg.refl _ _) hA (fun b hb => .inl hb)
    refine SJ.storeRL (L := L.set k (row v e R xs)) (k := k) (List.getElem?_set_self hkl) hx hi hy hus hs hl h1 hb (fun ac w ha hw => ?_) ac w ha hw'
    rw [List.set_set] at hw
    have hw2 := hw.mixR (k := k) (List.getElem?_set_self hkl)
    rw [List.set_set] at hw2
    exact h ac w ha hw2
  · have hw' := hset w (rowM v e R xs) S (Chg.refl _ _) hA (fun b hb => .inl hb)
    refine SJ.storeRLM (L := L.set k (rowM v e R xs)) (k := k) (List.getElem?_set_self hkl) hx hi hy hus hs hl h1 hb (fun ac w ha hw => ?_) ac w ha hw'
    rw [List.set_set] at hw
    have hw2 := hw.mixM (k := k) (List.getElem?_set_self hkl)
    rw [List.set_set] at hw2
    exact h ac w ha hw2
end

/-! Rows of parts of one row that is read. -/
def SpN (v : Value) : Prop := ∀ (a : Addr) (n c : Nat), v = .slice (some a) n c → a.spot = none
theorem SpN.nil : SpN (.slice none 0 0) := fun a n c h => by simp at h
theorem SpN.slc {v : Value} {lo hi size : Nat} (h : SpN v) : SpN (slcV v lo hi size) := by
  intro a n c e
  cases v with
  | slice a0 n0 c0 =>
    simp only [slcV, Value.slice.injEq] at e
    obtain ⟨e1, _, _⟩ := e
    cases a0 with
    | none => split at e1 <;> simp at e1
    | some a1 =>
      have h1 := h a1 n0 c0 rfl
      split at e1
      · obtain rfl := Option.some.inj e1
        exact h1
      · simp only [Option.map_some, Option.some.injEq] at e1
        subst e1
        unfold Addr.add
        split
        · exact h1
        · rfl
  | _ => exact h a n c e
def inv {α : Type} (v0 : Value) (R : Rp α) (xs : List α) (vs : List (Raw 1)) (ll : List (List α)) : Asn where
  holds _ S := (∀ b, ¬ S b) ∧ vs.length = ll.length ∧ (∀ (w : World) (F : Nat → Prop), RdS w F v0 R xs → ∀ (i : Nat) (u : Raw 1) (x : List α), vs[i]? = some u → ll[i]? = some x → (rSl R).rd w F u.1 x) ∧ (SpN v0 → ∀ u ∈ vs, SpN (raw0 u))
  loc h _ := h
  foot h b hb := (h.1 b hb).elim
section
variable {P : Program} {Q : Exit → Act → World → Prop} {c : Cx} {n : Nat} {m : List (Nat × Value)} {L L' : List Asn} {ops : Array Oper} {l : List Oper} {v : Value}
variable {d : Nat} {ty : TypeId} {ps : String} {af : Array Edge} {dd : Option Tmp} {gd : Option (Nat × Bool)}
variable {α : Type} {Rn : Rp α} {xs : List α} {e : TypeId} {v0 : Value}
theorem inv_nil_h (v0 : Value) (Rn : Rp α) (xs : List α) (w : World) : (inv v0 Rn xs [] []).holds w (fun _ => False) := ⟨fun _ h => h, rfl, fun w F h i u x hu _ => by simp at hu, fun _ u hu => by cases hu⟩
theorem SJ.inv_nil (v0 : Value) (Rn : Rp α) (xs : List α) (h : SJ P ops Q c n l m (inv v0 Rn xs [] [] :: L)) : SJ P ops Q c n l m L := fun a w ha hw =>
  h a w ha (hw.new (Chg.refl _ _) (S := fun _ => False) (inv_nil_h v0 Rn xs w) (fun _ h => h.elim))
theorem PJ.inv_nil {x : Exit} (v0 : Value) (Rn : Rp α) (xs : List α) (h : PJ Q c n x m (inv v0 Rn xs [] [] :: L)) : PJ Q c n x m L := fun a w ha hw =>
  h a w ha (hw.new (Chg.refl _ _) (S := fun _ => False) (inv_nil_h v0 Rn xs w) (fun _ h => h.elim))
theorem inv_push {w : World} {S : Nat → Prop} {vx : Value} {lx : List α} {vs : List (Raw 1)} {ll : List (List α)} (hv : vx.oneCell' = true) (hd : ∀ (w : World) (F : Nat → Prop), RdS w F v0 Rn xs → RdS w F vx Rn lx) (hsp : SpN v0 → SpN vx) (h : (inv v0 Rn xs vs ll).holds w S) :
    (inv v0 Rn xs (vs ++ [mkRaw1 vx hv]) (ll ++ [lx])).holds w S := by
  obtain ⟨h1, hl, hr, hq⟩ := h
  refine ⟨h1, by simp [hl], fun w F hs i u x hu hx => ?_, fun h0 u hu => ?_⟩
  case refine_2 =>
    rcases List.mem_append.1 hu with hu | hu
    · exact hq h0 u hu
    · rw [List.mem_singleton.1 hu]; exact hsp h0
  by_cases hi : i < vs.length
  · rw [List.getElem?_append_left hi] at hu
    rw [List.getElem?_append_left (by omega)] at hx
    exact hr w F hs i u x hu hx
  · rw [List.getElem?_append_right (by omega)] at hu hx
    have hi' : i = vs.length := by
      have := lt_of_some hu
      simp at this
      omega
    subst hi'
    rw [hl] at hx
    simp at hu hx
    subst hu hx
    exact ⟨vx, rfl, hd w F hs⟩
theorem SJ.inv_len (k : Nat) {vs : List (Raw 1)} {ll : List (List α)} (hk : L[k]? = some (inv v0 Rn xs vs ll)) (h : vs.length = ll.length → SJ P ops Q c n l m L) : SJ P ops Q c n l m L := fun a w ha hw => by
  obtain ⟨S, hA, _⟩ := hw.at hk
  exact h hA.2.1 a w ha hw
theorem WJ.inv_len {z : Code} (k : Nat) {vs : List (Raw 1)} {ll : List (List α)} (hk : L[k]? = some (inv v0 Rn xs vs ll)) (h : vs.length = ll.length → WJ P Q c n z m L) : WJ P Q c n z m L := fun a w ha hw => by
  obtain ⟨S, hA, _⟩ := hw.at hk
  exact h hA.2.1 a w ha hw
theorem St.inv_rd {w : World} {k : Nat} {vs : List (Raw 1)} {ll : List (List α)} {i j : Int} {y : Raw 1} {x : List α} (hw : St c w L) (hk : L[k]? = some (inv v0 Rn xs vs ll)) (hs : RdS w (cx w).Fz v0 Rn xs) (hij : i = j) (hy : idx vs i = some y) (hx : idx ll j = some x) : RdS w (cx w).Fz (raw0 y) Rn x := by
  subst hij
  obtain ⟨S, hA, _⟩ := hw.at hk
  obtain ⟨v, h1, h2⟩ := hA.2.2.1 w _ hs _ y x (idx_get hy) (idx_get hx)
  have : v = raw0 y := by rw [raw_eq y] at h1; simpa using h1.symm
  subst this
  exact h2
theorem St.inv_sp {w : World} {k : Nat} {vs : List (Raw 1)} {ll : List (List α)} {i : Int} {y : Raw 1} (hw : St c w L) (hk : L[k]? = some (inv v0 Rn xs vs ll)) (hs : SpN v0) (hy : idx vs i = some y) : SpN (raw0 y) := by
  obtain ⟨S, hA, _⟩ := hw.at hk
  exact hA.2.2.2 hs y (List.mem_of_getElem? (idx_get hy))
theorem St.row_sp {β : Type} {R : FRp β} {ys : List β} {w : World} {k : Nat} (hw : St c w L) (hk : L[k]? = some (row v e R ys)) : SpN v := by
  obtain ⟨S, hA, _⟩ := hw.at hk
  intro a n cp hv
  rcases hA.1.2 with ⟨h1, _⟩ | ⟨g, cap, cur, h1, _⟩
  · rw [h1] at hv; simp at hv
  · rw [h1] at hv
    simp at hv
    rw [← hv.1]
theorem St.nsv_rd {w : World} {k j : Nat} {vs : List (Raw 1)} {ll : List (List α)} (hw : St c w L) (hk : L[k]? = some (row v e fRaw1 vs)) (hj : L[j]? = some (inv v0 Rn xs vs ll)) (hs : RdS w (cx w).Fz v0 Rn xs) : RdS w (cx w).Fz v (rSl Rn) ll := by
  obtain ⟨S, hA, _⟩ := hw.at hj
  exact YtbgngihmpdneaaaDoor.nst_rd (hw.row_rd hk) ⟨hA.2.1, fun i u x hu hx => hA.2.2.1 w _ hs i u x hu hx⟩
theorem y_slcFz {C : World → Prop} {w0 : World} {F : Nat → Prop} {x : Operand} {t e' : TypeId} {lo hi : Option Operand} {i j : Option Int} {r : List α} (h : RdS w0 F v Rn xs) (hr : sub xs (i.getD 0) (j.getD xs.length) = some r) (ht : ∀ w, (underlying t).run P w = .ok (.slice e') w) (hs : ∀ w, (sizeOf e').run P w = .ok Rn.size w)
    (hx : ev m x = some v) (hlo : evo m lo i) (hhi : evo m hi j) : YldS P n m C ⟨dd, .slice t x lo hi none, ty, ps, af, gd⟩ (slcV v (i.getD 0).toNat (j.getD xs.length).toNat Rn.size) := fun a ha w _ =>
  RdS.slc_yld h hr ht hs hx hlo hhi a ha w trivial
end
theorem inv_app {α : Type} {Rn : Rp α} {v0 : Value} {xs : List α} {w : World} {S : Nat → Prop} {vs vs2 : List (Raw 1)} {ll ll2 zz : List (List α)} (hz : app ll ll2 = some zz) (h : (star (inv v0 Rn xs vs ll) (inv v0 Rn xs vs2 ll2)).holds w S) : (inv v0 Rn xs (vs ++ vs2) zz).holds w S := by
  have hz' : zz = ll ++ ll2 := by
    unfold app at hz
    split at hz
    · exact (Option.some.inj hz).symm
    · cases hz
  subst hz'
  obtain ⟨S1, S2, h1, h2, _, h4⟩ := h
  obtain ⟨g1, hl, hr, hq⟩ := h1
  obtain ⟨g2, hl2, hr2, hq2⟩ := h2
  refine ⟨fun b hb => ?_, by simp [hl, hl2], fun w F hs i u x hu hx => ?_, fun h0 u hu => (List.mem_append.1 hu).elim (hq h0 u) (hq2 h0 u)⟩
  · rcases (h4 b).1 hb with hb | hb
    · exact g1 b hb
    · exact g2 b hb
  · by_cases hi : i < vs.length
    · rw [List.getElem?_append_left hi] at hu
      rw [List.getElem?_append_left (by omega)] at hx
      exact hr w F hs i u x hu hx
    · rw [List.getElem?_append_right (by omega)] at hu hx
      rw [hl] at hu
      exact hr2 w F hs _ u x hu hx

/-! Texts that are joined. -/
def joinO (xs : List (List UInt8)) (sep : List UInt8) : Option (List UInt8) := if xs.length ≤ LIM ∧ (Lib.join xs sep).length ≤ LIM then some (Lib.join xs sep) else none
theorem joinO_ok {P : Program} {f : FuncId} (hJ : ∀ (bk o c : Nat) (xs : List ByteArray) (sep : ByteArray) (w : World) (_ : ∀ (j : Nat) x, xs[j]? = some x → w.cell? ⟨bk, o + j, none⟩ = some (.string x)) (_ : bk < w.heap.size) (_ : xs.length ≤ 140737488355328) (_ : xs.length ≤ c) (_ : (Lib.join (xs.map (·.data.toList)) sep.data.toList).length ≤ 140737488355328),
      Calls P f #[.slice (some ⟨bk, o, none⟩) xs.length c, .string sep] w fun e w' => e = .returned (.string ⟨(Lib.join (xs.map (·.data.toList)) sep.data.toList).toArray⟩) ∧ Below w.heap.size w w')
    (hJ0 : ∀ (a : Option Addr) (c : Nat) (sep : ByteArray) (w : World), Calls P f #[.slice a 0 c, .string sep] w fun e w' => e = .returned (.string ⟨#[]⟩) ∧ w' = w)
    {xs : List (List UInt8)} {sep r : List UInt8} (hm : joinO xs sep = some r) (w : World) {v : Value} (hr : RdS w (cx w).Fz v fStr.rp xs) (hsp : SpN v) : Calls P f #[v, str sep] w (Ret (cx w) (str r)) := by
  unfold joinO at hm
  split at hm
  case isFalse => cases hm
  rename_i hb
  obtain rfl := Option.some.inj hm
  obtain ⟨a, cap, rfl, hc1, hc2, h3⟩ := hr
  have hL : LIM = 1099511627776 := rfl
  have fin : ∀ (w' : World), Below w.heap.size w w' → St (cx w) w' [] := fun w' h => ⟨(Same.of_below h).chg _, fun _ _ => False, fun _ _ h => by simp at h, fun _ _ _ hi => by simp at hi, fun _ _ hk => by simp at hk⟩
  cases hx : xs with
  | nil =>
    subst hx
    refine (hJ0 a cap ⟨sep.toArray⟩ w).mono fun e w' ⟨he, hw⟩ => ?_
    subst he hw
    exact ⟨_, [], rfl, ⟨rfl, rfl⟩, fin _ (Below.refl _ _)⟩
  | cons x0 rest =>
    have hx0 : xs[0]? = some x0 := by rw [hx]; rfl
    obtain ⟨ad, cs, rfl, _, _⟩ := h3 0 x0 hx0
    have hs := hsp ad _ _ rfl
    obtain ⟨bk, o, sp⟩ := ad
    simp only at hs
    subst hs
    rw [← hx]
    have hmap : (xs.map fun l => (⟨l.toArray⟩ : ByteArray)).map (·.data.toList) = xs := by
      rw [List.map_map]
      conv => rhs; rw [← List.map_id xs]
      exact List.map_congr_left fun l _ => rfl
    have hcell : ∀ (j : Nat) (x : List UInt8), xs[j]? = some x → w.cell? ⟨bk, o + j, none⟩ = some (str x) ∧ bk < w.heap.size := fun j x hj => by
      obtain ⟨ad', cs', e, hrd, hat⟩ := h3 j x hj
      obtain rfl := Option.some.inj e
      have hcs : cs' = [str x] := hrd
      subst hcs
      obtain ⟨g1, g2⟩ := hat 0 (str x) rfl
      rw [add_of_add] at g2
      rw [block_of_add] at g1
      refine ⟨?_, g1.1⟩
      have : (⟨bk, o, none⟩ : Addr).add (j * fStr.rp.size + 0) = ⟨bk, o + j, none⟩ := by
        show (⟨bk, o, none⟩ : Addr).add (j * 1 + 0) = _
        unfold Addr.add
        split
        · rename_i h; rw [show j = 0 by omega]; rfl
        · simp
      rw [this] at g2
      exact g2
    have h := hJ bk o cap (xs.map fun l => ⟨l.toArray⟩) ⟨sep.toArray⟩ w (fun j x hj => by
        rw [List.getElem?_map] at hj
        cases hxj : xs[j]? with
        | none => rw [hxj] at hj; cases hj
        | some y =>
          rw [hxj] at hj
          obtain rfl := Option.some.inj hj
          exact (hcell j y hxj).1) (hcell 0 x0 hx0).2 (by rw [List.length_map]; omega) (by rw [List.length_map]; exact hc1) (by rw [hmap]; exact Nat.le_trans hb.2 (by omega))
    rw [hmap, List.length_map] at h
    refine h.mono fun e w' ⟨he, hw⟩ => ?_
    subst he
    exact ⟨_, [], rfl, ⟨rfl, rfl⟩, fin _ hw⟩

/-! A slice that is frozen, or owned and only read. -/
def fov {α : Type} (c : Cx) (v : Value) (R : Rp α) (l : List α) : Asn where
  holds w S := (RdS c.w0 c.Fz v R l ∧ ∀ b, ¬ S b) ∨ (vw v R l).holds w S
  loc h k := h.imp (fun h => h) fun h => (vw v R l).loc h k
  foot h b hb := h.elim (fun h => (h.2 b hb).elim) fun h => (vw v R l).foot h b hb
section
variable {P : Program} {Q : Exit → Act → World → Prop} {c : Cx} {n : Nat} {m : List (Nat × Value)} {L L' : List Asn} {ops : Array Oper} {l : List Oper} {v : Value}
variable {d : Nat} {ty : TypeId} {ps : String} {af : Array Edge} {dd : Option Tmp} {gd : Option (Nat × Bool)}
variable {α : Type} {R : FRp α} {Rn : Rp α} {xs : List α} {e : TypeId}
theorem St.rowF_rd {w : World} {k : Nat} (hw : St c w L) (hk : L[k]? = some (fov c v Rn xs)) : RdS w (cx w).Fz v Rn xs := by
  obtain ⟨S, hA, _⟩ := hw.at hk
  rcases hA with hA | hA
  · exact hA.1.st hw
  · exact hA.1.mono (fun b hb => ⟨hA.2 b hb, fun h => h⟩) (fun _ _ => rfl)
theorem WJ.fovF {z : Code} (h : RdS c.w0 c.Fz v Rn xs) (hh : WJ P Q c n z m (fov c v Rn xs :: L)) : WJ P Q c n z m L := fun a w ha hw =>
  hh a w ha (hw.new (Chg.refl _ _) (S := fun _ => False) (.inl ⟨h, fun _ h => h⟩) (fun _ h => h.elim))
theorem PJ.fovF {x : Exit} (h : RdS c.w0 c.Fz v Rn xs) (hh : PJ Q c n x m (fov c v Rn xs :: L)) : PJ Q c n x m L := fun a w ha hw =>
  hh a w ha (hw.new (Chg.refl _ _) (S := fun _ => False) (.inl ⟨h, fun _ h => h⟩) (fun _ h => h.elim))
theorem PJ.rowF {x : Exit} (k : Nat) (hk : L[k]? = some (row v e R xs)) (h : PJ Q c n x m (L.set k (fov c v R.rp xs))) : PJ Q c n x m L := fun a w ha hw => by
  obtain ⟨S, hA, _, hset⟩ := hw.set hk
  exact h a w ha (hset w _ S (Chg.refl _ _) (.inr ⟨YtbgngihmpdneaaaDoor.row_rd hA (fun _ h => h), (row v e R xs).foot hA⟩) (fun b hb => .inl hb))
theorem y_lenRowF {x : Operand} {t e' : TypeId} {k : Nat} (hk : L[k]? = some (fov c v Rn xs)) (ht : ∀ w, (underlying t).run P w = .ok (.slice e') w) (hx : ev m x = some v) :
    YldS P n m (fun w => St c w L) ⟨dd, .call { callee := .builtin .len, args := #[x], argTypes := #[t] }, ty, ps, af, gd⟩ (.int .i64 xs.length) := y_lenG (fun w hw => hw.rowF_rd hk) ht hx
theorem y_ixRowF {s j : Operand} {t e' : TypeId} {k : Nat} {kd : IntKind} {i : Int} {x : α} (hk : L[k]? = some (fov c v R.rp xs)) (ht : ∀ w, (underlying t).run P w = .ok (.slice e') w) (hs : ∀ w, (sizeOf e').run P w = .ok R.size w)
    (hx : ev m s = some v) (hj : ev m j = some (.int kd i)) (hi : idx xs i = some x) :
    YldS P n m (fun w => St c w L) ⟨dd, .indexAddr t s j, ty, ps, af, gd⟩ (vAt v (i.toNat * R.size + 0)) := y_ixG (fun w hw => hw.rowF_rd hk) ht hs hx hj hi
theorem y_loadRF {x : Operand} {t : TypeId} {k i off : Nat} {y : α} {u : Value} (hk : L[k]? = some (fov c v R.rp xs)) (hg : ∀ w, (isAgg t).run P w = .ok false w) (hx : ev m x = some (vAt v (i * R.size + off))) (hi : xs[i]? = some y)
    (hc : (R.enc y)[off]? = some u) : YldS P n m (fun w => St c w L) ⟨dd, .load t x, ty, ps, af, gd⟩ u := y_loadG (fun w hw => hw.rowF_rd hk) hg hx hi hc
theorem SJ.rowFCells (k : Nat) (hk : L[k]? = some (fov c v Rn xs)) (h : v.cells.toList = [v] ∧ v.oneCell' = true → SJ P ops Q c n l m L) : SJ P ops Q c n l m L := fun a w ha hw => by
  have hr := hw.rowF_rd hk
  exact h ⟨RdS.cells1 hr, RdS.one1 hr⟩ a w ha hw
end
/-! Rows of structs with one slice of their own each. -/
structure Sh (α β : Type) (n : Nat) where
  enc : Value → α → List Value
  get : α → List β
  pos : Nat
  len : ∀ v x, (enc v x).length = n
  at_ : ∀ v x, (enc v x)[pos]? = some v
  one : ∀ v x, v.oneCell' = true → ∀ u ∈ enc v x, u.oneCell' = true
  npos : 0 < n
def Sh.rp {α β : Type} {n : Nat} (H : Sh α β n) (R : Rp β) : Rp α where
  size := n
  rd w F cs x := ∃ v, cs = H.enc v x ∧ RdS w F v R (H.get x)
  len h := by obtain ⟨v, rfl, _⟩ := h; exact H.len _ _
  mono h hF hb := by obtain ⟨v, rfl, h⟩ := h; exact ⟨v, rfl, h.mono hF hb⟩
  pos := H.npos
  one h u hu := by obtain ⟨v, rfl, h⟩ := h; exact H.one v _ (RdS.one1 h) u hu
def Sh.sl {α β : Type} {n : Nat} (H : Sh α β n) (y : Raw n) : Value := y.1.getD H.pos undef
theorem Sh.sl_eq {α β : Type} {n : Nat} (H : Sh α β n) {y : Raw n} {v : Value} {x : α} (h : y.1 = H.enc v x) : H.sl y = v := by
  unfold Sh.sl
  rw [h, List.getD_eq_getElem?_getD, H.at_]; rfl
def mkRaw {n : Nat} (cs : List Value) (h : cs.length = n) (h1 : ∀ u ∈ cs, u.oneCell' = true) : Raw n := ⟨cs, h, h1⟩
def rawPut {n : Nat} (y : Raw n) (off : Nat) (us : List Value) (h : Nat.ble (off + us.length) n = true) (h1 : us.all Value.oneCell' = true) : Raw n :=
  ⟨putL y.1 off us, by have := y.2.1; rw [length_putL (by rw [this]; exact Nat.le_of_ble_eq_true h)]; exact this, fun u hu => by
    unfold putL at hu
    rcases List.mem_append.1 hu with hu | hu
    · rcases List.mem_append.1 hu with hu | hu
      · exact y.2.2 u (List.mem_of_mem_take hu)
      · exact List.all_eq_true.1 h1 u hu
    · exact y.2.2 u (List.mem_of_mem_drop hu)⟩
theorem sh_cell {n : Nat} {y : Raw n} {cs : List Value} {off : Nat} {u : Value} {h0 : 0 < n} (h : y.1 = cs) (hu : cs[off]? = some u) : ((fRaw n h0).enc y)[off]? = some u := by
  show y.1[off]? = _
  rw [h]; exact hu
theorem sh_cells {n : Nat} {y : Raw n} {cs us : List Value} {off : Nat} {h0 : 0 < n} (h : y.1 = cs) (hu : (cs.drop off).take us.length = us) : (((fRaw n h0).enc y).drop off).take us.length = us := by
  show (y.1.drop off).take us.length = us
  rw [h]; exact hu
/-- all of them but, if it is told, one -/
def insG {α β : Type} {n : Nat} (hole : Option Nat) (H : Sh α β n) (E : TypeId) (R : FRp β) (vs : List (Raw n)) (ll : List α) : Asn where
  holds w S := (∃ F : Nat → Nat → Prop, vs.length = ll.length ∧ (∀ (i : Nat) (u : Raw n) (x : α), vs[i]? = some u → ll[i]? = some x → u.1 = H.enc (H.sl u) x ∧ (hole ≠ some i → (row (H.sl u) E R (H.get x)).holds w (F i))) ∧
    (∀ i j b, i < ll.length → j < ll.length → F i b → F j b → i = j) ∧ ∀ i b, i < ll.length → F i b → hole ≠ some i ∧ S b) ∧ ∀ b, S b → b < w.heap.size
  loc {w w' S} h k := by
    obtain ⟨⟨F, h1, h2, h3, h4⟩, h5⟩ := h
    refine ⟨⟨F, h1, fun i u x hu hx => ⟨(h2 i u x hu hx).1, fun hn => (row (H.sl u) E R (H.get x)).loc ((h2 i u x hu hx).2 hn) (fun b hb => k b (h4 i b (lt_of_some hx) hb).2)⟩, h3, h4⟩, fun b hb => ?_⟩
    have h6 := k b hb
    rw [Array.getElem?_eq_getElem (h5 b hb)] at h6
    exact (Array.getElem?_eq_some_iff.1 h6).1
  foot h b hb := h.2 b hb
abbrev ins {α β : Type} {n : Nat} (H : Sh α β n) (E : TypeId) (R : FRp β) (vs : List (Raw n)) (ll : List α) : Asn := insG none H E R vs ll
abbrev inh {α β : Type} {n : Nat} (i : Nat) (H : Sh α β n) (E : TypeId) (R : FRp β) (vs : List (Raw n)) (ll : List α) : Asn := insG (some i) H E R vs ll
/-- what is known of it beforehand -/
def ShF {α β : Type} {n : Nat} (H : Sh α β n) (vs : List (Raw n)) (ll : List α) : Prop := vs.length = ll.length ∧ ∀ (i : Int) (u : Raw n) (x : α), idx vs i = some u → idx ll i = some x → u.1 = H.enc (H.sl u) x
theorem ins_shf {α β : Type} {n : Nat} {hole : Option Nat} {H : Sh α β n} {E : TypeId} {R : FRp β} {vs : List (Raw n)} {ll : List α} {w : World} {S : Nat → Prop} (h : (insG hole H E R vs ll).holds w S) : ShF H vs ll := by
  obtain ⟨⟨F, h1, h2, _⟩, _⟩ := h
  exact ⟨h1, fun i u x hu hx => (h2 _ u x (idx_get hu) (idx_get hx)).1⟩
section
variable {P : Program} {Q : Exit → Act → World → Prop} {c : Cx} {n : Nat} {m : List (Nat × Value)} {L L' : List Asn} {ops : Array Oper} {l : List Oper} {v : Value}
variable {d : Nat} {ty : TypeId} {ps : String} {af : Array Edge} {dd : Option Tmp} {gd : Option (Nat × Bool)}
variable {α β : Type} {q : Nat} {hole : Option Nat} {H : Sh α β q} {R : FRp β} {E e : TypeId} {vs : List (Raw q)} {ll : List α}
theorem ins_nil_h (H : Sh α β q) (E : TypeId) (R : FRp β) (w : World) : (ins H E R [] []).holds w (fun _ => False) := ⟨⟨fun _ _ => False, rfl, fun i u x hu _ => by simp at hu, fun i j b _ _ h => h.elim, fun _ _ _ h => h.elim⟩, fun b hb => hb.elim⟩
theorem SJ.ins_nil (H : Sh α β q) (E : TypeId) (R : FRp β) (h : SJ P ops Q c n l m (ins H E R [] [] :: L)) : SJ P ops Q c n l m L := fun a w ha hw => h a w ha (hw.new (Chg.refl _ _) (S := fun _ => False) (ins_nil_h H E R w) (fun _ h => h.elim))
theorem PJ.ins_nil {x : Exit} (H : Sh α β q) (E : TypeId) (R : FRp β) (h : PJ Q c n x m (ins H E R [] [] :: L)) : PJ Q c n x m L := fun a w ha hw => h a w ha (hw.new (Chg.refl _ _) (S := fun _ => False) (ins_nil_h H E R w) (fun _ h => h.elim))
theorem WJ.ins_nil {z : Code} (H : Sh α β q) (E : TypeId) (R : FRp β) (h : WJ P Q c n z m (ins H E R [] [] :: L)) : WJ P Q c n z m L := fun a w ha hw => h a w ha (hw.new (Chg.refl _ _) (S := fun _ => False) (ins_nil_h H E R w) (fun _ h => h.elim))
theorem SJ.ins_len (k : Nat) (hk : L[k]? = some (insG hole H E R vs ll)) (h : ShF H vs ll → SJ P ops Q c n l m L) : SJ P ops Q c n l m L := fun a w ha hw => by
  obtain ⟨S, hA, _⟩ := hw.at hk
  exact h (ins_shf hA) a w ha hw
theorem WJ.ins_len {z : Code} (k : Nat) (hk : L[k]? = some (insG hole H E R vs ll)) (h : ShF H vs ll → WJ P Q c n z m L) : WJ P Q c n z m L := fun a w ha hw => by
  obtain ⟨S, hA, _⟩ := hw.at hk
  exact h (ins_shf hA) a w ha hw
theorem ins_rd0 {w : World} {S : Nat → Prop} (hA : (ins H E R vs ll).holds w S) {i : Nat} {y : Raw q} {x : α} (hy : vs[i]? = some y) (hx : ll[i]? = some x) : RdS w S (H.sl y) R.rp (H.get x) := by
  obtain ⟨⟨F, h1, h2, h3, h4⟩, h5⟩ := hA
  exact YtbgngihmpdneaaaDoor.row_rd ((h2 i y x hy hx).2 (by simp)) (fun b hb => (h4 i b (lt_of_some hx) hb).2)
theorem St.ins_rd {w : World} {k : Nat} {i j : Int} {y : Raw q} {x : α} (hw : St c w L) (hk : L[k]? = some (ins H E R vs ll)) (hij : i = j) (hy : idx vs i = some y) (hx : idx ll j = some x) : RdS w (cx w).Fz (H.sl y) R.rp (H.get x) := by
  subst hij
  obtain ⟨S, hA, _⟩ := hw.at hk
  exact (ins_rd0 hA (idx_get hy) (idx_get hx)).mono (fun b hb => ⟨hA.2 b hb, fun h => h⟩) (fun _ _ => rfl)
theorem nst_rdS {w : World} {F : Nat → Prop} {h0 : 0 < q} {Rn : Rp β} (h1 : RdS w F v (fRaw q h0).rp vs) (h2 : vs.length = ll.length ∧ ∀ (i : Nat) (u : Raw q) (x : α), vs[i]? = some u → ll[i]? = some x → (H.rp Rn).rd w F u.1 x) : RdS w F v (H.rp Rn) ll := by
  obtain ⟨a, cp, rfl, hc1, hc2, h3⟩ := h1
  refine ⟨a, cp, by rw [h2.1], by omega, hc2, fun i x hx => ?_⟩
  have hi : i < vs.length := by have := lt_of_some hx; omega
  obtain ⟨ad, cs, rfl, hr, hat⟩ := h3 i vs[i] (List.getElem?_eq_getElem hi)
  exact ⟨ad, cs, rfl, by rw [show cs = vs[i].1 from hr]; exact h2.2 i vs[i] x (List.getElem?_eq_getElem hi) hx, hat⟩
theorem St.nss_rd {w : World} {k j : Nat} {h0 : 0 < q} (hw : St c w L) (hk : L[k]? = some (row v e (fRaw q h0) vs)) (hj : L[j]? = some (ins H E R vs ll)) : RdS w (cx w).Fz v (H.rp R.rp) ll := by
  obtain ⟨S, hA, _⟩ := hw.at hj
  have h5 := hA.2
  have hl : vs.length = ll.length := (ins_shf hA).1
  refine YtbgngihmpdneaaaDoor.nst_rdS (hw.row_rd hk) ⟨hl, fun i u x hu hx => ?_⟩
  refine ⟨H.sl u, ?_, (ins_rd0 hA hu hx).mono (fun b hb => ⟨h5 b hb, fun h => h⟩) (fun _ _ => rfl)⟩
  obtain ⟨⟨F, h1, h2, _⟩, _⟩ := hA
  exact (h2 i u x hu hx).1
/-- beside a call that changes something else -/
theorem Beside.nss_rd {w : World} {S : Nat → Prop} {k j j2 : Nat} {h0 : 0 < q} (h : Beside L k w S) (hj : L[j]? = some (row v e (fRaw q h0) vs)) (hne : Nat.beq j k = false) (hj2 : L[j2]? = some (ins H E R vs ll)) (hne2 : Nat.beq j2 k = false) : RdS w (Cx.Fz ⟨w, S⟩) v (H.rp R.rp) ll := by
  obtain ⟨S', hA, hS'⟩ := h j2 _ hj2 (fun e => by subst e; simp at hne2)
  have h5 := hA.2
  have hl : vs.length = ll.length := (ins_shf hA).1
  refine YtbgngihmpdneaaaDoor.nst_rdS (h.row_rd hj hne) ⟨hl, fun i u x hu hx => ?_⟩
  refine ⟨H.sl u, ?_, (ins_rd0 hA hu hx).mono (fun b hb => ⟨h5 b hb, hS' b hb⟩) (fun _ _ => rfl)⟩
  obtain ⟨⟨F, h1, h2, _⟩, _⟩ := hA
  exact (h2 i u x hu hx).1
/-- an element is put on behind -/
theorem ins_push {w : World} {S : Nat → Prop} {vx : Value} {y : Raw q} {x : α} {lx : List β} (hy : y.1 = H.enc vx x) (hg : H.get x = lx) (h : (star (row vx E R lx) (ins H E R vs ll)).holds w S) : (ins H E R (vs ++ [y]) (ll ++ [x])).holds w S := by
  obtain ⟨S1, S2, h1, ⟨⟨F, g1, g2, g3, g4⟩, g5⟩, hd, hS⟩ := h
  refine ⟨⟨fun i => if i < ll.length then F i else S1, by simp [g1], fun i u x' hu hx => ?_, fun i j b hi hj hib hjb => ?_, fun i b hi hib => ?_⟩, fun b hb => ?_⟩
  · by_cases hi : i < vs.length
    · rw [List.getElem?_append_left hi] at hu
      rw [List.getElem?_append_left (by omega)] at hx
      simp only [show i < ll.length by omega, if_true]
      exact g2 i u x' hu hx
    · have hl := lt_of_some hu
      simp at hl
      have hi' : i = vs.length := by omega
      subst hi'
      rw [List.getElem?_append_right (by omega)] at hu hx
      simp [g1] at hu hx
      subst hu hx
      have : ¬ vs.length < ll.length := by omega
      simp only [this, if_false]
      have hs := H.sl_eq hy
      rw [hs]
      refine ⟨hy, fun _ => ?_⟩
      rw [hg]; exact h1
  · simp only [List.length_append, List.length_cons, List.length_nil] at hi hj
    by_cases hil : i < ll.length <;> by_cases hjl : j < ll.length
    · simp only [hil, hjl, if_true] at hib hjb; exact g3 i j b hil hjl hib hjb
    · simp only [hil, if_true, hjl, if_false] at hib hjb; exact (hd b hjb (g4 i b hil hib).2).elim
    · simp only [hil, if_false, hjl, if_true] at hib hjb; exact (hd b hib (g4 j b hjl hjb).2).elim
    · omega
  · refine ⟨by simp, ?_⟩
    by_cases hil : i < ll.length
    · simp only [hil, if_true] at hib; exact (hS b).2 (.inr (g4 i b hil hib).2)
    · simp only [hil, if_false] at hib; exact (hS b).2 (.inl hib)
  · rcases (hS b).1 hb with hb | hb
    · exact (row vx E R lx).foot h1 b hb
    · exact g5 b hb
theorem ins_app {w : World} {S : Nat → Prop} {vs2 : List (Raw q)} {ll2 zz : List α} (hz : app ll ll2 = some zz) (h : (star (ins H E R vs ll) (ins H E R vs2 ll2)).holds w S) : (ins H E R (vs ++ vs2) zz).holds w S := by
  have hz' : zz = ll ++ ll2 := by
    unfold app at hz
    split at hz
    · exact (Option.some.inj hz).symm
    · cases hz
  subst hz'
  obtain ⟨S1, S2, ⟨⟨F1, f1, f2, f3, f4⟩, f5⟩, ⟨⟨F, g1, g2, g3, g4⟩, g5⟩, hd, hS⟩ := h
  refine ⟨⟨fun i => if i < ll.length then F1 i else F (i - ll.length), by simp [f1, g1], fun i u x hu hx => ?_, fun i j b hi hj hib hjb => ?_, fun i b hi hib => ?_⟩, fun b hb => ?_⟩
  · by_cases hi : i < ll.length
    · rw [List.getElem?_append_left (by omega)] at hu
      rw [List.getElem?_append_left hi] at hx
      simp only [hi, if_true]
      exact f2 i u x hu hx
    · rw [List.getElem?_append_right (by omega), f1] at hu
      rw [List.getElem?_append_right (by omega)] at hx
      simp only [hi, if_false]
      have := g2 _ u x hu hx
      exact ⟨this.1, fun _ => this.2 (by simp)⟩
  · simp only [List.length_append] at hi hj
    by_cases hil : i < ll.length <;> by_cases hjl : j < ll.length
    · simp only [hil, hjl, if_true] at hib hjb; exact f3 i j b hil hjl hib hjb
    · simp only [hil, if_true, hjl, if_false] at hib hjb; exact (hd b (f4 i b hil hib).2 (g4 _ b (by omega) hjb).2).elim
    · simp only [hil, if_false, hjl, if_true] at hib hjb; exact (hd b (f4 j b hjl hjb).2 (g4 _ b (by omega) hib).2).elim
    · simp only [hil, hjl, if_false] at hib hjb
      have := g3 _ _ b (by omega) (by omega) hib hjb
      omega
  · simp only [List.length_append] at hi
    refine ⟨by simp, ?_⟩
    by_cases hil : i < ll.length
    · simp only [hil, if_true] at hib; exact (hS b).2 (.inl (f4 i b hil hib).2)
    · simp only [hil, if_false] at hib; exact (hS b).2 (.inr (g4 _ b (by omega) hib).2)
  · rcases (hS b).1 hb with hb | hb
    · exact f5 b hb
    · exact g5 b hb
/-- an element with the same slice is put into a place -/
theorem ins_put {w : World} {S : Nat → Prop} {i0 : Int} {y y' : Raw q} {x x' : α} (hh : (insG hole H E R vs ll).holds w S) (hy : idx vs i0 = some y) (hx : idx ll i0 = some x) (hy' : y'.1 = H.enc (H.sl y) x') (hg : H.get x' = H.get x) : (insG hole H E R (vs.set i0.toNat y') (ll.set i0.toNat x')).holds w S := by
  obtain ⟨⟨F, g1, g2, g3, g4⟩, g5⟩ := hh
  have hy0 := idx_get hy
  have hx0 := idx_get hx
  refine ⟨⟨F, by simp [g1], fun i u z hu hz => ?_, fun i j b hi hj => g3 i j b (by simpa using hi) (by simpa using hj), fun i b hi => g4 i b (by simpa using hi)⟩, g5⟩
  by_cases hi : i = i0.toNat
  · subst hi
    rw [List.getElem?_set_self (lt_of_some hy0)] at hu
    rw [List.getElem?_set_self (lt_of_some hx0)] at hz
    obtain rfl := Option.some.inj hu
    obtain rfl := Option.some.inj hz
    rw [H.sl_eq hy', hg]
    exact ⟨hy', (g2 _ y x hy0 hx0).2⟩
  · rw [List.getElem?_set_ne (fun e => hi e.symm)] at hu hz
    exact g2 i u z hu hz
theorem SJ.insPut (k : Nat) {i0 : Int} {y y' : Raw q} {x x' : α} (hk : L[k]? = some (insG hole H E R vs ll)) (hy : idx vs i0 = some y) (hx : idx ll i0 = some x) (hy' : y'.1 = H.enc (H.sl y) x') (hg : H.get x' = H.get x) (h : SJ P ops Q c n l m (L.set k (insG hole H E R (vs.set i0.toNat y') (ll.set i0.toNat x')))) : SJ P ops Q c n l m L := fun a w ha hw => by
  obtain ⟨S, hA, _, hset⟩ := hw.set hk
  exact h a w ha (hset w _ S (Chg.refl _ _) (ins_put hA hy hx hy' hg) (fun b hb => .inl hb))
/-- one slice is taken out -/
theorem St.insOpen {w : World} {k : Nat} {i0 : Int} {y : Raw q} {x : α} (hw : St c w L) (hk : L[k]? = some (ins H E R vs ll)) (hy : idx vs i0 = some y) (hx : idx ll i0 = some x) : St c w (row (H.sl y) E R (H.get x) :: L.set k (inh i0.toNat H E R vs ll)) := by
  obtain ⟨hb, fp, h1⟩ := hw
  have hkl := lt_of_some hk
  have hA := h1.holds k _ hk
  obtain ⟨⟨F, g1, g2, g3, g4⟩, g5⟩ := hA
  have hy0 := idx_get hy
  have hx0 := idx_get hx
  have hxl := lt_of_some hx0
  have hrow := (g2 _ y x hy0 hx0).2 (by simp)
  refine ⟨hb, fun j => if j = 0 then F i0.toNat else if j = k + 1 then (fun b => fp k b ∧ ¬ F i0.toNat b) else fp (j - 1), fun j A hj => ?_, fun i j b hi hj hib hjb => ?_, fun j b hj hjb => ?_⟩
  · cases j with
    | zero => simp at hj; subst hj; simpa using hrow
    | succ j =>
      rw [List.getElem?_cons_succ] at hj
      simp only [Nat.add_eq_zero_iff, Nat.add_right_cancel_iff, Nat.add_sub_cancel]
      rw [if_neg (by omega)]
      by_cases hjk : j = k
      · subst hjk
        rw [List.getElem?_set_self hkl] at hj
        obtain rfl := Option.some.inj hj
        rw [if_pos rfl]
        refine ⟨⟨fun i => if i = i0.toNat then (fun _ => False) else F i, g1, fun i u z hu hz => ⟨(g2 i u z hu hz).1, fun hn => ?_⟩, fun i j b hi hj hib hjb => ?_, fun i b hi hib => ?_⟩, fun b hb => g5 b hb.1⟩
        · have : i ≠ i0.toNat := fun e => hn (by rw [e])
          simp only [this, if_false]
          exact (g2 i u z hu hz).2 (by simp)
        · have e1 : i ≠ i0.toNat := fun e => by simp only [e, if_true] at hib
          have e2 : j ≠ i0.toNat := fun e => by simp only [e, if_true] at hjb
          simp only [e1, e2, if_false] at hib hjb
          exact g3 i j b hi hj hib hjb
        · have e1 : i ≠ i0.toNat := fun e => by simp only [e, if_true] at hib
          simp only [e1, if_false] at hib
          refine ⟨fun e => e1 (Option.some.inj e).symm, (g4 i b hi hib).2, fun h => e1 (g3 i _ b hi hxl hib h)⟩
      · rw [List.getElem?_set_ne (fun e => hjk e.symm)] at hj
        rw [if_neg hjk]
        exact h1.holds j A hj
  · simp only [List.length_cons, List.length_set] at hi hj
    have hF : ∀ b, F i0.toNat b → fp k b := fun b hb => (g4 _ b hxl hb).2
    have key : ∀ i b, i < L.length + 1 → (if i = 0 then F i0.toNat else if i = k + 1 then (fun b => fp k b ∧ ¬ F i0.toNat b) else fp (i - 1)) b → (i = 0 ∧ F i0.toNat b) ∨ (i = k + 1 ∧ fp k b ∧ ¬ F i0.toNat b) ∨ (i ≠ 0 ∧ i ≠ k + 1 ∧ fp (i - 1) b) := fun i b _ h => by
      by_cases e : i = 0
      · simp only [e, if_true] at h; exact .inl ⟨e, h⟩
      · by_cases e2 : i = k + 1
        · subst e2; simp only [Nat.add_eq_zero_iff, Nat.one_ne_zero, and_false, if_false, if_true] at h; exact .inr (.inl ⟨rfl, h⟩)
        · simp only [e, e2, if_false] at h; exact .inr (.inr ⟨e, e2, h⟩)
    rcases key i b hi hib with ⟨e1, k1⟩ | ⟨e1, k1, k2⟩ | ⟨e1, e2, k1⟩ <;> rcases key j b hj hjb with ⟨f1, l1⟩ | ⟨f1, l1, l2⟩ | ⟨f1, f2, l1⟩
    · omega
    · exact (l2 k1).elim
    · have := h1.dis k (j - 1) b hkl (by omega) (hF b k1) l1; omega
    · exact (k2 l1).elim
    · omega
    · have := h1.dis k (j - 1) b hkl (by omega) k1 l1; omega
    · have := h1.dis k (i - 1) b hkl (by omega) (hF b l1) k1; omega
    · have := h1.dis k (i - 1) b hkl (by omega) l1 k1; omega
    · have := h1.dis (i - 1) (j - 1) b (by omega) (by omega) k1 l1; omega
  · simp only [List.length_cons, List.length_set] at hj
    by_cases e : j = 0
    · simp only [e, if_true] at hjb; exact h1.own k b hkl (g4 _ b hxl hjb).2
    · by_cases e2 : j = k + 1
      · subst e2; simp only [Nat.add_eq_zero_iff, Nat.one_ne_zero, and_false, if_false, if_true] at hjb; exact h1.own k b hkl hjb.1
      · simp only [e, e2, if_false] at hjb; exact h1.own (j - 1) b (by omega) hjb
theorem SJ.insOpen (k : Nat) {i0 : Int} {y : Raw q} {x : α} (hk : L[k]? = some (ins H E R vs ll)) (hy : idx vs i0 = some y) (hx : idx ll i0 = some x) (h : SJ P ops Q c n l m (row (H.sl y) E R (H.get x) :: L.set k (inh i0.toNat H E R vs ll))) : SJ P ops Q c n l m L := fun a w ha hw => h a w ha (hw.insOpen hk hy hx)
theorem WJ.insOpen {z : Code} (k : Nat) {i0 : Int} {y : Raw q} {x : α} (hk : L[k]? = some (ins H E R vs ll)) (hy : idx vs i0 = some y) (hx : idx ll i0 = some x) (h : WJ P Q c n z m (row (H.sl y) E R (H.get x) :: L.set k (inh i0.toNat H E R vs ll))) : WJ P Q c n z m L := fun a w ha hw => h a w ha (hw.insOpen hk hy hx)
/-- .. and another one put in -/
theorem inh_close {w : World} {S : Nat → Prop} {vx : Value} {lx : List β} {i0 : Int} {y' : Raw q} {x' : α} (hy' : y'.1 = H.enc vx x') (hg : H.get x' = lx) (h : (star (row vx E R lx) (inh i0.toNat H E R vs ll)).holds w S) : (ins H E R (vs.set i0.toNat y') (ll.set i0.toNat x')).holds w S := by
  obtain ⟨S1, S2, h1, ⟨⟨F, g1, g2, g3, g4⟩, g5⟩, hd, hS⟩ := h
  refine ⟨⟨fun i => if i = i0.toNat then S1 else F i, by simp [g1], fun i u x hu hx => ?_, fun i j b hi hj hib hjb => ?_, fun i b hi hib => ?_⟩, fun b hb => ?_⟩
  · have hl := lt_of_some hx
    simp at hl
    by_cases hi : i = i0.toNat
    · subst hi
      rw [List.getElem?_set_self (by omega)] at hu hx
      obtain rfl := Option.some.inj hu
      obtain rfl := Option.some.inj hx
      simp only [if_true]
      rw [H.sl_eq hy', hg]
      exact ⟨hy', fun _ => h1⟩
    · rw [List.getElem?_set_ne (fun e => hi e.symm)] at hu hx
      simp only [hi, if_false]
      have := g2 i u x hu hx
      exact ⟨this.1, fun _ => this.2 (fun e => hi (Option.some.inj e).symm)⟩
  · simp only [List.length_set] at hi hj
    by_cases hil : i = i0.toNat <;> by_cases hjl : j = i0.toNat
    · omega
    · simp only [hil, if_true, hjl, if_false] at hib hjb; exact (hd b hib (g4 j b hj hjb).2).elim
    · simp only [hil, if_false, hjl, if_true] at hib hjb; exact (hd b hjb (g4 i b hi hib).2).elim
    · simp only [hil, hjl, if_false] at hib hjb; exact g3 i j b hi hj hib hjb
  · simp only [List.length_set] at hi
    refine ⟨by simp, ?_⟩
    by_cases hil : i = i0.toNat
    · simp only [hil, if_true] at hib; exact (hS b).2 (.inl hib)
    · simp only [hil, if_false] at hib; exact (hS b).2 (.inr (g4 i b hi hib).2)
  · rcases (hS b).1 hb with hb | hb
    · exact (row vx E R lx).foot h1 b hb
    · exact g5 b hb
theorem PJ.conv0 {x : Exit} {A B : Asn} (hAB : ∀ w S, A.holds w S → B.holds w S) (h : PJ Q c n x m (B :: L)) : PJ Q c n x m (A :: L) := fun a w ha hw => by
  obtain ⟨S, hA, _, hset⟩ := hw.set (k := 0) rfl
  exact h a w ha (hset w B S (Chg.refl _ _) (hAB w S hA) (fun b hb => .inl hb))
theorem y_lenSh {x : Operand} {t e' : TypeId} {k j : Nat} {h0 : 0 < q} (hk : L[k]? = some (row v e (fRaw q h0) vs)) (hj : L[j]? = some (insG hole H E R vs ll)) (ht : ∀ w, (underlying t).run P w = .ok (.slice e') w) (hx : ev m x = some v) :
    YldS P n m (fun w => St c w L) ⟨dd, .call { callee := .builtin .len, args := #[x], argTypes := #[t] }, ty, ps, af, gd⟩ (.int .i64 ll.length) := fun a ha w hw => by
  obtain ⟨S, hA, _⟩ := hw.at hj
  rw [← (ins_shf hA).1]
  exact y_lenRow hk ht hx a ha w hw
end
/-! An own row that begins behind the start of its block. -/
def rowO {α : Type} (v : Value) (t : TypeId) (R : FRp α) (l : List α) : Asn where
  holds w S := (v = .slice none 0 0 ∧ l = [] ∧ ∀ b, ¬ S b) ∨ ∃ g off cap cur, v = .slice (some ⟨g, off, none⟩) l.length cap ∧ w.heap[g]? = some (.cells cur t (0, 0)) ∧ l.length ≤ cap ∧ cap ≤ maxLen ∧ off + cap * R.size ≤ cur.size ∧
    (cur.toList.drop off).take (l.length * R.size) = encs R l ∧ ∀ b, S b ↔ b = g
  loc {w w' S} h k := h.imp (fun h => h) fun ⟨g, off, cap, cur, h1, h2, h3⟩ => ⟨g, off, cap, cur, h1, by rw [k g ((h3.2.2.2.2 g).2 rfl)]; exact h2, h3⟩
  foot {w S} h b hb := by
    rcases h with h | ⟨g, off, cap, cur, _, h2, _, _, _, _, h7⟩
    · exact (h.2.2 b hb).elim
    · rw [(h7 b).1 hb]
      exact (Array.getElem?_eq_some_iff.1 h2).1
theorem row_rowO {α : Type} {v : Value} {t : TypeId} {R : FRp α} {l : List α} {w : World} {S : Nat → Prop} (h : (row v t R l).holds w S) : (rowO v t R l).holds w S := by
  obtain ⟨h1, h2⟩ := h
  rcases h1.2 with ⟨rfl, h0⟩ | ⟨g, cap, cur, rfl, _, hg, hc1, hc2, hcs, htake⟩
  · refine .inl ⟨rfl, List.eq_nil_of_length_eq_zero h0, fun b hb => ?_⟩
    have := (h2 b).1 hb
    simp [Value.ownBlock] at this
  · refine .inr ⟨g, 0, cap, cur, rfl, hg, hc1, hc2, by omega, by simpa using htake, fun b => ?_⟩
    rw [h2 b]
    simp [Value.ownBlock, eq_comm]
theorem encs_take {α : Type} (R : FRp α) : ∀ (l : List α) (k : Nat), encs R (l.take k) = (encs R l).take (k * R.size)
  | [], k => by simp [encs]
  | x :: l, 0 => by simp [encs]
  | x :: l, k + 1 => by
    have ih := encs_take R l k
    simp only [encs, List.take_succ_cons, List.flatMap_cons] at ih ⊢
    rw [ih, show (k + 1) * R.size = (R.enc x).length + k * R.size by rw [R.len, Nat.add_mul]; omega, List.take_length_add_append]
theorem encs_drop {α : Type} (R : FRp α) : ∀ (l : List α) (k : Nat), encs R (l.drop k) = (encs R l).drop (k * R.size)
  | [], k => by simp [encs]
  | x :: l, 0 => by simp [encs]
  | x :: l, k + 1 => by
    have ih := encs_drop R l k
    simp only [encs, List.drop_succ_cons, List.flatMap_cons] at ih ⊢
    rw [ih, show (k + 1) * R.size = (R.enc x).length + k * R.size by rw [R.len, Nat.add_mul]; omega, List.drop_length_add_append]
theorem rowO_rd {α : Type} {v : Value} {t : TypeId} {R : FRp α} {l : List α} {w : World} {S : Nat → Prop} (h : (rowO v t R l).holds w S) : RdS w S v R.rp l := by
  rcases h with ⟨rfl, rfl, _⟩ | ⟨g, off, cap, cur, rfl, hg, hc1, hc2, hcs, htake, hS⟩
  · exact RdS.nil0
  · refine ⟨some ⟨g, off, none⟩, cap, rfl, hc1, hc2, fun i x hx => ⟨_, R.enc x, rfl, rfl, fun j u hu => ⟨by rw [block_of_add]; exact (hS g).2 rfl, ?_⟩⟩⟩
    rw [add_of_add]
    have hadd : (⟨g, off, none⟩ : Addr).add (i * R.rp.size + j) = ⟨g, off + (i * R.rp.size + j), none⟩ := by unfold Addr.add; split <;> simp_all
    rw [hadd, cell_of_row w g _ cur t _ hg]
    have h3 := encs_get R l i x hx j u hu
    rw [← htake, List.getElem?_take] at h3
    split at h3
    · rw [List.getElem?_drop, Array.getElem?_toList] at h3; exact h3
    · cases h3
section
variable {P : Program} {Q : Exit → Act → World → Prop} {c : Cx} {n : Nat} {m : List (Nat × Value)} {L L' : List Asn} {ops : Array Oper} {l : List Oper} {v : Value}
variable {d : Nat} {ty : TypeId} {ps : String} {af : Array Edge} {dd : Option Tmp} {gd : Option (Nat × Bool)}
variable {α : Type} {R : FRp α} {xs ys : List α} {e : TypeId}
theorem St.rowO_rd {w : World} {k : Nat} (hw : St c w L) (hk : L[k]? = some (rowO v e R xs)) : RdS w (cx w).Fz v R.rp xs := by
  obtain ⟨S, hA, _⟩ := hw.at hk
  exact (YtbgngihmpdneaaaDoor.rowO_rd hA).mono (fun b hb => ⟨(rowO v e R xs).foot hA b hb, fun h => h⟩) (fun _ _ => rfl)
theorem WJ.asO {z : Code} (k : Nat) (hk : L[k]? = some (row v e R xs)) (h : WJ P Q c n z m (L.set k (YtbgngihmpdneaaaDoor.rowO v e R xs))) : WJ P Q c n z m L := fun a w ha hw => by
  obtain ⟨S, hA, _, hset⟩ := hw.set hk
  exact h a w ha (hset w _ S (Chg.refl _ _) (row_rowO hA) (fun b hb => .inl hb))
theorem SJ.asO (k : Nat) (hk : L[k]? = some (row v e R xs)) (h : SJ P ops Q c n l m (L.set k (YtbgngihmpdneaaaDoor.rowO v e R xs))) : SJ P ops Q c n l m L := fun a w ha hw => by
  obtain ⟨S, hA, _, hset⟩ := hw.set hk
  exact h a w ha (hset w _ S (Chg.refl _ _) (row_rowO hA) (fun b hb => .inl hb))
theorem PJ.asO {x : Exit} (k : Nat) (hk : L[k]? = some (row v e R xs)) (h : PJ Q c n x m (L.set k (YtbgngihmpdneaaaDoor.rowO v e R xs))) : PJ Q c n x m L := fun a w ha hw => by
  obtain ⟨S, hA, _, hset⟩ := hw.set hk
  exact h a w ha (hset w _ S (Chg.refl _ _) (row_rowO hA) (fun b hb => .inl hb))
theorem y_lenRowO {x : Operand} {t e' : TypeId} {k : Nat} (hk : L[k]? = some (rowO v e R xs)) (ht : ∀ w, (underlying t).run P w = .ok (.slice e') w) (hx : ev m x = some v) :
    YldS P n m (fun w => St c w L) ⟨dd, .call { callee := .builtin .len, args := #[x], argTypes := #[t] }, ty, ps, af, gd⟩ (.int .i64 xs.length) := y_lenG (fun w hw => hw.rowO_rd hk) ht hx
theorem y_ixRowO {s j : Operand} {t e' : TypeId} {k : Nat} {kd : IntKind} {i : Int} {x : α} (hk : L[k]? = some (rowO v e R xs)) (ht : ∀ w, (underlying t).run P w = .ok (.slice e') w) (hs : ∀ w, (sizeOf e').run P w = .ok R.size w)
    (hx : ev m s = some v) (hj : ev m j = some (.int kd i)) (hi : idx xs i = some x) :
    YldS P n m (fun w => St c w L) ⟨dd, .indexAddr t s j, ty, ps, af, gd⟩ (vAt v (i.toNat * R.size + 0)) := y_ixG (fun w hw => hw.rowO_rd hk) ht hs hx hj hi
theorem y_loadRO {x : Operand} {t : TypeId} {k i off : Nat} {y : α} {u : Value} (hk : L[k]? = some (rowO v e R xs)) (hg : ∀ w, (isAgg t).run P w = .ok false w) (hx : ev m x = some (vAt v (i * R.size + off))) (hi : xs[i]? = some y)
    (hc : (R.enc y)[off]? = some u) : YldS P n m (fun w => St c w L) ⟨dd, .load t x, ty, ps, af, gd⟩ u := y_loadG (fun w hw => hw.rowO_rd hk) hg hx hi hc
/-- the head is cut off -/
theorem SJ.sliceO {x : Operand} {t e' : TypeId} {lo hi : Option Operand} {i j : Option Int} {r : List α} {k : Nat} (hr : sub xs (i.getD 0) (j.getD xs.length) = some r) (hk : L[k]? = some (rowO v e R xs)) (ht : ∀ w, (underlying t).run P w = .ok (.slice e') w) (hs : ∀ w, (sizeOf e').run P w = .ok R.size w)
    (hx : ev m x = some v) (hlo : evo m lo i) (hhi : evo m hi j) (hd : Nat.blt d n = true) (h : ∀ v', SJ P ops Q c n l ((d, v') :: m) (L.set k (rowO v' e R r))) :
    SJ P ops Q c n (⟨some d, .slice t x lo hi none, ty, ps, af, none⟩ :: l) m L :=
  SJ.x (T := fun v' L' => L' = L.set k (rowO v' e R r)) (fun a w ha hw => by
    obtain ⟨S, hA, _, hset⟩ := hw.set hk
    refine ⟨_, w, _, RdS.slc_yld (YtbgngihmpdneaaaDoor.rowO_rd hA) hr ht hs hx hlo hhi a ha w trivial, rfl, hset w _ S (Chg.refl _ _) ?_ (fun b hb => .inl hb)⟩
    unfold sub at hr
    split at hr
    case isFalse => cases hr
    rename_i hb
    obtain rfl := Option.some.inj hr
    rcases hA with ⟨rfl, rfl, hS⟩ | ⟨g, off, cap, cur, rfl, hg, hc1, hc2, hcs, htake, hS⟩
    · refine .inl ⟨?_, by simp, hS⟩
      simp at hb
      have h1 : (j.getD 0).toNat = 0 := by simp; omega
      have h2 : (i.getD 0).toNat = 0 := by omega
      simp [slcV, h1, h2]
    · refine .inr ⟨g, if cap = (i.getD 0).toNat then off else off + (i.getD 0).toNat * R.size, cap - (i.getD 0).toNat, cur, ?_, hg, ?_, by omega, ?_, ?_, hS⟩
      · simp only [slcV, Value.slice.injEq]
        refine ⟨?_, ?_, trivial⟩
        · split
          · rfl
          · simp only [Option.map_some, Option.some.injEq]
            show (⟨g, off, none⟩ : Addr).add ((i.getD 0).toNat * R.size) = _
            unfold Addr.add; split <;> simp_all
        · simp; omega
      · simp; omega
      · have : (cap - (i.getD 0).toNat) * R.size + (i.getD 0).toNat * R.size = cap * R.size := by rw [← Nat.add_mul]; congr 1; omega
        split
        · rename_i h0; rw [h0, Nat.sub_self, Nat.zero_mul]; omega
        · omega
      · split
        · rename_i h0
          have h2 : ((xs.drop (i.getD 0).toNat).take ((j.getD ↑xs.length).toNat - (i.getD 0).toNat)) = [] := List.eq_nil_of_length_eq_zero (by simp; omega)
          rw [h2]; simp [encs]
        · have h3 : ((xs.drop (i.getD 0).toNat).take ((j.getD ↑xs.length).toNat - (i.getD 0).toNat)).length = (j.getD ↑xs.length).toNat - (i.getD 0).toNat := by simp; omega
          rw [h3, encs_take, encs_drop, ← htake, List.drop_take, List.take_take, List.drop_drop, ← Nat.sub_mul]
          congr 1
          rw [Nat.min_eq_left]
          exact Nat.mul_le_mul_right _ (by omega)) hd
    (fun v' L' hT => by subst hT; exact h v')
theorem SJ.appendO {t : TypeId} {s x : Operand} {vx : Value} {k : Nat} {zs : List α} {zc : List Value} (ha' : app xs ys = some zs) (hk : L[k]? = some (rowO v e R xs)) (ht : P.underlying t = some (.slice e)) (he : ElemOk P e R.size zc) (hzl : zc.length = R.size)
    (hs : ev m s = some v) (hx : ev m x = some vx) (hsrc : ∀ w, St c w L → RdS w (cx w).Fz vx R.rp ys) (hd : Nat.blt d n = true)
    (h : ∀ v', SJ P ops Q c n l ((d, v') :: m) (L.set k (rowO v' e R zs))) :
    SJ P ops Q c n (⟨some d, .call { callee := .builtin .append, args := #[s, x], argTypes := #[t, t] }, ty, ps, af, none⟩ :: l) m L :=
  SJ.x (T := fun v' L' => L' = L.set k (rowO v' e R zs)) (fun a w ha hw => by
    obtain ⟨i, zv, hi, hz, hzv, hsz, hby⟩ := he
    have ha0 := ha'
    unfold app at ha'
    split at ha'
    case isFalse => cases ha'
    rename_i hb
    obtain rfl := Option.some.inj ha'
    unfold LIM at hb
    have hrd := hsrc w hw
    obtain ⟨b, cap, rfl, _⟩ := id hrd
    obtain ⟨S, hA, hOw, hset⟩ := hw.set hk
    have hwrap : ∀ v' w', (Builtin.append_ #[t, t] ty #[v, .slice b ys.length cap]).run P w = .ok v' w' →
        (execOp a.eval ⟨some d, .call { callee := .builtin .append, args := #[s, x], argTypes := #[t, t] }, ty, ps, af, none⟩).run P w = .ok (.value v') w' := fun v' w' hr => by
      simp [execOp, ha.ev hs, ha.ev hx, resolve, invoke, builtin, hr]
    have hbytes : (xs.length + ys.length) * i.bytes ≤ (xs.length + ys.length) * 128 := Nat.mul_le_mul_left _ hby
    rcases hrd.cells with ⟨rfl, rfl⟩ | ⟨ad, rfl, hcells⟩
    · rcases hA with ⟨rfl, rfl, hS⟩ | ⟨g, off, cap0, cur, rfl, hg, hc1, hc2, hcs, htake, hS⟩
      · have hr := run_append_nil_src (P := P) w 0 t ty e i R.size ht hi (.slice none 0 0) 0 [] (World.ownsRow_nil w 0 e R.size) cap
        exact ⟨_, w, _, hwrap _ _ hr, rfl, hset w _ S (Chg.refl _ _) (.inl ⟨rfl, rfl, hS⟩) (fun b hb => .inl hb)⟩
      · have hr : (Builtin.append_ #[t, t] ty #[.slice (some ⟨g, off, none⟩) xs.length cap0, .slice none ([] : List α).length cap]).run P w = .ok (.slice (some ⟨g, off, none⟩) xs.length cap0) w := by
          simp [Builtin.append_, run_underlying ht, sizeOf, typeInfo, hi, Builtin.lenOf, Builtin.firstCells, loadCells, loadCellsFrom, hc1, storeCells]
        refine ⟨_, w, _, hwrap _ _ hr, rfl, hset w _ S (Chg.refl _ _) (.inr ⟨g, off, cap0, cur, by simp, hg, by simpa using hc1, hc2, hcs, by simpa using htake, hS⟩) (fun b hb => .inl hb)⟩
    · rcases hA with ⟨rfl, rfl, hS⟩ | ⟨g, off, cap0, cur, rfl, hg, hc1, hc2, hcs, htake, hS⟩
      · obtain ⟨v', w', hr, ho, hgr, _, hwh⟩ := run_append_own_at (P := P) w 0 t ty e i zv R.size i.bytes ht hi hz hsz rfl (by rw [← Array.length_toList, hzv, hzl]) R.pos (.slice none 0 0) 0 [] (World.ownsRow_nil w 0 e R.size) ad ys.length cap (encs R ys) (length_encs R ys) hcells (one_encs R ys)
          (by unfold maxLen; omega) (by simp at hbytes hb ⊢; omega) (Nat.zero_le _)
        refine ⟨v', w', _, hwrap _ _ hr, rfl, ?_⟩
        have hrow : (row v' e R ([] ++ ys)).holds w' (fun b => v'.ownBlock = some b) := ⟨by simpa using ho, fun b => Iff.rfl⟩
        refine hset w' _ (fun b => v'.ownBlock = some b) ⟨hgr.os, hgr.tape, hgr.output, hgr.size, fun b hb hn => hgr.block b hb (by simp [Value.ownBlock])⟩ (row_rowO hrow) (fun b hb => ?_)
        rcases hwh with hwh | hwh
        · rw [hwh] at hb; simp [Value.ownBlock] at hb
        · rw [hwh] at hb; right; have := Option.some.inj hb; omega
      · by_cases hroom : xs.length + ys.length ≤ cap0
        · have hl2 : (encs R ys).length = ys.length * i.size := by rw [length_encs, hsz]
          have hle : (xs.length + ys.length) * R.size ≤ cap0 * R.size := Nat.mul_le_mul_right _ hroom
          have hfit : off + xs.length * R.size + (encs R ys).length ≤ cur.size := by rw [length_encs]; rw [Nat.add_mul] at hle; omega
          have hf := run_firstCells_some (P := P) w i.size ys.length ad ys.length cap (encs R ys) hl2 hcells
          have hst := run_storeCells_at P g (off + xs.length * R.size) e (encs R ys) 0 cur w hg (by simpa using hfit) (one_encs R ys)
          simp only [Nat.add_zero] at hst
          have hr : (Builtin.append_ #[t, t] ty #[.slice (some ⟨g, off, none⟩) xs.length cap0, .slice (some ad) ys.length cap]).run P w =
              .ok (.slice (some ⟨g, off, none⟩) (xs.length + ys.length) cap0) (w.setRow g (cur.toList.take (off + xs.length * R.size) ++ encs R ys ++ cur.toList.drop (off + xs.length * R.size + (encs R ys).length)).toArray) := by
            have hadd : (⟨g, off, none⟩ : Addr).add (xs.length * R.size) = ⟨g, off + xs.length * R.size, none⟩ := by unfold Addr.add; split <;> simp_all
            rw [hsz] at hf
            simp [Builtin.append_, run_underlying ht, sizeOf, typeInfo, hi, Builtin.lenOf, hroom, hf, hsz, hadd, hst]
          refine ⟨_, _, _, hwrap _ _ hr, rfl, ?_⟩
          refine hset _ _ S (setRow_chg w g _ ((hS g).2 rfl)) (.inr ⟨g, off, cap0, _, by simp, setRow_heap w g cur _ e _ hg, by simpa using hroom, hc2, ?_, ?_, hS⟩) (fun b hb => .inl hb)
          · simp only [List.size_toArray, List.length_append, List.length_take, List.length_drop, Array.length_toList]
            have h9 := length_encs R ys
            omega
          · have h1 : (cur.toList.take (off + xs.length * R.size)).drop off = encs R xs := by rw [List.drop_take, Nat.add_sub_cancel_left]; exact htake
            have h2 : (cur.toList.take (off + xs.length * R.size)).length = off + xs.length * R.size := by
              rw [List.length_take, Array.length_toList]; exact Nat.min_eq_left (Nat.le_trans (Nat.le_add_right _ _) hfit)
            have h3 : (xs ++ ys).length * R.size = (encs R xs ++ encs R ys).length := by rw [← encs_append, length_encs]
            simp only [List.append_assoc]
            rw [List.drop_append_of_le_length (by rw [h2]; omega), h1, ← List.append_assoc, h3, encs_append]
            exact List.take_left
        · have hl2 : (encs R ys).length = ys.length * i.size := by rw [length_encs, hsz]
          have hl1 : (encs R xs).length = xs.length * i.size := by rw [length_encs, hsz]
          have hrd2 := (YtbgngihmpdneaaaDoor.rowO_rd (v := .slice (some ⟨g, off, none⟩) xs.length cap0) (.inr ⟨g, off, cap0, cur, rfl, hg, hc1, hc2, hcs, htake, hS⟩) : RdS w S _ R.rp xs)
          have holds : ∀ j u, (encs R xs)[j]? = some u → w.cell? ((⟨g, off, none⟩ : Addr).add j) = some u := by
            rcases hrd2.cells with ⟨h1, _⟩ | ⟨ad', h1, h2⟩
            · cases h1
            · obtain rfl := Option.some.inj h1; exact h2
          have hr := run_append_grow (P := P) w t ty e i zv ht hi hz ⟨g, off, none⟩ xs.length cap0 (encs R xs) hl1 holds ad ys.length cap (encs R ys) hl2 hcells (by omega) (by omega) (growslice_fits (by omega) (by omega))
          refine ⟨_, _, _, hwrap _ _ hr, rfl, ?_⟩
          have hge := grownCap_ge w (xs.length + ys.length) cap0 e
          have hcm : grownCap w (xs.length + ys.length) cap0 e ≤ maxLen := grownCap_le_maxLen w (xs.length + ys.length) cap0 e (by unfold maxLen; omega)
          have hzs : zv.cells.size = R.size := by rw [← Array.length_toList, hzv, hzl]
          have hrow : (row (.slice (some ⟨w.heap.size, 0, none⟩) (xs.length + ys.length) (grownCap w (xs.length + ys.length) cap0 e)) e R (xs ++ ys)).holds (w.drew.alloc (.cells ((encs R xs).toArray ++ (encs R ys).toArray ++ Builtin.zeroCells zv.cells (grownCap w (xs.length + ys.length) cap0 e - (xs.length + ys.length))) e)) (fun b => b = w.heap.size) := by
            refine ⟨⟨by rw [length_encs], .inr ⟨w.heap.size, _, _, by simp, Nat.zero_le _, heap_alloc_new w.drew _, by simpa using hge, hcm, ?_, ?_⟩⟩, fun b => by simp [Value.ownBlock]; exact eq_comm⟩
            · simp only [Array.size_append, List.size_toArray, size_zeroCells, hzs, length_encs, ← Nat.add_mul]
              congr 1
              omega
            · simp only [Array.toList_append, List.append_assoc]
              rw [← List.append_assoc, ← encs_append, ← length_encs]
              exact List.take_left
          refine hset _ _ _ ⟨rfl, rfl, rfl, by simp, fun k hk _ => heap_alloc_old w.drew _ hk⟩ (row_rowO hrow) (fun b hb => .inr (by omega))) hd
    (fun v L' hT => by subst hT; exact h v)
end
end Go.Proofs.YtbgngihmpdneaaaDoor
