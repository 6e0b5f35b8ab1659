/-
  Rules by which a call is walked: what is known of slots and of memory, operation by operation. No conditions.
-/
import Derived.WalkKit
import Derived.WalkSpells
import Derived.WalkLawsBesides
import Derived.Deep.Quiet
import Derived.Maps.AppendAt
import Derived.ProofKit
import Derived.OpenShut
import Derived.ShutString
import Derived.ChangeOld
import Derived.Carry
import Derived.Deep.Slices
import Derived.Lib.AppendStr
import Derived.Lib.ConvBytes
import Derived.Lib.LaidTab
import Derived.Lib.ItoaNum
import Derived.Sort.Grow
namespace Go.Proofs.YtppdmciboalhfaaDoor
set_option linter.unusedVariables false
set_option linter.unusedSimpArgs false
open Go.RowKit Go.ChangeShapes Go.WideShapes Go.ChangeAt

/-! Frames by what is known of their slots. -/

def get : List (Nat × Value) → Nat → Option Value
  | [], _ => none
  | (k, v) :: r, t => match Nat.beq k t with
    | true => some v
    | false => get r t

def Has (n : Nat) (a : Act) (m : List (Nat × Value)) : Prop :=
  a.tmps.size = n ∧ a.defers = [] ∧ ∀ t v, get m t = some v → a.tmps[t]? = some v

def ev (m : List (Nat × Value)) : Operand → Option Value
  | .tmp t => get m t
  | .const v => some v
  | .global g => some (.pointer (some ⟨g, 0, none⟩))
  | .func f => some (.func (.func f) #[] #[])

theorem Has.ev {n : Nat} {a : Act} {m : List (Nat × Value)} {x : Operand} {v : Value} (h : Has n a m) (hx : ev m x = some v) : a.eval x = v := by
  cases x with
  | tmp t => have := h.2.2 t v hx; simp [Act.eval, Array.getD_eq_getD_getElem?, this]
  | const v' => simpa [YtppdmciboalhfaaDoor.ev, Act.eval] using hx
  | global g => simpa [YtppdmciboalhfaaDoor.ev, Act.eval] using hx
  | func f => simpa [YtppdmciboalhfaaDoor.ev, Act.eval] using hx

theorem Has.put {n d : Nat} {a : Act} {m : List (Nat × Value)} (h : Has n a m) (hd : Nat.blt d n = true) (v : Value) : Has n (a.put (some d) v) ((d, v) :: m) := by
  have hd' : d < n := by simpa [Nat.blt_eq] using hd
  obtain ⟨h1, h2, h3⟩ := h
  refine ⟨by simp [Act.put, h1], h2, fun t u hg => ?_⟩
  simp only [get] at hg
  split at hg
  · rename_i hb
    have : d = t := Nat.eq_of_beq_eq_true hb
    subst this
    have : v = u := by simpa using hg
    subst this
    simp [Act.put, h1, hd']
  · rename_i hb
    have hne : d ≠ t := fun e => by subst e; simp at hb
    simp only [Act.put]
    rw [Array.getElem?_setIfInBounds_ne hne]
    exact h3 t u hg

theorem Has.put_none {n : Nat} {a : Act} {m : List (Nat × Value)} (h : Has n a m) (v : Value) : Has n (a.put none v) m := h

/-- what is known of a smaller part -/
def Sub : List (Nat × Value) → List (Nat × Value) → Prop
  | [], _ => True
  | (t, v) :: r, m => get m t = some v ∧ Sub r m

theorem Sub.get {m : List (Nat × Value)} : ∀ {m' : List (Nat × Value)}, Sub m' m → ∀ t v, YtppdmciboalhfaaDoor.get m' t = some v → YtppdmciboalhfaaDoor.get m t = some v
  | [], _, _, _, h => by cases h
  | (k, u) :: r, ⟨h1, h2⟩, t, v, h => by
    simp only [YtppdmciboalhfaaDoor.get] at h
    split at h
    · rename_i hb
      have : k = t := Nat.eq_of_beq_eq_true hb
      subst this
      have : u = v := by simpa using h
      subst this
      exact h1
    · exact h2.get t v h

theorem Has.sub {n : Nat} {a : Act} {m m' : List (Nat × Value)} (h : Has n a m) (hs : Sub m' m) : Has n a m' :=
  ⟨h.1, h.2.1, fun t v hg => h.2.2 t v (hs.get t v hg)⟩

def enum : Nat → List Value → List (Nat × Value)
  | _, [] => []
  | k, v :: r => (k, v) :: enum (k + 1) r

theorem get_enum : ∀ (l : List Value) (k t : Nat) (v : Value), get (enum k l) t = some v → k ≤ t ∧ l[t - k]? = some v
  | [], _, _, _, h => by cases h
  | u :: r, k, t, v, h => by
    simp only [enum, get] at h
    split at h
    · rename_i hb
      have : k = t := Nat.eq_of_beq_eq_true hb
      subst this
      simpa using h
    · rename_i hb
      have hne : k ≠ t := fun e => by subst e; simp at hb
      obtain ⟨h1, h2⟩ := get_enum r (k + 1) t v h
      refine ⟨by omega, ?_⟩
      rw [show t - k = (t - (k + 1)) + 1 by omega]
      simpa using h2

theorem Has.init (n : Nat) (args : List Value) (hn : Nat.ble args.length n = true) :
    Has n { tmps := args.toArray ++ Array.replicate (n - args.toArray.size) undef, defers := [] } (enum 0 args) := by
  have hn' : args.length ≤ n := by simpa using Nat.le_of_ble_eq_true hn
  refine ⟨by simp; omega, rfl, fun t v h => ?_⟩
  obtain ⟨_, h2⟩ := get_enum args 0 t v h
  simp only [Nat.sub_zero] at h2
  have hlt : t < args.length := (List.getElem?_eq_some_iff.1 h2).1
  simp only
  rw [Array.getElem?_append_left (by simpa using hlt)]
  simpa using h2

/-! Resources: what the call owns. -/

structure Asn where
  holds : World → (Nat → Prop) → Prop
  loc : ∀ {w w' : World} {S : Nat → Prop}, holds w S → (∀ b, S b → w'.heap[b]? = w.heap[b]?) → holds w' S
  foot : ∀ {w : World} {S : Nat → Prop}, holds w S → ∀ b, S b → b < w.heap.size

/-- where a call began, and what of that it may change -/
structure Cx where
  w0 : World
  X : Nat → Prop

/-- what stays as it was -/
def Cx.Fz (c : Cx) : Nat → Prop := fun b => b < c.w0.heap.size ∧ ¬ c.X b
/-- what may be owned -/
def Cx.Ow (c : Cx) : Nat → Prop := fun b => c.X b ∨ c.w0.heap.size ≤ b

theorem Cx.apart {c : Cx} {b : Nat} (h : c.Fz b) (k : c.Ow b) : False := by
  rcases k with k | k
  · exact h.2 k
  · have := h.1; omega

/-- w' is w with new blocks, and with changes in the blocks of S alone -/
structure Chg (S : Nat → Prop) (w w' : World) : Prop where
  os : w'.os = w.os
  tape : w'.tape = w.tape
  output : w'.output = w.output
  size : w.heap.size ≤ w'.heap.size
  block : ∀ b, b < w.heap.size → ¬ S b → w'.heap[b]? = w.heap[b]?

def cx (w : World) : Cx := ⟨w, fun _ => False⟩
def Same (w w' : World) : Prop := Chg (fun _ => False) w w'

theorem Same.below {w w' : World} (h : Same w w') : Below w.heap.size w w' := ⟨h.os, h.tape, h.output, h.size, fun b hb => h.block b hb (fun h => h)⟩
theorem Same.of_below {w w' : World} (h : Below w.heap.size w w') : Same w w' := ⟨h.os, h.tape, h.output, h.size, fun b hb _ => h.block b hb⟩
theorem Chg.refl (S : Nat → Prop) (w : World) : Chg S w w := ⟨rfl, rfl, rfl, Nat.le_refl _, fun _ _ _ => rfl⟩
theorem Chg.trans {S : Nat → Prop} {a b c : World} (h : Chg S a b) (k : Chg S b c) : Chg S a c :=
  ⟨k.os.trans h.os, k.tape.trans h.tape, k.output.trans h.output, Nat.le_trans h.size k.size, fun i hi hn => (k.block i (Nat.lt_of_lt_of_le hi h.size) hn).trans (h.block i hi hn)⟩
theorem Chg.mono {S S' : Nat → Prop} {w w' : World} (h : Chg S w w') (hs : ∀ b, S b → S' b) : Chg S' w w' := ⟨h.os, h.tape, h.output, h.size, fun b hb hn => h.block b hb (fun e => hn (hs b e))⟩
theorem Same.chg {w w' : World} (h : Same w w') (S : Nat → Prop) : Chg S w w' := Chg.mono h (fun _ h => h.elim)
theorem Same.alloc (w : World) (o : Obj) : Same w (w.alloc o) := .of_below ((Below.refl _ _).alloc (Nat.le_refl _) o)
theorem Same.drew (w : World) : Same w w.drew := .of_below (Below.refl _ _).drew

structure Sep (O : Nat → Prop) (w : World) (L : List Asn) (fp : Nat → Nat → Prop) : Prop where
  holds : ∀ (k : Nat) (A : Asn), L[k]? = some A → A.holds w (fp k)
  dis : ∀ i j b, i < L.length → j < L.length → fp i b → fp j b → i = j
  own : ∀ k b, k < L.length → fp k b → O b

structure St (c : Cx) (w : World) (L : List Asn) : Prop where
  chg : Chg c.X c.w0 w
  sep : ∃ fp, Sep c.Ow w L fp

theorem Sep.lt {O : Nat → Prop} {w : World} {L : List Asn} {fp : Nat → Nat → Prop} (h : Sep O w L fp) {k b : Nat} (hk : k < L.length) (hb : fp k b) : b < w.heap.size :=
  L[k].foot (h.holds k L[k] (List.getElem?_eq_getElem hk)) b hb

theorem lt_of_some {α : Type} {L : List α} {k : Nat} {A : α} (h : L[k]? = some A) : k < L.length := (List.getElem?_eq_some_iff.1 h).1

theorem St.init (w : World) : St (cx w) w [] := ⟨Chg.refl _ _, fun _ _ => False, fun _ _ h => by simp at h, fun _ _ _ hi => by simp at hi, fun _ _ hk => by simp at hk⟩

/-- one resource at the start, which may be changed -/
theorem St.init1 (w : World) {A : Asn} {S : Nat → Prop} (h : A.holds w S) : St ⟨w, S⟩ w [A] :=
  ⟨Chg.refl _ _, fun _ => S, fun k C hk => by
    cases k with
    | zero => simp at hk; subst hk; exact h
    | succ k => simp at hk, fun i j b hi hj _ _ => by simp at hi hj; omega, fun _ _ _ hs => .inl hs⟩

theorem Chg.step {c : Cx} {w w' : World} {S : Nat → Prop} (h : Chg c.X c.w0 w) (k : Chg S w w') (hS : ∀ b, S b → c.Ow b) : Chg c.X c.w0 w' :=
  ⟨k.os.trans h.os, k.tape.trans h.tape, k.output.trans h.output, Nat.le_trans h.size k.size, fun b hb hn =>
    (k.block b (Nat.lt_of_lt_of_le hb h.size) (fun hs => by
      rcases hS b hs with hx | hx
      · exact hn hx
      · omega)).trans (h.block b hb hn)⟩

/-- one resource is turned into another one -/
theorem St.set {c : Cx} {w : World} {L : List Asn} (h : St c w L) {k : Nat} {A : Asn} (hk : L[k]? = some A) :
    ∃ S : Nat → Prop, A.holds w S ∧ (∀ b, S b → c.Ow b) ∧ ∀ (w' : World) (A' : Asn) (S' : Nat → Prop), Chg S w w' → A'.holds w' S' →
      (∀ b, S' b → S b ∨ w.heap.size ≤ b) → St c w' (L.set k A') := by
  obtain ⟨hb, fp, h1⟩ := h
  have hA := h1.holds k A hk
  have hkl := lt_of_some hk
  refine ⟨fp k, hA, fun b => h1.own k b hkl, fun w' A' S' hc hA' hS' => ?_⟩
  refine ⟨Chg.step hb hc (fun b hs => h1.own k b hkl hs), fun i => if i = k then S' else fp i, fun i C hi => ?_, fun i j b hi hj hib hjb => ?_, fun i b hi hib => ?_⟩
  · by_cases hik : i = k
    · subst hik
      rw [List.getElem?_set_self hkl] at hi
      have : A' = C := by simpa using hi
      subst this
      simpa using hA'
    · rw [List.getElem?_set_ne (fun e => hik e.symm)] at hi
      have hC := h1.holds i C hi
      simp only [hik, if_false]
      exact C.loc hC (fun b hs => hc.block b (C.foot hC b hs) (fun hks => hik (h1.dis i k b (lt_of_some hi) hkl hs hks)))
  · simp only [List.length_set] at hi hj
    by_cases hik : i = k <;> by_cases hjk : j = k
    · omega
    · simp only [hik, if_true, hjk, if_false] at hib hjb
      rcases hS' b hib with hs | hs
      · exact absurd (h1.dis k j b hkl hj hs hjb) (fun e => hjk e.symm)
      · have := h1.lt hj hjb; omega
    · simp only [hik, if_false, hjk, if_true] at hib hjb
      rcases hS' b hjb with hs | hs
      · exact absurd (h1.dis k i b hkl hi hs hib) (fun e => hik e.symm)
      · have := h1.lt hi hib; omega
    · simp only [hik, if_false, hjk] at hib hjb
      exact h1.dis i j b hi hj hib hjb
  · simp only [List.length_set] at hi
    by_cases hik : i = k
    · simp only [hik, if_true] at hib
      rcases hS' b hib with hs | hs
      · exact h1.own k b hkl hs
      · exact .inr (Nat.le_trans hb.size hs)
    · simp only [hik, if_false] at hib
      exact h1.own i b hi hib

theorem St.grow {c : Cx} {w w' : World} {L : List Asn} (h : St c w L) (hg : Same w w') : St c w' L := by
  obtain ⟨hb, fp, h1⟩ := h
  exact ⟨Chg.step hb hg (fun _ h => h.elim), fp, fun k A hk => A.loc (h1.holds k A hk) (fun b hs => hg.block b (A.foot (h1.holds k A hk) b hs) (fun h => h)), h1.dis, h1.own⟩

/-- new resources in new memory -/
theorem St.news {c : Cx} {w w' : World} {L L' : List Asn} (h : St c w L) (hg : Same w w') {fp' : Nat → Nat → Prop} (hL : Sep (fun b => w.heap.size ≤ b) w' L' fp') : St c w' (L' ++ L) := by
  have h' := h.grow hg
  obtain ⟨hb, fp, h1⟩ := h
  refine ⟨h'.chg, fun i => if i < L'.length then fp' i else fp (i - L'.length), fun k A hk => ?_, fun i j b hi hj hib hjb => ?_, fun i b hi hib => ?_⟩
  · by_cases hlt : k < L'.length
    · rw [List.getElem?_append_left hlt] at hk
      simp only [hlt, if_true]
      exact hL.holds k A hk
    · rw [List.getElem?_append_right (by omega)] at hk
      simp only [hlt, if_false]
      exact A.loc (h1.holds _ A hk) (fun b hs => hg.block b (A.foot (h1.holds _ A hk) b hs) (fun h => h))
  · simp only [List.length_append] at hi hj
    by_cases hil : i < L'.length <;> by_cases hjl : j < L'.length
    · simp only [hil, if_true, hjl] at hib hjb
      exact hL.dis i j b hil hjl hib hjb
    · simp only [hil, if_true, hjl, if_false] at hib hjb
      have := hL.own i b hil hib
      have := h1.lt (k := j - L'.length) (by omega) hjb
      omega
    · simp only [hil, if_false, hjl, if_true] at hib hjb
      have := hL.own j b hjl hjb
      have := h1.lt (k := i - L'.length) (by omega) hib
      omega
    · simp only [hil, if_false, hjl] at hib hjb
      have := h1.dis _ _ b (by omega) (by omega) hib hjb
      omega
  · simp only [List.length_append] at hi
    by_cases hil : i < L'.length
    · simp only [hil, if_true] at hib
      exact .inr (Nat.le_trans hb.size (hL.own i b hil hib))
    · simp only [hil, if_false] at hib
      exact h1.own _ b (by omega) hib

theorem St.new {c : Cx} {w w' : World} {L : List Asn} (h : St c w L) (hg : Same w w') {A : Asn} {S : Nat → Prop} (hA : A.holds w' S) (hS : ∀ b, S b → w.heap.size ≤ b) : St c w' (A :: L) :=
  h.news (L' := [A]) (fp' := fun _ => S) hg ⟨fun k C hk => by
    cases k with
    | zero => simp at hk; subst hk; exact hA
    | succ k => simp at hk, fun i j b hi hj _ _ => by simp at hi hj; omega, fun _ b _ hs => hS b hs⟩

/-- fewer resources; in whatever order -/
theorem St.pick {c : Cx} {w : World} {L L' : List Asn} (h : St c w L) (f : Nat → Nat) (hf : ∀ i, i < L'.length → L[f i]? = L'[i]?) (hinj : ∀ i j, i < L'.length → j < L'.length → f i = f j → i = j) : St c w L' := by
  obtain ⟨hb, fp, h1⟩ := h
  have hlt : ∀ i, i < L'.length → f i < L.length := fun i hi => by
    have := hf i hi; rw [List.getElem?_eq_getElem hi] at this; exact lt_of_some this
  exact ⟨hb, fun i => fp (f i), fun k A hk => h1.holds _ A ((hf k (lt_of_some hk)).trans hk), fun i j b hi hj hib hjb => hinj i j hi hj (h1.dis _ _ b (hlt i hi) (hlt j hj) hib hjb),
    fun i b hi hib => h1.own _ b (hlt i hi) hib⟩

theorem St.drop {c : Cx} {w : World} {A : Asn} {L : List Asn} (h : St c w (A :: L)) : St c w L :=
  h.pick (· + 1) (fun i _ => by simp) (fun i j _ _ e => by omega)

/-- the resource of number k goes -/
theorem St.erase {c : Cx} {w : World} {L : List Asn} (h : St c w L) (k : Nat) : St c w (L.eraseIdx k) :=
  h.pick (fun i => if i < k then i else i + 1) (fun i _ => by rw [List.getElem?_eraseIdx]; split <;> rfl) (fun i j _ _ e => by
    split at e <;> split at e <;> omega)

theorem St.at {c : Cx} {w : World} {L : List Asn} (h : St c w L) {k : Nat} {A : Asn} (hk : L[k]? = some A) : ∃ S, A.holds w S ∧ ∀ b, S b → c.Ow b := by
  obtain ⟨hb, fp, h1⟩ := h
  exact ⟨_, h1.holds k A hk, fun b => h1.own k b (lt_of_some hk)⟩

/-- two resources lie apart -/
theorem St.two {c : Cx} {w : World} {L : List Asn} (h : St c w L) {i j : Nat} {A B : Asn} (hi : L[i]? = some A) (hj : L[j]? = some B) (hne : i ≠ j) :
    ∃ S T, A.holds w S ∧ B.holds w T ∧ ∀ b, S b → ¬ T b := by
  obtain ⟨hb, fp, h1⟩ := h
  exact ⟨_, _, h1.holds i A hi, h1.holds j B hj, fun b hs ht => hne (h1.dis i j b (lt_of_some hi) (lt_of_some hj) hs ht)⟩

theorem St.frozen {c : Cx} {w : World} {L : List Asn} (h : St c w L) : ∀ b, c.Fz b → w.heap[b]? = c.w0.heap[b]? := fun b hb => h.chg.block b hb.1 hb.2

/-! One operation that leaves the world alone. -/

def Yld (P : Program) (n : Nat) (m : List (Nat × Value)) (C : World → Prop) (o : Oper) (v : Value) : Prop :=
  ∀ a, Has n a m → ∀ w, C w → o.quietAt P a C w v

/-- .. by itself, without a call -/
def YldS (P : Program) (n : Nat) (m : List (Nat × Value)) (C : World → Prop) (o : Oper) (v : Value) : Prop :=
  ∀ a, Has n a m → ∀ w, C w → (execOp a.eval o).run P w = .ok (.value v) w


section
variable {P : Program} {n : Nat} {m : List (Nat × Value)} {C : World → Prop} {o : Oper} {v : Value}

theorem Yld.of_run (h : ∀ a, Has n a m → ∀ w, C w → (execOp a.eval o).run P w = .ok (.value v) w) : Yld P n m C o v := fun a ha w hw => by
  unfold Oper.quietAt
  rw [h a ha w hw]
  exact ⟨rfl, rfl⟩

theorem YldS.of_run (h : ∀ a, Has n a m → ∀ w, C w → (execOp a.eval o).run P w = .ok (.value v) w) : YldS P n m C o v := h
theorem YldS.yld (h : YldS P n m C o v) : Yld P n m C o v := Yld.of_run h

variable {d : Option Tmp} {ty : TypeId} {ps : String} {af : Array Edge} {gd : Option (Nat × Bool)}

theorem y_move {x : Operand} (hx : ev m x = some v) : YldS P n m C ⟨d, .move x, ty, ps, af, gd⟩ v :=
  .of_run fun a ha w _ => by simp [execOp, ha.ev hx]

theorem y_assign {x : Operand} (hx : ev m x = some v) : YldS P n m C ⟨d, .assign x, ty, ps, af, gd⟩ v :=
  .of_run fun a ha w _ => by simp [execOp, ha.ev hx]

theorem y_pick {c x y : Operand} {t : Bool} {vx vy : Value} (hc : ev m c = some (.bool t)) (hx : ev m x = some vx) (hy : ev m y = some vy) :
    YldS P n m C ⟨d, .pick c x y, ty, ps, af, gd⟩ (bif t then vx else vy) :=
  .of_run fun a ha w _ => by cases t <;> simp [execOp, ha.ev hc, ha.ev hx, ha.ev hy, asBool]
theorem y_pick_t {c x y : Operand} {vx : Value} (hc : ev m c = some (.bool true)) (hx : ev m x = some vx) :
    YldS P n m C ⟨d, .pick c x y, ty, ps, af, gd⟩ vx :=
  .of_run fun a ha w _ => by simp [execOp, ha.ev hc, ha.ev hx, asBool]
theorem y_pick_f {c x y : Operand} {vy : Value} (hc : ev m c = some (.bool false)) (hy : ev m y = some vy) :
    YldS P n m C ⟨d, .pick c x y, ty, ps, af, gd⟩ vy :=
  .of_run fun a ha w _ => by simp [execOp, ha.ev hc, ha.ev hy, asBool]

theorem y_not {x : Operand} {t : TypeId} {b : Bool} (hx : ev m x = some (.bool b)) : YldS P n m C ⟨d, .unOp .not t x, ty, ps, af, gd⟩ (.bool (!b)) :=
  .of_run fun a ha w _ => by simp [execOp, ha.ev hx, Op.unary]
theorem y_neg {x : Operand} {t : TypeId} {k : IntKind} {i : Int} (hx : ev m x = some (.int k i)) : YldS P n m C ⟨d, .unOp .neg t x, ty, ps, af, gd⟩ (.int k (k.wrap (0 - i))) :=
  .of_run fun a ha w _ => by simp [execOp, ha.ev hx, Op.unary, Op.intArith]

def binI (op : BinOp) (k : IntKind) (x y : Int) : Option Value :=
  match op with
  | .add => some (.int k (k.wrap (x + y)))
  | .sub => some (.int k (k.wrap (x - y)))
  | .mul => some (.int k (k.wrap (x * y)))
  | .eql => some (.bool (x == y))
  | .neq => some (.bool (x != y))
  | .lss => some (.bool (decide (x < y)))
  | .leq => some (.bool (decide (x ≤ y)))
  | .gtr => some (.bool (decide (x > y)))
  | .geq => some (.bool (decide (x ≥ y)))
  | _ => none

theorem y_bin {op : BinOp} {x y : Operand} {xt yt : TypeId} {k : IntKind} {i j : Int} (hx : ev m x = some (.int k i)) (hy : ev m y = some (.int k j)) (hv : binI op k i j = some v) :
    YldS P n m C ⟨d, .binOp op xt x y yt, ty, ps, af, gd⟩ v :=
  .of_run fun a ha w _ => by
    cases op <;> simp [binI] at hv <;> subst hv <;> simp [execOp, ha.ev hx, ha.ev hy, eqGuard, binOp, Op.intArith, Op.intCmp]

theorem y_quo {x y : Operand} {xt yt : TypeId} {k : IntKind} {i j : Int} (hx : ev m x = some (.int k i)) (hy : ev m y = some (.int k j)) (hj : j ≠ 0) :
    YldS P n m C ⟨d, .binOp .quo xt x y yt, ty, ps, af, gd⟩ (.int k (k.wrap (i.tdiv j))) :=
  .of_run fun a ha w _ => by simp [execOp, ha.ev hx, ha.ev hy, eqGuard, binOp, Op.intDiv, hj]
theorem y_rem {x y : Operand} {xt yt : TypeId} {k : IntKind} {i j : Int} (hx : ev m x = some (.int k i)) (hy : ev m y = some (.int k j)) (hj : j ≠ 0) :
    YldS P n m C ⟨d, .binOp .rem xt x y yt, ty, ps, af, gd⟩ (.int k (i.tmod j)) :=
  .of_run fun a ha w _ => by simp [execOp, ha.ev hx, ha.ev hy, eqGuard, binOp, Op.intDiv, hj]

theorem y_convI {x : Operand} {s t : TypeId} {k k' : IntKind} {sd : TypeDesc} {i : Int} (hs : ∀ w, (underlying s).run P w = .ok sd w) (ht : ∀ w, (underlying t).run P w = .ok (.int k) w) (hx : ev m x = some (.int k' i)) :
    YldS P n m C ⟨d, .convert s t x, ty, ps, af, gd⟩ (.int k (k.wrap i)) :=
  .of_run fun a ha w _ => by simp [execOp, ha.ev hx, convert, hs, ht, Conv.intToInt]

theorem y_extract {x : Operand} {i : Nat} {vs : Array Value} (hx : ev m x = some (.tuple vs)) (hi : vs[i]? = some v) : YldS P n m C ⟨d, .extract x i, ty, ps, af, gd⟩ v :=
  .of_run fun a ha w _ => by simp [execOp, ha.ev hx, Instr.extract, hi]

theorem y_nil {x : Operand} {ad : Addr} (hx : ev m x = some (.pointer (some ad))) : YldS P n m C ⟨d, .nilCheck x, ty, ps, af, gd⟩ (.pointer (some ad)) :=
  .of_run fun a ha w _ => by simp [execOp, ha.ev hx]

/-! strings -/

def str (l : List UInt8) : Value := .string ⟨l.toArray⟩

/-- the element at a Go index -/
def idx {α : Type} (l : List α) (i : Int) : Option α := if 0 ≤ i then l[i.toNat]? else none

theorem y_lenStr {x : Operand} {t : TypeId} {l : List UInt8} (ht : ∀ w, (underlying t).run P w = .ok .string w) (hx : ev m x = some (str l)) :
    YldS P n m C ⟨d, .call { callee := .builtin .len, args := #[x], argTypes := #[t] }, ty, ps, af, gd⟩ (.int .i64 l.length) :=
  .of_run fun a ha w _ => by simp [execOp, ha.ev hx, resolve, invoke, builtin, Builtin.len_, ht, str, goInt]; rfl

theorem y_idxStr {x i : Operand} {t : TypeId} {l : List UInt8} {k : IntKind} {j : Int} {c : UInt8} (ht : ∀ w, (underlying t).run P w = .ok .string w) (hx : ev m x = some (str l)) (hi : ev m i = some (.int k j)) (hc : idx l j = some c) :
    YldS P n m C ⟨d, .index t x i, ty, ps, af, gd⟩ (.int .u8 c.toNat) :=
  .of_run fun a ha w _ => by
    unfold idx at hc
    split at hc
    · rename_i h0
      have : (ByteArray.mk l.toArray)[j.toNat]? = some c := by
        obtain ⟨h1, h2⟩ := List.getElem?_eq_some_iff.1 hc
        rw [getElem?_pos (ByteArray.mk l.toArray) j.toNat (by show j.toNat < l.toArray.size; simpa using h1)]
        show some (l.toArray[j.toNat]'_) = _
        simp [h2]
      simp [execOp, ha.ev hx, ha.ev hi, Instr.index, ht, str, asIntOf, h0, this]
    · cases hc

end

/-- the quiet walk -/
def QJ (P : Program) (ops : Array Oper) (C : World → Prop) (n : Nat) (R : Act → Prop) (l : List Oper) (m : List (Nat × Value)) : Prop :=
  ∀ a, Has n a m → wpQuiet P ops C R l a

section
variable {P : Program} {ops : Array Oper} {C : World → Prop} {n : Nat} {R : Act → Prop} {l : List Oper} {m : List (Nat × Value)} {v : Value}

theorem QJ.nil (h : ∀ a, Has n a m → R a) : QJ P ops C n R [] m := h

theorem QJ.step {d : Nat} {op : Op} {ty : TypeId} {ps : String} {af : Array Edge} (hy : Yld P n m C ⟨some d, op, ty, ps, af, none⟩ v) (hd : Nat.blt d n = true) (h : QJ P ops C n R l ((d, v) :: m)) :
    QJ P ops C n R (⟨some d, op, ty, ps, af, none⟩ :: l) m := fun a ha => by
  simp only [wpQuiet, Region.wanted, if_true]
  exact ⟨v, fun w hw => hy a ha w hw, h _ (ha.put hd v)⟩

/-- a guarded operation that is carried out -/
theorem QJ.on {d : Nat} {op : Op} {ty : TypeId} {ps : String} {af : Array Edge} {j e : Nat} {b : Bool} {oj : Oper} (hj : ops[j]? = some oj) (hjd : oj.dst = some e) (he : get m e = some (.bool b))
    (hy : Yld P n m C ⟨some d, op, ty, ps, af, some (j, b)⟩ v) (hd : Nat.blt d n = true) (h : QJ P ops C n R l ((d, v) :: m)) :
    QJ P ops C n R (⟨some d, op, ty, ps, af, some (j, b)⟩ :: l) m := fun a ha => by
  have hw : Region.wanted ⟨some d, op, ty, ps, af, some (j, b)⟩ (yielded ops a.tmps) = true := by
    simp [Region.wanted, yielded, hj, hjd, ha.2.2 e _ he]
  simp only [wpQuiet, hw, if_true]
  exact ⟨v, fun w hw => hy a ha w hw, h _ (ha.put hd v)⟩

/-- a guarded operation that is left out -/
theorem QJ.off {d : Nat} {op : Op} {ty : TypeId} {ps : String} {af : Array Edge} {j e : Nat} {b b' : Bool} {oj : Oper} (hj : ops[j]? = some oj) (hjd : oj.dst = some e) (he : get m e = some (.bool b')) (hb : (b' == b) = false)
    (hd : Nat.blt d n = true) (h : QJ P ops C n R l ((d, undef) :: m)) :
    QJ P ops C n R (⟨some d, op, ty, ps, af, some (j, b)⟩ :: l) m := fun a ha => by
  have hw : Region.wanted ⟨some d, op, ty, ps, af, some (j, b)⟩ (yielded ops a.tmps) = false := by
    simp [Region.wanted, yielded, hj, hjd, ha.2.2 e _ he]; simpa using hb
  simp only [wpQuiet, hw]
  exact h _ (ha.put hd undef)
end

/-! How data lie in cells. -/

structure Rp (α : Type) where
  size : Nat
  rd : World → (Nat → Prop) → List Value → α → Prop
  len : ∀ {w F cs x}, rd w F cs x → cs.length = size
  mono : ∀ {w w' : World} {F F' : Nat → Prop} {cs : List Value} {x : α}, rd w F cs x → (∀ b, F b → F' b) → (∀ b, F b → w'.heap[b]? = w.heap[b]?) → rd w' F' cs x
  pos : 0 < size
  one : ∀ {w F cs x}, rd w F cs x → ∀ u ∈ cs, u.oneCell' = true

/-- the cells from an address on -/
def At (w : World) (F : Nat → Prop) (a : Addr) (cs : List Value) : Prop :=
  ∀ j u, cs[j]? = some u → F a.block ∧ w.cell? (a.add j) = some u

theorem block_of_add (a : Addr) (n : Nat) : (a.add n).block = a.block := by unfold Addr.add; split <;> rfl
theorem add_of_add (a : Addr) (i j : Nat) : (a.add i).add j = a.add (i + j) := by
  unfold Addr.add
  by_cases hi : i = 0 <;> by_cases hj : j = 0 <;> simp [hi, hj, Nat.add_assoc]

theorem At.mono {w w' : World} {F F' : Nat → Prop} {a : Addr} {cs : List Value} (h : At w F a cs) (hF : ∀ b, F b → F' b) (hb : ∀ b, F b → w'.heap[b]? = w.heap[b]?) : At w' F' a cs :=
  fun j u hu => by
    obtain ⟨h1, h2⟩ := h j u hu
    exact ⟨hF _ h1, (World.cell?_of_block (by rw [block_of_add]; exact hb _ h1)).trans h2⟩

theorem At.sub {w : World} {F : Nat → Prop} {a : Addr} {cs : List Value} (h : At w F a cs) (off k : Nat) : At w F (a.add off) ((cs.drop off).take k) :=
  fun j u hu => by
    rw [List.getElem?_take] at hu
    split at hu
    · rw [List.getElem?_drop] at hu
      obtain ⟨h1, h2⟩ := h _ u hu
      exact ⟨by rw [block_of_add]; exact h1, by rw [add_of_add]; exact h2⟩
    · cases hu

/-- a slice that reads as a list -/
def RdS {α : Type} (w : World) (F : Nat → Prop) (v : Value) (R : Rp α) (l : List α) : Prop :=
  ∃ a c, v = .slice a l.length c ∧ l.length ≤ c ∧ c ≤ maxLen ∧
    ∀ (i : Nat) (x : α), l[i]? = some x → ∃ ad cs, a = some ad ∧ R.rd w F cs x ∧ At w F (ad.add (i * R.size)) cs

theorem RdS.mono {α : Type} {R : Rp α} {w w' : World} {F F' : Nat → Prop} {v : Value} {l : List α} (h : RdS w F v R l) (hF : ∀ b, F b → F' b) (hb : ∀ b, F b → w'.heap[b]? = w.heap[b]?) : RdS w' F' v R l := by
  obtain ⟨a, c, rfl, h1, h2, h3⟩ := h
  refine ⟨a, c, rfl, h1, h2, fun i x hx => ?_⟩
  obtain ⟨ad, cs, ha, hr, hat⟩ := h3 i x hx
  exact ⟨ad, cs, ha, R.mono hr hF hb, hat.mono hF hb⟩

/-- data that lie in their cells alone -/
structure FRp (α : Type) where
  size : Nat
  enc : α → List Value
  len : ∀ x, (enc x).length = size
  pos : 0 < size
  one : ∀ x, ∀ u ∈ enc x, u.oneCell' = true

def FRp.rp {α : Type} (R : FRp α) : Rp α where
  size := R.size
  rd _ _ cs x := cs = R.enc x
  len h := by subst h; exact R.len _
  mono h _ _ := h
  pos := R.pos
  one h := by subst h; exact R.one _

def fI64 : FRp Int := ⟨1, fun x => [.int .i64 x], fun _ => rfl, by decide, fun _ u hu => by simp at hu; subst hu; rfl⟩
def fU64 : FRp Int := ⟨1, fun x => [.int .u64 x], fun _ => rfl, by decide, fun _ u hu => by simp at hu; subst hu; rfl⟩
def fByte : FRp UInt8 := ⟨1, fun x => [.int .u8 x.toNat], fun _ => rfl, by decide, fun _ u hu => by simp at hu; subst hu; rfl⟩
def fBool : FRp Bool := ⟨1, fun x => [.bool x], fun _ => rfl, by decide, fun _ u hu => by simp at hu; subst hu; rfl⟩
def fStr : FRp (List UInt8) := ⟨1, fun x => [str x], fun _ => rfl, by decide, fun _ u hu => by simp at hu; subst hu; rfl⟩

def rSl {α : Type} (R : Rp α) : Rp (List α) where
  size := 1
  rd w F cs l := ∃ v, cs = [v] ∧ RdS w F v R l
  len h := by obtain ⟨v, rfl, _⟩ := h; rfl
  mono h hF hb := by obtain ⟨v, rfl, h⟩ := h; exact ⟨v, rfl, h.mono hF hb⟩
  pos := by decide
  one h u hu := by
    obtain ⟨v, rfl, a, c, rfl, _⟩ := h
    simp at hu
    subst hu
    rfl

section
variable {P : Program} {n : Nat} {m : List (Nat × Value)} {C : World → Prop} {v : Value}
variable {d : Option Tmp} {ty : TypeId} {ps : String} {af : Array Edge} {gd : Option (Nat × Bool)}
variable {α : Type} {R : Rp α} {F : Nat → Prop} {w0 : World} {l : List α}

theorem y_lenS {x : Operand} {t e : TypeId} (ht : ∀ w, (underlying t).run P w = .ok (.slice e) w) (h : RdS w0 F v R l) (hx : ev m x = some v) :
    YldS P n m C ⟨d, .call { callee := .builtin .len, args := #[x], argTypes := #[t] }, ty, ps, af, gd⟩ (.int .i64 l.length) :=
  .of_run fun a ha w _ => by
    obtain ⟨b, c, rfl, _⟩ := h
    simp [execOp, ha.ev hx, resolve, invoke, builtin, Builtin.len_, ht, goInt]

/-- the address of an element: what is there -/
theorem RdS.elem (h : RdS w0 F v R l) {i : Int} {x : α} (hi : idx l i = some x) :
    ∃ ad cs, R.rd w0 F cs x ∧ At w0 F ad cs ∧ ∀ {P : Program} {n : Nat} {m : List (Nat × Value)} {C : World → Prop} {d : Option Tmp} {ty : TypeId} {ps : String} {af : Array Edge} {gd : Option (Nat × Bool)} {s j : Operand} {t e : TypeId} {k : IntKind},
      (∀ w, (underlying t).run P w = .ok (.slice e) w) → (∀ w, (sizeOf e).run P w = .ok R.size w) → ev m s = some v → ev m j = some (.int k i) →
      YldS P n m C ⟨d, .indexAddr t s j, ty, ps, af, gd⟩ (.pointer (some ad)) := by
  obtain ⟨a, c, rfl, _, _, h3⟩ := h
  unfold idx at hi
  split at hi
  · rename_i h0
    obtain ⟨ad, cs, rfl, hr, hat⟩ := h3 _ x hi
    have hlt : i.toNat < l.length := (List.getElem?_eq_some_iff.1 hi).1
    refine ⟨_, cs, hr, hat, fun ht hs hsv hj => .of_run fun a ha w _ => ?_⟩
    simp [execOp, ha.ev hsv, ha.ev hj, Instr.indexAt, asIntOf, ht, hs, h0]
    have h2 : i < (l.length : Int) := by omega
    intro h4; omega
  · cases hi

theorem y_field {x : Operand} {t ft : TypeId} {i off sz : Nat} {ad : Addr} {fs : Array Field} {f : Field} (ht : ∀ w, (underlying t).run P w = .ok (.struct fs) w) (hf : fs[i]? = some f) (hft : f.type = ft) (ho : f.offset = off)
    (hs : ∀ w, (sizeOf ft).run P w = .ok (sz + 1) w) (hx : ev m x = some (.pointer (some ad))) :
    YldS P n m C ⟨d, .fieldAddr t x i, ty, ps, af, gd⟩ (.pointer (some (ad.add off))) :=
  .of_run fun a ha w _ => by
    subst hft ho
    simp [execOp, ha.ev hx, Instr.fieldAt, ht, hf, Instr.sureAddr, fieldPlace, hs]

/-- a load of one cell -/
theorem y_load1 {x : Operand} {t : TypeId} {ad : Addr} {cs : List Value} (hg : ∀ w, (isAgg t).run P w = .ok false w) (hat : At w0 F ad (v :: cs)) (hC : ∀ w, C w → ∀ b, F b → w.heap[b]? = w0.heap[b]?)
    (hx : ev m x = some (.pointer (some ad))) : YldS P n m C ⟨d, .load t x, ty, ps, af, gd⟩ v :=
  .of_run fun a ha w hw => by
    obtain ⟨h1, h2⟩ := hat 0 v rfl
    have h3 : w.cell? ad = some v := by
      have e0 : ad.add 0 = ad := by simp [Addr.add]
      rw [e0] at h2
      exact (World.cell?_of_block (hC w hw _ h1)).trans h2
    simp [execOp, ha.ev hx, Instr.loadAt, Instr.sureAddr, loadVar, hg, h3]

theorem run_loadCellsFrom_at (P : Program) (w : World) (ad : Addr) : ∀ (cs : List Value) (i : Nat) (acc : Array Value), (∀ j u, cs[j]? = some u → w.cell? (ad.add (i + j)) = some u) →
    (loadCellsFrom ad i cs.length acc).run P w = .ok (acc ++ cs.toArray) w
  | [], _, _, _ => by simp [loadCellsFrom]
  | c :: cs, i, acc, h => by
    have h0 := h 0 c rfl
    have ih := run_loadCellsFrom_at P w ad cs (i + 1) (acc.push c) (fun j u hu => by have := h (j + 1) u hu; rwa [show i + (j + 1) = i + 1 + j by omega] at this)
    simp only [Nat.add_zero] at h0
    simp [loadCellsFrom, h0, ih]

theorem y_loadN {x : Operand} {t : TypeId} {ad : Addr} {cs : List Value} {sz : Nat} (hg : ∀ w, (isAgg t).run P w = .ok true w) (hs : ∀ w, (sizeOf t).run P w = .ok sz w) (hl : cs.length = sz) (hat : At w0 F ad cs)
    (hC : ∀ w, C w → ∀ b, F b → w.heap[b]? = w0.heap[b]?)
    (hx : ev m x = some (.pointer (some ad))) : YldS P n m C ⟨d, .load t x, ty, ps, af, gd⟩ (.agg cs.toArray) :=
  .of_run fun a ha w hw => by
    subst hl
    have h3 := run_loadCellsFrom_at P w ad cs 0 #[] (fun j u hu => by
      obtain ⟨h1, h2⟩ := hat j u hu
      rw [Nat.zero_add]
      exact (World.cell?_of_block (by rw [block_of_add]; exact hC w hw _ h1)).trans h2)
    simp [execOp, ha.ev hx, Instr.loadAt, Instr.sureAddr, loadVar, hg, hs, loadCells, h3]

/-- a call that leaves all that is there as it was -/
def evs (m : List (Nat × Value)) : List Operand → Option (List Value)
  | [] => some []
  | x :: r => match ev m x, evs m r with
    | some v, some vs => some (v :: vs)
    | _, _ => none

theorem Has.evs {a : Act} (h : Has n a m) : ∀ {xs : List Operand} {vs : List Value}, evs m xs = some vs → xs.map a.eval = vs
  | [], vs, he => by simp [YtppdmciboalhfaaDoor.evs] at he; simp [he]
  | x :: r, vs, he => by
    simp only [YtppdmciboalhfaaDoor.evs] at he
    split at he
    · rename_i v vs' h1 h2
      have : v :: vs' = vs := by simpa using he
      subst this
      simp [h.ev h1, h.evs h2]
    · cases he

theorem y_call {f : FuncId} {xs : List Operand} {ts : Array TypeId} {vs : List Value} (hf : ∀ (as : Array Value) w, (callFunc f as).run P w = .ok (.enter f as) w) (hx : evs m xs = some vs)
    (h : ∀ w, C w → Calls P f vs.toArray w fun e w' => e = .returned v ∧ C w') :
    Yld P n m C ⟨d, .call { callee := .value (.func f), args := xs.toArray, argTypes := ts }, ty, ps, af, gd⟩ v := fun a ha w hw => by
  have h1 := ha.evs hx
  have h2 : (execOp a.eval ⟨d, .call { callee := .value (.func f), args := xs.toArray, argTypes := ts }, ty, ps, af, gd⟩).run P w = .ok (.enter f vs.toArray) w := by
    simp [execOp, resolve, Act.eval, Deferred.ofValue, invoke, ← h1, hf]
  unfold Oper.quietAt
  rw [h2]
  exact ⟨rfl, h w hw⟩
end


/-! Regions and code. -/

/-- a state of which m and L are known ends so -/
def PJ (Q : Exit → Act → World → Prop) (c : Cx) (n : Nat) (e : Exit) (m : List (Nat × Value)) (L : List Asn) : Prop :=
  ∀ a w, Has n a m → St c w L → Q e a w

def WJ (P : Program) (Q : Exit → Act → World → Prop) (c : Cx) (n : Nat) (z : Code) (m : List (Nat × Value)) (L : List Asn) : Prop :=
  ∀ a w, Has n a m → St c w L → z.wp P Q a w

/-- the walk of a region in the order of the text -/
def SJ (P : Program) (ops : Array Oper) (Q : Exit → Act → World → Prop) (c : Cx) (n : Nat) (l : List Oper) (m : List (Nat × Value)) (L : List Asn) : Prop :=
  ∀ a w, Has n a m → St c w L → wpList P ops Q l a w

section
variable {P : Program} {Q : Exit → Act → World → Prop} {c : Cx} {n : Nat} {m m' : List (Nat × Value)} {L L' : List Asn} {ops : Array Oper} {l : List Oper} {v : Value}

theorem WJ.sub {z : Code} (hs : Sub m' m) (h : WJ P Q c n z m' L) : WJ P Q c n z m L := fun a w ha hw => h a w (ha.sub hs) hw
theorem PJ.sub {e : Exit} (hs : Sub m' m) (h : PJ Q c n e m' L) : PJ Q c n e m L := fun a w ha hw => h a w (ha.sub hs) hw
theorem WJ.drop {z : Code} {A : Asn} (h : WJ P Q c n z m L) : WJ P Q c n z m (A :: L) := fun a w ha hw => h a w ha hw.drop
theorem PJ.drop {e : Exit} {A : Asn} (h : PJ Q c n e m L) : PJ Q c n e m (A :: L) := fun a w ha hw => h a w ha hw.drop

theorem WJ.seq {x y : Code} (h : WJ P (Exit.then (fun a w => y.wp P Q a w) Q) c n x m L) : WJ P Q c n (.seq x y) m L := fun a w ha hw => wp_seq (h a w ha hw)
theorem WJ.skip (h : PJ Q c n .normal m L) : WJ P Q c n .skip m L := fun a w ha hw => wp_skip (h a w ha hw)
theorem WJ.ret (h : PJ Q c n .ret m L) : WJ P Q c n .ret m L := fun a w ha hw => wp_ret (h a w ha hw)
theorem WJ.exit {id : Nat} (h : PJ Q c n (.exit id) m L) : WJ P Q c n (.exit id) m L := fun a w ha hw => wp_exit (h a w ha hw)
theorem WJ.block {id : Nat} {z : Code} (h : WJ P (Exit.inBlock id Q) c n z m L) : WJ P Q c n (.block id z) m L := fun a w ha hw => wp_block (h a w ha hw)
theorem WJ.cond {q : Operand} {x y : Code} {t : Bool} (hc : ev m q = some (.bool t)) (ht : t = true → WJ P Q c n x m L) (hf : t = false → WJ P Q c n y m L) : WJ P Q c n (.cond q x y) m L := fun a w ha hw =>
  wp_cond_split (ha.ev hc) (fun e => ht e a w ha hw) (fun e => hf e a w ha hw)
theorem WJ.if_t {q : Operand} {x y : Code} (hc : ev m q = some (.bool true)) (ht : WJ P Q c n x m L) : WJ P Q c n (.cond q x y) m L := fun a w ha hw =>
  wp_cond_true (ha.ev hc) (ht a w ha hw)
theorem WJ.if_f {q : Operand} {x y : Code} (hc : ev m q = some (.bool false)) (hf : WJ P Q c n y m L) : WJ P Q c n (.cond q x y) m L := fun a w ha hw =>
  wp_cond_false (ha.ev hc) (hf a w ha hw)

/-- passing the ends of pieces -/
theorem PJ.next {y : Code} (h : WJ P Q c n y m L) : PJ (Exit.then (fun a w => y.wp P Q a w) Q) c n .normal m L := h
theorem PJ.then_ret {K : Act → World → Prop} (h : PJ Q c n .ret m L) : PJ (Exit.then K Q) c n .ret m L := h
theorem PJ.then_exit {K : Act → World → Prop} {id : Nat} (h : PJ Q c n (.exit id) m L) : PJ (Exit.then K Q) c n (.exit id) m L := h
theorem PJ.block_normal {id : Nat} (h : PJ Q c n .normal m L) : PJ (Exit.inBlock id Q) c n .normal m L := h
theorem PJ.block_ret {id : Nat} (h : PJ Q c n .ret m L) : PJ (Exit.inBlock id Q) c n .ret m L := h
theorem PJ.block_exit {id : Nat} (h : PJ Q c n .normal m L) : PJ (Exit.inBlock id Q) c n (.exit id) m L := fun a w ha hw => by
  simp only [Exit.inBlock, if_true]; exact h a w ha hw
theorem PJ.block_exit_ne {id id' : Nat} (hne : Nat.beq id' id = false) (h : PJ Q c n (.exit id') m L) : PJ (Exit.inBlock id Q) c n (.exit id') m L := fun a w ha hw => by
  have : id' ≠ id := fun e => by subst e; simp at hne
  simp only [Exit.inBlock, if_neg this]; exact h a w ha hw

/-- a loop, its rounds counted down -/
theorem WJ.loop {X : Type} {body : Code} (I : Nat → X → Prop) (mI : X → List (Nat × Value)) (LI : X → List Asn)
    (round : ∀ k x, I k x → WJ P (Exit.then (fun a w => ∃ k' x', k' < k ∧ I k' x' ∧ Has n a (mI x') ∧ St c w (LI x')) Q) c n body (mI x) (LI x))
    (k : Nat) (x : X) (h0 : I k x) : WJ P Q c n (.loop body) (mI x) (LI x) := by
  intro a w ha hw b kk cs
  have key : ∀ k a w x, I k x → Has n a (mI x) → St c w (LI x) →
      ∃ e a' w', Q e a' w' ∧ Arrives P (lone (b.at a (.code body :: .inLoop body :: kk)) cs w) b kk cs e a' w' := by
    intro k
    induction k using Nat.strongRecOn with
    | _ k ih =>
      intro a w x hI ha hw
      obtain ⟨e, a₁, w₁, hq, harr⟩ := round k x hI a w ha hw b (.inLoop body :: kk) cs
      cases e with
      | normal =>
        obtain ⟨k', x', hlt, hI', ha', hw'⟩ := hq
        obtain ⟨e₂, a₂, w₂, hq₂, harr₂⟩ := ih k' hlt a₁ w₁ x' hI' ha' hw'
        exact ⟨e₂, a₂, w₂, hq₂, .of_steps (Steps.trans harr (.one step_inLoop)) harr₂⟩
      | exit id => exact ⟨_, a₁, w₁, hq, .pass (x := .inLoop body) rfl (fun _ _ => .inl (by simp)) harr⟩
      | goto l => exact ⟨_, a₁, w₁, hq, .pass (x := .inLoop body) rfl (fun _ _ => .inl (by simp)) harr⟩
      | ret => exact ⟨_, a₁, w₁, hq, .pass (x := .inLoop body) rfl (fun _ _ => .inl (by simp)) harr⟩
      | panic ch => exact ⟨_, a₁, w₁, hq, .pass (x := .inLoop body) rfl (fun _ _ => .inl (by simp)) harr⟩
      | outgrown => exact ⟨_, a₁, w₁, hq, .pass (x := .inLoop body) rfl (fun _ _ => .inl (by simp)) harr⟩
  obtain ⟨e, a', w', hq, harr⟩ := key k a w x h0 ha hw
  exact ⟨e, a', w', hq, .of_steps (.one step_loop) harr⟩

theorem PJ.again {X : Type} {I : Nat → X → Prop} {mI : X → List (Nat × Value)} {LI : X → List Asn} {k : Nat} (k' : Nat) (x' : X) (hk : k' < k) (hI : I k' x') (hm : Sub (mI x') m) (hL : LI x' = L) :
    PJ (Exit.then (fun a w => ∃ k' x', k' < k ∧ I k' x' ∧ Has n a (mI x') ∧ St c w (LI x')) Q) c n .normal m L := fun a w ha hw =>
  ⟨k', x', hk, hI, ha.sub hm, hL ▸ hw⟩

/-- a cut: behind c just this is known -/
theorem WJ.cut {z : Code} (m' : List (Nat × Value)) (L' : List Asn) {K : Act → World → Prop} (h : WJ P (Exit.then (fun a w => Has n a m' ∧ St c w L') Q) c n z m L)
    (hk : ∀ a w, Has n a m' → St c w L' → K a w) : WJ P (Exit.then K Q) c n z m L := fun a w ha hw =>
  wp_mono (h a w ha hw) fun e a' w' hq => by cases e <;> first | exact hq | exact hk _ _ hq.1 hq.2
theorem PJ.cut_end (hm : Sub m' m) : PJ (Exit.then (fun a w => Has n a m' ∧ St c w L) Q) c n .normal m L := fun _ _ ha hw => ⟨ha.sub hm, hw⟩

/-! regions -/
theorem WJ.reg {id : Nat} (h : SJ P l.toArray Q c n l m L) : WJ P Q c n (.region id l.toArray false) m L := fun a w ha hw => wp_region_lit (h a w ha hw)

theorem wpList_of_quiet {C : World → Prop} {K : Act → Prop} (hK : ∀ a w, C w → K a → Q .normal a w) : ∀ (l : List Oper) (a : Act) (w : World), C w → wpQuiet P ops C K l a → wpList P ops Q l a w
  | [], a, w, hw, h => hK a w hw h
  | o :: r, a, w, hw, h => by
    simp only [wpQuiet] at h
    unfold wpList
    split
    · rename_i hwant
      rw [if_pos hwant] at h
      refine .inl (Oper.wp_of_quiet (C := C) hw (fun a' w' hw' h' => wpList_of_quiet hK r a' w' hw' h') h)
    · rename_i hwant
      rw [if_neg hwant] at h
      exact wpList_of_quiet hK r _ w hw h

/-- a region whose operations are all quiet, whether it draws its order or not -/
theorem WJ.quiet {id : Nat} (h : QJ P l.toArray (fun w => St c w L) n (fun a => ∀ w, St c w L → Q .normal a w) l m) : WJ P Q c n (.region id l.toArray false) m L := fun a w ha hw =>
  wp_region_lit (wpList_of_quiet (C := fun w => St c w L) (fun _ w hw hk => hk w hw) l a w hw (h a ha))
theorem WJ.quiet_draw {id : Nat} (hm : P.follows .mixedOrders = true) (hB : Region.lexB .any l.toArray = true) (h : QJ P l.toArray (fun w => St c w L) n (fun a => ∀ w, St c w L → Q .normal a w) l m) :
    WJ P Q c n (.region id l.toArray true) m L := fun a w ha hw =>
  wp_region_quiet (C := fun w => St c w L) hm hB (hw.grow ⟨rfl, rfl, rfl, Nat.le_refl _, fun _ _ _ => rfl⟩) (by simpa using h a ha)
theorem QJ.done {C : World → Prop} (h : PJ Q c n .normal m L) : QJ P ops C n (fun a => ∀ w, St c w L → Q .normal a w) [] m := QJ.nil fun a ha w hw => h a w ha hw

theorem SJ.nil (h : PJ Q c n .normal m L) : SJ P ops Q c n [] m L := h

theorem SJ.q {d : Nat} {op : Op} {ty : TypeId} {ps : String} {af : Array Edge} (hy : Yld P n m (fun w => St c w L) ⟨some d, op, ty, ps, af, none⟩ v) (hd : Nat.blt d n = true) (h : SJ P ops Q c n l ((d, v) :: m) L) :
    SJ P ops Q c n (⟨some d, op, ty, ps, af, none⟩ :: l) m L := fun a w ha hw => by
  unfold wpList
  simp only [Region.wanted, if_true]
  exact .inl (Oper.wp_of_quiet (C := fun w => St c w L) (K := fun a => Has n a ((d, v) :: m)) hw (fun a' w' hw' h' => h a' w' h' hw') ⟨v, fun w hw => hy a ha w hw, ha.put hd v⟩)

/-- an operation that turns the world: what it hands back, and what is owned then -/
theorem SJ.x {d : Nat} {op : Op} {ty : TypeId} {ps : String} {af : Array Edge} {T : Value → List Asn → Prop}
    (hr : ∀ a w, Has n a m → St c w L → ∃ v w' L', (execOp a.eval ⟨some d, op, ty, ps, af, none⟩).run P w = .ok (.value v) w' ∧ T v L' ∧ St c w' L') (hd : Nat.blt d n = true)
    (h : ∀ v L', T v L' → SJ P ops Q c n l ((d, v) :: m) L') : SJ P ops Q c n (⟨some d, op, ty, ps, af, none⟩ :: l) m L := fun a w ha hw => by
  obtain ⟨v, w', L', h1, h2, h3⟩ := hr a w ha hw
  unfold wpList
  simp only [Region.wanted, if_true]
  refine .inl ?_
  unfold Oper.wp
  rw [h1]
  exact h v L' h2 _ _ (ha.put hd v) h3

/-- one that hands back nothing -/
theorem SJ.u {op : Op} {ty : TypeId} {ps : String} {af : Array Edge}
    (hr : ∀ a w, Has n a m → St c w L → ∃ w', (execOp a.eval ⟨none, op, ty, ps, af, none⟩).run P w = .ok .skip w' ∧ St c w' L')
    (h : SJ P ops Q c n l m L') : SJ P ops Q c n (⟨none, op, ty, ps, af, none⟩ :: l) m L := fun a w ha hw => by
  obtain ⟨w', h1, h3⟩ := hr a w ha hw
  unfold wpList
  simp only [Region.wanted, if_true]
  refine .inl ?_
  unfold Oper.wp
  rw [h1]
  exact h _ _ ha h3
end

/-! the call -/
theorem Calls.enter {P : Program} {f n : Nat} {fn : Func} {z : Code} {R : Ending → World → Prop} {w : World} (args : List Value) (hf : P.funcs[f]? = some fn) (hb : fn.body = some z) (hn : fn.ntmps = n) (hl : Nat.ble args.length n = true)
    (h : WJ P (bodyPost P fn R) (cx w) n z (enum 0 args) []) : Calls P f args.toArray w R :=
  calls_of_wp hf hb (h _ _ (by rw [hn]; exact Has.init n args hl) (St.init w))
/-- .. of a function that may change one resource -/
theorem Calls.enter1 {P : Program} {f n : Nat} {fn : Func} {z : Code} {R : Ending → World → Prop} {w : World} {A : Asn} {S : Nat → Prop} (hA : A.holds w S) (args : List Value) (hf : P.funcs[f]? = some fn) (hb : fn.body = some z) (hn : fn.ntmps = n) (hl : Nat.ble args.length n = true)
    (h : WJ P (bodyPost P fn R) ⟨w, S⟩ n z (enum 0 args) [A]) : Calls P f args.toArray w R :=
  calls_of_wp hf hb (h _ _ (by rw [hn]; exact Has.init n args hl) (St.init1 w hA))

/-- what a call leaves: its value and what it hands over -/
def RetG (c : Cx) (T : Value → List Asn → Prop) : Ending → World → Prop := fun e w' => ∃ v L', e = .returned v ∧ T v L' ∧ St c w' L'
/-- plain: a value known beforehand, and nothing new -/
def Ret (c : Cx) (v : Value) : Ending → World → Prop := RetG c fun u L => u = v ∧ L = []

def Sel (is : List Nat) (L L' : List Asn) : Prop := is.Nodup ∧ is.map (fun i => L[i]?) = L'.map some

theorem St.sel {c : Cx} {w : World} {L L' : List Asn} {is : List Nat} (h : St c w L) (hs : Sel is L L') : St c w L' := by
  obtain ⟨hnd, hmap⟩ := hs
  have hlen : is.length = L'.length := by simpa using congrArg List.length hmap
  refine h.pick (fun i => is.getD i 0) (fun i hi => ?_) (fun i j hi hj e => ?_)
  · have h1 : (is.map (fun i => L[i]?))[i]? = (L'.map some)[i]? := by rw [hmap]
    have hi' : i < is.length := by omega
    simp only [List.getElem?_map, List.getElem?_eq_getElem hi', List.getElem?_eq_getElem hi, Option.map_some] at h1
    simp only [List.getD_eq_getElem?_getD, List.getElem?_eq_getElem hi', Option.getD_some, List.getElem?_eq_getElem hi]
    exact Option.some.inj h1
  · have hi' : i < is.length := by omega
    have hj' : j < is.length := by omega
    simp only [List.getD_eq_getElem?_getD, List.getElem?_eq_getElem hi', List.getElem?_eq_getElem hj', Option.getD_some] at e
    exact (List.getElem_inj hnd).1 e

section
variable {P : Program} {Q : Exit → Act → World → Prop} {c : Cx} {n : Nat} {m : List (Nat × Value)} {L L' : List Asn}

theorem WJ.sel {z : Code} (is : List Nat) (hs : Sel is L L') (h : WJ P Q c n z m L') : WJ P Q c n z m L := fun a w ha hw => h a w ha (hw.sel hs)
theorem PJ.sel {e : Exit} (is : List Nat) (hs : Sel is L L') (h : PJ Q c n e m L') : PJ Q c n e m L := fun a w ha hw => h a w ha (hw.sel hs)

theorem RetG.quiet {f : FuncId} {vs : Array Value} {v : Value} (h : ∀ w, St c w L → Calls P f vs w (Ret (cx w) v)) :
    ∀ w, St c w L → Calls P f vs w fun e w' => e = .returned v ∧ St c w' L := fun w hw => (h w hw).mono fun _ _ ⟨_, _, he, ⟨hv, _⟩, hst⟩ => by
  subst hv
  exact ⟨he, hw.grow hst.chg⟩

theorem St.join {w w' : World} (h : St c w L) (h' : St (cx w) w' L') : St c w' (L' ++ L) := by
  obtain ⟨hs, fp, hf⟩ := h'
  exact h.news hs (fp' := fp) ⟨hf.holds, hf.dis, fun k b hk hb => (hf.own k b hk hb).resolve_left (fun h => h)⟩

theorem St.join0 {w w' : World} {S : Nat → Prop} {fp : Nat → Nat → Prop} (h : Sep c.Ow w L fp) (hch : Chg c.X c.w0 w) (hS : ∀ b, S b → c.Ow b) (hdis : ∀ k b, k < L.length → fp k b → ¬ S b) (h' : St ⟨w, S⟩ w' L') : St c w' (L' ++ L) := by
  obtain ⟨hs, fp', hf⟩ := h'
  have hs' : Chg S w w' := hs
  have hown : ∀ j b, j < L'.length → fp' j b → S b ∨ w.heap.size ≤ b := hf.own
  have hno : ∀ i j b, i < L'.length → j < L.length → fp' i b → fp j b → False := fun i j b hi hj hib hjb => by
    rcases hown i b hi hib with h1 | h1
    · exact hdis j b hj hjb h1
    · have := h.lt hj hjb; omega
  refine ⟨Chg.step hch hs' hS, fun i => if i < L'.length then fp' i else fp (i - L'.length), fun i A hi => ?_, fun i j b hi hj hib hjb => ?_, fun i b hi hib => ?_⟩
  · by_cases hlt : i < L'.length
    · rw [List.getElem?_append_left hlt] at hi
      simp only [hlt, if_true]
      exact hf.holds i A hi
    · rw [List.getElem?_append_right (by omega)] at hi
      simp only [hlt, if_false]
      have hA := h.holds _ A hi
      exact A.loc hA (fun b hb => hs'.block b (A.foot hA b hb) (hdis _ b (lt_of_some hi) hb))
  · simp only [List.length_append] at hi hj
    by_cases hil : i < L'.length <;> by_cases hjl : j < L'.length
    · simp only [hil, if_true, hjl] at hib hjb
      exact hf.dis i j b hil hjl hib hjb
    · simp only [hil, if_true, hjl, if_false] at hib hjb
      exact (hno i _ b hil (by omega) hib hjb).elim
    · simp only [hil, if_false, hjl, if_true] at hib hjb
      exact (hno j _ b hjl (by omega) hjb hib).elim
    · simp only [hil, if_false, hjl] at hib hjb
      have := h.dis _ _ b (by omega) (by omega) hib hjb
      omega
  · simp only [List.length_append] at hi
    by_cases hil : i < L'.length
    · simp only [hil, if_true] at hib
      rcases hown i b hil hib with h1 | h1
      · exact hS b h1
      · exact .inr (Nat.le_trans hch.size h1)
    · simp only [hil, if_false] at hib
      exact h.own _ b (by omega) hib

/-- one resource taken out -/
theorem St.out {w : World} (h : St c w L) {k : Nat} {A : Asn} (hk : L[k]? = some A) :
    ∃ (S : Nat → Prop) (fp : Nat → Nat → Prop), A.holds w S ∧ (∀ b, S b → c.Ow b) ∧ Sep c.Ow w (L.eraseIdx k) fp ∧ ∀ i b, i < (L.eraseIdx k).length → fp i b → ¬ S b := by
  obtain ⟨hb, fp, h1⟩ := h
  have hkl := lt_of_some hk
  have hle : (L.eraseIdx k).length + 1 = L.length := by rw [List.length_eraseIdx]; simp [hkl]; omega
  have lt : ∀ i, i < (L.eraseIdx k).length → (if i < k then i else i + 1) < L.length := fun i hi => by split <;> omega
  have ne : ∀ i, (if i < k then i else i + 1) ≠ k := fun i => by split <;> omega
  refine ⟨fp k, fun i => fp (if i < k then i else i + 1), h1.holds k A hk, fun b => h1.own k b hkl, ⟨fun i C hi => ?_, fun i j b hi hj hib hjb => ?_, fun i b hi hib => h1.own _ b (lt i hi) hib⟩, fun i b hi hib hks => ne i (h1.dis _ k b (lt i hi) hkl hib hks)⟩
  · refine h1.holds _ C ?_
    rw [List.getElem?_eraseIdx] at hi
    rw [← hi]
    split <;> rfl
  · have e := h1.dis _ _ b (lt i hi) (lt j hj) hib hjb
    split at e <;> split at e <;> omega

/-- a call that takes one resource and hands back others -/
theorem St.join1 {w w' : World} {S : Nat → Prop} {fp : Nat → Nat → Prop} {k : Nat} (hst : St c w L) (h : Sep c.Ow w (L.eraseIdx k) fp) (hS : ∀ b, S b → c.Ow b) (hdis : ∀ i b, i < (L.eraseIdx k).length → fp i b → ¬ S b) (h' : St ⟨w, S⟩ w' L') : St c w' (L' ++ L.eraseIdx k) :=
  St.join0 h hst.chg hS hdis h'
end

/-! handing back -/
theorem bodyPost_of {P : Program} {fn : Func} {R : Ending → World → Prop} {a : Act} {w : World} {v : Value} {rs : List ResultVar} (hres : fn.results = rs.toArray) (hr : (results fn a.tmps).run P w = .ok v w) (hd : a.defers = []) (hR : R (.returned v) w) : bodyPost P fn R .ret a w := by
  exact bodyPost_ret hr hd hR
section
variable {P : Program} {fn : Func} {c : Cx} {n : Nat} {m : List (Nat × Value)} {L : List Asn} {T : Value → List Asn → Prop} {v v1 v2 v3 v4 : Value} {t t2 t3 t4 : Nat}
theorem Has.getD {a : Act} (ha : Has n a m) (ht : get m t = some v) : a.tmps.getD t undef = v := by have := ha.2.2 t v ht; simp [Array.getD_eq_getD_getElem?, this]
theorem PJ.ret1 (hres : fn.results = #[.tmp t]) (ht : get m t = some v) (h : T v L) : PJ (bodyPost P fn (RetG c T)) c n .ret m L := fun a w ha hw =>
  bodyPost_ret (results_tmp hres _ _ _) ha.2.1 (by rw [ha.getD ht]; exact ⟨_, _, rfl, h, hw⟩)
theorem PJ.ret2 (hres : fn.results = #[.tmp t, .tmp t2]) (ht : get m t = some v) (ht2 : get m t2 = some v2) (h : T (.tuple #[v, v2]) L) : PJ (bodyPost P fn (RetG c T)) c n .ret m L := fun a w ha hw =>
  bodyPost_ret (results_tmp2 hres _ _ _) ha.2.1 (by rw [ha.getD ht, ha.getD ht2]; exact ⟨_, _, rfl, h, hw⟩)
theorem PJ.ret3 (hres : fn.results = #[.tmp t, .tmp t2, .tmp t3]) (ht : get m t = some v) (ht2 : get m t2 = some v2) (ht3 : get m t3 = some v3) (h : T (.tuple #[v, v2, v3]) L) : PJ (bodyPost P fn (RetG c T)) c n .ret m L := fun a w ha hw =>
  bodyPost_ret (v := .tuple #[a.tmps.getD t undef, a.tmps.getD t2 undef, a.tmps.getD t3 undef]) (by simp [results, hres]) ha.2.1 (by rw [ha.getD ht, ha.getD ht2, ha.getD ht3]; exact ⟨_, _, rfl, h, hw⟩)
theorem PJ.ret4 (hres : fn.results = #[.tmp t, .tmp t2, .tmp t3, .tmp t4]) (ht : get m t = some v) (ht2 : get m t2 = some v2) (ht3 : get m t3 = some v3) (ht4 : get m t4 = some v4) (h : T (.tuple #[v, v2, v3, v4]) L) : PJ (bodyPost P fn (RetG c T)) c n .ret m L := fun a w ha hw =>
  bodyPost_ret (v := .tuple #[a.tmps.getD t undef, a.tmps.getD t2 undef, a.tmps.getD t3 undef, a.tmps.getD t4 undef]) (by simp [results, hres]) ha.2.1 (by rw [ha.getD ht, ha.getD ht2, ha.getD ht3, ha.getD ht4]; exact ⟨_, _, rfl, h, hw⟩)
end

/-! A block of cells of the call's own. -/

def pt (g off : Nat) : Value := .pointer (some ⟨g, off, none⟩)

def box (g : Nat) (t : TypeId) (cs : List Value) : Asn where
  holds w S := w.heap[g]? = some (.cells cs.toArray t (0, 0)) ∧ ∀ b, S b ↔ b = g
  loc h k := ⟨by rw [k g ((h.2 g).2 rfl)]; exact h.1, h.2⟩
  foot h b hb := by
    have := (h.2 b).1 hb
    subst this
    exact (Array.getElem?_eq_some_iff.1 h.1).1

theorem box_new (w : World) (t : TypeId) (cs : List Value) : (box w.heap.size t cs).holds (w.alloc (.cells cs.toArray t)) (fun b => b = w.heap.size) :=
  ⟨heap_alloc_new w _, fun _ => Iff.rfl⟩

/-- the cells from off on, written over -/
def putL (cs : List Value) (off : Nat) (us : List Value) : List Value := cs.take off ++ us ++ cs.drop (off + us.length)

theorem length_putL {cs us : List Value} {off : Nat} (h : off + us.length ≤ cs.length) : (putL cs off us).length = cs.length := by
  simp [putL]; omega

theorem setRow_chg (w : World) (g : Nat) (cs : Array Value) {S : Nat → Prop} (hS : S g) : Chg S w (w.setRow g cs) :=
  ⟨rfl, rfl, rfl, by simp [World.setRow], fun b _ hn => setRow_other w g b cs (fun e => hn (by rw [e]; exact hS))⟩

theorem run_storeVar_at {P : Program} (w : World) (g off : Nat) (t ty : TypeId) (cur : Array Value) (u : Value) (us : List Value) (hg : w.heap[g]? = some (.cells cur t (0, 0))) (hs : (sizeOf ty).run P w = .ok us.length w) (hu : u.cells.toList = us)
    (hl : off + us.length ≤ cur.size) (h1 : ∀ v ∈ us, v.oneCell' = true) : (storeVar ty ⟨g, off, none⟩ u).run P w = .ok () (w.setRow g (putL cur.toList off us).toArray) := by
  subst hu
  have h := run_storeCells_at P g off t u.cells.toList 0 cur w hg (by simpa using hl) h1
  simp only [Nat.add_zero] at h
  simp [storeVar, hs, h, putL]

section
variable {P : Program} {Q : Exit → Act → World → Prop} {c : Cx} {n : Nat} {m : List (Nat × Value)} {L : List Asn} {ops : Array Oper} {l : List Oper} {v : Value}
variable {d : Nat} {ty : TypeId} {ps : String} {af : Array Edge}

theorem SJ.box {x : Operand} {t : TypeId} {u : Value} {cs : List Value} (hx : ev m x = some u) (hcs : u.cells.toList = cs) (hd : Nat.blt d n = true) (h : ∀ g, SJ P ops Q c n l ((d, pt g 0) :: m) (box g t cs :: L)) :
    SJ P ops Q c n (⟨some d, .box t x, ty, ps, af, none⟩ :: l) m L :=
  SJ.x (T := fun v L' => ∃ g, v = pt g 0 ∧ L' = YtppdmciboalhfaaDoor.box g t cs :: L) (fun a w ha hw => by
    subst hcs
    refine ⟨pt w.heap.size 0, w.alloc (.cells u.cells t), _, by simp [execOp, ha.ev hx, Instr.box, newVar, newRow, pt], ⟨_, rfl, rfl⟩, ?_⟩
    exact hw.new (Same.alloc _ _) (by simpa using box_new w t u.cells.toList) (fun b hb => by omega)) hd
    (fun v L' hT => by obtain ⟨g, rfl, rfl⟩ := hT; exact h g)

theorem SJ.alloc {t : TypeId} {z : Value} {cs : List Value} (hz : ∀ w, (zeroValue t).run P w = .ok z w) (hcs : z.cells.toList = cs) (hd : Nat.blt d n = true) (h : ∀ g, SJ P ops Q c n l ((d, pt g 0) :: m) (YtppdmciboalhfaaDoor.box g t cs :: L)) :
    SJ P ops Q c n (⟨some d, .alloc t, ty, ps, af, none⟩ :: l) m L :=
  SJ.x (T := fun v L' => ∃ g, v = pt g 0 ∧ L' = YtppdmciboalhfaaDoor.box g t cs :: L) (fun a w ha hw => by
    subst hcs
    refine ⟨pt w.heap.size 0, w.alloc (.cells z.cells t), _, by simp [execOp, Instr.alloc, hz, newVar, newRow, pt], ⟨_, rfl, rfl⟩, ?_⟩
    exact hw.new (Same.alloc _ _) (by simpa using box_new w t z.cells.toList) (fun b hb => by omega)) hd
    (fun v L' hT => by obtain ⟨g, rfl, rfl⟩ := hT; exact h g)

theorem SJ.store {x y : Operand} {t t' : TypeId} {u : Value} {us cs : List Value} {g off k : Nat} (hk : L[k]? = some (YtppdmciboalhfaaDoor.box g t cs)) (hx : ev m x = some (pt g off)) (hy : ev m y = some u) (hus : u.cells.toList = us)
    (hs : ∀ w, (sizeOf t').run P w = .ok us.length w) (hl : off + us.length ≤ cs.length) (h1 : ∀ v ∈ us, v.oneCell' = true) (h : SJ P ops Q c n l m (L.set k (YtppdmciboalhfaaDoor.box g t (putL cs off us)))) :
    SJ P ops Q c n (⟨none, .store t' x y, ty, ps, af, none⟩ :: l) m L :=
  SJ.u (fun a w ha hw => by
    obtain ⟨S, hA, _, hset⟩ := hw.set hk
    have hr := run_storeVar_at (P := P) w g off t t' cs.toArray u us hA.1 (hs w) hus (by simpa using hl) h1
    refine ⟨w.setRow g (putL cs off us).toArray, by simp [execOp, ha.ev hx, ha.ev hy, Instr.storeAt, Instr.sureAddr, pt, hr], ?_⟩
    exact hset _ _ S (setRow_chg w g _ ((hA.2 g).2 rfl)) ⟨setRow_heap w g _ _ t _ hA.1, hA.2⟩ (fun b hb => .inl hb)) h

variable {dd : Option Tmp} {gd : Option (Nat × Bool)}

theorem y_loadB {x : Operand} {t t' : TypeId} {cs : List Value} {g off k : Nat} (hk : L[k]? = some (YtppdmciboalhfaaDoor.box g t cs)) (hg : ∀ w, (isAgg t').run P w = .ok false w) (hx : ev m x = some (pt g off)) (hc : cs[off]? = some v) :
    YldS P n m (fun w => St c w L) ⟨dd, .load t' x, ty, ps, af, gd⟩ v :=
  .of_run fun a ha w hw => by
    obtain ⟨S, hA, _⟩ := hw.at hk
    have h3 : w.cell? ⟨g, off, none⟩ = some v := by rw [cell_of_row w g off _ t _ hA.1]; simpa using hc
    simp [execOp, ha.ev hx, Instr.loadAt, Instr.sureAddr, loadVar, hg, h3, pt]

theorem y_loadBN {x : Operand} {t t' : TypeId} {cs us : List Value} {g off k : Nat} (hk : L[k]? = some (YtppdmciboalhfaaDoor.box g t cs)) (hg : ∀ w, (isAgg t').run P w = .ok true w) (hs : ∀ w, (sizeOf t').run P w = .ok us.length w) (hx : ev m x = some (pt g off))
    (hc : (cs.drop off).take us.length = us) : YldS P n m (fun w => St c w L) ⟨dd, .load t' x, ty, ps, af, gd⟩ (.agg us.toArray) :=
  .of_run fun a ha w hw => by
    obtain ⟨S, hA, _⟩ := hw.at hk
    have h3 := run_loadCellsFrom_at P w ⟨g, off, none⟩ us 0 #[] (fun j u hu => by
      have hadd : (⟨g, off, none⟩ : Addr).add j = ⟨g, off + j, none⟩ := by unfold Addr.add; split <;> simp_all
      rw [Nat.zero_add, hadd, cell_of_row w g (off + j) _ t _ hA.1]
      rw [← hc, List.getElem?_take] at hu
      split at hu
      · rw [List.getElem?_drop] at hu; simpa using hu
      · cases hu)
    simp [execOp, ha.ev hx, Instr.loadAt, Instr.sureAddr, loadVar, hg, hs, loadCells, h3, pt]
end

/-! A slice of the call's own. -/

def encs {α : Type} (R : FRp α) (l : List α) : List Value := l.flatMap R.enc

theorem length_encs {α : Type} (R : FRp α) : ∀ l : List α, (encs R l).length = l.length * R.size
  | [] => by simp [encs]
  | x :: l => by
    have := length_encs R l
    simp only [encs, List.flatMap_cons, List.length_append, R.len, List.length_cons, Nat.add_mul, Nat.one_mul] at this ⊢
    omega
theorem encs_append {α : Type} (R : FRp α) (l r : List α) : encs R (l ++ r) = encs R l ++ encs R r := by simp [encs]
theorem one_encs {α : Type} (R : FRp α) (l : List α) : ∀ u ∈ encs R l, u.oneCell' = true := fun u hu => by
  obtain ⟨x, _, hx⟩ := List.mem_flatMap.1 hu
  exact R.one x u hx

theorem encs_get {α : Type} (R : FRp α) : ∀ (l : List α) (i : Nat) (x : α), l[i]? = some x → ∀ j u, (R.enc x)[j]? = some u → (encs R l)[i * R.size + j]? = some u
  | [], _, _, h, _, _, _ => by simp at h
  | y :: l, 0, x, h, j, u, hu => by
    simp at h
    subst h
    have hj := lt_of_some hu
    simp only [encs, List.flatMap_cons, Nat.zero_mul, Nat.zero_add]
    rw [List.getElem?_append_left hj]
    exact hu
  | y :: l, i + 1, x, h, j, u, hu => by
    have ih := encs_get R l i x (by simpa using h) j u hu
    simp only [encs, List.flatMap_cons] at ih ⊢
    rw [List.getElem?_append_right (by rw [R.len, Nat.add_mul]; omega), R.len]
    rw [show (i + 1) * R.size + j - R.size = i * R.size + j by rw [Nat.add_mul]; omega]
    exact ih

def row {α : Type} (v : Value) (t : TypeId) (R : FRp α) (l : List α) : Asn where
  holds w S := w.ownsRow 0 t R.size v l.length (encs R l) ∧ ∀ b, S b ↔ v.ownBlock = some b
  loc {w w' S} h k := ⟨by
    obtain ⟨h1, h2⟩ := h
    refine ⟨h1.1, ?_⟩
    rcases h1.2 with hn | ⟨g, cap, cur, rfl, hb, hgg, rest⟩
    · exact .inl hn
    · exact .inr ⟨g, cap, cur, rfl, hb, by rw [k g ((h2 g).2 rfl)]; exact hgg, rest⟩, h.2⟩
  foot h b hb := (h.1.lt b ((h.2 b).1 hb)).2

theorem row_lt {α : Type} {v : Value} {t : TypeId} {R : FRp α} {l : List α} {w : World} {S : Nat → Prop} (h : (row v t R l).holds w S) : ∃ a cap, v = .slice a l.length cap := by
  rcases h.1.2 with ⟨rfl, h0⟩ | ⟨g, cap, cur, rfl, _⟩
  · exact ⟨none, 0, by rw [h0]⟩
  · exact ⟨_, cap, rfl⟩

theorem row_at {α : Type} {v : Value} {t : TypeId} {R : FRp α} {l : List α} {w : World} {S : Nat → Prop} (h : (row v t R l).holds w S) {i : Nat} {x : α} (hx : l[i]? = some x) :
    ∃ g cap cur, v = .slice (some ⟨g, 0, none⟩) l.length cap ∧ w.heap[g]? = some (.cells cur t (0, 0)) ∧ S g ∧ l.length ≤ cap ∧ cap ≤ maxLen ∧ cur.size = cap * R.size ∧ cur.toList.take (l.length * R.size) = encs R l ∧
      ∀ j u, (R.enc x)[j]? = some u → cur[i * R.size + j]? = some u := by
  have hi := lt_of_some hx
  obtain ⟨h1, h2⟩ := h
  rcases h1.2 with ⟨rfl, h0⟩ | ⟨g, cap, cur, rfl, _, hg, hc1, hc2, hs, ht⟩
  · omega
  · refine ⟨g, cap, cur, rfl, hg, (h2 g).2 rfl, hc1, hc2, hs, ht, fun j u hu => ?_⟩
    have h3 := encs_get R l i x hx j u hu
    rw [← ht, List.getElem?_take] at h3
    split at h3
    · simpa using h3
    · cases h3

/-- it reads as its list -/
theorem row_rd {α : Type} {v : Value} {t : TypeId} {R : FRp α} {l : List α} {w : World} {S F : Nat → Prop} (h : (row v t R l).holds w S) (hF : ∀ b, S b → F b) : RdS w F v R.rp l := by
  obtain ⟨a, cap, hv⟩ := row_lt h
  have hb : l.length ≤ cap ∧ cap ≤ maxLen := by
    rcases h.1.2 with ⟨rfl, h0⟩ | ⟨g, cap', cur, rfl, _, _, h1, h2, _⟩
    · simp at hv; omega
    · simp at hv; omega
  refine ⟨a, cap, hv, hb.1, hb.2, fun i x hx => ?_⟩
  obtain ⟨g, cap', cur, hv', hg, hS, _, _, _, _, hcell⟩ := row_at h hx
  rw [hv] at hv'
  simp at hv'
  obtain ⟨rfl, rfl⟩ := hv'
  refine ⟨_, R.enc x, rfl, rfl, fun j u hu => ⟨by rw [block_of_add]; exact hF _ hS, ?_⟩⟩
  rw [add_of_add]
  have hadd : (⟨g, 0, none⟩ : Addr).add (i * R.rp.size + j) = ⟨g, i * R.rp.size + j, none⟩ := by unfold Addr.add; split <;> simp_all
  rw [hadd, cell_of_row w g _ cur t _ hg]
  exact hcell j u hu

theorem St.row_rd {α : Type} {c : Cx} {w : World} {L : List Asn} {k : Nat} {v : Value} {t : TypeId} {R : FRp α} {l : List α} (hw : St c w L) (hk : L[k]? = some (row v t R l)) : RdS w (cx w).Fz v R.rp l := by
  obtain ⟨S, hA, _⟩ := hw.at hk
  exact YtppdmciboalhfaaDoor.row_rd hA (fun b hb => ⟨(row v t R l).foot hA b hb, fun h => h⟩)

/-- what came in still reads so -/
theorem RdS.st {α : Type} {R : Rp α} {c : Cx} {w : World} {L : List Asn} {v : Value} {l : List α} (h : RdS c.w0 c.Fz v R l) (hw : St c w L) : RdS w (cx w).Fz v R l :=
  h.mono (fun b hb => ⟨Nat.lt_of_lt_of_le hb.1 hw.chg.size, fun h => h⟩) (fun b hb => hw.frozen b hb)
theorem At.st {c : Cx} {w : World} {L : List Asn} {a : Addr} {cs : List Value} (h : At c.w0 c.Fz a cs) (hw : St c w L) : At w (cx w).Fz a cs :=
  h.mono (fun b hb => ⟨Nat.lt_of_lt_of_le hb.1 hw.chg.size, fun h => h⟩) (fun b hb => hw.frozen b hb)

/-- the number that no length passes -/
def LIM : Nat := 1099511627776

def ElemOk (P : Program) (e : TypeId) (size : Nat) (z : List Value) : Prop := ∃ i zv, P.info? e = some i ∧ i.zero = some zv ∧ zv.cells.toList = z ∧ i.size = size ∧ i.bytes ≤ 128

def rowAt (v : Value) (j : Nat) : Value := pt (v.ownBlock.getD 0) j

section
variable {P : Program} {Q : Exit → Act → World → Prop} {c : Cx} {n : Nat} {m : List (Nat × Value)} {L : List Asn} {ops : Array Oper} {l : List Oper} {v : Value}
variable {d : Nat} {ty : TypeId} {ps : String} {af : Array Edge} {dd : Option Tmp} {gd : Option (Nat × Bool)}
variable {α : Type} {R : FRp α} {xs ys : List α} {e : TypeId}

theorem WJ.nil_row {z : Code} (e : TypeId) (R : FRp α) (h : WJ P Q c n z m (row (.slice none 0 0) e R [] :: L)) : WJ P Q c n z m L := fun a w ha hw =>
  h a w ha (hw.new (Chg.refl _ _) (S := fun _ => False) ⟨World.ownsRow_nil w 0 e R.size, fun b => by simp [Value.ownBlock]⟩ (fun _ h => h.elim))
theorem SJ.nil_row (e : TypeId) (R : FRp α) (h : SJ P ops Q c n l m (row (.slice none 0 0) e R [] :: L)) : SJ P ops Q c n l m L := fun a w ha hw =>
  h a w ha (hw.new (Chg.refl _ _) (S := fun _ => False) ⟨World.ownsRow_nil w 0 e R.size, fun b => by simp [Value.ownBlock]⟩ (fun _ h => h.elim))
theorem PJ.nil_row {x : Exit} (e : TypeId) (R : FRp α) (h : PJ Q c n x m (row (.slice none 0 0) e R [] :: L)) : PJ Q c n x m L := fun a w ha hw =>
  h a w ha (hw.new (Chg.refl _ _) (S := fun _ => False) ⟨World.ownsRow_nil w 0 e R.size, fun b => by simp [Value.ownBlock]⟩ (fun _ h => h.elim))
theorem SJ.erase (k : Nat) (h : SJ P ops Q c n l m (L.eraseIdx k)) : SJ P ops Q c n l m L := fun a w ha hw => h a w ha (hw.erase k)

theorem y_lenRow {x : Operand} {t e' : TypeId} {k : Nat} (hk : L[k]? = some (row v e R xs)) (ht : ∀ w, (underlying t).run P w = .ok (.slice e') w) (hx : ev m x = some v) :
    YldS P n m (fun w => St c w L) ⟨dd, .call { callee := .builtin .len, args := #[x], argTypes := #[t] }, ty, ps, af, gd⟩ (.int .i64 xs.length) :=
  .of_run fun a ha w hw => by
    obtain ⟨S, hA, _⟩ := hw.at hk
    obtain ⟨b, cap, rfl⟩ := row_lt hA
    simp [execOp, ha.ev hx, resolve, invoke, builtin, Builtin.len_, ht, goInt]

theorem y_ixRow {s j : Operand} {t : TypeId} {k : Nat} {kd : IntKind} {i : Int} {x : α} (hk : L[k]? = some (row v e R xs)) (ht : ∀ w, (underlying t).run P w = .ok (.slice e) w) (hs : ∀ w, (sizeOf e).run P w = .ok R.size w)
    (hx : ev m s = some v) (hj : ev m j = some (.int kd i)) (hi : idx xs i = some x) :
    YldS P n m (fun w => St c w L) ⟨dd, .indexAddr t s j, ty, ps, af, gd⟩ (rowAt v (i.toNat * R.size)) :=
  .of_run fun a ha w hw => by
    obtain ⟨S, hA, _⟩ := hw.at hk
    unfold idx at hi
    split at hi
    · rename_i h0
      obtain ⟨g, cap, cur, rfl, _⟩ := row_at hA hi
      have hlt := lt_of_some hi
      have hadd : (⟨g, 0, none⟩ : Addr).add (i.toNat * R.size) = ⟨g, i.toNat * R.size, none⟩ := by unfold Addr.add; split <;> simp_all
      simp [execOp, ha.ev hx, ha.ev hj, Instr.indexAt, asIntOf, ht, hs, h0, hadd, rowAt, pt, Value.ownBlock]
      intro h4; omega
    · cases hi

theorem add_rowAt (v : Value) (j off : Nat) : Value.pointer (some ((⟨v.ownBlock.getD 0, j, none⟩ : Addr).add off)) = rowAt v (j + off) := by
  unfold rowAt pt Addr.add; split <;> simp_all

theorem y_fieldR {x : Operand} {t ft : TypeId} {i off sz j : Nat} {fs : Array Field} {f : Field} (ht : ∀ w, (underlying t).run P w = .ok (.struct fs) w) (hf : fs[i]? = some f) (hft : f.type = ft) (ho : f.offset = off)
    (hs : ∀ w, (sizeOf ft).run P w = .ok (sz + 1) w) (hx : ev m x = some (rowAt v j)) {C : World → Prop} : YldS P n m C ⟨dd, .fieldAddr t x i, ty, ps, af, gd⟩ (rowAt v (j + off)) := by
  rw [← add_rowAt]
  exact y_field ht hf hft ho hs hx

theorem y_loadR {x : Operand} {t : TypeId} {k i off : Nat} {y : α} {u : Value} (hk : L[k]? = some (row v e R xs)) (hg : ∀ w, (isAgg t).run P w = .ok false w) (hx : ev m x = some (rowAt v (i * R.size + off))) (hi : xs[i]? = some y)
    (hc : (R.enc y)[off]? = some u) : YldS P n m (fun w => St c w L) ⟨dd, .load t x, ty, ps, af, gd⟩ u :=
  .of_run fun a ha w hw => by
    obtain ⟨S, hA, _⟩ := hw.at hk
    obtain ⟨g, cap, cur, rfl, hgg, _, _, _, _, _, hcell⟩ := row_at hA hi
    have h3 : w.cell? ⟨g, i * R.size + off, none⟩ = some u := by rw [cell_of_row w g _ _ e _ hgg]; exact hcell off u hc
    simp [execOp, ha.ev hx, Instr.loadAt, Instr.sureAddr, loadVar, hg, h3, pt, rowAt, Value.ownBlock]

theorem y_loadRN {x : Operand} {t : TypeId} {k i off : Nat} {y : α} {us : List Value} (hk : L[k]? = some (row v e R xs)) (hg : ∀ w, (isAgg t).run P w = .ok true w) (hs : ∀ w, (sizeOf t).run P w = .ok us.length w)
    (hx : ev m x = some (rowAt v (i * R.size + off))) (hi : xs[i]? = some y) (hc : ((R.enc y).drop off).take us.length = us) : YldS P n m (fun w => St c w L) ⟨dd, .load t x, ty, ps, af, gd⟩ (.agg us.toArray) :=
  .of_run fun a ha w hw => by
    obtain ⟨S, hA, _⟩ := hw.at hk
    obtain ⟨g, cap, cur, rfl, hgg, _, _, _, _, _, hcell⟩ := row_at hA hi
    have h3 := run_loadCellsFrom_at P w ⟨g, i * R.size + off, none⟩ us 0 #[] (fun j u hu => by
      have hadd : (⟨g, i * R.size + off, none⟩ : Addr).add j = ⟨g, i * R.size + (off + j), none⟩ := by unfold Addr.add; split <;> simp_all [Nat.add_assoc]
      rw [Nat.zero_add, hadd, cell_of_row w g _ _ e _ hgg]
      rw [← hc, List.getElem?_take] at hu
      split at hu
      · rw [List.getElem?_drop] at hu; exact hcell _ u hu
      · cases hu)
    simp [execOp, ha.ev hx, Instr.loadAt, Instr.sureAddr, loadVar, hg, hs, loadCells, h3, pt, rowAt, Value.ownBlock]

theorem encs_set (R : FRp α) : ∀ (l : List α) (i : Nat) (x y : α) (off : Nat) (us : List Value), l[i]? = some x → off + us.length ≤ R.size → R.enc y = putL (R.enc x) off us → encs R (l.set i y) = putL (encs R l) (i * R.size + off) us
  | [], _, _, _, _, _, h, _, _ => by simp at h
  | z :: l, 0, x, y, off, us, h, hl, hy => by
    simp at h
    subst h
    simp only [List.set_cons_zero, encs, List.flatMap_cons, hy, putL, Nat.zero_mul, Nat.zero_add]
    have h1 : off ≤ (R.enc z).length := by rw [R.len]; omega
    have h2 : off + us.length ≤ (R.enc z).length := by rw [R.len]; omega
    rw [List.take_append_of_le_length h1, List.drop_append_of_le_length h2]
    simp
  | z :: l, i + 1, x, y, off, us, h, hl, hy => by
    have ih := encs_set R l i x y off us (by simpa using h) hl hy
    simp only [List.set_cons_succ, encs, List.flatMap_cons, putL] at ih ⊢
    rw [ih]
    have h1 : (R.enc z).length = R.size := R.len z
    rw [show (i + 1) * R.size + off = (R.enc z).length + (i * R.size + off) by rw [h1, Nat.add_mul]; omega]
    rw [List.take_length_add_append, show (R.enc z).length + (i * R.size + off) + us.length = (R.enc z).length + (i * R.size + off + us.length) by omega, List.drop_length_add_append]
    simp

theorem SJ.storeR {x y : Operand} {t' : TypeId} {u : Value} {us : List Value} {k i off : Nat} {a b : α} (hk : L[k]? = some (row v e R xs)) (hx : ev m x = some (rowAt v (i * R.size + off))) (hi : xs[i]? = some a)
    (hy : ev m y = some u) (hus : u.cells.toList = us) (hs : ∀ w, (sizeOf t').run P w = .ok us.length w) (hl : off + us.length ≤ R.size) (h1 : ∀ v ∈ us, v.oneCell' = true) (hb : R.enc b = putL (R.enc a) off us)
    (h : SJ P ops Q c n l m (L.set k (row v e R (xs.set i b)))) : SJ P ops Q c n (⟨none, .store t' x y, ty, ps, af, none⟩ :: l) m L :=
  SJ.u (fun ac w ha hw => by
    obtain ⟨S, hA, _, hset⟩ := hw.set hk
    obtain ⟨g, cap, cur, rfl, hgg, hS, hc1, hc2, hcs, htake, _⟩ := row_at hA hi
    have hlt := lt_of_some hi
    have hle : i * R.size + off + us.length ≤ xs.length * R.size := by
      have : (i + 1) * R.size ≤ xs.length * R.size := Nat.mul_le_mul_right _ hlt
      rw [Nat.add_mul] at this
      omega
    have hle2 : xs.length * R.size ≤ cap * R.size := Nat.mul_le_mul_right _ hc1
    have hr := run_storeVar_at (P := P) w g (i * R.size + off) e t' cur u us hgg (hs w) hus (by omega) h1
    refine ⟨w.setRow g (putL cur.toList (i * R.size + off) us).toArray, by simp [execOp, ha.ev hx, ha.ev hy, Instr.storeAt, Instr.sureAddr, pt, rowAt, Value.ownBlock, hr], ?_⟩
    refine hset _ _ S (setRow_chg w g _ hS) ⟨⟨?_, .inr ⟨g, cap, _, by simp, Nat.zero_le _, setRow_heap w g _ _ e _ hgg, by simpa using hc1, hc2, ?_, ?_⟩⟩, hA.2⟩ (fun b hb => .inl hb)
    · rw [length_encs]
    · simp [length_putL (cs := cur.toList) (us := us) (off := i * R.size + off) (by simp; omega), hcs]
    · rw [encs_set R xs i a b off us hi hl hb, ← htake]
      simp only [List.length_set, putL, List.append_assoc]
      have h2 : (cur.toList.take (i * R.size + off)).length = i * R.size + off := by simp; omega
      rw [List.take_append, h2, List.take_append, List.take_take, List.take_take, List.drop_take]
      rw [Nat.min_eq_right (by omega), Nat.min_eq_left (by omega), List.take_of_length_le (l := us) (by omega)]
      congr 3
      omega) h
end

/-! Making and appending. -/

def app {α : Type} (a b : List α) : Option (List α) := if a.length + b.length ≤ LIM then some (a ++ b) else none
def mk {α : Type} (k : Int) (z : α) : Option (List α) := if 0 ≤ k ∧ k ≤ (LIM : Int) then some (List.replicate k.toNat z) else none
def sub {α : Type} (l : List α) (lo hi : Int) : Option (List α) := if 0 ≤ lo ∧ lo ≤ hi ∧ hi ≤ (l.length : Int) then some ((l.drop lo.toNat).take (hi.toNat - lo.toNat)) else none

theorem fill_seq (size : Nat) : ∀ (us : List Value) (k : Nat) (cells : List Value), (∀ u ∈ us, u.cells.size = size) → (k + us.length) * size ≤ cells.length →
    Instr.fill (fun i => some (i * size, size)) cells.toArray ((us.zipIdx k).map fun p => (p.2, p.1)) = some (putL cells (k * size) (us.flatMap fun u => u.cells.toList)).toArray
  | [], k, cells, _, h => by simp [Instr.fill, putL]
  | u :: us, k, cells, hu, h => by
    have hs : u.cells.size = size := hu u (by simp)
    have hk : k * size + size ≤ cells.length := by
      have : (k + 1) * size ≤ (k + (u :: us).length) * size := Nat.mul_le_mul_right _ (by simp)
      rw [Nat.add_mul] at this; omega
    have hfold : ∀ (vs : List Value) (j o : Nat) (cs : List Value), o + j + vs.length ≤ cs.length →
        (vs.zipIdx j).foldl (fun (cs : Array Value) (p : Value × Nat) => cs.setIfInBounds (o + p.2) p.1) cs.toArray = (putL cs (o + j) vs).toArray := by
      intro vs
      induction vs with
      | nil => intro j o cs _; simp [putL]
      | cons v vs ih =>
        intro j o cs hl
        simp only [List.zipIdx_cons, List.foldl_cons, List.setIfInBounds_toArray]
        rw [ih (j + 1) o (cs.set (o + j) v) (by simp at hl ⊢; omega)]
        congr 1
        simp only [putL, List.length_cons]
        have h1 : o + j < cs.length := by simp at hl; omega
        rw [show o + (j + 1) = (o + j) + 1 by omega, List.take_succ_eq_append_getElem (by simpa using h1)]
        rw [List.take_set_of_le (Nat.le_refl _), List.drop_set_of_lt (by omega)]
        simp
        congr 1
        omega
    simp only [List.zipIdx_cons, List.map_cons, Instr.fill]
    rw [if_neg (by simp [hs]; omega)]
    have hf := hfold u.cells.toList 0 (k * size) cells (by simp [hs]; omega)
    rw [Nat.add_zero] at hf
    rw [← Array.foldl_toList, Array.toList_zipIdx]
    rw [hf, fill_seq size us (k + 1) _ (fun x hx => hu x (by simp [hx])) (by rw [length_putL (by simp [hs]; omega)]; simp at h; rw [show k + 1 + us.length = k + (us.length + 1) by omega]; exact h)]
    congr 2
    simp only [List.flatMap_cons]
    have hlu : u.cells.toList.length = size := by simpa using hs
    unfold putL
    rw [show (k + 1) * size = k * size + size by rw [Nat.add_mul]; omega]
    simp only [List.length_append, hlu]
    have h2 : (cells.take (k * size)).length = k * size := by simp; omega
    rw [List.take_append_of_le_length (by simp only [List.length_append, h2, hlu]; omega), List.take_of_length_le (by simp only [List.length_append, h2, hlu]; omega)]
    rw [List.drop_append, List.drop_of_length_le (by simp only [List.length_append, h2, hlu]; omega)]
    simp only [List.length_append, h2, hlu, List.nil_append, List.drop_drop, List.append_assoc]
    congr 4
    omega

theorem run_buildSlice {P : Program} (w : World) (t e : TypeId) (size : Nat) (z : Value) (us : List Value) (ht : (underlying t).run P w = .ok (.slice e) w) (hs : (sizeOf e).run P w = .ok size w) (hz : (zeroValue e).run P w = .ok z w)
    (hl : us.length * size ≤ 16777216) (hu : ∀ u ∈ us, u.cells.size = size) :
    (Instr.buildSlice t us.length ((us.zipIdx 0).map fun p => (p.2, p.1)).toArray).run P w =
      .ok (.slice (some ⟨w.heap.size, 0, none⟩) us.length us.length) (w.alloc (.cells (us.flatMap fun u => u.cells.toList).toArray e)) := by
  have hf := fill_seq size us 0 ((Array.range (us.length * size)).map (fun i => z.cells[i % z.cells.size]!)).toList hu (by simp)
  have hf0 := fill_seq size us 0 ((Array.range (us.length * size)).map (fun i => (#[] : Array Value)[i % (#[] : Array Value).size]!)).toList hu (by simp)
  simp only [Array.toArray_toList] at hf hf0
  have hlen : (us.flatMap fun u => u.cells.toList).length = us.length * size := by
    clear hf hf0 hl
    induction us with
    | nil => simp
    | cons u us ih =>
      have := hu u (by simp)
      simp [List.flatMap_cons, ih (fun x hx => hu x (by simp [hx])), this, Nat.add_mul]
      omega
  have hput : ∀ cs : List Value, cs.length = us.length * size → putL cs (0 * size) (us.flatMap fun u => u.cells.toList) = us.flatMap fun u => u.cells.toList := by
    intro cs hc
    simp only [putL, Nat.zero_mul, List.take_zero, List.nil_append, hlen, Nat.zero_add]
    rw [List.drop_of_length_le (by omega)]
    simp
  rw [hput _ (by simp)] at hf hf0
  have hn : ¬ (2 ^ 24 < us.length * size) := by omega
  by_cases h0 : us.length * size = 0
  · simp only [Instr.buildSlice, Sem.run_bind, ht, Result.andThen_ok, hs]
    simp [hn, h0, hf0, newRow]
    rw [h0] at hf0
    simp at hf0
    simp [hf0]
  · simp only [Instr.buildSlice, Sem.run_bind, ht, Result.andThen_ok, hs]
    simp [hn, h0, hz, hf, newRow]

section
variable {P : Program} {Q : Exit → Act → World → Prop} {c : Cx} {n : Nat} {m : List (Nat × Value)} {L : List Asn} {ops : Array Oper} {l : List Oper} {v : Value}
variable {d : Nat} {ty : TypeId} {ps : String} {af : Array Edge} {dd : Option Tmp} {gd : Option (Nat × Bool)}
variable {α : Type} {R : FRp α} {xs ys : List α} {e : TypeId}

theorem encs_flat (R : FRp α) : ∀ (us : List Value) (xs : List α), us.map (fun u => u.cells.toList) = xs.map R.enc → us.flatMap (fun u => u.cells.toList) = encs R xs := fun us xs h => by
  rw [List.flatMap_def, h]; simp [encs, List.flatMap_def]

theorem row_new (w : World) (e : TypeId) (R : FRp α) (xs : List α) (hl : xs.length ≤ maxLen) : (row (.slice (some ⟨w.heap.size, 0, none⟩) xs.length xs.length) e R xs).holds (w.alloc (.cells (encs R xs).toArray e)) (fun b => b = w.heap.size) :=
  ⟨⟨by rw [length_encs], .inr ⟨_, _, _, rfl, Nat.zero_le _, heap_alloc_new w _, Nat.le_refl _, hl, by simp [length_encs], by rw [List.take_of_length_le (by simp [length_encs])]⟩⟩, fun b => by simp [Value.ownBlock]; exact eq_comm⟩

/-- 'make' of so many zeros; a list written out -/
theorem SJ.buildSlice {t : TypeId} {os : List Operand} {parts : Array (Nat × Operand)} {k : Nat} {us : List Value} {z : Value} (xs : List α) (ht : ∀ w, (underlying t).run P w = .ok (.slice e) w) (hs : ∀ w, (sizeOf e).run P w = .ok R.size w) (hz : ∀ w, (zeroValue e).run P w = .ok z w)
    (hp : parts = ((os.zipIdx 0).map fun p => (p.2, p.1)).toArray) (hk : k = os.length) (hos : evs m os = some us) (hxs : us.map (fun u => u.cells.toList) = xs.map R.enc) (hlen : Nat.ble (xs.length * R.size) 16777216 = true) (hd : Nat.blt d n = true)
    (h : ∀ v, SJ P ops Q c n l ((d, v) :: m) (row v e R xs :: L)) :
    SJ P ops Q c n (⟨some d, .buildSlice t k parts, ty, ps, af, none⟩ :: l) m L :=
  SJ.x (T := fun v L' => L' = row v e R xs :: L) (fun a w ha hw => by
    have hev := ha.evs hos
    have hul : us.length = os.length := by rw [← hev]; simp
    have hux : us.length = xs.length := by simpa using congrArg List.length hxs
    have hlen' : xs.length * R.size ≤ 16777216 := by simpa using Nat.le_of_ble_eq_true hlen
    have hu : ∀ u ∈ us, u.cells.size = R.size := fun u hu => by
      have : u.cells.toList ∈ xs.map R.enc := by rw [← hxs]; exact List.mem_map_of_mem hu
      obtain ⟨x, _, hx⟩ := List.mem_map.1 this
      have := R.len x
      rw [hx] at this
      simpa using this
    have hr := run_buildSlice (P := P) w t e R.size z us (ht w) (hs w) (hz w) (by rw [hux]; exact hlen') hu
    have hparts : parts.map (fun p => (p.1, a.eval p.2)) = ((us.zipIdx 0).map fun p => (p.2, p.1)).toArray := by
      subst hp
      rw [← hev]
      simp [List.zipIdx_map, Function.comp_def]
    have hxl : xs.length ≤ maxLen := by
      have := R.pos
      have h2 : xs.length * 1 ≤ xs.length * R.size := Nat.mul_le_mul_left _ this
      unfold maxLen; omega
    rw [encs_flat R us xs hxs, hux] at hr
    refine ⟨.slice (some ⟨w.heap.size, 0, none⟩) xs.length xs.length, _, _, by
      simp only [execOp, hk, ← hul, hux]
      rw [show (parts.map fun x => match x with | (i, x) => (i, a.eval x)) = ((us.zipIdx 0).map fun p => (p.2, p.1)).toArray from hparts, Sem.run_bind, hr]
      rfl, rfl, ?_⟩
    exact hw.new (Same.alloc _ _) (row_new w e R xs hxl) (fun b hb => by omega)) hd
    (fun v L' hT => by subst hT; exact h v)

theorem encs_rep (R : FRp α) (z : α) (k : Nat) : (madeCells (R.enc z).toArray (k * R.size)).toList = encs R (List.replicate k z) := by
  refine List.ext_getElem? fun i => ?_
  have hl : (madeCells (R.enc z).toArray (k * R.size)).size = k * R.size := size_madeCells _ _
  by_cases hi : i < k * R.size
  · have hq : i / R.size < k := (Nat.div_lt_iff_lt_mul R.pos).2 hi
    have hm : i % R.size < (R.enc z).length := by rw [R.len]; exact Nat.mod_lt _ R.pos
    have h1 := encs_get R (List.replicate k z) (i / R.size) z (by simp [hq]) (i % R.size) _ (List.getElem?_eq_getElem hm)
    rw [show i / R.size * R.size + i % R.size = i by rw [Nat.mul_comm]; exact Nat.div_add_mod _ _] at h1
    rw [h1]
    have hm2 : i % (R.enc z).length < (R.enc z).length := by rw [R.len]; exact Nat.mod_lt _ R.pos
    simp [madeCells, hi, R.len]
    rw [List.getElem?_eq_getElem hm]
    rfl
  · rw [List.getElem?_eq_none (by simpa [hl] using hi), List.getElem?_eq_none (by rw [length_encs]; simpa using hi)]

theorem SJ.makeSlice {t : TypeId} {x : Operand} {k : Int} {z : α} {zc : List Value} (hk : mk k z = some xs) (ht : P.underlying t = some (.slice e)) (he : ElemOk P e R.size zc) (hzc : R.enc z = zc) (hx : ev m x = some (.int .i64 k)) (hd : Nat.blt d n = true)
    (h : ∀ v, SJ P ops Q c n l ((d, v) :: m) (row v e R xs :: L)) :
    SJ P ops Q c n (⟨some d, .makeSlice t x x, ty, ps, af, none⟩ :: l) m L :=
  SJ.x (T := fun v L' => L' = row v e R xs :: L) (fun a w ha hw => by
    obtain ⟨i, zv, hi, hz, hzv, hsz, hby⟩ := he
    unfold mk at hk
    split at hk
    case isFalse => cases hk
    rename_i hb
    obtain rfl := Option.some.inj hk
    unfold LIM at hb
    have hr := run_make (P := P) w t e i zv ht hi hz .i64 .i64 k k hb.1 (Int.le_refl _) (by
      have h1 : (i.bytes : Int) * k ≤ 128 * k := Int.mul_le_mul_of_nonneg_right (by omega) hb.1
      omega) (by omega)
    have hcells : madeCells zv.cells (k.toNat * i.size) = (encs R (List.replicate k.toNat z)).toArray := by
      rw [← encs_rep R z, Array.toArray_toList, hsz, hzc, ← hzv]
    rw [hcells] at hr
    have hn := row_new w e R (List.replicate k.toNat z) (by simp [maxLen]; omega)
    simp only [List.length_replicate] at hn
    exact ⟨_, _, _, by simp [execOp, ha.ev hx, hr], rfl, hw.new (Same.alloc _ _) hn (fun b hb => by omega)⟩) hd
    (fun v L' hT => by subst hT; exact h v)

theorem run_append_nil_src (w : World) (base : Nat) (t ty e : TypeId) (i : TypeInfo) (size : Nat) (ht : P.underlying t = some (.slice e)) (hi : P.info? e = some i)
    (v : Value) (n : Nat) (xs : List Value) (hown : w.ownsRow base e size v n xs) (c : Nat) : (Builtin.append_ #[t, t] ty #[v, .slice none 0 c]).run P w = .ok v w := by
  rcases hown.2 with ⟨rfl, rfl⟩ | ⟨g, cap, cur, rfl, _, _, hnc, _⟩
  · simp [Builtin.append_, run_underlying ht, sizeOf, typeInfo, hi, Builtin.lenOf, Builtin.firstCells]
  · simp [Builtin.append_, run_underlying ht, sizeOf, typeInfo, hi, Builtin.lenOf, Builtin.firstCells, hnc, storeCells]

theorem encs_inv (R : FRp α) : ∀ (l : List α) (j : Nat) (u : Value), (encs R l)[j]? = some u → ∃ i x r, l[i]? = some x ∧ (R.enc x)[r]? = some u ∧ j = i * R.size + r
  | [], j, u, h => by simp [encs] at h
  | x :: l, j, u, h => by
    simp only [encs, List.flatMap_cons] at h
    by_cases hj : j < (R.enc x).length
    · rw [List.getElem?_append_left hj] at h
      exact ⟨0, x, j, rfl, h, by simp⟩
    · rw [List.getElem?_append_right (by omega)] at h
      obtain ⟨i, y, r, h1, h2, h3⟩ := encs_inv R l _ u h
      rw [R.len] at h3 hj
      exact ⟨i + 1, y, r, by simpa using h1, h2, by rw [Nat.add_mul]; omega⟩

theorem RdS.cells {w : World} {F : Nat → Prop} {b : Option Addr} {len cap : Nat} (h : RdS w F (.slice b len cap) R.rp ys) :
    (b = none ∧ ys = []) ∨ ∃ ad, b = some ad ∧ ∀ j u, (encs R ys)[j]? = some u → w.cell? (ad.add j) = some u := by
  obtain ⟨b', cap', hv, _, _, h3⟩ := h
  simp at hv
  obtain ⟨rfl, hl, _⟩ := hv
  cases b with
  | none =>
    refine .inl ⟨rfl, ?_⟩
    cases ys with
    | nil => rfl
    | cons y ys => obtain ⟨ad, cs, h, _⟩ := h3 0 y rfl; cases h
  | some ad =>
    refine .inr ⟨ad, rfl, fun j u hu => ?_⟩
    obtain ⟨i, x, r, h1, h2, rfl⟩ := encs_inv R ys j u hu
    obtain ⟨ad', cs, ha, hr, hat⟩ := h3 i x h1
    cases ha
    have hr' : cs = R.enc x := hr
    subst hr'
    have := (hat r u h2).2
    rwa [add_of_add] at this

/-- append onto a row of the call's own of what reads as a list -/
theorem SJ.append {t : TypeId} {s x : Operand} {vx : Value} {k : Nat} {zs : List α} {zc : List Value} (ha' : app xs ys = some zs) (hk : L[k]? = some (row v e R xs)) (ht : P.underlying t = some (.slice e)) (he : ElemOk P e R.size zc) (hzl : zc.length = R.size)
    (hs : ev m s = some v) (hx : ev m x = some vx) (hsrc : ∀ w, St c w L → RdS w (cx w).Fz vx R.rp ys) (hd : Nat.blt d n = true)
    (h : ∀ v', SJ P ops Q c n l ((d, v') :: m) (L.set k (row v' e R zs))) :
    SJ P ops Q c n (⟨some d, .call { callee := .builtin .append, args := #[s, x], argTypes := #[t, t] }, ty, ps, af, none⟩ :: l) m L :=
  SJ.x (T := fun v' L' => L' = L.set k (row v' e R zs)) (fun a w ha hw => by
    obtain ⟨i, zv, hi, hz, hzv, hsz, hby⟩ := he
    unfold app at ha'
    split at ha'
    case isFalse => cases ha'
    rename_i hb
    obtain rfl := Option.some.inj ha'
    unfold LIM at hb
    have hrd := hsrc w hw
    obtain ⟨b, cap, rfl, _⟩ := id hrd
    obtain ⟨S, hA, hOw, hset⟩ := hw.set hk
    have hwrap : ∀ v' w', (Builtin.append_ #[t, t] ty #[v, .slice b ys.length cap]).run P w = .ok v' w' →
        (execOp a.eval ⟨some d, .call { callee := .builtin .append, args := #[s, x], argTypes := #[t, t] }, ty, ps, af, none⟩).run P w = .ok (.value v') w' := fun v' w' hr => by
      simp [execOp, ha.ev hs, ha.ev hx, resolve, invoke, builtin, hr]
    rcases hrd.cells with ⟨rfl, rfl⟩ | ⟨ad, rfl, hcells⟩
    · have hr := run_append_nil_src (P := P) w 0 t ty e i R.size ht hi v _ _ hA.1 cap
      refine ⟨v, w, _, hwrap _ _ hr, rfl, ?_⟩
      exact hset w _ S (Chg.refl _ _) (by simpa using hA) (fun b hb => .inl hb)
    · have hbytes : (xs.length + ys.length) * i.bytes ≤ (xs.length + ys.length) * 128 := Nat.mul_le_mul_left _ hby
      obtain ⟨v', w', hr, ho, hg, _, hwh⟩ := run_append_own_at (P := P) w 0 t ty e i zv R.size i.bytes ht hi hz hsz rfl (by rw [← Array.length_toList, hzv, hzl]) R.pos v _ _ hA.1 ad ys.length cap (encs R ys) (length_encs R ys) hcells (one_encs R ys)
        (by unfold maxLen; omega) (by omega) (Nat.zero_le _)
      refine ⟨v', w', _, hwrap _ _ hr, rfl, ?_⟩
      refine hset w' _ (fun b => v'.ownBlock = some b) ⟨hg.os, hg.tape, hg.output, hg.size, fun b hb hn => hg.block b hb (fun e => hn ((hA.2 b).2 e.symm))⟩ ⟨?_, fun b => Iff.rfl⟩ (fun b hb => ?_)
      · rw [encs_append, List.length_append]; exact ho
      · rcases hwh with hwh | hwh
        · exact .inl ((hA.2 b).2 (hwh ▸ hb))
        · rw [hwh] at hb; right; have := Option.some.inj hb; omega) hd
    (fun v L' hT => by subst hT; exact h v)
end

/-! Strings, parts of slices, structs by value, calls. -/

def cat (a b : List UInt8) : Option (List UInt8) := if a.length + b.length ≤ LIM then some (a ++ b) else none

def ltL : List UInt8 → List UInt8 → Bool
  | _, [] => false
  | [], _ :: _ => true
  | a :: x, b :: y => a < b || (a == b && ltL x y)

theorem ltL_eq : ∀ a b : List UInt8, Op.bytesLess a b = ltL a b
  | [], [] => rfl
  | [], _ :: _ => rfl
  | _ :: _, [] => rfl
  | a :: x, b :: y => by simp [Op.bytesLess, ltL, ltL_eq x y]

def binS (op : BinOp) (a b : List UInt8) : Option Value :=
  match op with
  | .eql => some (.bool (a == b))
  | .neq => some (.bool (a != b))
  | .lss => some (.bool (ltL a b))
  | .leq => some (.bool (ltL a b || a == b))
  | .gtr => some (.bool (!(ltL a b || a == b)))
  | .geq => some (.bool (!ltL a b))
  | _ => none

/-- a struct's field: its place -/
def FieldOk (P : Program) (t i off ft sz : Nat) : Prop := ∃ fs f, (∀ w, (underlying t).run P w = .ok (.struct fs) w) ∧ fs[i]? = some f ∧ f.offset = off ∧ f.type = ft ∧ ∀ w, (sizeOf ft).run P w = .ok (sz + 1) w

section
variable {P : Program} {Q : Exit → Act → World → Prop} {c : Cx} {n : Nat} {m : List (Nat × Value)} {L : List Asn} {ops : Array Oper} {l : List Oper} {v : Value} {C : World → Prop}
variable {d : Nat} {ty : TypeId} {ps : String} {af : Array Edge} {dd : Option Tmp} {gd : Option (Nat × Bool)}
variable {e : TypeId}

theorem y_binS {op : BinOp} {x y : Operand} {xt yt : TypeId} {a b : List UInt8} (hx : ev m x = some (str a)) (hy : ev m y = some (str b)) (hv : binS op a b = some v) :
    YldS P n m C ⟨dd, .binOp op xt x y yt, ty, ps, af, gd⟩ v :=
  .of_run fun ac ha w _ => by
    cases op <;> simp [binS] at hv <;> subst hv <;> simp [execOp, ha.ev hx, ha.ev hy, eqGuard, binOp, Op.stringOp, str, ByteArray.toList_eq, ltL_eq, bne]

theorem y_cat {x y : Operand} {xt yt : TypeId} {a b r : List UInt8} (hr : cat a b = some r) (hx : ev m x = some (str a)) (hy : ev m y = some (str b)) :
    YldS P n m C ⟨dd, .binOp .add xt x y yt, ty, ps, af, gd⟩ (str r) :=
  .of_run fun ac ha w _ => by
    unfold cat at hr
    split at hr
    case isFalse => cases hr
    rename_i hb
    obtain rfl := Option.some.inj hr
    unfold LIM at hb
    have h1 := run_string_add_sum (P := P) w ⟨a.toArray⟩ ⟨b.toArray⟩ (by show a.toArray.size + b.toArray.size ≤ _; simp; omega)
    simp [execOp, ha.ev hx, ha.ev hy, eqGuard, binOp, str, h1, ByteArray.mk_append_mk]

theorem y_eqB {op : BinOp} {x y : Operand} {xt yt : TypeId} {a b : Bool} (ht : P.underlying xt = some .bool) (hx : ev m x = some (.bool a)) (hy : ev m y = some (.bool b)) (hop : op = .eql) :
    YldS P n m C ⟨dd, .binOp op xt x y yt, ty, ps, af, gd⟩ (.bool (a == b)) :=
  .of_run fun ac ha w _ => by
    subst hop
    have h1 : (Op.equal xt (.bool a) (.bool b)).run P w = .ok (a == b) w := run_equalIn_bool' w 9999 xt a b ht
    simp only [execOp, ha.ev hx, ha.ev hy, eqGuard, binOp, Sem.run_bind, Sem.run_pure, Result.andThen_ok, h1]
    simp [h1]
theorem y_neB {op : BinOp} {x y : Operand} {xt yt : TypeId} {a b : Bool} (ht : P.underlying xt = some .bool) (hx : ev m x = some (.bool a)) (hy : ev m y = some (.bool b)) (hop : op = .neq) :
    YldS P n m C ⟨dd, .binOp op xt x y yt, ty, ps, af, gd⟩ (.bool (a != b)) :=
  .of_run fun ac ha w _ => by
    subst hop
    have h1 : (Op.equal xt (.bool a) (.bool b)).run P w = .ok (a == b) w := run_equalIn_bool' w 9999 xt a b ht
    simp only [execOp, ha.ev hx, ha.ev hy, eqGuard, binOp, Sem.run_bind, Sem.run_pure, Result.andThen_ok, h1]
    simp [h1, bne]

theorem extract_str (l : List UInt8) (lo hi : Nat) : (ByteArray.mk l.toArray).extract lo hi = ⟨((l.drop lo).take (hi - lo)).toArray⟩ := by
  have : ((ByteArray.mk l.toArray).extract lo hi).data = ((l.drop lo).take (hi - lo)).toArray := by
    rw [ByteArray.data_extract]
    simp
  cases h : (ByteArray.mk l.toArray).extract lo hi with
  | mk data => rw [h] at this; simp at this; rw [this]

def bound (o : Option Int) (z : Int) : Int := o.getD z
/-- an operand that may lack -/
def evo (m : List (Nat × Value)) : Option Operand → Option Int → Prop
  | none, none => True
  | some x, some i => ∃ k, ev m x = some (.int k i)
  | _, _ => False

theorem run_bounds {w : World} {a : Act} (ha : Has n a m) (isS : Bool) (len cap : Nat) {lo hi : Option Operand} {i j : Option Int} (hlo : evo m lo i) (hhi : evo m hi j) (hc : len ≤ cap)
    (hb : 0 ≤ i.getD 0 ∧ i.getD 0 ≤ j.getD len ∧ j.getD len ≤ (len : Int)) :
    (Instr.sliceBounds isS len cap (lo.map a.eval) (hi.map a.eval) none).run P w = .ok ((i.getD 0).toNat, (j.getD len).toNat, cap) w := by
  have h1 : ∀ (x : Operand) (k : IntKind) (q : Int) (y : Nat) (code : BoundsCode), ev m x = some (.int k q) → 0 ≤ q → q ≤ (y : Int) → (Instr.sliceBound (a.eval x) y code).run P w = .ok q.toNat w := fun x k q y code hx h0 hy => by
    have h2 : 0 ≤ q ∧ q ≤ (y : Int) := ⟨h0, hy⟩
    simp [Instr.sliceBound, ha.ev hx, asIntOf, h2]
  cases hi with
  | none =>
    cases j with
    | some q => exact hhi.elim
    | none =>
      cases lo with
      | none =>
        cases i with
        | some q => exact hlo.elim
        | none => simp [Instr.sliceBounds]
      | some x =>
        cases i with
        | none => exact hlo.elim
        | some q =>
          obtain ⟨k, hk⟩ := hlo
          simp only [Option.getD] at hb ⊢
          simp [Instr.sliceBounds, h1 x k q len .sliceB hk hb.1 hb.2.1]
  | some y =>
    cases j with
    | none => exact hhi.elim
    | some p =>
      obtain ⟨k', hk'⟩ := hhi
      simp only [Option.getD_some] at hb ⊢
      have h3 : ∀ code, (Instr.sliceBound (a.eval y) cap code).run P w = .ok p.toNat w := fun code => h1 y k' p cap code hk' (by omega) (by omega)
      cases lo with
      | none =>
        cases i with
        | some q => exact hlo.elim
        | none => simp [Instr.sliceBounds, h3]
      | some x =>
        cases i with
        | none => exact hlo.elim
        | some q =>
          obtain ⟨k, hk⟩ := hlo
          simp only [Option.getD_some] at hb ⊢
          have h4 := h1 x k q p.toNat .sliceB hk hb.1 (by omega)
          simp [Instr.sliceBounds, h3, h4]

theorem y_subStr {x : Operand} {t : TypeId} {lo hi : Option Operand} {i j : Option Int} {a r : List UInt8} (hr : sub a (i.getD 0) (j.getD a.length) = some r) (ht : ∀ w, (underlying t).run P w = .ok .string w) (hx : ev m x = some (str a)) (hlo : evo m lo i) (hhi : evo m hi j) :
    YldS P n m C ⟨dd, .slice t x lo hi none, ty, ps, af, gd⟩ (str r) :=
  .of_run fun ac ha w _ => by
    unfold sub at hr
    split at hr
    case isFalse => cases hr
    rename_i hb
    obtain rfl := Option.some.inj hr
    have hsz : (ByteArray.mk a.toArray).size = a.length := by show a.toArray.size = _; simp
    have hbd := run_bounds (P := P) (w := w) ha false a.length a.length hlo hhi (Nat.le_refl _) hb
    simp [execOp, ha.ev hx, Instr.sliceAt, Instr.slice, ht, str, hsz, hbd, extract_str]

/-- a part of a slice that came in -/
theorem RdS.part {α : Type} {R : Rp α} {w : World} {F : Nat → Prop} {v : Value} {l r : List α} {i j : Option Int} (h : RdS w F v R l) (hr : sub l (i.getD 0) (j.getD l.length) = some r) :
    ∃ v', RdS w F v' R r ∧ ∀ {P : Program} {n : Nat} {m : List (Nat × Value)} {C : World → Prop} {d : Option Tmp} {ty : TypeId} {ps : String} {af : Array Edge} {gd : Option (Nat × Bool)} {x : Operand} {lo hi : Option Operand} {t e : TypeId},
      (∀ w, (underlying t).run P w = .ok (.slice e) w) → (∀ w, (sizeOf e).run P w = .ok R.size w) → ev m x = some v → evo m lo i → evo m hi j →
      YldS P n m C ⟨d, .slice t x lo hi none, ty, ps, af, gd⟩ v' := by
  obtain ⟨a, cap, rfl, hc1, hc2, h3⟩ := h
  unfold sub at hr
  split at hr
  case isFalse => cases hr
  rename_i hb
  obtain rfl := Option.some.inj hr
  refine ⟨.slice (if cap = (i.getD 0).toNat then a else a.map (·.add ((i.getD 0).toNat * R.size))) ((j.getD l.length).toNat - (i.getD 0).toNat) (cap - (i.getD 0).toNat), ⟨if cap = (i.getD 0).toNat then a else a.map (·.add ((i.getD 0).toNat * R.size)), cap - (i.getD 0).toNat, ?_, ?_, by omega, fun q x hq => ?_⟩, ?_⟩
  · congr 1; simp; omega
  · simp; omega
  · have hq1 := lt_of_some hq
    simp at hq1
    rw [List.getElem?_take, if_pos (by omega), List.getElem?_drop] at hq
    obtain ⟨ad, cs, rfl, hrd, hat⟩ := h3 _ x hq
    rw [if_neg (by omega)]
    refine ⟨_, cs, rfl, hrd, ?_⟩
    rw [add_of_add, ← Nat.add_mul]
    exact hat
  · intro P n m C d ty ps af gd x lo hi t e ht hs hx hlo hhi
    refine .of_run fun ac ha w _ => ?_
    have hbd := run_bounds (P := P) (w := w) ha true l.length cap hlo hhi hc1 hb
    simp [execOp, ha.ev hx, Instr.sliceAt, Instr.slice, ht, hs, hbd]

theorem y_fld {x : Operand} {t i off ft sz : Nat} {ad : Addr} (h : FieldOk P t i off ft sz) (hx : ev m x = some (.pointer (some ad))) : YldS P n m C ⟨dd, .fieldAddr t x i, ty, ps, af, gd⟩ (.pointer (some (ad.add off))) := by
  obtain ⟨fs, f, h1, h2, h3, h4, h5⟩ := h
  exact y_field h1 h2 h4 h3 h5 hx
theorem y_fldB {x : Operand} {t i off ft sz g o : Nat} (h : FieldOk P t i off ft sz) (hx : ev m x = some (pt g o)) : YldS P n m C ⟨dd, .fieldAddr t x i, ty, ps, af, gd⟩ (pt g (o + off)) := by
  have h1 : (⟨g, o, none⟩ : Addr).add off = ⟨g, o + off, none⟩ := by unfold Addr.add; split <;> simp_all
  have h2 := y_fld (P := P) (n := n) (C := C) (dd := dd) (ty := ty) (ps := ps) (af := af) (gd := gd) h hx
  rw [h1] at h2
  exact h2
theorem y_fldR {x : Operand} {t i off ft sz j : Nat} (h : FieldOk P t i off ft sz) (hx : ev m x = some (rowAt v j)) : YldS P n m C ⟨dd, .fieldAddr t x i, ty, ps, af, gd⟩ (rowAt v (j + off)) := y_fldB h hx

/-- a field of a struct by value, of one cell -/
theorem y_fldV {x : Operand} {t i off ft sz : Nat} {cs : Array Value} {u : Value} (h : FieldOk P t i off ft sz) (hg : ∀ w, (isAgg ft).run P w = .ok false w) (hx : ev m x = some (.agg cs)) (hu : cs[off]? = some u) : YldS P n m C ⟨dd, .field t x i, ty, ps, af, gd⟩ u := by
  obtain ⟨fs, f, h1, h2, h3, h4, h5⟩ := h
  subst h3 h4
  exact .of_run fun ac ha w _ => by simp [execOp, ha.ev hx, Instr.field, h1, h2, asAgg, part, hg, hu]

/-! a struct written out -/
def fillL (places : List (Nat × Nat)) : List Value → List (Nat × List Value) → Option (List Value)
  | z, [] => some z
  | z, (i, cs) :: r => match places[i]? with
    | none => none
    | some (off, size) => match Nat.beq cs.length size, Nat.ble (off + cs.length) z.length with
      | true, true => fillL places (putL z off cs) r
      | _, _ => none

def PlacesOk (P : Program) (t : TypeId) (places : List (Nat × Nat)) : Prop :=
  ∃ fs, (∀ w, (underlying t).run P w = .ok (.struct fs) w) ∧ ∀ w, (fs.mapM fun (f : Field) => (do pure (f.offset, ← sizeOf f.type) : Sem (Nat × Nat))).run P w = .ok places.toArray w

theorem fold_put : ∀ (vs : List Value) (j o : Nat) (cs : List Value), o + j + vs.length ≤ cs.length →
    (vs.zipIdx j).foldl (fun (cs : Array Value) (p : Value × Nat) => cs.setIfInBounds (o + p.2) p.1) cs.toArray = (putL cs (o + j) vs).toArray := by
  intro vs
  induction vs with
  | nil => intro j o cs _; simp [putL]
  | cons v vs ih =>
    intro j o cs hl
    simp only [List.zipIdx_cons, List.foldl_cons, List.setIfInBounds_toArray]
    rw [ih (j + 1) o (cs.set (o + j) v) (by simp at hl ⊢; omega)]
    congr 1
    simp only [putL, List.length_cons]
    have h1 : o + j < cs.length := by simp at hl; omega
    rw [show o + (j + 1) = (o + j) + 1 by omega, List.take_succ_eq_append_getElem (by simpa using h1)]
    rw [List.take_set_of_le (Nat.le_refl _), List.drop_set_of_lt (by omega)]
    simp
    congr 1
    omega

theorem fill_of_fillL (places : List (Nat × Nat)) : ∀ (ps : List (Nat × Value)) (z r : List Value), fillL places z (ps.map fun p => (p.1, p.2.cells.toList)) = some r → Instr.fill (places.toArray[·]?) z.toArray ps = some r.toArray
  | [], z, r, h => by simp [fillL] at h; subst h; simp [Instr.fill]
  | (i, v) :: ps, z, r, h => by
    simp only [List.map_cons, fillL] at h
    split at h
    · cases h
    · rename_i off size hp
      split at h
      · rename_i h1 h2
        have e1 : v.cells.toList.length = size := Nat.eq_of_beq_eq_true h1
        have e2 : off + v.cells.toList.length ≤ z.length := Nat.le_of_ble_eq_true h2
        simp only [Instr.fill]
        have hp' : places.toArray[i]? = some (off, size) := by simpa using hp
        rw [hp']
        simp only [Array.length_toList] at e1 e2
        dsimp only
        rw [if_neg (by simp [e1]; omega)]
        rw [← Array.foldl_toList, Array.toList_zipIdx]
        rw [fold_put v.cells.toList 0 off z (by simpa using e2)]
        exact fill_of_fillL places ps _ r h
      · cases h

def evp (m : List (Nat × Value)) : List (Nat × Operand) → Option (List (Nat × Value))
  | [] => some []
  | (i, x) :: r => match ev m x, evp m r with
    | some v, some vs => some ((i, v) :: vs)
    | _, _ => none

theorem Has.evp {a : Act} (h : Has n a m) : ∀ {xs : List (Nat × Operand)} {vs : List (Nat × Value)}, evp m xs = some vs → xs.map (fun p => (p.1, a.eval p.2)) = vs
  | [], vs, he => by simp [YtppdmciboalhfaaDoor.evp] at he; simp [he]
  | (i, x) :: r, vs, he => by
    simp only [YtppdmciboalhfaaDoor.evp] at he
    split at he
    · rename_i v vs' h1 h2
      have : (i, v) :: vs' = vs := by simpa using he
      subst this
      simp [h.ev h1, h.evp h2]
    · cases he

theorem y_build {t : TypeId} {parts : List (Nat × Operand)} {us : List (Nat × Value)} {css : List (Nat × List Value)} {places : List (Nat × Nat)} {z : Value} {zs r : List Value} (hpl : PlacesOk P t places) (hz : ∀ w, (zeroValue t).run P w = .ok z w) (hzs : z.cells.toList = zs)
    (hu : evp m parts = some us) (hc : (us.map fun p => (p.1, p.2.cells.toList)) = css) (hf : fillL places zs css = some r) : YldS P n m C ⟨dd, .build t parts.toArray, ty, ps, af, gd⟩ (.agg r.toArray) := by
  obtain ⟨fs, h1, h2⟩ := hpl
  refine .of_run fun ac ha w _ => ?_
  subst hzs hc
  have h3 := ha.evp hu
  have h4 := fill_of_fillL places us z.cells.toList r hf
  rw [Array.toArray_toList] at h4
  have h5 : parts.toArray.map (fun p => (p.1, ac.eval p.2)) = us.toArray := by rw [← h3]; simp
  have h6 : (Instr.build t us.toArray).run P w = .ok (.agg r.toArray) w := by
    simp only [Instr.build, Sem.run_bind, hz, h1, Result.andThen_ok]
    simp only [h2, Result.andThen_ok, h4, Sem.run_pure]
  simp only [execOp]
  rw [show (parts.toArray.map fun x => match x with | (i, x) => (i, ac.eval x)) = us.toArray from h5, Sem.run_bind, h6]
  rfl

/-! bytes to a string -/
theorem flat1 {α β : Type} (f : α → β) : ∀ l : List α, l.flatMap (fun x => [f x]) = l.map f
  | [] => rfl
  | x :: l => by simp [flat1 f l]

theorem y_b2s {x : Operand} {s t e : TypeId} {b : List UInt8} (hs : P.underlying s = some (.slice e)) (ht : P.underlying t = some .string) (he : P.underlying e = some (.int .u8)) (hrd : ∀ w, C w → ∃ F, RdS w F v fByte.rp b) (hx : ev m x = some v) :
    YldS P n m C ⟨dd, .convert s t x, ty, ps, af, gd⟩ (str b) :=
  .of_run fun ac ha w hw => by
    obtain ⟨F, hrd⟩ := hrd w hw
    obtain ⟨a, cap, rfl, _⟩ := id hrd
    rcases hrd.cells with ⟨rfl, rfl⟩ | ⟨ad, rfl, hcells⟩
    · simp [execOp, ha.ev hx, convert, run_underlying hs, run_underlying ht, run_underlying he, Conv.bytesToString, str]
      rfl
    · have henc : encs fByte b = (b.map fun x => (x.toNat : Int)).map (Value.int .u8) := by
        simp only [encs, fByte, List.map_map]
        clear hcells hrd hx
        exact flat1 _ b
      have h1 : (loadCells ad b.length).run P w = .ok ((b.map fun x => (x.toNat : Int)).map (Value.int .u8)).toArray w := by
        have h2 := run_loadCells_list (P := P) w ad (encs fByte b) hcells
        rw [length_encs] at h2
        have h3 : fByte.size = 1 := rfl
        rw [h3, Nat.mul_one, henc] at h2
        exact h2
      have h2 := run_bytesToString (P := P) w ad b.length cap (b.map fun x => (x.toNat : Int)) h1
      rw [foldl_push_bytes] at h2
      have h3 : ((b.map fun x => (x.toNat : Int)).map fun n => UInt8.ofNat n.toNat) = b := by
        rw [List.map_map]
        conv => rhs; rw [← List.map_id b]
        exact List.map_congr_left fun x _ => by simp
      rw [h3] at h2
      simp only [execOp, ha.ev hx, convert, Sem.run_bind, run_underlying hs, run_underlying ht, Result.andThen_ok]
      simp only [run_underlying he, Result.andThen_ok, h2, str]
      simp

/-! calls that hand something over -/
theorem SJ.call {f : FuncId} {xs : List Operand} {ts : Array TypeId} {vs : List Value} {T : Value → List Asn → Prop} (hf : ∀ (as : Array Value) w, (callFunc f as).run P w = .ok (.enter f as) w) (hx : evs m xs = some vs)
    (hc : ∀ w, St c w L → Calls P f vs.toArray w (RetG (cx w) T)) (hd : Nat.blt d n = true) (h : ∀ v L', T v L' → SJ P ops Q c n l ((d, v) :: m) (L' ++ L)) :
    SJ P ops Q c n (⟨some d, .call { callee := .value (.func f), args := xs.toArray, argTypes := ts }, ty, ps, af, none⟩ :: l) m L := fun a w ha hw => by
  have h1 := ha.evs hx
  have h2 : (execOp a.eval ⟨some d, .call { callee := .value (.func f), args := xs.toArray, argTypes := ts }, ty, ps, af, none⟩).run P w = .ok (.enter f vs.toArray) w := by
    simp [execOp, resolve, Act.eval, Deferred.ofValue, invoke, ← h1, hf]
  unfold wpList
  simp only [Region.wanted, if_true]
  refine .inl ?_
  unfold Oper.wp
  rw [h2]
  exact (hc w hw).mono fun e w' ⟨v, L', he, hT, hst⟩ => by
    subst he
    exact h v L' hT _ _ (ha.put hd v) (hw.join hst)

/-- .. that takes resource number k -/
theorem SJ.call1 {f : FuncId} {xs : List Operand} {ts : Array TypeId} {vs : List Value} {T : Value → List Asn → Prop} {k : Nat} {A : Asn} (hk : L[k]? = some A) (hf : ∀ (as : Array Value) w, (callFunc f as).run P w = .ok (.enter f as) w) (hx : evs m xs = some vs)
    (hc : ∀ w S, St c w L → A.holds w S → (∀ b, S b → c.Ow b) → Calls P f vs.toArray w (RetG ⟨w, S⟩ T)) (hd : Nat.blt d n = true) (h : ∀ v L', T v L' → SJ P ops Q c n l ((d, v) :: m) (L' ++ L.eraseIdx k)) :
    SJ P ops Q c n (⟨some d, .call { callee := .value (.func f), args := xs.toArray, argTypes := ts }, ty, ps, af, none⟩ :: l) m L := fun a w ha hw => by
  have h1 := ha.evs hx
  have h2 : (execOp a.eval ⟨some d, .call { callee := .value (.func f), args := xs.toArray, argTypes := ts }, ty, ps, af, none⟩).run P w = .ok (.enter f vs.toArray) w := by
    simp [execOp, resolve, Act.eval, Deferred.ofValue, invoke, ← h1, hf]
  unfold wpList
  simp only [Region.wanted, if_true]
  refine .inl ?_
  unfold Oper.wp
  rw [h2]
  obtain ⟨S, fp, hA, hOw, hsep, hdis⟩ := hw.out hk
  exact (hc w S hw hA hOw).mono fun e w' ⟨v, L', he, hT, hst⟩ => by
    subst he
    exact h v L' hT _ _ (ha.put hd v) (St.join1 hw hsep hOw hdis hst)

/-- what came in still reads so for a callee that may change what the caller owns -/
theorem RdS.st1 {α : Type} {R : Rp α} {S : Nat → Prop} {w : World} {ls : List α} (h : RdS c.w0 c.Fz v R ls) (hw : St c w L) (hS : ∀ b, S b → c.Ow b) : RdS w (Cx.Fz ⟨w, S⟩) v R ls :=
  h.mono (fun _ hb => ⟨Nat.lt_of_lt_of_le hb.1 hw.chg.size, fun hs => Cx.apart hb (hS _ hs)⟩) (fun b hb => hw.frozen b hb)
end

/-! Joins. -/

section
variable {P : Program} {Q : Exit → Act → World → Prop} {c : Cx} {n : Nat} {m : List (Nat × Value)} {L L' : List Asn} {ops : Array Oper} {l : List Oper} {v : Value} {C : World → Prop} {R : Act → Prop}

theorem wpQuiet_append {K : Act → Prop} : ∀ (l1 l2 : List Oper) (a : Act), wpQuiet P ops C (wpQuiet P ops C K l2) l1 a → wpQuiet P ops C K (l1 ++ l2) a
  | [], _, _, h => h
  | o :: l1, l2, a, h => by
    simp only [wpQuiet, List.cons_append] at h ⊢
    split
    · rename_i hw
      rw [if_pos hw] at h
      obtain ⟨u, h1, h2⟩ := h
      exact ⟨u, h1, wpQuiet_append l1 l2 _ h2⟩
    · rename_i hw
      rw [if_neg hw] at h
      exact wpQuiet_append l1 l2 _ h

theorem wpQuiet_mono {K K' : Act → Prop} (hk : ∀ a, K a → K' a) : ∀ (l1 : List Oper) (a : Act), wpQuiet P ops C K l1 a → wpQuiet P ops C K' l1 a
  | [], a, h => hk a h
  | o :: l1, a, h => by
    simp only [wpQuiet] at h ⊢
    split
    · rename_i hw
      rw [if_pos hw] at h
      obtain ⟨u, h1, h2⟩ := h
      exact ⟨u, h1, wpQuiet_mono hk l1 _ h2⟩
    · rename_i hw
      rw [if_neg hw] at h
      exact wpQuiet_mono hk l1 _ h

/-- ways that meet again inside a region -/
theorem QJ.cut (k : Nat) (m' : List (Nat × Value)) (h1 : QJ P ops C n (fun a => Has n a m') (l.take k) m) (h2 : QJ P ops C n R (l.drop k) m') : QJ P ops C n R l m := fun a ha => by
  rw [← List.take_append_drop k l]
  exact wpQuiet_append _ _ _ (wpQuiet_mono (fun a' ha' => h2 a' ha') _ _ (h1 a ha))
theorem QJ.cut_end {m' : List (Nat × Value)} (hs : Sub m' m) : QJ P ops C n (fun a => Has n a m') [] m := QJ.nil fun _ ha => ha.sub hs

theorem wpList_append {K : Exit → Act → World → Prop} : ∀ (l1 l2 : List Oper) (a : Act) (w : World), wpList P ops (Exit.then (fun a w => wpList P ops K l2 a w) K) l1 a w → (∀ a w, K .outgrown a w ↔ Exit.then (fun a w => wpList P ops K l2 a w) K .outgrown a w) → wpList P ops K (l1 ++ l2) a w
  | [], _, _, _, h, _ => h
  | o :: l1, l2, a, w, h, hK => by
    unfold wpList at h
    rw [List.cons_append]
    unfold wpList
    split
    · rename_i hw
      rw [if_pos hw] at h
      rcases h with h | h
      · left
        unfold Oper.wp at h ⊢
        generalize (execOp a.eval o).run P w = r at h ⊢
        cases r with
        | ok x w' =>
          cases x <;> simp only [Oper.upon] at h ⊢
          case value u => exact wpList_append l1 l2 _ _ h hK
          case skip => exact wpList_append l1 l2 _ _ h hK
          case defer d => exact wpList_append l1 l2 _ _ h hK
          case enter f args =>
            refine h.mono fun e w'' hq => ?_
            cases e with
            | returned u => exact wpList_append l1 l2 _ _ hq hK
            | panicked ch => exact hq
            | outgrown => exact hq
          case row row args => exact h.mono fun u w'' hq => wpList_append l1 l2 _ _ hq hK
        | halt x w' => cases x <;> first | exact h | exact h.elim
      · exact .inr h
    · rename_i hw
      rw [if_neg hw] at h
      exact wpList_append l1 l2 _ _ h hK

theorem SJ.cut (k : Nat) (m' : List (Nat × Value)) (L' : List Asn) (h1 : SJ P ops (Exit.then (fun a w => Has n a m' ∧ St c w L') Q) c n (l.take k) m L) (h2 : SJ P ops Q c n (l.drop k) m' L') : SJ P ops Q c n l m L := fun a w ha hw => by
  rw [← List.take_append_drop k l]
  refine wpList_append _ _ _ _ ?_ (fun a w => Iff.rfl)
  have h3 := h1 a w ha hw
  clear ha hw
  revert a w
  generalize l.take k = l1
  induction l1 with
  | nil => intro a w h3; exact h2 _ _ h3.1 h3.2
  | cons o l1 ih =>
    intro a w h3
    unfold wpList at h3 ⊢
    split
    · rename_i hw
      rw [if_pos hw] at h3
      rcases h3 with h | h
      · left
        unfold Oper.wp at h ⊢
        generalize (execOp a.eval o).run P w = r at h ⊢
        cases r with
        | ok x w' =>
          cases x <;> simp only [Oper.upon] at h ⊢
          case value u => exact ih _ _ h
          case skip => exact ih _ _ h
          case defer d => exact ih _ _ h
          case enter f args =>
            refine h.mono fun e w'' hq => ?_
            cases e with
            | returned u => exact ih _ _ hq
            | panicked ch => exact hq
            | outgrown => exact hq
          case row row args => exact h.mono fun u w'' hq => ih _ _ hq
        | halt x w' => cases x <;> first | exact h | exact h.elim
      · exact .inr h
    · rename_i hw
      rw [if_neg hw] at h3
      exact ih _ _ h3
theorem SJ.cut_end {m' : List (Nat × Value)} (is : List Nat) (hs : Sub m' m) (hl : Sel is L L') : SJ P ops (Exit.then (fun a w => Has n a m' ∧ St c w L') Q) c n [] m L := SJ.nil fun _ _ ha hw => ⟨ha.sub hs, hw.sel hl⟩

/-- a guarded operation that is carried out -/
theorem SJ.on {d : Option Tmp} {op : Op} {ty : TypeId} {ps : String} {af : Array Edge} {j e : Nat} {b : Bool} {oj : Oper} (hj : ops[j]? = some oj) (hjd : oj.dst = some e) (he : get m e = some (.bool b))
    (h : SJ P ops Q c n (⟨d, op, ty, ps, af, none⟩ :: l) m L) : SJ P ops Q c n (⟨d, op, ty, ps, af, some (j, b)⟩ :: l) m L := fun a w ha hw => by
  have h1 := h a w ha hw
  have hwt : Region.wanted ⟨d, op, ty, ps, af, some (j, b)⟩ (yielded ops a.tmps) = true := by
    simp [Region.wanted, yielded, hj, hjd, ha.2.2 e _ he]
  unfold wpList at h1 ⊢
  rw [if_pos hwt]
  simp only [Region.wanted, if_true] at h1
  exact h1
theorem SJ.off {d : Nat} {op : Op} {ty : TypeId} {ps : String} {af : Array Edge} {j e : Nat} {b b' : Bool} {oj : Oper} (hj : ops[j]? = some oj) (hjd : oj.dst = some e) (he : get m e = some (.bool b')) (hb : (b' == b) = false)
    (hd : Nat.blt d n = true) (h : SJ P ops Q c n l ((d, undef) :: m) L) : SJ P ops Q c n (⟨some d, op, ty, ps, af, some (j, b)⟩ :: l) m L := fun a w ha hw => by
  have hwt : Region.wanted ⟨some d, op, ty, ps, af, some (j, b)⟩ (yielded ops a.tmps) = false := by
    simp [Region.wanted, yielded, hj, hjd, ha.2.2 e _ he]; simpa using hb
  unfold wpList
  rw [if_neg (by rw [hwt]; simp)]
  exact h _ _ (ha.put hd undef) hw
theorem SJ.off_none {op : Op} {ty : TypeId} {ps : String} {af : Array Edge} {j e : Nat} {b b' : Bool} {oj : Oper} (hj : ops[j]? = some oj) (hjd : oj.dst = some e) (he : get m e = some (.bool b')) (hb : (b' == b) = false)
    (h : SJ P ops Q c n l m L) : SJ P ops Q c n (⟨none, op, ty, ps, af, some (j, b)⟩ :: l) m L := fun a w ha hw => by
  have hwt : Region.wanted ⟨none, op, ty, ps, af, some (j, b)⟩ (yielded ops a.tmps) = false := by
    simp [Region.wanted, yielded, hj, hjd, ha.2.2 e _ he]; simpa using hb
  unfold wpList
  rw [if_neg (by rw [hwt]; simp)]
  exact h _ _ ha hw
/-- .. whose test was left out itself -/
theorem QJ.off_undef {d : Nat} {op : Op} {ty : TypeId} {ps : String} {af : Array Edge} {j e : Nat} {b : Bool} {oj : Oper} (hj : ops[j]? = some oj) (hjd : oj.dst = some e) (he : get m e = some undef)
    (hd : Nat.blt d n = true) (h : QJ P ops C n R l ((d, undef) :: m)) : QJ P ops C n R (⟨some d, op, ty, ps, af, some (j, b)⟩ :: l) m := fun a ha => by
  have hwt : Region.wanted ⟨some d, op, ty, ps, af, some (j, b)⟩ (yielded ops a.tmps) = false := by
    simp [Region.wanted, yielded, hj, hjd, ha.2.2 e _ he, undef]
  simp only [wpQuiet, hwt]
  exact h _ (ha.put hd undef)
theorem SJ.off_undef {d : Nat} {op : Op} {ty : TypeId} {ps : String} {af : Array Edge} {j e : Nat} {b : Bool} {oj : Oper} (hj : ops[j]? = some oj) (hjd : oj.dst = some e) (he : get m e = some undef)
    (hd : Nat.blt d n = true) (h : SJ P ops Q c n l ((d, undef) :: m) L) : SJ P ops Q c n (⟨some d, op, ty, ps, af, some (j, b)⟩ :: l) m L := fun a w ha hw => by
  have hwt : Region.wanted ⟨some d, op, ty, ps, af, some (j, b)⟩ (yielded ops a.tmps) = false := by
    simp [Region.wanted, yielded, hj, hjd, ha.2.2 e _ he, undef]
  unfold wpList
  rw [if_neg (by rw [hwt]; simp)]
  exact h _ _ (ha.put hd undef) hw

/-- pieces of code that end in several ways -/
theorem WJ.join {X : Type} {x y : Code} (I : X → Prop) (mI : X → List (Nat × Value)) (LI : X → List Asn) (h1 : WJ P (Exit.then (fun a w => ∃ x, I x ∧ Has n a (mI x) ∧ St c w (LI x)) Q) c n x m L)
    (h2 : ∀ x, I x → WJ P Q c n y (mI x) (LI x)) : WJ P Q c n (.seq x y) m L := fun a w ha hw =>
  wp_seq (wp_mono (h1 a w ha hw) fun e a' w' hq => by
    cases e <;> first | exact hq | (obtain ⟨x, hI, ha', hw'⟩ := hq; exact h2 x hI a' w' ha' hw'))
theorem PJ.joined {X : Type} {I : X → Prop} {mI : X → List (Nat × Value)} {LI : X → List Asn} (x : X) (is : List Nat) (hI : I x) (hm : Sub (mI x) m) (hL : Sel is L (LI x)) :
    PJ (Exit.then (fun a w => ∃ x, I x ∧ Has n a (mI x) ∧ St c w (LI x)) Q) c n .normal m L := fun _ _ ha hw => ⟨x, hI, ha.sub hm, hw.sel hL⟩
theorem PJ.round {X : Type} {I : Nat → X → Prop} {mI : X → List (Nat × Value)} {LI : X → List Asn} {k : Nat} (x : X) (is : List Nat) (hI : I k x) (hm : Sub (mI x) m) (hL : Sel is L (LI x)) :
    PJ (Exit.then (fun a w => ∃ k' x', k' < k + 1 ∧ I k' x' ∧ Has n a (mI x') ∧ St c w (LI x')) Q) c n .normal m L := fun _ _ ha hw =>
  ⟨k, x, Nat.lt_succ_self _, hI, ha.sub hm, hw.sel hL⟩
end

/-! the plain side -/
def andO (b : Bool) (x : Option Bool) : Option Bool := bif b then x else some false
def orO (b : Bool) (x : Option Bool) : Option Bool := bif b then some true else x
def withK {A B : Type} (k : A) (b : A → B) : B := b k

theorem cB {t t' : Bool} (h : t = t') : some (Value.bool t) = some (Value.bool t') := by rw [h]
theorem bindS {α β : Type} {x : Option α} {f : α → Option β} {r : β} (h : x.bind f = some r) : ∃ a, x = some a ∧ f a = some r := Option.bind_eq_some_iff.1 h
theorem ifT {α : Type} {b : Bool} {x y r : α} (h : (bif b then x else y) = r) (hb : b = true) : x = r := by subst hb; exact h
theorem ifF {α : Type} {b : Bool} {x y r : α} (h : (bif b then x else y) = r) (hb : b = false) : y = r := by subst hb; exact h
theorem andT {b : Bool} {x : Option Bool} {t : Bool} (h : andO b x = some t) (hb : b = true) : x = some t := by subst hb; exact h
theorem andF {b : Bool} {x : Option Bool} {t : Bool} (h : andO b x = some t) (hb : b = false) : false = t := by subst hb; exact Option.some.inj h
theorem orT {b : Bool} {x : Option Bool} {t : Bool} (h : orO b x = some t) (hb : b = true) : true = t := by subst hb; exact Option.some.inj h
theorem orF {b : Bool} {x : Option Bool} {t : Bool} (h : orO b x = some t) (hb : b = false) : x = some t := by subst hb; exact h
theorem withK_open {A B : Type} {k : A} {b : A → B} {r : B} (h : withK k b = r) : ∃ k', k' = k ∧ b k' = r := ⟨k, rfl, h⟩

/-! bytes -/
theorem wrap_i64_byte (x : UInt8) : IntKind.i64.wrap (x.toNat : Int) = (x.toNat : Int) := by
  have := x.toNat_lt
  rw [IntKind.wrap_i64]; omega
theorem wrap_u8 (x : Int) : IntKind.u8.wrap x = ((UInt8.ofInt x).toNat : Int) := by
  have h : (UInt8.ofInt x).toNat = (x % 256).toNat := by
    simp [UInt8.ofInt, UInt8.toNat_ofNat']
    omega
  rw [h]
  have h2 : IntKind.u8.wrap x = x % 256 := by simp [IntKind.wrap, IntKind.bits, IntKind.signed]
  rw [h2]
  omega

def bin8 (op : BinOp) (x y : UInt8) : Option Value :=
  match op with
  | .add => some (.int .u8 (x + y).toNat)
  | .sub => some (.int .u8 (x - y).toNat)
  | .mul => some (.int .u8 (x * y).toNat)
  | .eql => some (.bool (x == y))
  | .neq => some (.bool (x != y))
  | .lss => some (.bool (decide (x < y)))
  | .leq => some (.bool (decide (x ≤ y)))
  | .gtr => some (.bool (decide (x > y)))
  | .geq => some (.bool (decide (x ≥ y)))
  | _ => none

theorem u8_add (x y : UInt8) : IntKind.u8.wrap ((x.toNat : Int) + y.toNat) = ((x + y).toNat : Int) := by
  have h2 : IntKind.u8.wrap ((x.toNat : Int) + y.toNat) = ((x.toNat : Int) + y.toNat) % 256 := by simp [IntKind.wrap, IntKind.bits, IntKind.signed]
  rw [h2, UInt8.toNat_add]
  omega
theorem u8_sub (x y : UInt8) : IntKind.u8.wrap ((x.toNat : Int) - y.toNat) = ((x - y).toNat : Int) := by
  have h2 : IntKind.u8.wrap ((x.toNat : Int) - y.toNat) = ((x.toNat : Int) - y.toNat) % 256 := by simp [IntKind.wrap, IntKind.bits, IntKind.signed]
  have := x.toNat_lt
  have := y.toNat_lt
  rw [h2, UInt8.toNat_sub]
  omega
theorem u8_mul (x y : UInt8) : IntKind.u8.wrap ((x.toNat : Int) * y.toNat) = ((x * y).toNat : Int) := by
  have h2 : IntKind.u8.wrap ((x.toNat : Int) * y.toNat) = ((x.toNat : Int) * y.toNat) % 256 := by simp [IntKind.wrap, IntKind.bits, IntKind.signed]
  rw [h2, UInt8.toNat_mul]
  show _ = ((x.toNat * y.toNat % 256 : Nat) : Int)
  omega

section
variable {P : Program} {n : Nat} {m : List (Nat × Value)} {v : Value} {C : World → Prop}
variable {ty : TypeId} {ps : String} {af : Array Edge} {dd : Option Tmp} {gd : Option (Nat × Bool)}

theorem y_bin8 {op : BinOp} {x y : Operand} {xt yt : TypeId} (a b : UInt8) (hx : ev m x = some (.int .u8 a.toNat)) (hy : ev m y = some (.int .u8 b.toNat)) (hv : bin8 op a b = some v) :
    YldS P n m C ⟨dd, .binOp op xt x y yt, ty, ps, af, gd⟩ v :=
  .of_run fun ac ha w _ => by
    have e1 : ((a.toNat : Int) == b.toNat) = (a == b) := by
      rw [Bool.eq_iff_iff]; simp only [beq_iff_eq, Int.ofNat_inj, UInt8.toNat_inj]
    have e2 : decide ((a.toNat : Int) < b.toNat) = decide (a < b) := by simp [UInt8.lt_iff_toNat_lt]
    have e3 : decide ((a.toNat : Int) ≤ b.toNat) = decide (a ≤ b) := by simp [UInt8.le_iff_toNat_le]
    have e4 : decide ((b.toNat : Int) < a.toNat) = decide (b < a) := by simp [UInt8.lt_iff_toNat_lt]
    have e5 : decide ((b.toNat : Int) ≤ a.toNat) = decide (b ≤ a) := by simp [UInt8.le_iff_toNat_le]
    cases op <;> simp only [bin8, Option.some.injEq, reduceCtorEq] at hv <;> subst hv <;>
      simp only [execOp, ha.ev hx, ha.ev hy, eqGuard, binOp, Op.intArith, Op.intCmp, Sem.run_bind, Sem.run_pure, Result.andThen_ok, ne_eq, not_true_eq_false, if_false, u8_add, u8_sub, u8_mul, bne, e1, e2, e3, gt_iff_lt, ge_iff_le, e4, e5] <;> rfl

theorem y_conv8 {x : Operand} {s t : TypeId} {sd : TypeDesc} {b : UInt8} (hs : ∀ w, (underlying s).run P w = .ok sd w) (ht : ∀ w, (underlying t).run P w = .ok (.int .i64) w) (hx : ev m x = some (.int .u8 b.toNat)) :
    YldS P n m C ⟨dd, .convert s t x, ty, ps, af, gd⟩ (.int .i64 b.toNat) := by
  rw [← wrap_i64_byte b]
  exact y_convI hs ht hx
theorem y_convTo8 {x : Operand} {s t : TypeId} {k : IntKind} {sd : TypeDesc} {i : Int} (hs : ∀ w, (underlying s).run P w = .ok sd w) (ht : ∀ w, (underlying t).run P w = .ok (.int .u8) w) (hx : ev m x = some (.int k i)) :
    YldS P n m C ⟨dd, .convert s t x, ty, ps, af, gd⟩ (.int .u8 (UInt8.ofInt i).toNat) := by
  rw [← wrap_u8 i]
  exact y_convI hs ht hx

/-! structs compared -/
def EqOk {α : Type} (P : Program) (t : TypeId) (enc : α → List Value) (beq : α → α → Bool) : Prop :=
  P.eqGuardType P.depth t = false ∧ ∀ (x y : α) (w : World), (Op.equalIn 10000 t (.agg (enc x).toArray) (.agg (enc y).toArray)).run P w = .ok (beq x y) w

theorem y_eqT {α : Type} {enc : α → List Value} {beq : α → α → Bool} {x y : Operand} {xt yt : TypeId} (a b : α) (h : EqOk P xt enc beq) (hx : ev m x = some (.agg (enc a).toArray)) (hy : ev m y = some (.agg (enc b).toArray)) :
    YldS P n m C ⟨dd, .binOp .eql xt x y yt, ty, ps, af, gd⟩ (.bool (beq a b)) :=
  .of_run fun ac ha w _ => by
    have h1 := run_eqGuard_agg (P := P) w .eql xt x y (enc a).toArray (enc b).toArray h.1
    simp only [execOp, ha.ev hx, ha.ev hy, Sem.run_bind, h1, Result.andThen_ok, run_eql_struct, h.2]
    rfl
theorem y_neT {α : Type} {enc : α → List Value} {beq : α → α → Bool} {x y : Operand} {xt yt : TypeId} (a b : α) (h : EqOk P xt enc beq) (hx : ev m x = some (.agg (enc a).toArray)) (hy : ev m y = some (.agg (enc b).toArray)) :
    YldS P n m C ⟨dd, .binOp .neq xt x y yt, ty, ps, af, gd⟩ (.bool (!beq a b)) :=
  .of_run fun ac ha w _ => by
    have h1 := run_eqGuard_agg (P := P) w .neq xt x y (enc a).toArray (enc b).toArray h.1
    simp only [execOp, ha.ev hx, ha.ev hy, Sem.run_bind, h1, Result.andThen_ok, run_neq_struct, h.2]
    rfl
end

/-! handing back, in general -/
def RV (P : Program) (L : List Asn) (m : List (Nat × Value)) : ResultVar → Value → Prop
  | .tmp t, v => get m t = some v
  | .cell a t, v => ∃ (k g : Nat) (t' : TypeId) (cs : List Value), get m a = some (pt g 0) ∧ L[k]? = some (box g t' cs) ∧
      (((∀ w, (isAgg t).run P w = .ok true w) ∧ (∀ w, (sizeOf t).run P w = .ok cs.length w) ∧ v = .agg cs.toArray) ∨ ((∀ w, (isAgg t).run P w = .ok false w) ∧ cs[0]? = some v))
def RVs (P : Program) (L : List Asn) (m : List (Nat × Value)) : List ResultVar → List Value → Prop
  | [], [] => True
  | r :: rs, v :: vs => RV P L m r v ∧ RVs P L m rs vs
  | _, _ => False

section
variable {P : Program} {fn : Func} {c : Cx} {n : Nat} {m : List (Nat × Value)} {L : List Asn} {T : Value → List Asn → Prop} {v : Value}

/-- what stands at a result -/
def resAt (tmps : Array Value) : ResultVar → Sem Value
  | .tmp t => pure (tmps.getD t undef)
  | .cell b t => do loadVar t (← asAddr (tmps.getD b undef))

theorem results_eq (fn : Func) (tmps : Array Value) : results fn tmps = (do
  let vs ← fn.results.mapM (resAt tmps)
  pure (if h : vs.size = 1 then vs[0] else .tuple vs)) := by
  unfold results
  congr 1

theorem RV.run {a : Act} {w : World} {r : ResultVar} (ha : Has n a m) (hw : St c w L) (h : RV P L m r v) : (resAt a.tmps r).run P w = .ok v w := by
  cases r with
  | tmp t =>
    have h' : get m t = some v := h
    have := ha.getD h'
    simp only [resAt, this, Sem.run_pure]
  | cell b t =>
    obtain ⟨k, g, t', cs, h1, h2, h3⟩ := h
    obtain ⟨S, hA, _⟩ := hw.at h2
    have e := ha.getD h1
    rcases h3 with ⟨hg, hs, rfl⟩ | ⟨hg, hc⟩
    · have h3 := run_loadCellsFrom_at P w ⟨g, 0, none⟩ cs 0 #[] (fun j u hu => by
        have hadd : (⟨g, 0, none⟩ : Addr).add j = ⟨g, j, none⟩ := by unfold Addr.add; split <;> simp_all
        rw [Nat.zero_add, hadd, cell_of_row w g j _ t' _ hA.1]
        simpa using hu)
      simp only [resAt, e, pt]
      simp [asAddr, loadVar, hg, hs, loadCells, h3]
    · have h3 : w.cell? ⟨g, 0, none⟩ = some v := by rw [cell_of_row w g 0 _ t' _ hA.1]; simpa using hc
      simp only [resAt, e, pt]
      simp [asAddr, loadVar, hg, h3]

theorem RVs.run {a : Act} {w : World} (ha : Has n a m) (hw : St c w L) : ∀ {rs : List ResultVar} {vs : List Value}, RVs P L m rs vs → (rs.mapM (resAt a.tmps)).run P w = .ok vs w
  | [], [], _ => by simp
  | r :: rs, v :: vs, h => by
    have h1 := RV.run ha hw h.1
    have h2 := RVs.run ha hw h.2
    simp only [List.mapM_cons, Sem.run_bind, h1, Result.andThen_ok, h2, Sem.run_pure]
  | [], _ :: _, h => h.elim
  | _ :: _, [], h => h.elim

def tup : List Value → Value
  | [v] => v
  | vs => .tuple vs.toArray

theorem PJ.retn {rs : List ResultVar} {vs : List Value} (hres : fn.results = rs.toArray) (h : RVs P L m rs vs) (hT : T (tup vs) L) : PJ (bodyPost P fn (RetG c T)) c n .ret m L := fun a w ha hw => by
  have h1 := RVs.run ha hw h
  have h2 : (results fn a.tmps).run P w = .ok (tup vs) w := by
    rw [results_eq, hres, Sem.run_bind, List.mapM_toArray]
    rw [Sem.run_map, h1]
    cases vs with
    | nil => simp [tup]
    | cons v vs => cases vs <;> simp [tup]
  exact bodyPost_ret h2 ha.2.1 ⟨_, _, rfl, hT, hw⟩
end

/-! more of the plain side -/
abbrev Str := List UInt8
abbrev w64 (x : Int) : Int := IntKind.i64.wrap x
def quoO (a b : Int) : Option Int := if b = 0 then none else some (w64 (Int.tdiv a b))
def remO (a b : Int) : Option Int := if b = 0 then none else some (Int.tmod a b)
def imax (a b : Int) : Int := if b > a then b else a
def imin (a b : Int) : Int := if b < a then b else a
def ushr (a b : Int) : Int := a.fdiv (2 ^ (min b.toNat 64))
def uand (a b : Int) : Int := IntKind.u64.wrap ((BitVec.ofInt 64 a &&& BitVec.ofInt 64 b).toNat : Int)
theorem idx_get {α : Type} {l : List α} {i : Int} {x : α} (h : idx l i = some x) : l[i.toNat]? = some x := by
  unfold idx at h; split at h
  · exact h
  · cases h

/-- a map from texts to truths, as a list of pairs -/
def mget (l : List (Str × Bool)) (k : Str) : Bool := match l with
  | [] => false
  | (a, b) :: r => bif k == a then b else mget r k
def mset (l : List (Str × Bool)) (k : Str) (v : Bool) : List (Str × Bool) := match l with
  | [] => [(k, v)]
  | (a, b) :: r => bif k == a then (k, v) :: r else (a, b) :: mset r k v

def encEntries (l : List (Str × Bool)) (es : Array MapEntry) : Prop := es.toList.map (fun e => (e.key, e.val)) = l.map fun p => (str p.1, Value.bool p.2)

def mp (g : Nat) (l : List (Str × Bool)) : Asn where
  holds w S := (∃ es ck, w.heap[g]? = some (.map es ck) ∧ encEntries l es) ∧ ∀ b, S b ↔ b = g
  loc h k := by
    obtain ⟨⟨es, ck, h1, h2⟩, h3⟩ := h
    exact ⟨⟨es, ck, by rw [k g ((h3 g).2 rfl)]; exact h1, h2⟩, h3⟩
  foot h b hb := by
    have := (h.2 b).1 hb
    subst this
    obtain ⟨⟨es, ck, h1, _⟩, _⟩ := h
    exact (Array.getElem?_eq_some_iff.1 h1).1

theorem findNow_get (k : Str) : ∀ (l : List (Str × Bool)) (es : List MapEntry) (i : Nat), es.map (fun e => (e.key, e.val)) = l.map (fun p => (str p.1, Value.bool p.2)) →
    (Instr.findNow .string (str k) es i = some none ∧ mget l k = false ∧ mset l k = fun v => l ++ [(k, v)]) ∨
    (∃ j b, Instr.findNow .string (str k) es i = some (some (i + j, .bool b)) ∧ mget l k = b ∧ j < l.length ∧ (∀ v, mset l k v = l.set j (k, v)) ∧ (es[j]?).map (·.key) = some (str k))
  | [], [], i, _ => .inl ⟨rfl, rfl, rfl⟩
  | [], _ :: _, _, h => by simp at h
  | _ :: _, [], _, h => by simp at h
  | (a, b) :: l, e :: es, i, h => by
    simp only [List.map_cons, List.cons.injEq, Prod.mk.injEq] at h
    obtain ⟨⟨hk, hv⟩, ht⟩ := h
    have hs : Instr.sameNow .string (str k) e.key = some (k == a) := by
      rw [hk]
      simp only [Instr.sameNow, str]
      congr 1
      rw [beq_toListBytes, ByteArray.toList_eq, ByteArray.toList_eq]
    by_cases hka : k = a
    · subst hka
      refine .inr ⟨0, b, ?_, by simp [mget], by simp, fun v => by simp [mset], by simp [hk]⟩
      simp only [Instr.findNow, hs, beq_self_eq_true, hv]
      rfl
    · have hf : (k == a) = false := by simpa using hka
      rcases findNow_get k l es (i + 1) ht with ⟨h1, h2, h3⟩ | ⟨j, b', h1, h2, h3, h4, h5⟩
      · refine .inl ⟨by simp only [Instr.findNow, hs, hf]; exact h1, by simp [mget, hf, h2], ?_⟩
        funext v
        simp [mset, hf, h3]
      · refine .inr ⟨j + 1, b', ?_, by simp [mget, hf, h2], by simp; omega, fun v => by simp [mset, hf, h4], by simpa using h5⟩
        simp only [Instr.findNow, hs, hf]
        rw [h1, show i + 1 + j = i + (j + 1) by omega]

section
variable {P : Program} {Q : Exit → Act → World → Prop} {c : Cx} {n : Nat} {m : List (Nat × Value)} {L L' : List Asn} {ops : Array Oper} {l : List Oper} {v : Value} {C : World → Prop}
variable {d : Nat} {ty : TypeId} {ps : String} {af : Array Edge} {dd : Option Tmp} {gd : Option (Nat × Bool)}

theorem y_lenNil {x : Operand} {t e : TypeId} {c' : Nat} (ht : ∀ w, (underlying t).run P w = .ok (.slice e) w) (hx : ev m x = some (.slice none 0 c')) :
    YldS P n m C ⟨dd, .call { callee := .builtin .len, args := #[x], argTypes := #[t] }, ty, ps, af, gd⟩ (.int .i64 0) :=
  .of_run fun a ha w _ => by simp [execOp, ha.ev hx, resolve, invoke, builtin, Builtin.len_, ht, goInt]

theorem y_max {x y : Operand} {ts : Array TypeId} {k : IntKind} {i j : Int} (hx : ev m x = some (.int k i)) (hy : ev m y = some (.int k j)) :
    YldS P n m C ⟨dd, .call { callee := .builtin .max, args := #[x, y], argTypes := ts }, ty, ps, af, gd⟩ (.int k (imax i j)) :=
  .of_run fun a ha w _ => by simp [execOp, ha.ev hx, ha.ev hy, resolve, invoke, builtin, Builtin.max_, Builtin.max2, imax]
theorem y_min {x y : Operand} {ts : Array TypeId} {k : IntKind} {i j : Int} (hx : ev m x = some (.int k i)) (hy : ev m y = some (.int k j)) :
    YldS P n m C ⟨dd, .call { callee := .builtin .min, args := #[x, y], argTypes := ts }, ty, ps, af, gd⟩ (.int k (imin i j)) :=
  .of_run fun a ha w _ => by simp [execOp, ha.ev hx, ha.ev hy, resolve, invoke, builtin, Builtin.min_, Builtin.min2, imin]

theorem y_quo' {x y : Operand} {xt yt : TypeId} {i j q : Int} (hq : quoO i j = some q) (hx : ev m x = some (.int .i64 i)) (hy : ev m y = some (.int .i64 j)) :
    YldS P n m C ⟨dd, .binOp .quo xt x y yt, ty, ps, af, gd⟩ (.int .i64 q) := by
  unfold quoO at hq
  split at hq
  · cases hq
  · rename_i hj
    obtain rfl := Option.some.inj hq
    exact y_quo hx hy hj
theorem y_rem' {x y : Operand} {xt yt : TypeId} {i j q : Int} (hq : remO i j = some q) (hx : ev m x = some (.int .i64 i)) (hy : ev m y = some (.int .i64 j)) :
    YldS P n m C ⟨dd, .binOp .rem xt x y yt, ty, ps, af, gd⟩ (.int .i64 q) := by
  unfold remO at hq
  split at hq
  · cases hq
  · rename_i hj
    obtain rfl := Option.some.inj hq
    exact y_rem hx hy hj

theorem y_andu {x y : Operand} {xt yt : TypeId} {i j : Int} {r : Int} (hx : ev m x = some (.int .u64 i)) (hy : ev m y = some (.int .u64 j)) (hr : uand i j = r) :
    YldS P n m C ⟨dd, .binOp .and xt x y yt, ty, ps, af, gd⟩ (.int .u64 r) :=
  .of_run fun a ha w _ => by
    subst hr
    simp only [execOp, ha.ev hx, ha.ev hy, eqGuard, binOp, Op.intBits, uand]
    simp
    rfl
theorem y_shru {x y : Operand} {xt yt : TypeId} {i : Int} {k : IntKind} {j : Int} (hx : ev m x = some (.int .u64 i)) (hy : ev m y = some (.int k j)) (hr : decide (j < 0) = false) :
    YldS P n m C ⟨dd, .binOp .shr xt x y yt, ty, ps, af, gd⟩ (.int .u64 (ushr i j)) :=
  .of_run fun a ha w _ => by
    have hj : ¬ j < 0 := of_decide_eq_false hr
    simp [execOp, ha.ev hx, ha.ev hy, eqGuard, binOp, Op.shift, hj, ushr, IntKind.bits]

theorem PJ.retn_sel {fn : Func} {T : Value → List Asn → Prop} {rs : List ResultVar} {vs : List Value} (hres : fn.results = rs.toArray) (h : RVs P L m rs vs) (is : List Nat) (hs : Sel is L L') (hT : T (tup vs) L') : PJ (bodyPost P fn (RetG c T)) c n .ret m L := fun a w ha hw => by
  have h1 := RVs.run ha hw h
  have h2 : (results fn a.tmps).run P w = .ok (tup vs) w := by
    rw [results_eq, hres, Sem.run_bind, List.mapM_toArray]
    rw [Sem.run_map, h1]
    cases vs with
    | nil => simp [tup]
    | cons v vs => cases vs <;> simp [tup]
  exact bodyPost_ret h2 ha.2.1 ⟨_, _, rfl, hT, hw.sel hs⟩

/-! maps -/
theorem SJ.makeMap {t : TypeId} (hd : Nat.blt d n = true) (h : ∀ g, SJ P ops Q c n l ((d, .map (some g)) :: m) (mp g [] :: L)) : SJ P ops Q c n (⟨some d, .makeMap t none, ty, ps, af, none⟩ :: l) m L :=
  SJ.x (T := fun v L' => ∃ g, v = .map (some g) ∧ L' = mp g [] :: L) (fun a w ha hw => by
    refine ⟨.map (some w.heap.size), w.alloc (.map #[] 0), _, ?_, ⟨_, rfl, rfl⟩, ?_⟩
    · simp only [execOp, Option.map, Instr.makeMap, Sem.run_bind, Sem.run_pure, Result.andThen_ok]
      rfl
    · exact hw.new (Same.alloc _ _) (S := fun b => b = w.heap.size) ⟨⟨#[], 0, heap_alloc_new w _, rfl⟩, fun _ => Iff.rfl⟩ (fun b hb => by omega)) hd
    (fun v L' hT => by obtain ⟨g, rfl, rfl⟩ := hT; exact h g)

theorem y_lookupSB {x y : Operand} {t kt et : TypeId} {g k : Nat} {ml : List (Str × Bool)} {key : Str} (hk : L[k]? = some (mp g ml)) (ht : P.underlying t = some (.map kt et)) (hkt : P.underlying kt = some .string) (hz : ∀ w, (zeroValue et).run P w = .ok (.bool false) w)
    (hx : ev m x = some (.map (some g))) (hy : ev m y = some (str key)) : YldS P n m (fun w => St c w L) ⟨dd, .lookup t x y false, ty, ps, af, gd⟩ (.bool (mget ml key)) :=
  .of_run fun a ha w hw => by
    obtain ⟨S, ⟨⟨es, ck, h1, h2⟩, _⟩, _⟩ := hw.at hk
    have hck0 : ∀ q e, (Instr.checkKey e (q + 1) kt (str key)).run P w = .ok () w := fun q e => by simp [Instr.checkKey, run_underlying hkt, str]
    have hck : ∀ e, (Instr.checkKey e 10000 kt (str key)).run P w = .ok () w := fun e => hck0 9999 e
    have hg : (getObj g).run P w = .ok (.map es ck) w := by simp [getObj, Sem.run, h1]
    have hf := findNow_get key ml es.toList 0 h2
    simp only [execOp, ha.ev hx, ha.ev hy, Instr.lookup, Sem.run_bind, run_underlying ht, Result.andThen_ok, hg, Sem.run_pure, hck, Instr.findKey, run_underlying hkt]
    rcases hf with ⟨h3, h4, _⟩ | ⟨j, b, h3, h4, _⟩
    · simp [h3, h4, hz]
    · simp [h3, h4]

theorem SJ.mapUpdateSB {x y z : Operand} {t kt et : TypeId} {g k : Nat} {ml : List (Str × Bool)} {key : Str} {b : Bool} (ht : P.underlying t = some (.map kt et)) (hkt : P.underlying kt = some .string) (hk : L[k]? = some (mp g ml))
    (hx : ev m x = some (.map (some g))) (hy : ev m y = some (str key)) (hz : ev m z = some (.bool b)) (h : SJ P ops Q c n l m (L.set k (mp g (mset ml key b)))) : SJ P ops Q c n (⟨none, .mapUpdate t x y z, ty, ps, af, none⟩ :: l) m L :=
  SJ.u (fun a w ha hw => by
    obtain ⟨S, ⟨⟨es, ck, h1, h2⟩, hS⟩, _, hset⟩ := hw.set hk
    have hck0 : ∀ q e, (Instr.checkKey e (q + 1) kt (str key)).run P w = .ok () w := fun q e => by simp [Instr.checkKey, run_underlying hkt, str]
    have hck : ∀ e, (Instr.checkKey e 10000 kt (str key)).run P w = .ok () w := fun e => hck0 9999 e
    have hg : (getObj g).run P w = .ok (.map es ck) w := by simp [getObj, Sem.run, h1]
    have hso : ∀ o, (setObj g o).run P w = .ok () { w with heap := w.heap.setIfInBounds g o } := fun o => by simp [setObj, Sem.run, h1]
    have hlt : g < w.heap.size := (Array.getElem?_eq_some_iff.1 h1).1
    have hch : ∀ o, Chg S w { w with heap := w.heap.setIfInBounds g o } := fun o => ⟨rfl, rfl, rfl, by simp, fun b _ hn => by
      have hne : g ≠ b := fun e => hn ((hS b).2 e.symm)
      simp [Array.getElem?_setIfInBounds_ne hne]⟩
    have hat : ∀ o, ({ w with heap := w.heap.setIfInBounds g o } : World).heap[g]? = some o := fun o => by simp [hlt]
    have hf := findNow_get key ml es.toList 0 h2
    rcases hf with ⟨h3, h4, h5⟩ | ⟨j, b', h3, h4, h5, h6, h7⟩
    · refine ⟨{ w with heap := w.heap.setIfInBounds g (.map (es.push { key := str key, val := .bool b, born := ck }) (ck + 1)) }, ?_, ?_⟩
      · simp only [execOp, ha.ev hx, ha.ev hy, ha.ev hz, Instr.mapUpdate, Sem.run_bind, run_underlying ht, Result.andThen_ok, hg, Sem.run_pure, hck, Instr.findKey, run_underlying hkt, h3]
        simp [hso]
      · refine hset _ _ S (hch _) ⟨⟨_, _, hat _, ?_⟩, hS⟩ (fun b hb => .inl hb)
        unfold encEntries at h2 ⊢
        rw [h5]
        simp [h2]
    · have hkey : ((es[0 + j]?).map (·.key)).getD (str key) = str key := by
        have : (es[j]?).map (·.key) = some (str key) := by simpa using h7
        rw [Nat.zero_add, this]; rfl
      have hst : (Instr.keyThatStays (str key) (str key)).run P w = .ok (str key) w := by
        have hsb : ∀ q, Instr.sameBits q (str key) (str key) = true := fun q => by
          have : ((⟨key.toArray⟩ : ByteArray) == ⟨key.toArray⟩) = true := by rw [beq_toListBytes]; simp
          cases q <;> simpa [Instr.sameBits, str] using this
        simp only [Instr.keyThatStays, hsb, if_true, Sem.run_pure]
      refine ⟨{ w with heap := w.heap.setIfInBounds g (.map (es.modify (0 + j) fun e => { e with key := str key, val := .bool b }) ck) }, ?_, ?_⟩
      · simp only [execOp, ha.ev hx, ha.ev hy, ha.ev hz, Instr.mapUpdate, Sem.run_bind, run_underlying ht, Result.andThen_ok, hg, Sem.run_pure, hck, Instr.findKey, run_underlying hkt, h3]
        simp only [hkey, hst, Result.andThen_ok, hso]
      · refine hset _ _ S (hch _) ⟨⟨_, _, hat _, ?_⟩, hS⟩ (fun b hb => .inl hb)
        unfold encEntries at h2 ⊢
        rw [h6]
        have hl : es.toList.length = ml.length := by simpa using congrArg List.length h2
        refine List.ext_getElem? fun q => ?_
        have h8 : ∀ q : Nat, (es.toList.map (fun e => (e.key, e.val)))[q]? = (ml.map fun p => (str p.1, Value.bool p.2))[q]? := fun q => by rw [h2]
        simp only [List.getElem?_map, Array.getElem?_toList, Array.getElem?_modify, List.getElem?_set, Nat.zero_add] at h8 ⊢
        by_cases hq : j = q
        · subst hq
          have hje : j < es.size := by simpa using (by omega : j < es.toList.length)
          simp [hje, h5]
        · simp only [hq, if_false]
          exact h8 q) h
end

/-! forms whose side goals are closed by rfl -/
section
variable {P : Program} {Q : Exit → Act → World → Prop} {c : Cx} {n : Nat} {m : List (Nat × Value)} {L L' : List Asn} {ops : Array Oper} {l : List Oper} {v : Value}
variable {d : Nat} {ty : TypeId} {ps : String} {af : Array Edge} {e : TypeId}
theorem SJ.storeL {x y : Operand} {t t' : TypeId} {u : Value} {us cs : List Value} {g off k : Nat} (hk : L[k]? = some (YtppdmciboalhfaaDoor.box g t cs)) (hx : ev m x = some (pt g off)) (hy : ev m y = some u) (hus : u.cells.toList = us)
    (hs : ∀ w, (sizeOf t').run P w = .ok us.length w) (hl : Nat.ble (off + us.length) cs.length = true) (h1 : us.all Value.oneCell' = true) (h : SJ P ops Q c n l m (L.set k (YtppdmciboalhfaaDoor.box g t (putL cs off us)))) :
    SJ P ops Q c n (⟨none, .store t' x y, ty, ps, af, none⟩ :: l) m L :=
  SJ.store hk hx hy hus hs (Nat.le_of_ble_eq_true hl) (fun v hv => List.all_eq_true.1 h1 v hv) h
theorem SJ.storeRL {α : Type} {R : FRp α} {xs : List α} {x y : Operand} {t' : TypeId} {u : Value} {us : List Value} {k i off : Nat} {a b : α} (hk : L[k]? = some (row v e R xs)) (hx : ev m x = some (rowAt v (i * R.size + off))) (hi : xs[i]? = some a)
    (hy : ev m y = some u) (hus : u.cells.toList = us) (hs : ∀ w, (sizeOf t').run P w = .ok us.length w) (hl : Nat.ble (off + us.length) R.size = true) (h1 : us.all Value.oneCell' = true) (hb : R.enc b = putL (R.enc a) off us)
    (h : SJ P ops Q c n l m (L.set k (row v e R (xs.set i b)))) : SJ P ops Q c n (⟨none, .store t' x y, ty, ps, af, none⟩ :: l) m L :=
  SJ.storeR hk hx hi hy hus hs (Nat.le_of_ble_eq_true hl) (fun v hv => List.all_eq_true.1 h1 v hv) hb h
end
theorem St.frozenC {c : Cx} {L : List Asn} : ∀ w, St c w L → ∀ b, c.Fz b → w.heap[b]? = c.w0.heap[b]? := fun _ h => h.frozen

/-! What comes in, opened. -/

def Opens {α : Type} (P : Program) (t : TypeId) (R : Rp α) (Wf : α → Prop) : Prop :=
  ∀ {H : Type} {enc : TypeId × Value → H} {w : World} {sp : Nat → Bool} {held : Bool} {fuel : Nat} {cs : List Value} {x : DataW H × List MemPlace}, DataW.trod enc P w 0 sp held fuel t cs = some x → ∃ y, R.rd w (cx w).Fz cs y ∧ Wf y

def wfI64 (x : Int) : Prop := -9223372036854775808 ≤ x ∧ x ≤ 9223372036854775807
def wfByte (_ : UInt8) : Prop := True
def wfBool (_ : Bool) : Prop := True
def wfStr (s : List UInt8) : Prop := s.length ≤ 9223372036854775807
def wfL {α : Type} (Wf : α → Prop) (l : List α) : Prop := l.length ≤ 9223372036854775807 ∧ ∀ x ∈ l, Wf x

theorem wf_i64 {n : Int} (h : (Lit.int .i64 n).wf = true) : wfI64 n := by
  exact bounds_i64 h

theorem opens_i64 {P : Program} {t : TypeId} (ht : P.underlying t = some (.int .i64)) : Opens P t fI64.rp wfI64 := fun h => by
  obtain ⟨n, rfl, _, hw⟩ := DataW.trod_int ht h
  exact ⟨n, rfl, wf_i64 hw⟩
theorem opens_byte {P : Program} {t : TypeId} (ht : P.underlying t = some (.int .u8)) : Opens P t fByte.rp wfByte := fun h => by
  obtain ⟨n, rfl, _, hw⟩ := DataW.trod_int ht h
  have hb : 0 ≤ n ∧ n ≤ 255 := bounds_u8 hw
  refine ⟨UInt8.ofNat n.toNat, ?_, trivial⟩
  show [Value.int .u8 n] = [Value.int .u8 ((UInt8.ofNat n.toNat).toNat : Int)]
  have : (UInt8.ofNat n.toNat).toNat = n.toNat := by rw [UInt8.toNat_ofNat']; omega
  rw [this, Int.toNat_of_nonneg hb.1]
theorem opens_bool {P : Program} {t : TypeId} (ht : P.underlying t = some .bool) : Opens P t fBool.rp wfBool := fun h => by
  obtain ⟨b, rfl, _⟩ := DataW.trod_bool ht h
  exact ⟨b, rfl, trivial⟩
theorem str_of (s : ByteArray) : Value.string s = str s.data.toList := by
  obtain ⟨⟨l⟩⟩ := s
  rfl
theorem opens_str {P : Program} {t : TypeId} (ht : P.underlying t = some .string) : Opens P t fStr.rp wfStr := fun h => by
  obtain ⟨s, rfl, _, hs⟩ := DataW.trod_string ht h
  refine ⟨s.data.toList, ?_, ?_⟩
  · show [Value.string s] = [str s.data.toList]
    rw [str_of]
  · unfold wfStr
    have : s.data.toList.length = s.size := Array.length_toList
    unfold maxLen at hs
    omega

theorem cells_at {w : World} {a : Addr} {n : Nat} {cs : List Value} (h : w.cells? 0 a n = some cs) : At w (cx w).Fz a cs ∧ cs.length = n := by
  unfold World.cells? at h
  rw [if_pos (Nat.zero_le _)] at h
  have key : ∀ (k : Nat) (l : List Nat) (cs : List Value), l.mapM (fun i => w.cell? (a.add i)) = some cs → cs.length = l.length ∧ ∀ (j : Nat) u, cs[j]? = some u → ∃ i : Nat, l[j]? = some i ∧ w.cell? (a.add i) = some u := by
    intro _ l
    induction l with
    | nil => intro cs h; simp at h; subst h; exact ⟨rfl, fun j u hu => by simp at hu⟩
    | cons i l ih =>
      intro cs h
      rw [List.mapM_cons] at h
      obtain ⟨v, hv, h⟩ := bindS h
      obtain ⟨vs, hvs, h⟩ := bindS h
      obtain rfl := Option.some.inj h
      obtain ⟨h1, h2⟩ := ih vs hvs
      refine ⟨by simp [h1], fun j u hu => ?_⟩
      cases j with
      | zero => simp at hu; subst hu; exact ⟨i, rfl, hv⟩
      | succ j => simp at hu; simpa using h2 j u hu
  obtain ⟨h1, h2⟩ := key 0 _ _ h
  refine ⟨fun j u hu => ?_, by simpa using h1⟩
  obtain ⟨i, hi, hc⟩ := h2 j u hu
  have hij : i = j := by
    have hj := lt_of_some hi
    simp at hj
    simpa [List.getElem?_range, hj] using hi.symm
  subst hij
  have hlt := World.block_lt_of_cell? w (a.add i) hc
  rw [block_of_add] at hlt
  exact ⟨⟨hlt, fun h => h⟩, hc⟩

theorem list_choose {α : Type} {p : Nat → α → Prop} : ∀ {n : Nat}, (∀ i, i < n → ∃ x, p i x) → ∃ l : List α, l.length = n ∧ ∀ i x, l[i]? = some x → p i x
  | 0, _ => ⟨[], rfl, fun i x h => by simp at h⟩
  | n + 1, h => by
    obtain ⟨l, h1, h2⟩ := list_choose (n := n) (fun i hi => h i (by omega))
    obtain ⟨x, hx⟩ := h n (by omega)
    refine ⟨l ++ [x], by simp [h1], fun i y hy => ?_⟩
    by_cases hi : i < l.length
    · rw [List.getElem?_append_left hi] at hy; exact h2 i y hy
    · rw [List.getElem?_append_right (by omega)] at hy
      have hlt := lt_of_some hy
      simp at hlt
      have : i = n := by omega
      subst this
      simp [h1] at hy
      subst hy
      exact hx

theorem opens_slice {α : Type} {P : Program} {t e : TypeId} {R : Rp α} {Wf : α → Prop} (ht : P.underlying t = some (.slice e)) (hc : P.cellsOf e = R.size) (ho : Opens P e R Wf) : Opens P t (rSl R) (wfL Wf) := fun h => by
  rcases Go.Deep.open_slice ht h with ⟨rfl, _⟩ | ⟨a, len, cap, m, n, D, Pl, rfl, _, hl, hm, hmm, _, hel⟩
  · refine ⟨[], ⟨_, rfl, none, 0, rfl, Nat.le_refl _, Nat.zero_le _, fun i x hx => by simp at hx⟩, ⟨by simp, fun x hx => by simp at hx⟩⟩
  · have hle : len ≤ m := by subst hmm; split <;> omega
    obtain ⟨l, hlen, hel'⟩ := list_choose (n := len) (p := fun i (y : α) => ∃ cs', At _ (cx _).Fz (a.add (i * R.size)) cs' ∧ R.rd _ (cx _).Fz cs' y ∧ Wf y) (fun i hi => by
      obtain ⟨cs', h1, h2⟩ := hel i (by omega)
      obtain ⟨y, hy, hw⟩ := ho h2
      rw [hc] at h1
      exact ⟨y, cs', (cells_at h1).1, hy, hw⟩)
    refine ⟨l, ⟨_, rfl, some a, cap, by rw [hlen], by omega, hm, fun i x hx => ?_⟩, ⟨by unfold maxLen at hm; omega, fun x hx => ?_⟩⟩
    · obtain ⟨cs', h1, h2, _⟩ := hel' i x hx
      exact ⟨a, cs', rfl, h2, h1⟩
    · obtain ⟨i, hi⟩ := List.getElem?_of_mem hx
      obtain ⟨_, _, _, h3⟩ := hel' i x hi
      exact h3

/-- an argument that is a slice -/
theorem open_slice_arg {α : Type} {P : Program} {H : Type} {enc : TypeId × Value → H} {W : World} {sp : Nat → Bool} {held : Bool} {r : Reach} {b0 : Nat} {t e : TypeId} {R : Rp α} {Wf : α → Prop} {v : Value} {d : DataW H} {ps : List MemPlace}
    (ht : P.underlying t = some (.slice e)) (hc : P.cellsOf e = R.size) (ho : Opens P e R Wf) (hval : Value.okWide P W r b0 t v) (h : DataW.Trod enc P W 0 sp held t v d ps) : ∃ l, RdS W (cx W).Fz v R l ∧ wfL Wf l := by
  obtain ⟨a, len, cap, rfl⟩ := okWide_slice ht hval
  obtain ⟨fuel, hf⟩ := h
  obtain ⟨l, ⟨v', hv, hr⟩, hw⟩ := opens_slice ht hc ho hf
  simp [Value.cells] at hv
  subst hv
  exact ⟨l, hr, hw⟩

/-- a struct's cells, by fields -/
theorem opens_fields {P : Program} {t : TypeId} {fs : Array Field} {H : Type} {enc : TypeId × Value → H} {w : World} {sp : Nat → Bool} {held : Bool} {fuel : Nat} {cs : List Value} {x : DataW H × List MemPlace}
    (ht : P.underlying t = some (.struct fs)) (h : DataW.trod enc P w 0 sp held fuel t cs = some x) :
    cs.length = P.cellsOf t ∧ ∃ n, ∀ f ∈ fs.toList, ∃ y, DataW.trod enc P w 0 sp held n f.type ((cs.drop f.offset).take (P.cellsOf f.type)) = some y := by
  obtain ⟨xs, n, _, rfl, hl, hlen, hf⟩ := DataW.trod_struct ht h
  refine ⟨hl, n, fun f hf' => ?_⟩
  obtain ⟨i, hi⟩ := List.getElem?_of_mem hf'
  have hlt : i < xs.length := by have := lt_of_some hi; simp at this hlen ⊢; omega
  exact ⟨xs[i], (hf i f (by simpa using hi)).trans (List.getElem?_eq_getElem hlt)⟩

theorem Ret.bel {w : World} {v : Value} {P : Program} {f : FuncId} {args : Array Value} (h : Calls P f args w (Ret (cx w) v)) : Calls P f args w fun e w' => e = .returned v ∧ Below w.heap.size w w' :=
  h.mono fun _ _ ⟨_, _, he, ⟨hv, _⟩, hst⟩ => by subst hv; exact ⟨he, Same.below hst.chg⟩

/-! A region that draws its order: the states through which it may go, each with what is known there. -/

/-- whatever order is picked from here on; I holds all the while, nothing ends before the region's end -/
def wpI (P : Program) (ops : Array Oper) (I : World → Prop) (F : Act → World → Prop) : Nat → Array Bool → Act → World → Prop
  | 0, listed, a, w => Region.ready .any ops listed = [] ∧ F a w
  | f + 1, listed, a, w => I w ∧ Region.ready .any ops listed ≠ [] ∧ ∀ i ∈ Region.ready .any ops listed, wpOp P ops (fun _ _ _ => False) i (wpI P ops I F f (listed.setIfInBounds i true)) a w

section
variable {P : Program} {ops : Array Oper} {I : World → Prop} {F : Act → World → Prop}

theorem notOut : ¬ LetsOut (fun _ _ _ => False) := fun ⟨_, _, h⟩ => h

theorem wpOp_free {Q : Exit → Act → World → Prop} {i : Nat} {a : Act} {w : World} {K K' : Act → World → Prop} (hK : ∀ a w, K a w → K' a w)
    (h : wpOp P ops (fun _ _ _ => False) i K a w) : wpOp P ops Q i K' a w := by
  unfold wpOp at *
  split
  · exact hK _ _ (by simpa [*] using h)
  · rename_i o ho
    simp only [ho] at h
    split
    · rename_i hw
      simp only [hw, if_true] at h
      rcases h with h | ⟨_, h⟩
      · left
        unfold Oper.wp at *
        generalize (execOp a.eval o).run P w = r at *
        cases r with
        | ok x w' =>
          cases x <;> simp only [Oper.upon] at h ⊢
          case value u => exact hK _ _ h
          case skip => exact hK _ _ h
          case defer d => exact hK _ _ h
          case enter f args =>
            refine h.mono fun e w'' he => ?_
            cases e with
            | returned u => exact hK _ _ he
            | panicked ch => exact he.elim
            | outgrown => exact (notOut he).elim
          case row row args => exact h.mono fun u w'' he => hK _ _ he
        | halt x w' => cases x <;> simp only [Oper.upon] at h
      · exact (notOut h).elim
    · rename_i hw
      simp only [hw] at h
      exact hK _ _ h

theorem wpI.any {Q : Exit → Act → World → Prop} (hF : ∀ a w, F a w → Q .normal a w) : ∀ (f : Nat) (listed : Array Bool) (a : Act) (w : World), wpI P ops I F f listed a w → wpAny P .any ops Q f listed a w
  | 0, _, _, _, h => ⟨h.1, hF _ _ h.2⟩
  | f + 1, _, _, _, h => ⟨fun h0 => absurd h0 h.2.1, fun i hi => wpOp_free (fun a w => wpI.any hF f _ a w) (h.2.2 i hi)⟩

/-- in this state, in every world of I, it yields v and leaves the world alone -/
def StY (P : Program) (ops : Array Oper) (I : World → Prop) (o : Oper) (v : Value) (a : Act) : Prop :=
  (Region.wanted o (yielded ops a.tmps) = true ∧ ∀ w, I w → (execOp a.eval o).run P w = .ok (.value v) w) ∨ (Region.wanted o (yielded ops a.tmps) = false ∧ v = undef)

theorem StY.wpOp {Q : Exit → Act → World → Prop} {i : Nat} {o : Oper} {v : Value} {a : Act} (hi : ops[i]? = some o) (hy : StY P ops I o v a) {K : Act → World → Prop} {w : World} (hw : I w) (h : K (a.put o.dst v) w) : Go.wpOp P ops Q i K a w := by
  rcases hy with hy | ⟨hy, rfl⟩
  · unfold Go.wpOp
    simp only [hi, hy.1, if_true, Oper.wp, hy.2 w hw, Oper.upon]
    exact .inl h
  · unfold Go.wpOp
    simp only [hi, hy]
    exact h
theorem StY.of_same {o : Oper} {v : Value} {a a' : Act} (hy : StY P ops I o v a) (he : execOp a'.eval o = execOp a.eval o)
    (hw : Region.wanted o (yielded ops a'.tmps) = Region.wanted o (yielded ops a.tmps)) : StY P ops I o v a' := by
  unfold StY at *
  rw [he, hw]
  exact hy

theorem wpI_put {j : Nat} {oi oj : Oper} {v : Value} (hj : ops[j]? = some oj) (hap : oi.apart ops oj = true)
    (hsi : ∀ cs b, oi.op ≠ .select cs b) (hsj : ∀ cs b, oj.op ≠ .select cs b) {K : Act → World → Prop} {a : Act} {w : World}
    (hy : StY P ops I oi v a) (h : wpOp P ops (fun _ _ _ => False) j K (a.put oi.dst v) w) :
    wpOp P ops (fun _ _ _ => False) j (fun a' w' => StY P ops I oi v a' ∧ K (a'.put oi.dst v) w') a w := by
  obtain ⟨h1, h2, h3⟩ := Oper.apart_spec hap
  have keep : ∀ (a : Act), StY P ops I oi v a → ∀ u, StY P ops I oi v (a.put oj.dst u) := fun a hy u =>
    hy.of_same (execOp_put oi hsi a oj.dst u h3) (wanted_put oi a oj.dst u h3)
  have keepD : ∀ d, StY P ops I oi v { a with defers := d :: a.defers } := fun d => hy.of_same rfl rfl
  unfold wpOp at *
  simp only [hj] at *
  rw [wanted_put oj a oi.dst v h1] at h
  split
  · rename_i hw
    simp only [hw, if_true] at h
    rcases h with h | ⟨hasks, hlets⟩
    case inr => exact (notOut hlets).elim
    refine .inl ?_
    unfold Oper.wp at *
    rw [execOp_put oj hsj a oi.dst v h1] at h
    generalize (execOp a.eval oj).run P w = r at *
    cases r with
    | ok n w' =>
      cases n <;> simp only [Oper.upon] at h ⊢
      case value u => exact ⟨keep a hy u, by rw [← Act.put_comm a v u h2]; exact h⟩
      case skip => exact ⟨keep a hy _, by rw [← Act.put_comm a v undef h2]; exact h⟩
      case defer d =>
        refine ⟨keep _ (keepD d) _, ?_⟩
        rw [← Act.put_comm _ v undef h2, ← Act.put_defers]
        exact h
      case enter f args =>
        refine Calls.mono h fun e w'' he => ?_
        cases e with
        | returned u => exact ⟨keep a hy u, by rw [← Act.put_comm a v u h2]; exact he⟩
        | panicked c => exact he.elim
        | outgrown => exact (notOut he).elim
      case row row args => exact Rows.mono h fun u w'' he => ⟨keep a hy u, by rw [← Act.put_comm a v u h2]; exact he⟩
    | halt x w' =>
      cases x <;> simp only [Oper.upon] at h
  · rename_i hw
    simp only [hw] at h
    exact ⟨keep a hy _, by rw [← Act.put_comm a v undef h2]; exact h⟩

theorem wpI_inv : ∀ {f : Nat} {listed : Array Bool} {a : Act} {w : World}, Region.ready .any ops listed ≠ [] → wpI P ops I F f listed a w → I w
  | 0, _, _, _, hn, h => absurd h.1 hn
  | _ + 1, _, _, _, _, h => h.1

/-- what leaves the world alone may be taken first -/
theorem wpI_first {i : Nat} {oi : Oper} {v : Value} (hi : ops[i]? = some oi) (hsel : ∀ (j : Nat) (o : Oper) cs b, ops[j]? = some o → o.op ≠ .select cs b) :
    ∀ (fuel : Nat) (listed : Array Bool) (a : Act) (w : World), I w →
      (∀ j oj, ops[j]? = some oj → j ≠ i → listed.getD j true = false → (∀ e ∈ oj.after, Region.binds .any e = true → e.on ≠ i) → oi.apart ops oj = true) →
      i ∈ Region.ready .any ops listed → StY P ops I oi v a → (∀ w, F (a.put oi.dst v) w → True) →
      (∀ w, I w ∨ ¬ I w) →
      wpI P ops I (fun a w => I w ∧ F a w) fuel (listed.setIfInBounds i true) (a.put oi.dst v) w → wpI P ops I (fun a w => I w ∧ F a w) (fuel + 1) listed a w := by
  intro fuel
  induction fuel with
  | zero =>
    intro listed a w hw _ hr hy _ _ H
    refine ⟨hw, fun h => (by rw [h] at hr; cases hr), fun j hj => ?_⟩
    by_cases hji : j = i
    · subst hji; exact hy.wpOp hi hw H
    · have := ready_mono hj hji
      rw [H.1] at this
      cases this
  | succ fuel ih =>
    intro listed a w hw hfree hr hy h0 hI H
    refine ⟨hw, fun h => (by rw [h] at hr; cases hr), fun j hj => ?_⟩
    by_cases hji : j = i
    · subst hji; exact hy.wpOp hi hw H
    · have h1 := H.2.2 j (ready_mono hj hji)
      obtain ⟨hjun, oj, hoj, hall⟩ := mem_ready.1 hj
      have hnot : ∀ e ∈ oj.after, Region.binds .any e = true → e.on ≠ i := fun e he hb heq => by
        have h1 := hall e he hb
        have h0 := (mem_ready.1 hr).1
        rw [heq] at h1
        rcases Nat.lt_or_ge i listed.size with h' | h'
        · simp [h'] at h0 h1; rw [h0] at h1; cases h1
        · simp [Array.getElem?_eq_none h'] at h1
      have h2 := wpI_put hoj (hfree j oj hoj hji hjun hnot) (fun cs b => hsel i oi cs b hi) (fun cs b => hsel j oj cs b hoj) hy h1
      have hfree' : ∀ k ok, ops[k]? = some ok → k ≠ i → (listed.setIfInBounds j true).getD k true = false →
          (∀ e ∈ ok.after, Region.binds .any e = true → e.on ≠ i) → oi.apart ops ok = true := fun k ok hk hki hun hno => by
        refine hfree k ok hk hki ?_ hno
        by_cases hjk : j = k
        · subst hjk; exact hjun
        · rw [getD_set_ne true hjk] at hun; exact hun
      refine wpOp_mono (fun a' w' h3 => ?_) h2
      have h4 := h3.2
      rw [Array.setIfInBounds_comm _ _ (Ne.symm hji)] at h4
      have hIw : I w' := by
        cases fuel with
        | zero => exact h4.2.1
        | succ f => exact h4.1
      exact ih (listed.setIfInBounds j true) a' w' hIw hfree' (ready_mono hr (Ne.symm hji)) h3.1 (fun _ _ => trivial) hI h4
end

/-- in this state of the region: what is known is enough for the rest of it -/
def RJ (P : Program) (ops : Array Oper) (Q : Exit → Act → World → Prop) (c : Cx) (n : Nat) (K : List Asn) (f : Nat) (listed : Array Bool) (m : List (Nat × Value)) (L : List Asn) : Prop :=
  ∀ a w, Has n a m → St c w L → wpI P ops (fun w => St c w K) (fun a w => St c w K ∧ Q .normal a w) f listed a w

section
variable {P : Program} {Q : Exit → Act → World → Prop} {c : Cx} {n f : Nat} {K : List Asn} {listed : Array Bool} {m m' : List (Nat × Value)} {L L' : List Asn} {ops : Array Oper} {l : List Oper} {v : Value}

theorem WJ.draws {id N : Nat} {listed0 : Array Bool} (K : List Asn) (hm : P.follows .mixedOrders = true) (hN : l.toArray.size = N) (h0 : Array.replicate N false = listed0) (h : RJ P l.toArray Q c n K N listed0 m L) : WJ P Q c n (.region id l.toArray true) m L := fun a w ha hw => by
  subst h0 hN
  exact
  wp_region_any hm (wpI.any (fun _ _ h => h.2) _ _ _ _ (h a _ ha (hw.grow ⟨rfl, rfl, rfl, Nat.le_refl _, fun _ _ _ => rfl⟩)))

theorem RJ.fin (is : List Nat) (hr : Region.ready .any ops listed = []) (hK : Sel is L K) (h : PJ Q c n .normal m L) : RJ P ops Q c n K 0 listed m L := fun a w ha hw => ⟨hr, hw.sel hK, h a w ha hw⟩

theorem RJ.weak (h : RJ P ops Q c n K f listed m' L') (is : List Nat) (hs : Sub m' m) (hl : Sel is L L') : RJ P ops Q c n K f listed m L := fun a w ha hw => h a w (ha.sub hs) (hw.sel hl)

def firstB (ops : Array Oper) (listed : Array Bool) (i : Nat) : Bool := Region.noSelect ops && (Region.ready .any ops listed).contains i && Region.free .any ops listed i

/-- what leaves the world alone, whatever the others do, is taken first -/
theorem RJ.first (i : Nat) {listed' : Array Bool} {d : Nat} {op : Op} {ty : TypeId} {ps : String} {af : Array Edge} (is : List Nat) (hi : ops[i]? = some ⟨some d, op, ty, ps, af, none⟩) (hB : firstB ops listed i = true) (hl : listed.setIfInBounds i true = listed') (hK : Sel is L K)
    (hy : YldS P n m (fun w => St c w K) ⟨some d, op, ty, ps, af, none⟩ v) (hd : Nat.blt d n = true) (h : RJ P ops Q c n K f listed' ((d, v) :: m) L) : RJ P ops Q c n K (f + 1) listed m L := fun a w ha hw => by
  subst hl
  simp only [firstB, Bool.and_eq_true] at hB
  exact wpI_first (oi := ⟨some d, op, ty, ps, af, none⟩) (v := v) hi (Region.noSelect_spec hB.1.1) f listed a w (hw.sel hK) (Region.free_spec hi hB.2) (by simpa using hB.1.2)
    (.inl ⟨by simp [Region.wanted], fun w hw => hy a ha w hw⟩) (fun _ _ => trivial) (fun w => Classical.em _) (h _ _ (ha.put hd v) hw)

/-- .. where its guard is decided -/
theorem RJ.firstOn (i : Nat) {listed' : Array Bool} {d j e : Nat} {b : Bool} {op : Op} {ty : TypeId} {ps : String} {af : Array Edge} {oj : Oper} (is : List Nat) (hi : ops[i]? = some ⟨some d, op, ty, ps, af, some (j, b)⟩) (hj : ops[j]? = some oj) (hjd : oj.dst = some e) (he : get m e = some (.bool b)) (hB : firstB ops listed i = true) (hl : listed.setIfInBounds i true = listed') (hK : Sel is L K)
    (hy : YldS P n m (fun w => St c w K) ⟨some d, op, ty, ps, af, some (j, b)⟩ v) (hd : Nat.blt d n = true) (h : RJ P ops Q c n K f listed' ((d, v) :: m) L) : RJ P ops Q c n K (f + 1) listed m L := fun a w ha hw => by
  subst hl
  simp only [firstB, Bool.and_eq_true] at hB
  exact wpI_first (oi := ⟨some d, op, ty, ps, af, some (j, b)⟩) (v := v) hi (Region.noSelect_spec hB.1.1) f listed a w (hw.sel hK) (Region.free_spec hi hB.2) (by simpa using hB.1.2)
    (.inl ⟨by simp [Region.wanted, yielded, hj, hjd, ha.2.2 e _ he], fun w hw => hy a ha w hw⟩) (fun _ _ => trivial) (fun w => Classical.em _) (h _ _ (ha.put hd v) hw)
theorem RJ.firstOff (i : Nat) {listed' : Array Bool} {d j e : Nat} {b b' : Bool} {op : Op} {ty : TypeId} {ps : String} {af : Array Edge} {oj : Oper} (is : List Nat) (hi : ops[i]? = some ⟨some d, op, ty, ps, af, some (j, b)⟩) (hj : ops[j]? = some oj) (hjd : oj.dst = some e) (he : get m e = some (.bool b')) (hb : (b' == b) = false) (hB : firstB ops listed i = true) (hl : listed.setIfInBounds i true = listed') (hK : Sel is L K)
    (hd : Nat.blt d n = true) (h : RJ P ops Q c n K f listed' ((d, undef) :: m) L) : RJ P ops Q c n K (f + 1) listed m L := fun a w ha hw => by
  subst hl
  simp only [firstB, Bool.and_eq_true] at hB
  exact wpI_first (oi := ⟨some d, op, ty, ps, af, some (j, b)⟩) (v := undef) hi (Region.noSelect_spec hB.1.1) f listed a w (hw.sel hK) (Region.free_spec hi hB.2) (by simpa using hB.1.2)
    (.inr ⟨by simp [Region.wanted, yielded, hj, hjd, ha.2.2 e _ he]; simpa using hb, rfl⟩) (fun _ _ => trivial) (fun w => Classical.em _) (h _ _ (ha.put hd undef) hw)

/-- a state that is reached on several roads -/
theorem RJ.hold {X : Type} (f' : Nat) (listed' : Array Bool) (mI : X → List (Nat × Value)) (LI : X → List Asn) (h : ∀ x, RJ P ops Q c n K f' listed' (mI x) (LI x))
    (h2 : (∀ x, RJ P ops Q c n K f' listed' (mI x) (LI x)) → RJ P ops Q c n K f listed m L) : RJ P ops Q c n K f listed m L := h2 h

/-- the next operation -/
def RO (P : Program) (ops : Array Oper) (Q : Exit → Act → World → Prop) (c : Cx) (n : Nat) (K : List Asn) (f : Nat) (listed : Array Bool) (m : List (Nat × Value)) (L : List Asn) (i : Nat) : Prop :=
  ∀ a w, Has n a m → St c w L → wpOp P ops (fun _ _ _ => False) i (wpI P ops (fun w => St c w K) (fun a w => St c w K ∧ Q .normal a w) f (listed.setIfInBounds i true)) a w

theorem RJ.step1 (i : Nat) (is : List Nat) (hr : Region.ready .any ops listed = [i]) (hK : Sel is L K) (h : RO P ops Q c n K f listed m L i) : RJ P ops Q c n K (f + 1) listed m L := fun a w ha hw =>
  ⟨hw.sel hK, by rw [hr]; exact List.cons_ne_nil _ _, fun j hj => by
    rw [hr, List.mem_singleton] at hj
    subst hj
    exact h a w ha hw⟩
theorem RJ.step2 (i j : Nat) (is : List Nat) (hr : Region.ready .any ops listed = [i, j]) (hK : Sel is L K) (h : RO P ops Q c n K f listed m L i) (h' : RO P ops Q c n K f listed m L j) : RJ P ops Q c n K (f + 1) listed m L := fun a w ha hw =>
  ⟨hw.sel hK, by rw [hr]; exact List.cons_ne_nil _ _, fun k hk => by
    rw [hr] at hk
    rcases List.mem_cons.1 hk with rfl | hk
    · exact h a w ha hw
    · rcases List.mem_cons.1 hk with rfl | hk
      · exact h' a w ha hw
      · cases hk⟩
theorem RJ.step3 (i j k : Nat) (is : List Nat) (hr : Region.ready .any ops listed = [i, j, k]) (hK : Sel is L K) (h : RO P ops Q c n K f listed m L i) (h' : RO P ops Q c n K f listed m L j) (h'' : RO P ops Q c n K f listed m L k) : RJ P ops Q c n K (f + 1) listed m L := fun a w ha hw =>
  ⟨hw.sel hK, by rw [hr]; exact List.cons_ne_nil _ _, fun x hx => by
    rw [hr] at hx
    rcases List.mem_cons.1 hx with rfl | hx
    · exact h a w ha hw
    · rcases List.mem_cons.1 hx with rfl | hx
      · exact h' a w ha hw
      · rcases List.mem_cons.1 hx with rfl | hx
        · exact h'' a w ha hw
        · cases hx⟩

/-- a single operation walked as a list of one -/
def EndK (K : Act → World → Prop) : Exit → Act → World → Prop
  | .normal, a, w => K a w
  | _, _, _ => False

theorem RO.of {i : Nat} {o : Oper} {listed' : Array Bool} (hi : ops[i]? = some o) (hl : listed.setIfInBounds i true = listed')
    (h : SJ P ops (EndK (wpI P ops (fun w => St c w K) (fun a w => St c w K ∧ Q .normal a w) f listed')) c n [o] m L) : RO P ops Q c n K f listed m L i := fun a w ha hw => by
  subst hl
  have h1 := h a w ha hw
  unfold wpList at h1
  unfold wpOp
  simp only [hi]
  have hno : ¬ LetsOut (EndK (wpI P ops (fun w => St c w K) (fun a w => St c w K ∧ Q .normal a w) f (listed.setIfInBounds i true))) := fun ⟨_, _, h⟩ => h
  split
  · rename_i hwt
    rw [if_pos hwt] at h1
    rcases h1 with h1 | ⟨_, h1⟩
    · left
      unfold Oper.wp at *
      generalize (execOp a.eval o).run P w = r at *
      cases r with
      | ok x w' =>
        cases x <;> simp only [Oper.upon] at h1 ⊢
        case value u => exact h1
        case skip => exact h1
        case defer d => exact h1
        case enter f args =>
          refine h1.mono fun e w'' he => ?_
          cases e with
          | returned u => exact he
          | panicked ch => exact he.elim
          | outgrown => exact (hno he).elim
        case row row args => exact h1
      | halt x w' => cases x <;> first | exact h1 | exact h1.elim
    · exact (hno h1).elim
  · rename_i hwt
    rw [if_neg hwt] at h1
    exact h1

theorem PJ.draw (h : RJ P ops Q c n K f listed m L) : PJ (EndK (wpI P ops (fun w => St c w K) (fun a w => St c w K ∧ Q .normal a w) f listed)) c n .normal m L := fun a w ha hw => h a w ha hw
end

theorem RdS.cells1 {α : Type} {w : World} {F : Nat → Prop} {v : Value} {R : Rp α} {l : List α} (h : RdS w F v R l) : v.cells.toList = [v] := by
  obtain ⟨a, c, rfl, _⟩ := h
  rfl

/-! A call that may change one thing that is owned, beside others that it reads. -/
section
variable {P : Program} {Q : Exit → Act → World → Prop} {c : Cx} {n : Nat} {m : List (Nat × Value)} {L L' : List Asn} {ops : Array Oper} {l : List Oper} {v : Value}

def Beside (L : List Asn) (k : Nat) (w : World) (S : Nat → Prop) : Prop := ∀ j B, L[j]? = some B → j ≠ k → ∃ T : Nat → Prop, B.holds w T ∧ ∀ b, T b → ¬ S b

theorem St.out2 {w : World} (h : St c w L) {k : Nat} {A : Asn} (hk : L[k]? = some A) :
    ∃ (S : Nat → Prop) (fp : Nat → Nat → Prop), A.holds w S ∧ (∀ b, S b → c.Ow b) ∧ Sep c.Ow w (L.eraseIdx k) fp ∧ (∀ i b, i < (L.eraseIdx k).length → fp i b → ¬ S b) ∧ Beside L k w S := by
  obtain ⟨hb, fp, h1⟩ := h
  have hkl := lt_of_some hk
  have hle : (L.eraseIdx k).length + 1 = L.length := by rw [List.length_eraseIdx]; simp [hkl]; omega
  have lt : ∀ i, i < (L.eraseIdx k).length → (if i < k then i else i + 1) < L.length := fun i hi => by split <;> omega
  have ne : ∀ i, (if i < k then i else i + 1) ≠ k := fun i => by split <;> omega
  refine ⟨fp k, fun i => fp (if i < k then i else i + 1), h1.holds k A hk, fun b => h1.own k b hkl, ⟨fun i C hi => ?_, fun i j b hi hj hib hjb => ?_, fun i b hi hib => h1.own _ b (lt i hi) hib⟩, fun i b hi hib hks => ne i (h1.dis _ k b (lt i hi) hkl hib hks),
    fun j B hj hne => ⟨fp j, h1.holds j B hj, fun b hb hs => hne (h1.dis j k b (lt_of_some hj) hkl hb hs)⟩⟩
  · refine h1.holds _ C ?_
    rw [List.getElem?_eraseIdx] at hi
    rw [← hi]
    split <;> rfl
  · have e := h1.dis _ _ b (lt i hi) (lt j hj) hib hjb
    split at e <;> split at e <;> omega

theorem SJ.call2 {d : Nat} {ty : TypeId} {ps : String} {af : Array Edge} {f : FuncId} {xs : List Operand} {ts : Array TypeId} {vs : List Value} {T : Value → List Asn → Prop} {k : Nat} {A : Asn} (hk : L[k]? = some A) (hf : ∀ (as : Array Value) w, (callFunc f as).run P w = .ok (.enter f as) w) (hx : evs m xs = some vs)
    (hc : ∀ w S, St c w L → A.holds w S → (∀ b, S b → c.Ow b) → Beside L k w S → Calls P f vs.toArray w (RetG ⟨w, S⟩ T)) (hd : Nat.blt d n = true) (h : ∀ v L', T v L' → SJ P ops Q c n l ((d, v) :: m) (L' ++ L.eraseIdx k)) :
    SJ P ops Q c n (⟨some d, .call { callee := .value (.func f), args := xs.toArray, argTypes := ts }, ty, ps, af, none⟩ :: l) m L := fun a w ha hw => by
  have h1 := ha.evs hx
  have h2 : (execOp a.eval ⟨some d, .call { callee := .value (.func f), args := xs.toArray, argTypes := ts }, ty, ps, af, none⟩).run P w = .ok (.enter f vs.toArray) w := by
    simp [execOp, resolve, Act.eval, Deferred.ofValue, invoke, ← h1, hf]
  unfold wpList
  simp only [Region.wanted, if_true]
  refine .inl ?_
  unfold Oper.wp
  rw [h2]
  obtain ⟨S, fp, hA, hOw, hsep, hdis, hB⟩ := hw.out2 hk
  exact (hc w S hw hA hOw hB).mono fun e w' ⟨v, L', he, hT, hst⟩ => by
    subst he
    exact h v L' hT _ _ (ha.put hd v) (St.join1 hw hsep hOw hdis hst)

theorem Beside.row_rd {α : Type} {w : World} {S : Nat → Prop} {k j : Nat} {t : TypeId} {R : FRp α} {ls : List α} (h : Beside L k w S) (hj : L[j]? = some (row v t R ls)) (hne : Nat.beq j k = false) : RdS w (Cx.Fz ⟨w, S⟩) v R.rp ls := by
  obtain ⟨T, hB, hd⟩ := h j _ hj (fun e => by subst e; simp at hne)
  exact YtppdmciboalhfaaDoor.row_rd hB (fun b hb => ⟨(row v t R ls).foot hB b hb, hd b hb⟩)

theorem box_at' {w : World} {S F : Nat → Prop} {g : Nat} {t : TypeId} {cs : List Value} (h : (box g t cs).holds w S) (hF : ∀ b, S b → F b) : At w F ⟨g, 0, none⟩ cs := fun j u hu => by
  have hadd : (⟨g, 0, none⟩ : Addr).add j = ⟨g, 0 + j, none⟩ := by unfold Addr.add; split <;> simp_all
  exact ⟨hF _ ((h.2 g).2 rfl), by rw [hadd, cell_of_row w g (0 + j) _ t _ h.1, Nat.zero_add]; simpa using hu⟩
theorem St.box_at {w : World} {k g : Nat} {t : TypeId} {cs : List Value} (hw : St c w L) (hk : L[k]? = some (box g t cs)) : At w (cx w).Fz ⟨g, 0, none⟩ cs := by
  obtain ⟨S, hA, _⟩ := hw.at hk
  exact box_at' hA (fun b hb => ⟨(box g t cs).foot hA b hb, fun h => h⟩)
theorem Beside.box_at {w : World} {S : Nat → Prop} {k j g : Nat} {t : TypeId} {cs : List Value} (h : Beside L k w S) (hj : L[j]? = some (box g t cs)) (hne : Nat.beq j k = false) : At w (Cx.Fz ⟨w, S⟩) ⟨g, 0, none⟩ cs := by
  obtain ⟨T, hB, hd⟩ := h j _ hj (fun e => by subst e; simp at hne)
  exact box_at' hB (fun b hb => ⟨(box g t cs).foot hB b hb, hd b hb⟩)
theorem At.st1 {S : Nat → Prop} {w : World} {ad : Addr} {cs : List Value} (h : At c.w0 c.Fz ad cs) (hw : St c w L) (hS : ∀ b, S b → c.Ow b) : At w (Cx.Fz ⟨w, S⟩) ad cs :=
  h.mono (fun _ hb => ⟨Nat.lt_of_lt_of_le hb.1 hw.chg.size, fun hs => Cx.apart hb (hS _ hs)⟩) (fun b hb => hw.frozen b hb)
end

section
variable {P : Program} {n : Nat} {m : List (Nat × Value)} {C : World → Prop} {dd : Option Tmp} {ty : TypeId} {ps : String} {af : Array Edge} {gd : Option (Nat × Bool)}
theorem y_quo8 {x y : Operand} {xt yt : TypeId} {a : UInt8} {j : Int} (hx : ev m x = some (.int .u8 a.toNat)) (hy : ev m y = some (.int .u8 j)) (hj : j ≠ 0) :
    YldS P n m C ⟨dd, .binOp .quo xt x y yt, ty, ps, af, gd⟩ (.int .u8 (UInt8.ofInt ((a.toNat : Int).tdiv j)).toNat) := by
  rw [← wrap_u8]
  exact y_quo hx hy hj
theorem y_rem8 {x y : Operand} {xt yt : TypeId} {a : UInt8} {j : Int} (hx : ev m x = some (.int .u8 a.toNat)) (hy : ev m y = some (.int .u8 j)) (hj : 0 < j) :
    YldS P n m C ⟨dd, .binOp .rem xt x y yt, ty, ps, af, gd⟩ (.int .u8 (UInt8.ofInt ((a.toNat : Int).tmod j)).toNat) := by
  have h1 : ((UInt8.ofInt ((a.toNat : Int).tmod j)).toNat : Int) = (a.toNat : Int).tmod j := by
    rw [← wrap_u8]
    have h2 : IntKind.u8.wrap ((a.toNat : Int).tmod j) = ((a.toNat : Int).tmod j) % 256 := by simp [IntKind.wrap, IntKind.bits, IntKind.signed]
    have h3 : a.toNat < 256 := a.toNat_lt
    obtain ⟨k, rfl⟩ := Int.eq_ofNat_of_zero_le (by omega : 0 ≤ j)
    have h4 : (a.toNat : Int).tmod (k : Int) = ((a.toNat % k : Nat) : Int) := by rw [Int.tmod_eq_emod_of_nonneg (by omega)]; rfl
    have h5 := Nat.mod_le a.toNat k
    rw [h2, h4]
    omega
  rw [h1]
  exact y_rem hx hy (by omega)
end

/-! A string that is appended to bytes that are owned. -/
section
variable {P : Program} {Q : Exit → Act → World → Prop} {c : Cx} {n : Nat} {m : List (Nat × Value)} {L L' : List Asn} {ops : Array Oper} {l : List Oper} {v : Value}

theorem own_string_at (w : World) (t u ty e : TypeId) (i : TypeInfo) (ht : P.underlying t = some (.slice e)) (hu : P.underlying u = some .string) (hi : P.info? e = some i) (hz : i.zero = some (.int .u8 0))
    (hsize : i.size = 1) (hby : i.bytes = 1) (v : Value) (n : Nat) (xs : List Value) (hown : w.ownsRow 0 e 1 v n xs) (s : ByteArray) (h63 : n + s.size ≤ maxLen) (hbytes : n + s.size ≤ 140737488355328) :
    ∃ v' w', (Builtin.append_ #[t, u] ty #[v, .string s]).run P w = .ok v' w' ∧ w'.ownsRow 0 e 1 v' (n + s.size) (xs ++ Lib.strCells s) ∧ w.grownBy w' v.ownBlock ∧
      (v'.ownBlock = v.ownBlock ∨ v'.ownBlock = none ∨ v'.ownBlock = some w.heap.size) := by
  have hsmall : n + s.size ≤ 9223372036854775807 := by simp only [maxLen] at h63; omega
  have hxl : xs.length = n := by simpa using hown.1
  obtain ⟨v', w', hr, h2, h3, h4⟩ := Lib.run_append_own_string (P := P) w 0 t u ty e i ht hu hi hz hsize hby v n xs hown s h63 hbytes (Nat.zero_le _)
  refine ⟨v', w', hr, h2, h3, ?_⟩
  rcases hown.2 with ⟨rfl, rfl⟩ | ⟨g, cap, cur, rfl, hbg, hg, hnc, hcm, hcs, htake⟩
  · by_cases hm : s.size = 0
    · exact .inl (by rw [h4.2 ⟨rfl, hm⟩])
    · have hr2 := run_append_nil_string (P := P) w t u ty e i (.int .u8 0) ht hu hi hz s (by omega) (by omega) (by rw [hby]; omega)
      rw [hr] at hr2
      injection hr2 with e1 e2
      subst e1
      exact .inr (.inr rfl)
  · by_cases hroom : n + s.size ≤ cap
    · have hr2 := Lib.run_append_room_string (P := P) w t u ty e i ht hu hi hsize g n cap cur hg s hroom (by omega)
      rw [hr] at hr2
      injection hr2 with e1 e2
      subst e1
      exact .inl rfl
    · have holds : ∀ j u, xs[j]? = some u → w.cell? ((⟨g, 0, none⟩ : Addr).add j) = some u := hown.cells (g := g) rfl
      have hr2 := Lib.run_append_grow_string (P := P) w t u ty e i (.int .u8 0) ht hu hi hz ⟨g, 0, none⟩ n cap xs (by rw [hsize]; simpa using hxl) holds s (by omega) (by omega) (by rw [hby]; exact growslice_fits (by omega) (by omega))
      rw [hr] at hr2
      injection hr2 with e1 e2
      subst e1
      exact .inr (.inr rfl)

def Elem8 (P : Program) (e : TypeId) : Prop := ∃ i, P.info? e = some i ∧ i.zero = some (.int .u8 0) ∧ i.size = 1 ∧ i.bytes = 1

theorem encs_str (ys : List UInt8) : encs fByte ys = Lib.strCells ⟨ys.toArray⟩ := by
  induction ys with
  | nil => rfl
  | cons a r ih => simp [encs, fByte, Lib.strCells] at ih ⊢; exact ih

theorem SJ.appendStr {d : Nat} {ty : TypeId} {ps : String} {af : Array Edge} {e t u : TypeId} {s x : Operand} {k : Nat} {xs ys zs : List UInt8} (ha' : app xs ys = some zs) (hk : L[k]? = some (row v e fByte xs)) (ht : P.underlying t = some (.slice e)) (hu : P.underlying u = some .string) (he : Elem8 P e)
    (hs : ev m s = some v) (hx : ev m x = some (str ys)) (hd : Nat.blt d n = true)
    (h : ∀ v', SJ P ops Q c n l ((d, v') :: m) (L.set k (row v' e fByte zs))) :
    SJ P ops Q c n (⟨some d, .call { callee := .builtin .append, args := #[s, x], argTypes := #[t, u] }, ty, ps, af, none⟩ :: l) m L :=
  SJ.x (T := fun v' L' => L' = L.set k (row v' e fByte zs)) (fun a w ha hw => by
    obtain ⟨i, hi, hz, hsz, hby⟩ := he
    unfold app at ha'
    split at ha'
    case isFalse => cases ha'
    rename_i hb
    obtain rfl := Option.some.inj ha'
    unfold LIM at hb
    obtain ⟨S, hA, hOw, hset⟩ := hw.set hk
    have hsize : (⟨ys.toArray⟩ : ByteArray).size = ys.length := by show ys.toArray.size = _; simp
    obtain ⟨v', w', hr, ho, hg, hwh⟩ := own_string_at (P := P) w t u ty e i ht hu hi hz hsz hby v _ _ hA.1 ⟨ys.toArray⟩ (by rw [hsize]; unfold maxLen; omega) (by rw [hsize]; omega)
    refine ⟨v', w', _, by simp [execOp, ha.ev hs, ha.ev hx, resolve, invoke, builtin, str, hr], rfl, ?_⟩
    refine hset w' _ (fun b => v'.ownBlock = some b) ⟨hg.os, hg.tape, hg.output, hg.size, fun b hb hn => hg.block b hb (fun e => hn ((hA.2 b).2 e.symm))⟩ ⟨?_, fun b => Iff.rfl⟩ (fun b hb => ?_)
    · rw [encs_append, encs_str ys, List.length_append, ← hsize]; exact ho
    · rcases hwh with hwh | hwh | hwh
      · exact .inl ((hA.2 b).2 (hwh ▸ hb))
      · rw [hwh] at hb; cases hb
      · rw [hwh] at hb; right; have := Option.some.inj hb; omega) hd
    (fun v L' hT => by subst hT; exact h v)
end

/-! A string made into bytes of its own: a row that bears a mark behind its cells. -/

def rowM {α : Type} (v : Value) (t : TypeId) (R : FRp α) (l : List α) : Asn where
  holds w S := (∃ g cap cur k, v = .slice (some ⟨g, 0, none⟩) l.length cap ∧ w.heap[g]? = some (.cells cur t (cap * R.size, k)) ∧ l.length ≤ cap ∧ cap ≤ maxLen ∧ cur.size = cap * R.size ∧ cur.toList.take (l.length * R.size) = encs R l) ∧ ∀ b, S b ↔ v.ownBlock = some b
  loc {w w' S} h k := ⟨by
    obtain ⟨⟨g, cap, cur, e, rfl, hg, rest⟩, h2⟩ := h
    exact ⟨g, cap, cur, e, rfl, by rw [k g ((h2 g).2 rfl)]; exact hg, rest⟩, h.2⟩
  foot h b hb := by
    obtain ⟨⟨g, cap, cur, e, rfl, hg, rest⟩, h2⟩ := h
    have := (h2 b).1 hb
    simp [Value.ownBlock] at this
    subst this
    exact (Array.getElem?_eq_some_iff.1 hg).1

theorem rowM_at {α : Type} {v : Value} {t : TypeId} {R : FRp α} {l : List α} {w : World} {S : Nat → Prop} (h : (rowM v t R l).holds w S) :
    ∃ g cap cur k, v = .slice (some ⟨g, 0, none⟩) l.length cap ∧ w.heap[g]? = some (.cells cur t (cap * R.size, k)) ∧ S g ∧ l.length ≤ cap ∧ cap ≤ maxLen ∧ cur.size = cap * R.size ∧ cur.toList.take (l.length * R.size) = encs R l ∧
      ∀ (i : Nat) (x : α), l[i]? = some x → ∀ j u, (R.enc x)[j]? = some u → cur[i * R.size + j]? = some u := by
  obtain ⟨⟨g, cap, cur, e, rfl, hg, hc1, hc2, hs, ht⟩, h2⟩ := h
  refine ⟨g, cap, cur, e, rfl, hg, (h2 g).2 rfl, hc1, hc2, hs, ht, fun i x hx j u hu => ?_⟩
  have h3 := encs_get R l i x hx j u hu
  rw [← ht, List.getElem?_take] at h3
  split at h3
  · simpa using h3
  · cases h3

theorem rowM_rd {α : Type} {v : Value} {t : TypeId} {R : FRp α} {l : List α} {w : World} {S F : Nat → Prop} (h : (rowM v t R l).holds w S) (hF : ∀ b, S b → F b) : RdS w F v R.rp l := by
  obtain ⟨g, cap, cur, e, rfl, hg, hS, h1, h2, _, _, hcell⟩ := rowM_at h
  refine ⟨_, cap, rfl, h1, h2, fun i x hx => ?_⟩
  refine ⟨_, R.enc x, rfl, rfl, fun j u hu => ⟨by rw [block_of_add]; exact hF _ hS, ?_⟩⟩
  rw [add_of_add]
  have hadd : (⟨g, 0, none⟩ : Addr).add (i * R.rp.size + j) = ⟨g, i * R.rp.size + j, none⟩ := by unfold Addr.add; split <;> simp_all
  rw [hadd, cell_of_row w g _ cur t _ hg]
  exact hcell i x hx j u hu

theorem St.rowM_rd {α : Type} {c : Cx} {w : World} {L : List Asn} {k : Nat} {v : Value} {t : TypeId} {R : FRp α} {l : List α} (hw : St c w L) (hk : L[k]? = some (rowM v t R l)) : RdS w (cx w).Fz v R.rp l := by
  obtain ⟨S, hA, _⟩ := hw.at hk
  exact YtppdmciboalhfaaDoor.rowM_rd hA (fun b hb => ⟨(rowM v t R l).foot hA b hb, fun h => h⟩)

theorem Beside.rowM_rd {α : Type} {L : List Asn} {w : World} {S : Nat → Prop} {k j : Nat} {t : TypeId} {v : Value} {R : FRp α} {ls : List α} (h : Beside L k w S) (hj : L[j]? = some (rowM v t R ls)) (hne : Nat.beq j k = false) : RdS w (Cx.Fz ⟨w, S⟩) v R.rp ls := by
  obtain ⟨T, hB, hd⟩ := h j _ hj (fun e => by subst e; simp at hne)
  exact YtppdmciboalhfaaDoor.rowM_rd hB (fun b hb => ⟨(rowM v t R ls).foot hB b hb, hd b hb⟩)

theorem run_storeCells_atM (P : Program) (g o : Nat) (t : TypeId) (fz : Nat × Nat) : ∀ (vs : List Value) (i : Nat) (cur : Array Value) (w : World), w.heap[g]? = some (.cells cur t fz) → o + i + vs.length ≤ fz.1 → o + i + vs.length ≤ cur.size → (∀ v ∈ vs, v.oneCell' = true) →
    (storeCells ⟨g, o, none⟩ vs i).run P w = .ok () (w.setRow g (cur.toList.take (o + i) ++ vs ++ cur.toList.drop (o + i + vs.length)).toArray)
  | [], i, cur, w, hg, _, _, _ => by
    simp only [storeCells, List.append_nil, List.length_nil, Nat.add_zero, List.take_append_drop, Array.toArray_toList]
    rw [setRow_self w g cur t fz hg]
    rfl
  | v :: rest, i, cur, w, hg, hfz, hl, h1 => by
    have hi : o + i < cur.size := by simp at hl; omega
    have hadd : (⟨g, o, none⟩ : Addr).add i = ⟨g, o + i, none⟩ := by unfold Addr.add; split <;> simp_all
    have hcell : w.cell? ⟨g, o + i, none⟩ = some cur[o + i] := by simp [World.cell?, hg, hi]
    have hfro : w.frozen? ⟨g, o + i, none⟩ = false := by
      obtain ⟨lo, hi'⟩ := fz
      simp only [World.frozen?, hg, Bool.and_eq_false_iff, decide_eq_false_iff_not]
      left
      simp only [List.length_cons] at hfz
      omega
    have hst : (store ((⟨g, o, none⟩ : Addr).add i) v).run P w = .ok () (w.setRow g (cur.setIfInBounds (o + i) v)) := by
      rw [hadd, run_store P w _ v _ (h1 v (by simp)), hcell]
      simp [hfro, setCell_eq_setRow w g (o + i) cur t fz v hg]
    have ih := run_storeCells_atM P g o t fz rest (i + 1) (cur.setIfInBounds (o + i) v) (w.setRow g (cur.setIfInBounds (o + i) v)) (setRow_heap w g cur _ t _ hg) (by simp at hfz; omega) (by simp at hl ⊢; omega) (fun x hx => h1 x (by simp [hx]))
    simp only [storeCells, Sem.run_bind, hst, Result.andThen_ok, ih, setRow_setRow]
    congr 3
    have e := list_seg_step cur.toList (o + i) v rest (by simp at hl ⊢; omega)
    simpa [Array.toList_setIfInBounds, Nat.add_assoc] using e

section
variable {P : Program} {Q : Exit → Act → World → Prop} {c : Cx} {n : Nat} {m : List (Nat × Value)} {L : List Asn} {ops : Array Oper} {l : List Oper} {v : Value}
variable {d : Nat} {ty : TypeId} {ps : String} {af : Array Edge} {dd : Option Tmp} {gd : Option (Nat × Bool)}
variable {α : Type} {R : FRp α} {xs ys : List α} {e : TypeId}

theorem y_lenRowM {x : Operand} {t e' : TypeId} {k : Nat} (hk : L[k]? = some (rowM v e R xs)) (ht : ∀ w, (underlying t).run P w = .ok (.slice e') w) (hx : ev m x = some v) :
    YldS P n m (fun w => St c w L) ⟨dd, .call { callee := .builtin .len, args := #[x], argTypes := #[t] }, ty, ps, af, gd⟩ (.int .i64 xs.length) :=
  .of_run fun a ha w hw => by
    obtain ⟨S, hA, _⟩ := hw.at hk
    obtain ⟨g, cap, cur, _, rfl, _⟩ := rowM_at hA
    simp [execOp, ha.ev hx, resolve, invoke, builtin, Builtin.len_, ht, goInt]

theorem y_ixRowM {s j : Operand} {t : TypeId} {k : Nat} {kd : IntKind} {i : Int} {x : α} (hk : L[k]? = some (rowM v e R xs)) (ht : ∀ w, (underlying t).run P w = .ok (.slice e) w) (hs : ∀ w, (sizeOf e).run P w = .ok R.size w)
    (hx : ev m s = some v) (hj : ev m j = some (.int kd i)) (hi : idx xs i = some x) :
    YldS P n m (fun w => St c w L) ⟨dd, .indexAddr t s j, ty, ps, af, gd⟩ (rowAt v (i.toNat * R.size)) :=
  .of_run fun a ha w hw => by
    obtain ⟨S, hA, _⟩ := hw.at hk
    unfold idx at hi
    split at hi
    · rename_i h0
      obtain ⟨g, cap, cur, _, rfl, _⟩ := rowM_at hA
      have hlt := lt_of_some hi
      have hadd : (⟨g, 0, none⟩ : Addr).add (i.toNat * R.size) = ⟨g, i.toNat * R.size, none⟩ := by unfold Addr.add; split <;> simp_all
      simp [execOp, ha.ev hx, ha.ev hj, Instr.indexAt, asIntOf, ht, hs, h0, hadd, rowAt, pt, Value.ownBlock]
      intro h4; omega
    · cases hi

theorem y_loadRM {x : Operand} {t : TypeId} {k i off : Nat} {y : α} {u : Value} (hk : L[k]? = some (rowM v e R xs)) (hg : ∀ w, (isAgg t).run P w = .ok false w) (hx : ev m x = some (rowAt v (i * R.size + off))) (hi : xs[i]? = some y)
    (hc : (R.enc y)[off]? = some u) : YldS P n m (fun w => St c w L) ⟨dd, .load t x, ty, ps, af, gd⟩ u :=
  .of_run fun a ha w hw => by
    obtain ⟨S, hA, _⟩ := hw.at hk
    obtain ⟨g, cap, cur, _, rfl, hgg, _, _, _, _, _, hcell⟩ := rowM_at hA
    have h3 : w.cell? ⟨g, i * R.size + off, none⟩ = some u := by rw [cell_of_row w g _ _ e _ hgg]; exact hcell i y hi off u hc
    simp [execOp, ha.ev hx, Instr.loadAt, Instr.sureAddr, loadVar, hg, h3, pt, rowAt, Value.ownBlock]

theorem SJ.storeRLM {x y : Operand} {t' : TypeId} {u : Value} {us : List Value} {k i off : Nat} {a b : α} (hk : L[k]? = some (rowM v e R xs)) (hx : ev m x = some (rowAt v (i * R.size + off))) (hi : xs[i]? = some a)
    (hy : ev m y = some u) (hus : u.cells.toList = us) (hs : ∀ w, (sizeOf t').run P w = .ok us.length w) (hl' : Nat.ble (off + us.length) R.size = true) (h1' : us.all Value.oneCell' = true) (hb : R.enc b = putL (R.enc a) off us)
    (h : SJ P ops Q c n l m (L.set k (rowM v e R (xs.set i b)))) : SJ P ops Q c n (⟨none, .store t' x y, ty, ps, af, none⟩ :: l) m L :=
  SJ.u (fun ac w ha hw => by
    have hl := Nat.le_of_ble_eq_true hl'
    have h1 : ∀ v ∈ us, v.oneCell' = true := fun v hv => List.all_eq_true.1 h1' v hv
    obtain ⟨S, hA, _, hset⟩ := hw.set hk
    obtain ⟨g, cap, cur, kk, rfl, hgg, hS, hc1, hc2, hcs, htake, _⟩ := rowM_at hA
    have hlt := lt_of_some hi
    have hle : i * R.size + off + us.length ≤ xs.length * R.size := by
      have : (i + 1) * R.size ≤ xs.length * R.size := Nat.mul_le_mul_right _ hlt
      rw [Nat.add_mul] at this
      omega
    have hle2 : xs.length * R.size ≤ cap * R.size := Nat.mul_le_mul_right _ hc1
    have hr0 := run_storeCells_atM P g (i * R.size + off) e (cap * R.size, kk) u.cells.toList 0 cur w hgg (by rw [hus]; show _ ≤ cap * R.size; omega) (by rw [hus]; omega) (by rw [hus]; exact h1)
    have hr : (storeVar t' ⟨g, i * R.size + off, none⟩ u).run P w = .ok () (w.setRow g (putL cur.toList (i * R.size + off) us).toArray) := by
      subst hus
      simp only [Nat.add_zero] at hr0
      simp [storeVar, hs, hr0, putL]
    refine ⟨w.setRow g (putL cur.toList (i * R.size + off) us).toArray, by simp [execOp, ha.ev hx, ha.ev hy, Instr.storeAt, Instr.sureAddr, pt, rowAt, Value.ownBlock, hr], ?_⟩
    refine hset _ _ S (setRow_chg w g _ hS) ⟨⟨g, cap, _, kk, by simp, setRow_heap w g _ _ e _ hgg, by simpa using hc1, hc2, ?_, ?_⟩, hA.2⟩ (fun b hb => .inl hb)
    · simp [length_putL (cs := cur.toList) (us := us) (off := i * R.size + off) (by simp; omega), hcs]
    · rw [encs_set R xs i a b off us hi hl hb, ← htake]
      simp only [List.length_set, putL, List.append_assoc]
      have h2 : (cur.toList.take (i * R.size + off)).length = i * R.size + off := by simp; omega
      rw [List.take_append, h2, List.take_append, List.take_take, List.take_take, List.drop_take]
      rw [Nat.min_eq_right (by omega), Nat.min_eq_left (by omega), List.take_of_length_le (l := us) (by omega)]
      congr 3
      omega) h

theorem encs_bytes (s : List UInt8) : (s.map fun b => Value.int .u8 b.toNat) = s.flatMap fun x => [Value.int .u8 x.toNat] := by
  induction s with
  | nil => rfl
  | cons a r ih => simp only [List.map_cons, List.flatMap_cons, ih]; rfl
theorem SJ.convBytes {x : Operand} {src dst : TypeId} {sd : TypeDesc} {s s' : List UInt8} (ha' : app ([] : List UInt8) s = some s') (hs : P.underlying src = some sd) (ht : P.underlying dst = some (.slice e)) (he : P.underlying e = some (.int .u8))
    (hx : ev m x = some (str s)) (hd : Nat.blt d n = true) (h : ∀ v, SJ P ops Q c n l ((d, v) :: m) (rowM v e fByte s' :: L)) :
    SJ P ops Q c n (⟨some d, .convert src dst x, ty, ps, af, none⟩ :: l) m L :=
  SJ.x (T := fun v L' => L' = rowM v e fByte s' :: L) (fun a w ha hw => by
    unfold app at ha'
    split at ha'
    case isFalse => cases ha'
    rename_i hb
    obtain rfl := Option.some.inj ha'
    unfold LIM at hb
    have hsize : (⟨s.toArray⟩ : ByteArray).size = s.length := by show s.toArray.size = _; simp
    have hr := Lib.run_convert_string_bytes (P := P) w src dst e ⟨s.toArray⟩ hs ht he
    have hge := grownCap_ge w (⟨s.toArray⟩ : ByteArray).size 0 e
    have hle := grownCap_le_maxLen w (⟨s.toArray⟩ : ByteArray).size 0 e (by rw [hsize]; unfold maxLen; simp at hb; omega)
    have hcs : (Lib.bytesCells w e ⟨s.toArray⟩).size = grownCap w (⟨s.toArray⟩ : ByteArray).size 0 e := by
      simp only [Lib.bytesCells, Array.size_append, Array.size_map, Array.size_replicate]
      rw [hsize] at hge ⊢
      show s.toArray.size + _ = _
      simp; omega
    rw [hsize] at hge hle hcs
    have hr2 : (convert src dst (str s)).run P w = .ok (.slice (some ⟨w.heap.size, 0, none⟩) s.length (grownCap w s.length 0 e)) (Lib.bytesWorld w e ⟨s.toArray⟩) := by
      rw [← hsize]; exact hr
    refine ⟨.slice (some ⟨w.heap.size, 0, none⟩) s.length (grownCap w s.length 0 e), Lib.bytesWorld w e ⟨s.toArray⟩, _, by simp only [execOp, ha.ev hx]; simp [hr2], rfl, ?_⟩
    have hsame : Same w (Lib.bytesWorld w e ⟨s.toArray⟩) := ⟨rfl, rfl, rfl, by rw [Lib.bytesWorld_size]; omega, fun b hb _ => Lib.bytesWorld_at_old w e _ b hb⟩
    have hnew : (rowM (.slice (some ⟨w.heap.size, 0, none⟩) s.length (grownCap w s.length 0 e)) e fByte ([] ++ s)).holds (Lib.bytesWorld w e ⟨s.toArray⟩) (fun b => b = w.heap.size) := by
      refine ⟨⟨w.heap.size, grownCap w s.length 0 e, Lib.bytesCells w e ⟨s.toArray⟩, grownCap w s.length 0 e + 1, by simp, ?_, by simpa using hge, hle, ?_, ?_⟩, fun b => by simp [Value.ownBlock]; exact eq_comm⟩
      · rw [Lib.bytesWorld_at_new, hcs]; simp [fByte]
      · rw [hcs]; simp [fByte]
      · have : (Lib.bytesCells w e ⟨s.toArray⟩).toList = (s.map fun b => Value.int .u8 b.toNat) ++ List.replicate (grownCap w s.length 0 e - s.length) (.int .u8 0) := by
          simp [Lib.bytesCells, hsize]
        rw [this]
        simp only [List.nil_append, encs, fByte, Nat.mul_one]
        rw [List.take_append_of_le_length (by simp), List.take_of_length_le (by simp)]
        exact encs_bytes s
    exact hw.new hsame hnew (fun b hb => by omega)) hd
    (fun v L' hT => by subst hT; exact h v)
end

/-! Zero elements appended to a row that is owned: 'append(s, make([]T, n)...)'. -/
section
variable {P : Program}
theorem wrapN (m : Nat) (h : m ≤ 1099511627776) : IntKind.i64.wrap (m : Int) = (m : Int) := by rw [IntKind.wrap_i64]; omega

theorem run_appendZ_nil (w : World) (t u ty e : TypeId) (i : TypeInfo) (z : Value) {k : IntKind} (ht : P.underlying t = some (.slice e)) (hu : P.underlying u = some (.int k)) (hi : P.info? e = some i) (hz : i.zero = some z)
    (m : Nat) (hm : m ≤ 1099511627776) (h0 : 0 < m) (hsz : 0 < i.size) (hby : i.bytes ≤ 128) :
    (Builtin.append_ #[t, u] ty #[.slice none 0 0, .int k (m : Int)]).run P w =
      .ok (.slice (some ⟨w.heap.size, 0, none⟩) m (grownCap w m 0 e)) (w.drew.alloc (.cells (Builtin.zeroCells z.cells m ++ Builtin.zeroCells z.cells (grownCap w m 0 e - m)) e)) := by
  have hw := wrapN m hm
  have hb : (m : Int) * (i.bytes : Int) ≤ m * 128 := Int.mul_le_mul_of_nonneg_left (by omega) (by omega)
  have hb' : m * i.bytes ≤ m * 128 := Nat.mul_le_mul_left _ hby
  have h1 : ¬ ((m : Int) < 0) := by omega
  have h2 : ¬ (281474976710656 < (m : Int) * (i.bytes : Int)) := by omega
  have h3 : m ≠ 0 := by omega
  have h4 : ¬ (9223372036854775807 < (m : Int)) := by omega
  have h5 : ¬ (281474976710656 < Builtin.nextslicecap m 0 * i.bytes) := by rw [nextslicecap_zero h0]; omega
  have h6 : ¬ (m * i.size = 0) := Nat.mul_ne_zero h3 (by omega)
  simp [Builtin.append_, run_underlying ht, run_underlying hu, sizeOf, typeInfo, zeroValue, hi, hz, asInt, asIntOf, hw, h1, h2, h3, h4, h5, h6, Question.forced, run_firstCells_none, newRow, grownCap]

theorem run_appendZ_zero (w : World) (t u ty e : TypeId) (i : TypeInfo) {k : IntKind} (ht : P.underlying t = some (.slice e)) (hu : P.underlying u = some (.int k)) (hi : P.info? e = some i) (v : Value) (n : Nat) (xs : List Value) (size : Nat) (hown : w.ownsRow 0 e size v n xs) :
    (Builtin.append_ #[t, u] ty #[v, .int k 0]).run P w = .ok v w := by
  have hw : IntKind.i64.wrap 0 = 0 := by decide
  rcases hown.2 with ⟨rfl, rfl⟩ | ⟨g, cap, cur, rfl, _, _, hnc, _⟩
  · simp [Builtin.append_, run_underlying ht, run_underlying hu, sizeOf, typeInfo, hi, asInt, asIntOf, hw]
  · simp [Builtin.append_, run_underlying ht, run_underlying hu, sizeOf, typeInfo, hi, asInt, asIntOf, hw, hnc, storeCells]

theorem run_appendZ_room (w : World) (t u ty e : TypeId) (i : TypeInfo) (z : Value) {k : IntKind} (ht : P.underlying t = some (.slice e)) (hu : P.underlying u = some (.int k)) (hi : P.info? e = some i) (hz : i.zero = some z)
    (g sLen sCap : Nat) (cur : Array Value) (hg : w.heap[g]? = some (.cells cur e (0, 0))) (m : Nat) (hm : m ≤ 1099511627776) (h0 : 0 < m) (hsz : 0 < i.size) (hby : i.bytes ≤ 128) (hzs : z.cells.size = i.size) (h1 : ∀ u ∈ (Builtin.zeroCells z.cells m).toList, u.oneCell' = true)
    (hroom : sLen + m ≤ sCap) (hfit : sLen * i.size + m * i.size ≤ cur.size) :
    (Builtin.append_ #[t, u] ty #[.slice (some ⟨g, 0, none⟩) sLen sCap, .int k (m : Int)]).run P w =
      .ok (.slice (some ⟨g, 0, none⟩) (sLen + m) sCap) (w.setRow g (cur.toList.take (sLen * i.size) ++ (Builtin.zeroCells z.cells m).toList ++ cur.toList.drop (sLen * i.size + (Builtin.zeroCells z.cells m).toList.length)).toArray) := by
  have hw := wrapN m hm
  have hb : (m : Int) * (i.bytes : Int) ≤ m * 128 := Int.mul_le_mul_of_nonneg_left (by omega) (by omega)
  have g1 : ¬ ((m : Int) < 0) := by omega
  have g2 : ¬ (281474976710656 < (m : Int) * (i.bytes : Int)) := by omega
  have g3 : m ≠ 0 := by omega
  have g6 : ¬ (m * i.size = 0) := Nat.mul_ne_zero g3 (by omega)
  have hst := run_storeCells_at P g (sLen * i.size) e (Builtin.zeroCells z.cells m).toList 0 cur w hg (by simpa [size_zeroCells, hzs] using hfit) h1
  simp only [Nat.add_zero] at hst
  simp [Builtin.append_, run_underlying ht, run_underlying hu, sizeOf, typeInfo, zeroValue, hi, hz, asInt, asIntOf, hw, g1, g2, g3, g6, hroom, Addr.add_lit]
  rw [hst]
  simp

theorem run_appendZ_grow (w : World) (t u ty e : TypeId) (i : TypeInfo) (z : Value) {k : IntKind} (ht : P.underlying t = some (.slice e)) (hu : P.underlying u = some (.int k)) (hi : P.info? e = some i) (hz : i.zero = some z)
    (b : Addr) (sLen sCap : Nat) (olds : List Value) (hlo : olds.length = sLen * i.size) (holds : ∀ j v, olds[j]? = some v → w.cell? (b.add j) = some v) (m : Nat) (hm : sLen + m ≤ 1099511627776) (h0 : 0 < m) (hsz : 0 < i.size) (hby : i.bytes ≤ 128)
    (hg : sCap < sLen + m) (hfit : Builtin.nextslicecap (sLen + m) sCap * i.bytes ≤ 281474976710656) :
    (Builtin.append_ #[t, u] ty #[.slice (some b) sLen sCap, .int k (m : Int)]).run P w =
      .ok (.slice (some ⟨w.heap.size, 0, none⟩) (sLen + m) (grownCap w (sLen + m) sCap e))
        (w.drew.alloc (.cells (olds.toArray ++ Builtin.zeroCells z.cells m ++ Builtin.zeroCells z.cells (grownCap w (sLen + m) sCap e - (sLen + m))) e)) := by
  have hw := wrapN m (by omega)
  have hb : (m : Int) * (i.bytes : Int) ≤ m * 128 := Int.mul_le_mul_of_nonneg_left (by omega) (by omega)
  have g1 : ¬ ((m : Int) < 0) := by omega
  have g2 : ¬ (281474976710656 < (m : Int) * (i.bytes : Int)) := by omega
  have g3 : m ≠ 0 := by omega
  have g6 : ¬ (m * i.size = 0) := Nat.mul_ne_zero g3 (by omega)
  have hn : ¬ (sLen + m ≤ sCap) := by omega
  have h63' : ¬ (9223372036854775807 < ((sLen : Int) + (m : Int))) := by omega
  have h48' : ¬ (281474976710656 < Builtin.nextslicecap (sLen + m) sCap * i.bytes) := by omega
  have hfo := run_firstCells_some (P := P) w.drew i.size sLen b sLen sCap olds hlo (by simpa using holds)
  simp [Builtin.append_, run_underlying ht, run_underlying hu, sizeOf, typeInfo, zeroValue, hi, hz, asInt, asIntOf, hw, g1, g2, g3, g6, hn, h63', h48', Question.forced, hfo, newRow, grownCap]

variable {Q : Exit → Act → World → Prop} {c : Cx} {n : Nat} {m : List (Nat × Value)} {L : List Asn} {ops : Array Oper} {l : List Oper} {v : Value}
variable {d : Nat} {ty : TypeId} {ps : String} {af : Array Edge}
variable {α : Type} {R : FRp α} {xs ys zs : List α} {e : TypeId}

theorem zeroCells_encs {i : TypeInfo} {zv : Value} {zz : α} {zc : List Value} (hsz : i.size = R.size) (hzc : R.enc zz = zc) (hzv : zv.cells.toList = zc) (k : Nat) : Builtin.zeroCells zv.cells k = (encs R (List.replicate k zz)).toArray := by
  have h1 : zv.cells = (R.enc zz).toArray := by rw [hzc, ← hzv, Array.toArray_toList]
  have h2 : Builtin.zeroCells zv.cells k = madeCells zv.cells (k * zv.cells.size) := rfl
  rw [h2, h1, ← encs_rep R zz, Array.toArray_toList]
  simp [R.len]

theorem run_appendZ (w : World) (t u ty e : TypeId) (i : TypeInfo) (zv : Value) (zz : α) (zc : List Value) {k : IntKind} (ht : P.underlying t = some (.slice e)) (hu : P.underlying u = some (.int k)) (hi : P.info? e = some i) (hz : i.zero = some zv)
    (hzv : zv.cells.toList = zc) (hsz : i.size = R.size) (hby : i.bytes ≤ 128) (hzc : R.enc zz = zc) (v : Value) (n : Nat) (xs : List Value) (hown : w.ownsRow 0 e R.size v n xs) (m : Nat) (hm : n + m ≤ 1099511627776) :
    ∃ v' w', (Builtin.append_ #[t, u] ty #[v, .int k (m : Int)]).run P w = .ok v' w' ∧ w'.ownsRow 0 e R.size v' (n + m) (xs ++ encs R (List.replicate m zz)) ∧ w.grownBy w' v.ownBlock ∧ (v'.ownBlock = v.ownBlock ∨ v'.ownBlock = some w.heap.size) := by
  have hR := R.pos
  have hzs : zv.cells.size = i.size := by rw [← Array.length_toList, hzv, ← hzc, R.len, hsz]
  have hcell := fun k => zeroCells_encs (R := R) hsz hzc hzv k
  have hel : (encs R (List.replicate m zz)).length = m * R.size := by rw [length_encs]; simp
  have hxl : xs.length = n * R.size := hown.1
  by_cases h0 : m = 0
  · subst h0
    have hr := run_appendZ_zero (P := P) w t u ty e i ht hu hi v n xs R.size hown
    exact ⟨v, w, hr, by simpa [encs] using hown, ⟨rfl, rfl, rfl, Nat.le_refl _, fun _ _ _ => rfl⟩, .inl rfl⟩
  have hpos : 0 < m := by omega
  have grown : ∀ (old : Nat), old < n + m → ∀ (row : Option Nat),
      (w.drew.alloc (.cells (xs.toArray ++ Builtin.zeroCells zv.cells m ++ Builtin.zeroCells zv.cells (grownCap w (n + m) old e - (n + m))) e)).ownsRow 0 e R.size
        (.slice (some ⟨w.heap.size, 0, none⟩) (n + m) (grownCap w (n + m) old e)) (n + m) (xs ++ encs R (List.replicate m zz)) ∧
      w.grownBy (w.drew.alloc (.cells (xs.toArray ++ Builtin.zeroCells zv.cells m ++ Builtin.zeroCells zv.cells (grownCap w (n + m) old e - (n + m))) e)) row := by
    intro old ho row
    have hge := grownCap_ge w (n + m) old e
    have hcm : grownCap w (n + m) old e ≤ maxLen := grownCap_le_maxLen w (n + m) old e (by unfold maxLen; omega)
    have hlen : (xs ++ encs R (List.replicate m zz)).length = (n + m) * R.size := by rw [List.length_append, hxl, hel, Nat.add_mul]
    refine ⟨⟨hlen, .inr ⟨w.heap.size, _, _, rfl, Nat.zero_le _, heap_alloc_new w.drew _, hge, hcm, ?_, ?_⟩⟩, ⟨rfl, rfl, rfl, by simp, fun k hk _ => heap_alloc_old w.drew _ hk⟩⟩
    · simp only [Array.size_append, List.size_toArray, size_zeroCells, hzs, hsz, hxl, ← Nat.add_mul]
      congr 1
      omega
    · rw [hcell m]
      simp only [Array.toList_append, List.append_assoc]
      rw [← List.append_assoc, ← hlen]
      exact List.take_left
  rcases hown.2 with ⟨rfl, rfl⟩ | ⟨g, cap, cur, rfl, hbg, hg, hnc, hcm, hcs, htake⟩
  · have hx : xs = [] := List.eq_nil_of_length_eq_zero (by simpa using hxl)
    subst hx
    have hr := run_appendZ_nil (P := P) w t u ty e i zv ht hu hi hz m (by omega) hpos (by omega) hby
    have hgr := grown 0 (by omega) (Value.ownBlock (.slice none 0 0))
    simp only [Nat.zero_add, List.nil_append, Array.empty_append] at hgr ⊢
    exact ⟨_, _, hr, hgr.1, hgr.2, .inr rfl⟩
  · by_cases hroom : n + m ≤ cap
    · have hfit : n * i.size + m * i.size ≤ cur.size := by rw [hsz, hcs, ← Nat.add_mul]; exact Nat.mul_le_mul_right _ hroom
      have hone : ∀ u ∈ (Builtin.zeroCells zv.cells m).toList, u.oneCell' = true := by rw [hcell m]; exact fun u hu => one_encs R _ u hu
      have hr := run_appendZ_room (P := P) w t u ty e i zv ht hu hi hz g n cap cur hg m (by omega) hpos (by omega) hby hzs hone hroom hfit
      rw [hcell m, hsz] at hr
      have hlen : (xs ++ encs R (List.replicate m zz)).length = (n + m) * R.size := by rw [List.length_append, hxl, hel, Nat.add_mul]
      refine ⟨_, _, hr, ⟨hlen, .inr ⟨g, cap, _, rfl, hbg, setRow_heap w g cur _ e _ hg, hroom, hcm, ?_, ?_⟩⟩, ⟨rfl, rfl, rfl, by simp, fun k _ hk => setRow_other w g k _ (fun e => hk (by simp [Value.ownBlock, e]))⟩, .inl rfl⟩
      · rw [hsz] at hfit
        simp only [List.size_toArray, List.length_append, List.length_take, List.length_drop, Array.length_toList, hel]
        omega
      · rw [htake, ← hlen]
        exact List.take_left
    · have holds : ∀ j u, xs[j]? = some u → w.cell? ((⟨g, 0, none⟩ : Addr).add j) = some u := hown.cells (g := g) rfl
      have hb' : (n + m) * i.bytes ≤ (n + m) * 128 := Nat.mul_le_mul_left _ hby
      have hr := run_appendZ_grow (P := P) w t u ty e i zv ht hu hi hz ⟨g, 0, none⟩ n cap xs (by rw [hsz]; exact hxl) holds m hm hpos (by omega) hby (by omega) (growslice_fits (by omega) (by omega))
      have hgr := grown cap (by omega) (Value.ownBlock (.slice (some ⟨g, 0, none⟩) n cap))
      exact ⟨_, _, hr, hgr.1, hgr.2, .inr rfl⟩

theorem SJ.appendZ {t u : TypeId} {s x : Operand} {k : Nat} {kd : IntKind} {q : Int} {zz : α} {zc : List Value} (hmk : mk q zz = some ys) (ha' : app xs ys = some zs) (hk : L[k]? = some (row v e R xs)) (ht : P.underlying t = some (.slice e)) (hu : P.underlying u = some (.int kd)) (he : ElemOk P e R.size zc) (hzc : R.enc zz = zc)
    (hs : ev m s = some v) (hx : ev m x = some (.int kd q)) (hd : Nat.blt d n = true)
    (h : ∀ v', SJ P ops Q c n l ((d, v') :: m) (L.set k (row v' e R zs))) :
    SJ P ops Q c n (⟨some d, .call { callee := .builtin .append, args := #[s, x], argTypes := #[t, u] }, ty, ps, af, none⟩ :: l) m L :=
  SJ.x (T := fun v' L' => L' = L.set k (row v' e R zs)) (fun a w ha hw => by
    obtain ⟨i, zv, hi, hz, hzv, hsz, hby⟩ := he
    unfold mk at hmk
    split at hmk
    case isFalse => cases hmk
    rename_i hq
    obtain rfl := Option.some.inj hmk
    unfold app at ha'
    split at ha'
    case isFalse => cases ha'
    rename_i hb
    obtain rfl := Option.some.inj ha'
    unfold LIM at hb hq
    simp only [List.length_replicate] at hb
    obtain ⟨S, hA, hOw, hset⟩ := hw.set hk
    obtain ⟨v', w', hr, ho, hg, hwh⟩ := run_appendZ (P := P) (R := R) w t u ty e i zv zz zc ht hu hi hz hzv hsz hby hzc v _ _ hA.1 q.toNat (by omega)
    rw [Int.toNat_of_nonneg hq.1] at hr
    refine ⟨v', w', _, by simp [execOp, ha.ev hs, ha.ev hx, resolve, invoke, builtin, hr], rfl, ?_⟩
    refine hset w' _ (fun b => v'.ownBlock = some b) ⟨hg.os, hg.tape, hg.output, hg.size, fun b hb hn => hg.block b hb (fun e => hn ((hA.2 b).2 e.symm))⟩ ⟨?_, fun b => Iff.rfl⟩ (fun b hb => ?_)
    · rw [encs_append, List.length_append, List.length_replicate]; exact ho
    · rcases hwh with hwh | hwh
      · exact .inl ((hA.2 b).2 (hwh ▸ hb))
      · rw [hwh] at hb; right; have := Option.some.inj hb; omega) hd
    (fun v L' hT => by subst hT; exact h v)
end

/-! Where all roads of a code meet behind it. -/
theorem WJ.joinT {P : Program} {Q : Exit → Act → World → Prop} {c : Cx} {n : Nat} {m : List (Nat × Value)} {L : List Asn} {X : Type} {x : Code} (I : X → Prop) (mI : X → List (Nat × Value)) (LI : X → List Asn) (h1 : WJ P (Exit.then (fun a w => ∃ x, I x ∧ Has n a (mI x) ∧ St c w (LI x)) Q) c n x m L)
    (h2 : ∀ x, I x → PJ Q c n .normal (mI x) (LI x)) : WJ P Q c n x m L := fun a w ha hw =>
  wp_mono (h1 a w ha hw) fun e a' w' hq => by
    cases e <;> first | exact hq | (obtain ⟨x, hI, ha', hw'⟩ := hq; exact h2 x hI a' w' ha' hw')

/-! Arrays of the call's own: rows whose pointer is known. -/
def av (g n : Nat) : Value := .slice (some ⟨g, 0, none⟩) n n
section
variable {P : Program} {Q : Exit → Act → World → Prop} {c : Cx} {n : Nat} {m : List (Nat × Value)} {L : List Asn} {ops : Array Oper} {l : List Oper} {v : Value}
variable {d : Nat} {ty : TypeId} {ps : String} {af : Array Edge} {dd : Option Tmp} {gd : Option (Nat × Bool)}
variable {α : Type} {R : FRp α} {xs ys : List α} {e : TypeId}

theorem SJ.allocA {t : TypeId} {z : Value} (k : Nat) (hz : ∀ w, (zeroValue t).run P w = .ok z w) (hcs : z.cells.toList = encs R xs) (hk : xs.length = k) (hlen : Nat.ble k 1000000 = true) (hd : Nat.blt d n = true) (h : ∀ g, SJ P ops Q c n l ((d, pt g 0) :: m) (row (av g k) t R xs :: L)) :
    SJ P ops Q c n (⟨some d, .alloc t, ty, ps, af, none⟩ :: l) m L :=
  SJ.x (T := fun v L' => ∃ g, v = pt g 0 ∧ L' = row (av g k) t R xs :: L) (fun a w ha hw => by
    subst hk
    have hl := Nat.le_of_ble_eq_true hlen
    have hc : z.cells = (encs R xs).toArray := by rw [← hcs, Array.toArray_toList]
    refine ⟨pt w.heap.size 0, w.alloc (.cells z.cells t), _, by simp [execOp, Instr.alloc, hz, newVar, newRow, pt], ⟨_, rfl, rfl⟩, ?_⟩
    rw [hc]
    exact hw.new (Same.alloc _ _) (row_new w t R xs (by unfold maxLen; omega)) (fun b hb => by omega)) hd
    (fun v L' hT => by obtain ⟨g, rfl, rfl⟩ := hT; exact h g)

theorem av_len {g k : Nat} {t : TypeId} {w : World} {S : Nat → Prop} (h : (row (av g k) t R xs).holds w S) : k = xs.length := by
  obtain ⟨a, cap, hv⟩ := row_lt h
  unfold av at hv
  injection hv

theorem y_ixArr {s j : Operand} {t t' : TypeId} {k g q : Nat} {kd : IntKind} {i : Int} {x : α} (hk : L[k]? = some (row (av g q) t' R xs)) (ht : ∀ w, (underlying t).run P w = .ok (.array q e) w) (hs : ∀ w, (sizeOf e).run P w = .ok R.size w)
    (hx : ev m s = some (pt g 0)) (hj : ev m j = some (.int kd i)) (hi : idx xs i = some x) :
    YldS P n m (fun w => St c w L) ⟨dd, .indexAddr t s j, ty, ps, af, gd⟩ (rowAt (av g q) (i.toNat * R.size)) :=
  .of_run fun a ha w hw => by
    obtain ⟨S, hA, _⟩ := hw.at hk
    have hq := av_len hA
    unfold idx at hi
    split at hi
    · rename_i h0
      have hlt := lt_of_some hi
      have hadd : (⟨g, 0, none⟩ : Addr).add (i.toNat * R.size) = ⟨g, i.toNat * R.size, none⟩ := by unfold Addr.add; split <;> simp_all
      simp [execOp, ha.ev hx, ha.ev hj, Instr.indexAt, asIntOf, ht, hs, h0, hadd, rowAt, pt, av, Value.ownBlock, Instr.sureAddr]
      have h2 : i < (q : Int) := by omega
      intro h4; omega
    · cases hi

theorem y_build0 {t e' : TypeId} {k : Nat} {z : Array Value} (ht : ∀ w, (underlying t).run P w = .ok (.array k e') w) (hz : ∀ w, (zeroValue t).run P w = .ok (.agg z) w) {sz : Nat} (hs : ∀ w, (sizeOf e').run P w = .ok sz w) {C : World → Prop} :
    YldS P n m C ⟨dd, .build t #[], ty, ps, af, gd⟩ (.agg z) :=
  .of_run fun a ha w _ => by
    simp [execOp, Instr.build, ht, hz, hs, Instr.fill, Value.cells]

theorem SJ.storeA {x y : Operand} {t t' : TypeId} {u : Value} {k g q : Nat} (hk : L[k]? = some (row (av g q) t R xs)) (hx : ev m x = some (pt g 0)) (hy : ev m y = some u) (hus : u.cells.toList = encs R ys) (hl : ys.length = q) {sz : Nat} (hs : ∀ w, (sizeOf t').run P w = .ok sz w) (hsz : (encs R ys).length = sz)
    (h : SJ P ops Q c n l m (L.set k (row (av g q) t R ys))) : SJ P ops Q c n (⟨none, .store t' x y, ty, ps, af, none⟩ :: l) m L :=
  SJ.u (fun ac w ha hw => by
    obtain ⟨S, hA, _, hset⟩ := hw.set hk
    have hq := av_len hA
    rcases hA.1.2 with ⟨hv, _⟩ | ⟨g', cap, cur, hv, _, hgg, hc1, hc2, hcs, htake⟩
    · unfold av at hv; cases hv
    · have hv' := hv
      unfold av at hv'
      injection hv' with e1 e2 e3
      injection e1 with e1
      injection e1 with e1
      subst e1 e3
      have hyl : (encs R ys).length = q * R.size := by rw [length_encs, hl]
      have hr := run_storeVar_at (P := P) w g 0 t t' cur u (encs R ys) hgg (by rw [hsz]; exact hs w) hus (by omega) (one_encs R ys)
      have hput : putL cur.toList 0 (encs R ys) = encs R ys := by
        unfold putL
        rw [List.take_zero, List.nil_append, List.drop_of_length_le (by simp; omega), List.append_nil]
      rw [hput] at hr
      refine ⟨w.setRow g (encs R ys).toArray, by simp [execOp, ha.ev hx, ha.ev hy, Instr.storeAt, Instr.sureAddr, pt, hr], ?_⟩
      refine hset _ _ S (setRow_chg w g _ ((hA.2 g).2 rfl)) ⟨⟨by rw [length_encs], .inr ⟨g, q, _, by unfold av; rw [hl], Nat.zero_le _, setRow_heap w g _ _ t _ hgg, by omega, hc2, by simp [hyl], by rw [List.take_of_length_le (by simp [length_encs])]⟩⟩, hA.2⟩ (fun b hb => .inl hb)) h

theorem y_loadA {x : Operand} {t t' : TypeId} {k g q sz : Nat} (hk : L[k]? = some (row (av g q) t R xs)) (hg : ∀ w, (isAgg t').run P w = .ok true w) (hs : ∀ w, (sizeOf t').run P w = .ok sz w) (hsz : q * R.size = sz)
    (hx : ev m x = some (pt g 0)) : YldS P n m (fun w => St c w L) ⟨dd, .load t' x, ty, ps, af, gd⟩ (.agg (encs R xs).toArray) :=
  .of_run fun a ha w hw => by
    obtain ⟨S, hA, _⟩ := hw.at hk
    have hq := av_len hA
    have hrd := YtppdmciboalhfaaDoor.row_rd hA (F := fun _ => True) (fun _ _ => trivial)
    have hcells := RdS.cells (b := some ⟨g, 0, none⟩) (len := q) (cap := q) (show RdS w (fun _ => True) (.slice (some ⟨g, 0, none⟩) q q) R.rp xs from hrd)
    rcases hcells with ⟨h, _⟩ | ⟨ad, had, hc⟩
    · cases h
    · injection had with had
      subst had
      have hel : (encs R xs).length = sz := by rw [length_encs, ← hq, hsz]
      have h3 := run_loadCellsFrom_at P w ⟨g, 0, none⟩ (encs R xs) 0 #[] (fun j u hu => by rw [Nat.zero_add]; exact hc j u hu)
      rw [hel] at h3
      simp [execOp, ha.ev hx, Instr.loadAt, Instr.sureAddr, loadVar, hg, hs, loadCells, h3, pt]

/-- an element of an array: the list must have the array's length -/
def idxA {β : Type} (q : Nat) (xs : List β) (i : Int) : Option β := if xs.length = q then idx xs i else none

theorem y_ixAgg {x j : Operand} {t : TypeId} {q : Nat} {kd : IntKind} {i : Int} {y : α} {u : Value} (ht : ∀ w, (underlying t).run P w = .ok (.array q e) w) (hs : ∀ w, (sizeOf e).run P w = .ok R.size w) (hg : ∀ w, (isAgg e).run P w = .ok false w) (h1 : R.size = 1)
    (hx : ev m x = some (.agg (List.toArray (encs R xs)))) (hj : ev m j = some (.int kd i)) (hi' : idxA q xs i = some y) (hu : R.enc y = [u]) {C : World → Prop} :
    YldS P n m C ⟨dd, .index t x j, ty, ps, af, gd⟩ u :=
  .of_run fun a ha w _ => by
    unfold idxA at hi'
    split at hi'
    case isFalse => cases hi'
    rename_i hq
    have hi := hi'
    unfold idx at hi
    split at hi
    · rename_i h0
      have hlt := lt_of_some hi
      have hc := encs_get R xs i.toNat y hi 0 u (by rw [hu]; rfl)
      rw [h1, Nat.add_zero, Nat.mul_one] at hc
      have hr : i < (q : Int) := by omega
      simp [execOp, ha.ev hx, ha.ev hj, Instr.index, asIntOf, ht, h0, hr, hs, h1, part, hg, hc]
    · cases hi

/-- a literal of bytes that is made out of a constant string bears the mark -/
theorem SJ.convMark {x : Operand} {t : TypeId} {k : Nat} {b : UInt8} {bs : List UInt8} (hk : L[k]? = some (row v e fByte (b :: bs))) (ht : P.underlying t = some (.slice e)) (he : P.underlying e = some (.int .u8))
    (hx : ev m x = some v) (hd : Nat.blt d n = true) (h : SJ P ops Q c n l ((d, v) :: m) (L.set k (rowM v e fByte (b :: bs)))) :
    SJ P ops Q c n (⟨some d, .convert t t x, ty, ps, af, none⟩ :: l) m L :=
  SJ.x (T := fun v' L' => v' = v ∧ L' = L.set k (rowM v e fByte (b :: bs))) (fun a w ha hw => by
    obtain ⟨S, hA, _, hset⟩ := hw.set hk
    rcases hA.1.2 with ⟨_, h0⟩ | ⟨g, cap, cur, hv, _, hgg, hc1, hc2, hcs, htake⟩
    · simp at h0
    · have hS : S g := (hA.2 g).2 (by rw [hv]; rfl)
      have hg : g < w.heap.size := (Array.getElem?_eq_some_iff.1 hgg).1
      have hsh : w.shape? g = some (e, cur.size) := by simp [World.shape?, hgg]
      refine ⟨v, w.freeze ⟨g, cur.size, none⟩ 1, _, ?_, ⟨rfl, rfl⟩, ?_⟩
      · simp only [execOp, ha.ev hx, hv]
        simp [convert, run_underlying ht, run_underlying he, markStringish, hsh]
      · refine hset _ _ S ⟨rfl, rfl, rfl, by simp [World.freeze], fun b' hb hn => ?_⟩ ⟨⟨g, cap, cur, cur.size + 1, hv, ?_, by simpa using hc1, hc2, hcs, htake⟩, hA.2⟩ (fun b' hb => .inl hb)
        · have : g ≠ b' := fun e => hn (e ▸ hS)
          simp [World.freeze, Array.getElem?_modify, this]
        · simp [World.freeze, Array.getElem?_modify, hgg]
          simpa [fByte] using hcs) hd
    (fun v' L' hT => by obtain ⟨rfl, rfl⟩ := hT; exact h)
end

/-! Numerals: strconv.FormatInt at base 10. It reads a table of the library, which must lie as it was laid. -/

def Tab (P : Program) (nm : String) (w : World) (F : Nat → Prop) : Prop := Lib.TabIs P w nm .u64 Lib.pow10Tab ∧ ∃ g, P.globalNamed nm = some g ∧ F g

theorem Tab.mono {P : Program} {nm : String} {w w' : World} {F F' : Nat → Prop} (h : Tab P nm w F) (hF : ∀ b, F b → F' b) (hb : ∀ b, F b → w'.heap[b]? = w.heap[b]?) : Tab P nm w' F' := by
  obtain ⟨h1, g, hg, hFg⟩ := h
  refine ⟨?_, g, hg, hF g hFg⟩
  unfold Lib.TabIs World.var? at *
  rw [hg] at h1 ⊢
  simp only [Option.bind_some] at h1 ⊢
  rw [hb g hFg]
  exact h1
theorem Tab.st {P : Program} {nm : String} {c : Cx} {w : World} {L : List Asn} (h : Tab P nm c.w0 c.Fz) (hw : St c w L) : Tab P nm w (cx w).Fz :=
  h.mono (fun b hb => ⟨Nat.lt_of_lt_of_le hb.1 hw.chg.size, fun h => h⟩) (fun b hb => hw.frozen b hb)
theorem Tab.st1 {P : Program} {nm : String} {c : Cx} {S : Nat → Prop} {w : World} {L : List Asn} (h : Tab P nm c.w0 c.Fz) (hw : St c w L) (hS : ∀ b, S b → c.Ow b) : Tab P nm w (Cx.Fz ⟨w, S⟩) :=
  h.mono (fun _ hb => ⟨Nat.lt_of_lt_of_le hb.1 hw.chg.size, fun hs => Cx.apart hb (hS _ hs)⟩) (fun b hb => hw.frozen b hb)

def fmtI (a b : Int) : Option (List UInt8) := if b = 10 ∧ -9223372036854775808 ≤ a ∧ a ≤ 9223372036854775807 then some (Lib.itoa a) else none

theorem fmtI_ok {P : Program} {f : FuncId} {nm : String} (hF : ∀ n : Int, -9223372036854775808 ≤ n → n ≤ 9223372036854775807 → ∀ w, Lib.TabIs P w nm .u64 Lib.pow10Tab →
    Calls P f #[.int .i64 n, .int .i64 10] w fun e w' => e = .returned (.string ⟨(Lib.itoa n).toArray⟩) ∧ ∃ k os, w' = Sort.grow (w.drewN k) os)
    {a b : Int} {r : List UInt8} (hm : fmtI a b = some r) (w : World) (hT : Tab P nm w (cx w).Fz) : Calls P f #[.int .i64 a, .int .i64 b] w (Ret (cx w) (str r)) := by
  unfold fmtI at hm
  split at hm
  case isFalse => cases hm
  rename_i hb
  obtain rfl := Option.some.inj hm
  obtain ⟨rfl, h0, h1⟩ := hb
  refine (hF a h0 h1 w hT.1).mono fun e w' ⟨he, k, os, hw⟩ => ?_
  subst he hw
  refine ⟨_, [], rfl, ⟨rfl, rfl⟩, ⟨⟨rfl, rfl, rfl, ?_, fun b hb _ => ?_⟩, fun _ _ => False, fun _ _ h => by simp at h, fun _ _ _ hi => by simp at hi, fun _ _ hk => by simp at hk⟩⟩
  · simp [Sort.grow, World.drewN, cx]
  · show (w.heap ++ os)[b]? = w.heap[b]?
    exact Array.getElem?_append_left hb

/-! What is owned and only read: a view. -/

def vw {α : Type} (v : Value) (R : Rp α) (l : List α) : Asn where
  holds w S := RdS w S v R l ∧ ∀ b, S b → b < w.heap.size
  loc {w w' S} h k := ⟨h.1.mono (fun _ h => h) k, fun b hb => by
    have h1 := k b hb
    rw [Array.getElem?_eq_getElem (h.2 b hb)] at h1
    exact (Array.getElem?_eq_some_iff.1 h1).1⟩
  foot h b hb := h.2 b hb

theorem St.vw_rd {α : Type} {c : Cx} {w : World} {L : List Asn} {k : Nat} {v : Value} {R : Rp α} {l : List α} (hw : St c w L) (hk : L[k]? = some (vw v R l)) : RdS w (cx w).Fz v R l := by
  obtain ⟨S, hA, _⟩ := hw.at hk
  exact hA.1.mono (fun b hb => ⟨hA.2 b hb, fun h => h⟩) (fun _ _ => rfl)
theorem Beside.vw_rd {α : Type} {L : List Asn} {w : World} {S : Nat → Prop} {k j : Nat} {v : Value} {R : Rp α} {ls : List α} (h : Beside L k w S) (hj : L[j]? = some (vw v R ls)) (hne : Nat.beq j k = false) : RdS w (Cx.Fz ⟨w, S⟩) v R ls := by
  obtain ⟨T, hB, hd⟩ := h j _ hj (fun e => by subst e; simp at hne)
  exact hB.1.mono (fun b hb => ⟨hB.2 b hb, hd b hb⟩) (fun _ _ => rfl)

def vAt (v : Value) (j : Nat) : Value := match v with
  | .slice (some a) _ _ => .pointer (some (a.add j))
  | _ => .pointer none

section
variable {P : Program} {Q : Exit → Act → World → Prop} {c : Cx} {n : Nat} {m : List (Nat × Value)} {L : List Asn} {ops : Array Oper} {l : List Oper} {v : Value}
variable {d : Nat} {ty : TypeId} {ps : String} {af : Array Edge} {dd : Option Tmp} {gd : Option (Nat × Bool)}
variable {α : Type} {R : FRp α} {Rn : Rp α} {xs ys : List α} {e : TypeId}

theorem St.view {w : World} {k : Nat} (hw : St c w L) (hk : L[k]? = some (row v e R xs)) : St c w (L.set k (vw v R.rp xs)) := by
  obtain ⟨S, hA, _, hset⟩ := hw.set hk
  exact hset w _ S (Chg.refl _ _) ⟨YtppdmciboalhfaaDoor.row_rd hA (fun _ h => h), fun b hb => (row v e R xs).foot hA b hb⟩ (fun b hb => .inl hb)
theorem PJ.view {x : Exit} (k : Nat) (hk : L[k]? = some (row v e R xs)) (h : PJ Q c n x m (L.set k (vw v R.rp xs))) : PJ Q c n x m L := fun a w ha hw => h a w ha (hw.view hk)

theorem SJ.sliceRow {x : Operand} {t e' : TypeId} {lo hi : Option Operand} {i j : Option Int} {r : List α} {k : Nat} (hr : sub xs (i.getD 0) (j.getD xs.length) = some r) (hk : L[k]? = some (row v e R xs)) (ht : ∀ w, (underlying t).run P w = .ok (.slice e') w) (hs : ∀ w, (sizeOf e').run P w = .ok R.size w)
    (hx : ev m x = some v) (hlo : evo m lo i) (hhi : evo m hi j) (hd : Nat.blt d n = true) (h : ∀ v', SJ P ops Q c n l ((d, v') :: m) (L.set k (vw v' R.rp r))) :
    SJ P ops Q c n (⟨some d, .slice t x lo hi none, ty, ps, af, none⟩ :: l) m L :=
  SJ.x (T := fun v' L' => L' = L.set k (vw v' R.rp r)) (fun a w ha hw => by
    obtain ⟨S, hA, _, hset⟩ := hw.set hk
    obtain ⟨v', hv, hy⟩ := RdS.part (i := i) (j := j) (YtppdmciboalhfaaDoor.row_rd hA (fun _ h => h)) hr
    exact ⟨v', w, _, hy (C := fun _ => True) ht hs hx hlo hhi a ha w trivial, rfl, hset w _ S (Chg.refl _ _) ⟨hv, fun b hb => (row v e R xs).foot hA b hb⟩ (fun b hb => .inl hb)⟩) hd
    (fun v' L' hT => by subst hT; exact h v')

theorem SJ.sliceVw {x : Operand} {t e' : TypeId} {lo hi : Option Operand} {i j : Option Int} {r : List α} {k : Nat} (hr : sub xs (i.getD 0) (j.getD xs.length) = some r) (hk : L[k]? = some (vw v Rn xs)) (ht : ∀ w, (underlying t).run P w = .ok (.slice e') w) (hs : ∀ w, (sizeOf e').run P w = .ok Rn.size w)
    (hx : ev m x = some v) (hlo : evo m lo i) (hhi : evo m hi j) (hd : Nat.blt d n = true) (h : ∀ v', SJ P ops Q c n l ((d, v') :: m) (L.set k (vw v' Rn r))) :
    SJ P ops Q c n (⟨some d, .slice t x lo hi none, ty, ps, af, none⟩ :: l) m L :=
  SJ.x (T := fun v' L' => L' = L.set k (vw v' Rn r)) (fun a w ha hw => by
    obtain ⟨S, hA, _, hset⟩ := hw.set hk
    obtain ⟨v', hv, hy⟩ := RdS.part (i := i) (j := j) hA.1 hr
    exact ⟨v', w, _, hy (C := fun _ => True) ht hs hx hlo hhi a ha w trivial, rfl, hset w _ S (Chg.refl _ _) ⟨hv, hA.2⟩ (fun b hb => .inl hb)⟩) hd
    (fun v' L' hT => by subst hT; exact h v')

theorem y_lenRowV {x : Operand} {t e' : TypeId} {k : Nat} (hk : L[k]? = some (vw v Rn xs)) (ht : ∀ w, (underlying t).run P w = .ok (.slice e') w) (hx : ev m x = some v) :
    YldS P n m (fun w => St c w L) ⟨dd, .call { callee := .builtin .len, args := #[x], argTypes := #[t] }, ty, ps, af, gd⟩ (.int .i64 xs.length) :=
  .of_run fun a ha w hw => by
    obtain ⟨S, hA, _⟩ := hw.at hk
    obtain ⟨b, cap, rfl, _⟩ := hA.1
    simp [execOp, ha.ev hx, resolve, invoke, builtin, Builtin.len_, ht, goInt]

theorem y_ixRowV {s j : Operand} {t e' : TypeId} {k : Nat} {kd : IntKind} {i : Int} {x : α} (hk : L[k]? = some (vw v R.rp xs)) (ht : ∀ w, (underlying t).run P w = .ok (.slice e') w) (hs : ∀ w, (sizeOf e').run P w = .ok R.size w)
    (hx : ev m s = some v) (hj : ev m j = some (.int kd i)) (hi : idx xs i = some x) :
    YldS P n m (fun w => St c w L) ⟨dd, .indexAddr t s j, ty, ps, af, gd⟩ (vAt v (i.toNat * R.size)) :=
  .of_run fun a ha w hw => by
    obtain ⟨S, hA, _⟩ := hw.at hk
    obtain ⟨b, cap, rfl, _, _, h3⟩ := hA.1
    unfold idx at hi
    split at hi
    · rename_i h0
      obtain ⟨ad, cs, rfl, _⟩ := h3 _ x hi
      have hlt := lt_of_some hi
      simp [execOp, ha.ev hx, ha.ev hj, Instr.indexAt, asIntOf, ht, hs, h0, vAt]
      intro h4; omega
    · cases hi

theorem y_fldRV {x : Operand} {t i off ft sz k q o : Nat} {y : α} (h : FieldOk P t i off ft sz) (hk : L[k]? = some (vw v R.rp xs)) (hi : xs[q]? = some y) (hx : ev m x = some (vAt v (q * R.size + o))) :
    YldS P n m (fun w => St c w L) ⟨dd, .fieldAddr t x i, ty, ps, af, gd⟩ (vAt v (q * R.size + (o + off))) := fun a ha w hw => by
  obtain ⟨S, hA, _⟩ := hw.at hk
  obtain ⟨b, cap, rfl, _, _, h3⟩ := hA.1
  obtain ⟨ad, cs, rfl, _⟩ := h3 _ y hi
  have h2 := y_fld (P := P) (n := n) (C := fun w => St c w L) (dd := dd) (ty := ty) (ps := ps) (af := af) (gd := gd) (ad := ad.add (q * R.size + o)) h hx
  have h4 := h2 a ha w hw
  rw [add_of_add, Nat.add_assoc] at h4
  exact h4

theorem vw_cell {w : World} {S : Nat → Prop} {q off : Nat} {y : α} {u : Value} (h : RdS w S v R.rp xs) (hi : xs[q]? = some y) (hc : (R.enc y)[off]? = some u) : ∃ ad cap, v = .slice (some ad) xs.length cap ∧ w.cell? (ad.add (q * R.size + off)) = some u := by
  obtain ⟨b, cap, rfl, _, _, h3⟩ := h
  obtain ⟨ad, cs, rfl, hr, hat⟩ := h3 _ y hi
  have hr' : cs = R.enc y := hr
  subst hr'
  refine ⟨ad, cap, rfl, ?_⟩
  have := (hat off u hc).2
  rwa [add_of_add] at this

theorem y_loadRV {x : Operand} {t : TypeId} {k i off : Nat} {y : α} {u : Value} (hk : L[k]? = some (vw v R.rp xs)) (hg : ∀ w, (isAgg t).run P w = .ok false w) (hx : ev m x = some (vAt v (i * R.size + off))) (hi : xs[i]? = some y)
    (hc : (R.enc y)[off]? = some u) : YldS P n m (fun w => St c w L) ⟨dd, .load t x, ty, ps, af, gd⟩ u :=
  .of_run fun a ha w hw => by
    obtain ⟨S, hA, _⟩ := hw.at hk
    obtain ⟨ad, cap, rfl, h3⟩ := vw_cell hA.1 hi hc
    simp [execOp, ha.ev hx, Instr.loadAt, Instr.sureAddr, loadVar, hg, h3, vAt]

theorem y_loadRNV {x : Operand} {t : TypeId} {k i off : Nat} {y : α} {us : List Value} (hk : L[k]? = some (vw v R.rp xs)) (hg : ∀ w, (isAgg t).run P w = .ok true w) (hs : ∀ w, (sizeOf t).run P w = .ok us.length w)
    (hx : ev m x = some (vAt v (i * R.size + off))) (hi : xs[i]? = some y) (hc : ((R.enc y).drop off).take us.length = us) : YldS P n m (fun w => St c w L) ⟨dd, .load t x, ty, ps, af, gd⟩ (.agg us.toArray) :=
  .of_run fun a ha w hw => by
    obtain ⟨S, hA, _⟩ := hw.at hk
    obtain ⟨b, cap, rfl, h1, h2, h3⟩ := id hA.1
    obtain ⟨ad, cs, rfl, _, _⟩ := h3 _ y hi
    have h4 := run_loadCellsFrom_at P w (ad.add (i * R.size + off)) us 0 #[] (fun j u hu => by
      rw [← hc, List.getElem?_take] at hu
      split at hu
      · rw [List.getElem?_drop] at hu
        obtain ⟨ad', cap', he, h5⟩ := vw_cell hA.1 hi hu
        simp at he
        obtain ⟨rfl, _⟩ := he
        rw [add_of_add, Nat.zero_add, Nat.add_assoc]; exact h5
      · cases hu)
    simp [execOp, ha.ev hx, Instr.loadAt, Instr.sureAddr, loadVar, hg, hs, loadCells, h4, vAt]
end

/-! Arrays that are handed back, and arrays whose length must be asked. -/
def chkA {α : Type} (q : Nat) (l : List α) : Option (List α) := if l.length = q then some l else none
theorem chkA_len {α : Type} {q : Nat} {l x : List α} (h : chkA q l = some x) : l.length = q := by
  unfold chkA at h
  split at h
  · assumption
  · cases h
theorem PJ.boxA {Q : Exit → Act → World → Prop} {c : Cx} {n : Nat} {m : List (Nat × Value)} {L : List Asn} {x : Exit} {α : Type} {R : FRp α} {xs : List α} {t : TypeId} {g q : Nat} (k : Nat) (hk : L[k]? = some (row (av g q) t R xs))
    (h : xs.length = q → PJ Q c n x m (L.set k (box g t (encs R xs)))) : PJ Q c n x m L := fun a w ha hw => by
  obtain ⟨S, hA, _, hset⟩ := hw.set hk
  have hq := av_len hA
  refine h hq.symm a w ha (hset w _ S (Chg.refl _ _) ?_ (fun b hb => .inl hb))
  rcases hA.1.2 with ⟨hv, _⟩ | ⟨g', cap, cur, hv, _, hgg, hc1, hc2, hcs, htake⟩
  · unfold av at hv; cases hv
  · unfold av at hv
    injection hv with e1 e2 e3
    injection e1 with e1
    injection e1 with e1
    subst e1 e3
    have hfull : cur.toList = encs R xs := by
      rw [← htake, List.take_of_length_le (by rw [Array.length_toList, hcs, hq]; exact Nat.le_refl _)]
    refine ⟨?_, fun b => (hA.2 b).trans (by unfold av; simp [Value.ownBlock]; exact eq_comm)⟩
    rw [← hfull, Array.toArray_toList]
    exact hgg

/-! Two resources as one. -/
def star (A B : Asn) : Asn where
  holds w S := ∃ S1 S2 : Nat → Prop, A.holds w S1 ∧ B.holds w S2 ∧ (∀ b, S1 b → ¬ S2 b) ∧ ∀ b, S b ↔ (S1 b ∨ S2 b)
  loc h k := by
    obtain ⟨S1, S2, h1, h2, h3, h4⟩ := h
    exact ⟨S1, S2, A.loc h1 (fun b hb => k b ((h4 b).2 (.inl hb))), B.loc h2 (fun b hb => k b ((h4 b).2 (.inr hb))), h3, h4⟩
  foot h b hb := by
    obtain ⟨S1, S2, h1, h2, h3, h4⟩ := h
    rcases (h4 b).1 hb with hb | hb
    · exact A.foot h1 b hb
    · exact B.foot h2 b hb

theorem St.unstar {c : Cx} {w : World} {A B : Asn} {L : List Asn} (h : St c w (star A B :: L)) : St c w (A :: B :: L) := by
  obtain ⟨hb, fp, h1⟩ := h
  obtain ⟨S1, S2, hA, hB, hd, hS⟩ := h1.holds 0 (star A B) rfl
  have h0 : 0 < (star A B :: L).length := by simp
  refine ⟨hb, fun i => match i with | 0 => S1 | 1 => S2 | i + 2 => fp (i + 1), ⟨fun k C hk => ?_, fun i j b hi hj hib hjb => ?_, fun k b hk hkb => ?_⟩⟩
  · match k with
    | 0 => simp at hk; subst hk; exact hA
    | 1 => simp at hk; subst hk; exact hB
    | k + 2 => exact h1.holds (k + 1) C (by simpa using hk)
  · have f1 : ∀ b, S1 b → fp 0 b := fun b hb => (hS b).2 (.inl hb)
    have f2 : ∀ b, S2 b → fp 0 b := fun b hb => (hS b).2 (.inr hb)
    simp only [List.length_cons] at hi hj
    have hl : ∀ q, q + 2 < L.length + 1 + 1 → q + 1 < (star A B :: L).length := fun q hq => by simp; omega
    match i, j with
    | 0, 0 => rfl
    | 1, 1 => rfl
    | 0, 1 => exact (hd b hib hjb).elim
    | 1, 0 => exact (hd b hjb hib).elim
    | 0, j + 2 => have := h1.dis 0 (j + 1) b h0 (hl j hj) (f1 b hib) hjb; omega
    | 1, j + 2 => have := h1.dis 0 (j + 1) b h0 (hl j hj) (f2 b hib) hjb; omega
    | i + 2, 0 => have := h1.dis (i + 1) 0 b (hl i hi) h0 hib (f1 b hjb); omega
    | i + 2, 1 => have := h1.dis (i + 1) 0 b (hl i hi) h0 hib (f2 b hjb); omega
    | i + 2, j + 2 => have := h1.dis (i + 1) (j + 1) b (hl i hi) (hl j hj) hib hjb; omega
  · simp only [List.length_cons] at hk
    match k with
    | 0 => exact h1.own 0 b h0 ((hS b).2 (.inl hkb))
    | 1 => exact h1.own 0 b h0 ((hS b).2 (.inr hkb))
    | k + 2 => exact h1.own (k + 1) b (by simp; omega) hkb

theorem St.star {c : Cx} {w : World} {A B : Asn} {L : List Asn} (h : St c w (A :: B :: L)) : St c w (star A B :: L) := by
  obtain ⟨hb, fp, h1⟩ := h
  have h0 : 0 < (A :: B :: L).length := by simp
  have h10 : 1 < (A :: B :: L).length := by simp
  refine ⟨hb, fun i => match i with | 0 => fun b => fp 0 b ∨ fp 1 b | i + 1 => fp (i + 2), ⟨fun k C hk => ?_, fun i j b hi hj hib hjb => ?_, fun k b hk hkb => ?_⟩⟩
  · match k with
    | 0 =>
      simp at hk; subst hk
      exact ⟨fp 0, fp 1, h1.holds 0 A rfl, h1.holds 1 B rfl, fun b ha hb => by have := h1.dis 0 1 b h0 h10 ha hb; omega, fun b => Iff.rfl⟩
    | k + 1 => exact h1.holds (k + 2) C (by simpa using hk)
  · simp only [List.length_cons] at hi hj
    have hl : ∀ q, q + 1 < L.length + 1 → q + 2 < (A :: B :: L).length := fun q hq => by simp; omega
    match i, j with
    | 0, 0 => rfl
    | 0, j + 1 =>
      rcases hib with hib | hib
      · have := h1.dis 0 (j + 2) b h0 (hl j hj) hib hjb; omega
      · have := h1.dis 1 (j + 2) b h10 (hl j hj) hib hjb; omega
    | i + 1, 0 =>
      rcases hjb with hjb | hjb
      · have := h1.dis (i + 2) 0 b (hl i hi) h0 hib hjb; omega
      · have := h1.dis (i + 2) 1 b (hl i hi) h10 hib hjb; omega
    | i + 1, j + 1 => have := h1.dis (i + 2) (j + 2) b (hl i hi) (hl j hj) hib hjb; omega
  · simp only [List.length_cons] at hk
    match k with
    | 0 =>
      rcases hkb with hkb | hkb
      · exact h1.own 0 b h0 hkb
      · exact h1.own 1 b h10 hkb
    | k + 1 => exact h1.own (k + 2) b (by simp; omega) hkb

section
variable {P : Program} {Q : Exit → Act → World → Prop} {c : Cx} {n : Nat} {m : List (Nat × Value)} {L L' : List Asn} {ops : Array Oper} {l : List Oper} {v : Value} {A B : Asn}
theorem SJ.sel (is : List Nat) (hs : Sel is L L') (h : SJ P ops Q c n l m L') : SJ P ops Q c n l m L := fun a w ha hw => h a w ha (hw.sel hs)
theorem SJ.star (h : SJ P ops Q c n l m (star A B :: L)) : SJ P ops Q c n l m (A :: B :: L) := fun a w ha hw => h a w ha hw.star
theorem SJ.unstar (h : SJ P ops Q c n l m (A :: B :: L)) : SJ P ops Q c n l m (YtppdmciboalhfaaDoor.star A B :: L) := fun a w ha hw => h a w ha hw.unstar
theorem WJ.unstar {z : Code} (h : WJ P Q c n z m (A :: B :: L)) : WJ P Q c n z m (YtppdmciboalhfaaDoor.star A B :: L) := fun a w ha hw => h a w ha hw.unstar
theorem PJ.star {e : Exit} (h : PJ Q c n e m (star A B :: L)) : PJ Q c n e m (A :: B :: L) := fun a w ha hw => h a w ha hw.star

/-- a row that is owned is one cell as a value -/
theorem row_cells {α : Type} {t : TypeId} {R : FRp α} {xs : List α} {w : World} {S : Nat → Prop} (h : (row v t R xs).holds w S) : v.cells.toList = [v] ∧ v.oneCell' = true := by
  obtain ⟨a, cap, hv⟩ := row_lt h
  subst hv
  exact ⟨rfl, rfl⟩
theorem SJ.rowCells {α : Type} {t : TypeId} {R : FRp α} {xs : List α} (k : Nat) (hk : L[k]? = some (row v t R xs)) (h : v.cells.toList = [v] ∧ v.oneCell' = true → SJ P ops Q c n l m L) : SJ P ops Q c n l m L := fun a w ha hw => by
  obtain ⟨S, hA, _⟩ := hw.at hk
  exact h (row_cells hA) a w ha hw
theorem PJ.rowCells {α : Type} {e : Exit} {t : TypeId} {R : FRp α} {xs : List α} (k : Nat) (hk : L[k]? = some (row v t R xs)) (h : v.cells.toList = [v] ∧ v.oneCell' = true → PJ Q c n e m L) : PJ Q c n e m L := fun a w ha hw => by
  obtain ⟨S, hA, _⟩ := hw.at hk
  exact h (row_cells hA) a w ha hw
end
theorem RdS.one1 {α : Type} {w : World} {F : Nat → Prop} {v : Value} {R : Rp α} {l : List α} (h : RdS w F v R l) : v.oneCell' = true := by
  obtain ⟨a, c, rfl, _⟩ := h
  rfl
theorem PJ.fin {P : Program} {fn : Func} {R : Ending → World → Prop} {c : Cx} {n : Nat} {m : List (Nat × Value)} {L : List Asn} (h : PJ (bodyPost P fn R) c n .ret m L) : PJ (bodyPost P fn R) c n .normal m L := h

/-! Arrays written out; parts of a row that stays; shifts; rows of other kinds as one cell. -/
def slcV (v : Value) (lo hi size : Nat) : Value := match v with
  | .slice a _ cap => .slice (if cap = lo then a else a.map (·.add (lo * size))) (hi - lo) (cap - lo)
  | v => v
theorem RdS.slc {α : Type} {R : Rp α} {w : World} {F : Nat → Prop} {v : Value} {l r : List α} {i j : Option Int} (h : RdS w F v R l) (hr : sub l (i.getD 0) (j.getD l.length) = some r) :
    RdS w F (slcV v (i.getD 0).toNat (j.getD l.length).toNat R.size) R r := by
  obtain ⟨a, cap, rfl, hc1, hc2, h3⟩ := h
  unfold sub at hr
  split at hr
  case isFalse => cases hr
  rename_i hb
  obtain rfl := Option.some.inj hr
  refine ⟨if cap = (i.getD 0).toNat then a else a.map (·.add ((i.getD 0).toNat * R.size)), cap - (i.getD 0).toNat, ?_, ?_, by omega, fun q x hq => ?_⟩
  · unfold slcV; congr 1; simp; omega
  · simp; omega
  · have hq1 := lt_of_some hq
    simp at hq1
    rw [List.getElem?_take, if_pos (by omega), List.getElem?_drop] at hq
    obtain ⟨ad, cs, rfl, hrd, hat⟩ := h3 _ x hq
    rw [if_neg (by omega)]
    refine ⟨_, cs, rfl, hrd, ?_⟩
    rw [add_of_add, ← Nat.add_mul]
    exact hat
theorem RdS.slc_yld {α : Type} {R : Rp α} {w : World} {F : Nat → Prop} {v : Value} {l r : List α} {i j : Option Int} (h : RdS w F v R l) (hr : sub l (i.getD 0) (j.getD l.length) = some r) {P : Program} {n : Nat} {m : List (Nat × Value)} {d : Option Tmp} {ty : TypeId} {ps : String} {af : Array Edge} {gd : Option (Nat × Bool)} {x : Operand} {lo hi : Option Operand} {t e : TypeId}
    (ht : ∀ w, (underlying t).run P w = .ok (.slice e) w) (hs : ∀ w, (sizeOf e).run P w = .ok R.size w) (hx : ev m x = some v) (hlo : evo m lo i) (hhi : evo m hi j) :
    YldS P n m (fun _ => True) ⟨d, .slice t x lo hi none, ty, ps, af, gd⟩ (slcV v (i.getD 0).toNat (j.getD l.length).toNat R.size) := by
  obtain ⟨a, cap, rfl, hc1, hc2, h3⟩ := h
  unfold sub at hr
  split at hr
  case isFalse => cases hr
  rename_i hb
  refine .of_run fun ac ha w _ => ?_
  have hbd := run_bounds (P := P) (w := w) ha true l.length cap hlo hhi hc1 hb
  simp [execOp, ha.ev hx, Instr.sliceAt, Instr.slice, ht, hs, hbd, slcV]

section
variable {P : Program} {Q : Exit → Act → World → Prop} {c : Cx} {n : Nat} {m : List (Nat × Value)} {L L' : List Asn} {ops : Array Oper} {l : List Oper} {v : Value}
variable {d : Nat} {ty : TypeId} {ps : String} {af : Array Edge} {dd : Option Tmp} {gd : Option (Nat × Bool)}
variable {α : Type} {R : FRp α} {Rn : Rp α} {xs ys : List α} {e : TypeId}
theorem y_slcRow {x : Operand} {t e' : TypeId} {lo hi : Option Operand} {i j : Option Int} {r : List α} {k : Nat} (hr : sub xs (i.getD 0) (j.getD xs.length) = some r) (hk : L[k]? = some (row v e R xs)) (ht : ∀ w, (underlying t).run P w = .ok (.slice e') w) (hs : ∀ w, (sizeOf e').run P w = .ok R.size w)
    (hx : ev m x = some v) (hlo : evo m lo i) (hhi : evo m hi j) : YldS P n m (fun w => St c w L) ⟨dd, .slice t x lo hi none, ty, ps, af, gd⟩ (slcV v (i.getD 0).toNat (j.getD xs.length).toNat R.size) := fun a ha w hw =>
  RdS.slc_yld (hw.row_rd hk) hr ht hs hx hlo hhi a ha w trivial
theorem y_slcVw {x : Operand} {t e' : TypeId} {lo hi : Option Operand} {i j : Option Int} {r : List α} {k : Nat} (hr : sub xs (i.getD 0) (j.getD xs.length) = some r) (hk : L[k]? = some (vw v Rn xs)) (ht : ∀ w, (underlying t).run P w = .ok (.slice e') w) (hs : ∀ w, (sizeOf e').run P w = .ok Rn.size w)
    (hx : ev m x = some v) (hlo : evo m lo i) (hhi : evo m hi j) : YldS P n m (fun w => St c w L) ⟨dd, .slice t x lo hi none, ty, ps, af, gd⟩ (slcV v (i.getD 0).toNat (j.getD xs.length).toNat Rn.size) := fun a ha w hw =>
  RdS.slc_yld (hw.vw_rd hk) hr ht hs hx hlo hhi a ha w trivial

theorem vw_cells {w : World} {S : Nat → Prop} (h : (vw v Rn xs).holds w S) : v.cells.toList = [v] ∧ v.oneCell' = true := by
  obtain ⟨a, cap, hv, _⟩ := h.1
  subst hv
  exact ⟨rfl, rfl⟩
theorem SJ.vwCells (k : Nat) (hk : L[k]? = some (vw v Rn xs)) (h : v.cells.toList = [v] ∧ v.oneCell' = true → SJ P ops Q c n l m L) : SJ P ops Q c n l m L := fun a w ha hw => by
  obtain ⟨S, hA, _⟩ := hw.at hk
  exact h (vw_cells hA) a w ha hw

theorem y_buildA {t e' : TypeId} {k : Nat} {z : Array Value} {os : List Operand} {parts : Array (Nat × Operand)} {us : List Value} (xs : List α) (ht : ∀ w, (underlying t).run P w = .ok (.array k e') w) (hz : ∀ w, (zeroValue t).run P w = .ok (.agg z) w) (hs : ∀ w, (sizeOf e').run P w = .ok R.size w)
    (hp : parts = ((os.zipIdx 0).map fun p => (p.2, p.1)).toArray) (hos : evs m os = some us) (hxs : us.map (fun u => u.cells.toList) = xs.map R.enc) (hzl : z.size = xs.length * R.size) {C : World → Prop} :
    YldS P n m C ⟨dd, .build t parts, ty, ps, af, gd⟩ (.agg (encs R xs).toArray) :=
  .of_run fun a ha w _ => by
    have hev := ha.evs hos
    have hux : us.length = xs.length := by simpa using congrArg List.length hxs
    have hu : ∀ u ∈ us, u.cells.size = R.size := fun u hu => by
      have : u.cells.toList ∈ xs.map R.enc := by rw [← hxs]; exact List.mem_map_of_mem hu
      obtain ⟨x, _, hx⟩ := List.mem_map.1 this
      have := R.len x
      rw [hx] at this
      simpa using this
    have hf := fill_seq R.size us 0 z.toList hu (by rw [Nat.zero_add, hux]; simp [hzl])
    have hparts : parts.map (fun p => (p.1, a.eval p.2)) = ((us.zipIdx 0).map fun p => (p.2, p.1)).toArray := by
      subst hp
      rw [← hev]
      simp [List.zipIdx_map, Function.comp_def]
    rw [Array.toArray_toList] at hf
    have hput : putL z.toList (0 * R.size) (us.flatMap fun u => u.cells.toList) = encs R xs := by
      rw [encs_flat R us xs hxs]
      unfold putL
      rw [Nat.zero_mul, List.take_zero, List.nil_append, Nat.zero_add, List.drop_of_length_le (by rw [length_encs, Array.length_toList, hzl]; exact Nat.le_refl _), List.append_nil]
    rw [hput] at hf
    simp only [execOp]
    rw [show (parts.map fun x => match x with | (i, x) => (i, a.eval x)) = ((us.zipIdx 0).map fun p => (p.2, p.1)).toArray from hparts]
    have hcells : (Value.agg z).cells = z := rfl
    simp only [Instr.build, Sem.run_bind, hz, ht, hs, Result.andThen_ok, hcells, hf, Sem.run_pure]

def ishl (a b : Int) : Int := IntKind.i64.wrap (a * 2 ^ (min b.toNat 64))
theorem y_shl {x y : Operand} {xt yt : TypeId} {i : Int} {k : IntKind} {j : Int} (hx : ev m x = some (.int .i64 i)) (hy : ev m y = some (.int k j)) (hr : decide (j < 0) = false) {C : World → Prop} :
    YldS P n m C ⟨dd, .binOp .shl xt x y yt, ty, ps, af, gd⟩ (.int .i64 (ishl i j)) :=
  .of_run fun a ha w _ => by
    have hj : ¬ j < 0 := of_decide_eq_false hr
    simp [execOp, ha.ev hx, ha.ev hy, eqGuard, binOp, Op.shift, hj, ishl, IntKind.bits]
def shlO (a b : Int) : Option Int := if b < 0 then none else some (ishl a b)
theorem y_shl' {x y : Operand} {xt yt : TypeId} {i r : Int} {k : IntKind} {j : Int} (h : shlO i j = some r) (hx : ev m x = some (.int .i64 i)) (hy : ev m y = some (.int k j)) {C : World → Prop} :
    YldS P n m C ⟨dd, .binOp .shl xt x y yt, ty, ps, af, gd⟩ (.int .i64 r) := by
  unfold shlO at h
  split at h
  · cases h
  · rename_i hj
    obtain rfl := Option.some.inj h
    exact y_shl hx hy (decide_eq_false hj)
def shrO (a b : Int) : Option Int := if b < 0 then none else some (a.fdiv (2 ^ (min b.toNat 64)))
theorem y_shr' {x y : Operand} {xt yt : TypeId} {i r : Int} {k : IntKind} {j : Int} (h : shrO i j = some r) (hx : ev m x = some (.int .i64 i)) (hy : ev m y = some (.int k j)) {C : World → Prop} :
    YldS P n m C ⟨dd, .binOp .shr xt x y yt, ty, ps, af, gd⟩ (.int .i64 r) := by
  unfold shrO at h
  split at h
  · cases h
  · rename_i hj
    obtain rfl := Option.some.inj h
    exact .of_run fun a ha w _ => by simp [execOp, ha.ev hx, ha.ev hy, eqGuard, binOp, Op.shift, hj, IntKind.bits]
def iand (a b : Int) : Int := IntKind.i64.wrap ((BitVec.ofInt 64 a &&& BitVec.ofInt 64 b).toNat : Int)
def ior (a b : Int) : Int := IntKind.i64.wrap ((BitVec.ofInt 64 a ||| BitVec.ofInt 64 b).toNat : Int)
theorem y_and {x y : Operand} {xt yt : TypeId} {i j : Int} (hx : ev m x = some (.int .i64 i)) (hy : ev m y = some (.int .i64 j)) {C : World → Prop} :
    YldS P n m C ⟨dd, .binOp .and xt x y yt, ty, ps, af, gd⟩ (.int .i64 (iand i j)) :=
  .of_run fun a ha w _ => by
    simp only [execOp, ha.ev hx, ha.ev hy, eqGuard, binOp, Op.intBits, iand]
    simp
    rfl
theorem y_or {x y : Operand} {xt yt : TypeId} {i j : Int} (hx : ev m x = some (.int .i64 i)) (hy : ev m y = some (.int .i64 j)) {C : World → Prop} :
    YldS P n m C ⟨dd, .binOp .or xt x y yt, ty, ps, af, gd⟩ (.int .i64 (ior i j)) :=
  .of_run fun a ha w _ => by
    simp only [execOp, ha.ev hx, ha.ev hy, eqGuard, binOp, Op.intBits, ior]
    simp
    rfl
end
theorem St.slc_rd {α : Type} {c : Cx} {w : World} {L : List Asn} {k : Nat} {v : Value} {t : TypeId} {R : FRp α} {xs r : List α} {i j : Option Int} (hw : St c w L) (hk : L[k]? = some (row v t R xs)) (hr : sub xs (i.getD 0) (j.getD xs.length) = some r) :
    RdS w (cx w).Fz (slcV v (i.getD 0).toNat (j.getD xs.length).toNat R.size) R.rp r := RdS.slc (hw.row_rd hk) hr
theorem St.slcV_rd {α : Type} {c : Cx} {w : World} {L : List Asn} {k : Nat} {v : Value} {R : Rp α} {xs r : List α} {i j : Option Int} (hw : St c w L) (hk : L[k]? = some (vw v R xs)) (hr : sub xs (i.getD 0) (j.getD xs.length) = some r) :
    RdS w (cx w).Fz (slcV v (i.getD 0).toNat (j.getD xs.length).toNat R.size) R r := RdS.slc (hw.vw_rd hk) hr
theorem Beside.slc_rd {α : Type} {L : List Asn} {w : World} {S : Nat → Prop} {k j' : Nat} {v : Value} {t : TypeId} {R : FRp α} {xs r : List α} {i j : Option Int} (h : Beside L k w S) (hj : L[j']? = some (row v t R xs)) (hne : Nat.beq j' k = false) (hr : sub xs (i.getD 0) (j.getD xs.length) = some r) :
    RdS w (Cx.Fz ⟨w, S⟩) (slcV v (i.getD 0).toNat (j.getD xs.length).toNat R.size) R.rp r := RdS.slc (h.row_rd hj hne) hr
end Go.Proofs.YtppdmciboalhfaaDoor
