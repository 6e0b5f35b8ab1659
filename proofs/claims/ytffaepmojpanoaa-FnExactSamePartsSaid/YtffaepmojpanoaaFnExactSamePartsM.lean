/-
  Plain functions that compute what the Go functions compute. No conditions.
-/
import Derived.Test.YtffaepmojpanoaaBase
namespace Go.Proofs.Ytffaepmojpanoaa
set_option linter.unusedVariables false
set_option linter.unusedSimpArgs false

structure SparePart where
  name : Str
  stock : Int
  target : Int
  days : Int
  instead : Int

def SparePart.beq (x y : SparePart) : Bool := x.name == y.name && (x.stock == y.stock && (x.target == y.target && (x.days == y.days && (x.instead == y.instead))))

def wfSparePart (x : SparePart) : Prop := wfStr x.name ∧ wfI64 x.stock ∧ wfI64 x.target ∧ wfI64 x.days ∧ wfI64 x.instead

def w_szSparePart (a1 : SparePart) (left2 : Int) : Option Int :=
  bif decide ((w64 (left2 - (List.length a1.name : Int))) < 0) then
  some (-1)
  else
  some (w64 (left2 - (List.length a1.name : Int)))

def w_szSparePartS_l1 (k7 : Int → Option Int) (a1 : List SparePart) : Nat → Int → Int → Option Int
  | 0, _, _ => none
  | N + 1, left9, i10 =>
    bif decide (i10 < (List.length a1 : Int)) then
    (idx a1 i10).bind fun e12 =>
    (w_szSparePart e12 left9).bind fun r17 =>
    bif decide (r17 < 0) then
    some (-1)
    else
    w_szSparePartS_l1 k7 a1 N r17 (w64 (i10 + 1))
    else
    k7 left9

def w_szSparePartS (N : Nat) (a1 : List SparePart) (left4 : Int) : Option Int :=
  bif decide ((w64 (left4 - (List.length a1 : Int))) < 0) then
  some (-1)
  else
  withK (fun (left6 : Int) =>
  some left6) fun (k7 : Int → Option Int) =>
  w_szSparePartS_l1 k7 a1 N (w64 (left4 - (List.length a1 : Int))) 0

def w_toSparePart (a1 : SparePart) : Option SparePart :=
  some (SparePart.mk a1.name a1.stock a1.target a1.days a1.instead)

def w_toSparePartS_l1 (k8 : (List SparePart) → Option (List SparePart)) (a1 : List SparePart) : Nat → (List SparePart) → Int → Option (List SparePart)
  | 0, _, _ => none
  | N + 1, l10, i11 =>
    bif decide (i11 < (List.length a1 : Int)) then
    (idx a1 i11).bind fun e13 =>
    (w_toSparePart e13).bind fun r18 =>
    (idx l10 i11).bind fun e20 =>
    w_toSparePartS_l1 k8 a1 N (List.set l10 (Int.toNat i11) r18) (w64 (i11 + 1))
    else
    k8 l10

def w_toSparePartS (N : Nat) (a1 : List SparePart) : Option (List SparePart) :=
  (mk (List.length a1 : Int) (SparePart.mk [] 0 0 0 0)).bind fun l4 =>
  withK (fun (l7 : List SparePart) =>
  some l7) fun (k8 : (List SparePart) → Option (List SparePart)) =>
  w_toSparePartS_l1 k8 a1 N l4 0

def s_SameParts_l1 (k8 : Option Bool) (a1 : List SparePart) (b4 : List SparePart) : Nat → Int → Option Bool
  | 0, _ => none
  | N + 1, i10 =>
    bif decide (i10 < (List.length a1 : Int)) then
    (idx a1 i10).bind fun e12 =>
    (idx b4 i10).bind fun e17 =>
    bif !(SparePart.beq e12 e17) then
    some false
    else
    s_SameParts_l1 k8 a1 b4 N (w64 (i10 + 1))
    else
    k8 

def s_SameParts (N : Nat) (a1 : List SparePart) (b4 : List SparePart) : Option Bool :=
  bif ((List.length a1 : Int) != (List.length b4 : Int)) then
  some false
  else
  withK (some true) fun (k8 : Option Bool) =>
  s_SameParts_l1 k8 a1 b4 N 0

def i_SameParts_l1 (k8 : Option Bool) (a1 : List SparePart) (b4 : List SparePart) : Nat → Int → Option Bool
  | 0, _ => none
  | N + 1, x10 =>
    bif decide (x10 < (List.length a1 : Int)) then
    (idx a1 x10).bind fun e12 =>
    (idx b4 x10).bind fun e17 =>
    bif !(SparePart.beq e12 e17) then
    some false
    else
    i_SameParts_l1 k8 a1 b4 N (w64 (x10 + 1))
    else
    k8 

def i_SameParts (N : Nat) (a1 : List SparePart) (b4 : List SparePart) : Option Bool :=
  bif ((List.length a1 : Int) != (List.length b4 : Int)) then
  some false
  else
  withK (some true) fun (k8 : Option Bool) =>
  i_SameParts_l1 k8 a1 b4 N 0

def w_eqSparePart (a1 : SparePart) (b2 : SparePart) : Option Bool :=
  bif (a1.name != b2.name) then
  some false
  else
  bif (a1.stock != b2.stock) then
  some false
  else
  bif (a1.target != b2.target) then
  some false
  else
  bif (a1.days != b2.days) then
  some false
  else
  bif (a1.instead != b2.instead) then
  some false
  else
  some true

def w_eqSparePartS_l1 (k8 : Option Bool) (a1 : List SparePart) (b4 : List SparePart) : Nat → Int → Option Bool
  | 0, _ => none
  | N + 1, i10 =>
    bif decide (i10 < (List.length a1 : Int)) then
    (idx a1 i10).bind fun e12 =>
    (idx b4 i10).bind fun e17 =>
    (w_eqSparePart e12 e17).bind fun r22 =>
    bif !r22 then
    some false
    else
    w_eqSparePartS_l1 k8 a1 b4 N (w64 (i10 + 1))
    else
    k8 

def w_eqSparePartS (N : Nat) (a1 : List SparePart) (b4 : List SparePart) : Option Bool :=
  bif ((List.length a1 : Int) != (List.length b4 : Int)) then
  some false
  else
  withK (some true) fun (k8 : Option Bool) =>
  w_eqSparePartS_l1 k8 a1 b4 N 0

def w_FnExactSameParts (N : Nat) (aA1 : List SparePart) (aB4 : List SparePart) : Option Bool :=
  (w_szSparePartS N aA1 1048576).bind fun r7 =>
  bif decide (r7 < 0) then
  some true
  else
  (w_szSparePartS N aB4 r7).bind fun r10 =>
  bif decide (r10 < 0) then
  some true
  else
  (w_toSparePartS N aA1).bind fun r13 =>
  (w_toSparePartS N aB4).bind fun r16 =>
  (s_SameParts N r13 r16).bind fun r19 =>
  (w_toSparePartS N aA1).bind fun r21 =>
  (w_toSparePartS N aB4).bind fun r24 =>
  (i_SameParts N r21 r24).bind fun r27 =>
  bif (r27 != r19) then
  some false
  else
  (w_toSparePartS N aA1).bind fun r30 =>
  (w_eqSparePartS N r21 r30).bind fun r33 =>
  bif !r33 then
  some false
  else
  (w_toSparePartS N aB4).bind fun r36 =>
  (w_eqSparePartS N r24 r36).bind fun r39 =>
  bif !r39 then
  some false
  else
  some true

end Go.Proofs.Ytffaepmojpanoaa
