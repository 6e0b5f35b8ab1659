/-
  Plain functions that compute what the Go functions compute. No conditions.
-/
import Derived.Test.YtigjflandggihaaBase
namespace Go.Proofs.Ytigjflandggihaa
set_option linter.unusedVariables false
set_option linter.unusedSimpArgs false

structure Hire where
  machine : Int
  from_ : Int
  to : Int

def Hire.beq (x y : Hire) : Bool := x.machine == y.machine && (x.from_ == y.from_ && (x.to == y.to))

def wfHire (x : Hire) : Prop := wfI64 x.machine ∧ wfI64 x.from_ ∧ wfI64 x.to

def w_szHireS (a1 : List Hire) (left4 : Int) : Option Int :=
  bif decide ((w64 (left4 - (List.length a1 : Int))) < 0) then
  some (-1)
  else
  some (w64 (left4 - (List.length a1 : Int)))

def w_toHire (a1 : Hire) : Option Hire :=
  some (Hire.mk a1.machine a1.from_ a1.to)

def w_toHireS_l1 (k8 : (List Hire) → Option (List Hire)) (a1 : List Hire) : Nat → (List Hire) → Int → Option (List Hire)
  | 0, _, _ => none
  | N + 1, l10, i11 =>
    bif decide (i11 < (List.length a1 : Int)) then
    (idx a1 i11).bind fun e13 =>
    (w_toHire e13).bind fun r18 =>
    (idx l10 i11).bind fun e20 =>
    w_toHireS_l1 k8 a1 N (List.set l10 (Int.toNat i11) r18) (w64 (i11 + 1))
    else
    k8 l10

def w_toHireS (N : Nat) (a1 : List Hire) : Option (List Hire) :=
  (mk (List.length a1 : Int) (Hire.mk 0 0 0)).bind fun l4 =>
  withK (fun (l7 : List Hire) =>
  some l7) fun (k8 : (List Hire) → Option (List Hire)) =>
  w_toHireS_l1 k8 a1 N l4 0

def s_SameHires_l1 (k8 : Option Bool) (a1 : List Hire) (b4 : List Hire) : Nat → Int → Option Bool
  | 0, _ => none
  | N + 1, i10 =>
    bif decide (i10 < (List.length a1 : Int)) then
    (idx a1 i10).bind fun e12 =>
    (idx b4 i10).bind fun e17 =>
    bif !(Hire.beq e12 e17) then
    some false
    else
    s_SameHires_l1 k8 a1 b4 N (w64 (i10 + 1))
    else
    k8 

def s_SameHires (N : Nat) (a1 : List Hire) (b4 : List Hire) : Option Bool :=
  bif ((List.length a1 : Int) != (List.length b4 : Int)) then
  some false
  else
  withK (some true) fun (k8 : Option Bool) =>
  s_SameHires_l1 k8 a1 b4 N 0

def i_SameHires_l1 (k8 : Option Bool) (a1 : List Hire) (b4 : List Hire) : Nat → Int → Option Bool
  | 0, _ => none
  | N + 1, x10 =>
    bif decide (x10 < (List.length a1 : Int)) then
    (idx a1 x10).bind fun e12 =>
    (idx b4 x10).bind fun e17 =>
    bif !(Hire.beq e12 e17) then
    some false
    else
    i_SameHires_l1 k8 a1 b4 N (w64 (x10 + 1))
    else
    k8 

def i_SameHires (N : Nat) (a1 : List Hire) (b4 : List Hire) : Option Bool :=
  bif ((List.length a1 : Int) != (List.length b4 : Int)) then
  some false
  else
  withK (some true) fun (k8 : Option Bool) =>
  i_SameHires_l1 k8 a1 b4 N 0

def w_eqHire (a1 : Hire) (b2 : Hire) : Option Bool :=
  bif (a1.machine != b2.machine) then
  some false
  else
  bif (a1.from_ != b2.from_) then
  some false
  else
  bif (a1.to != b2.to) then
  some false
  else
  some true

def w_eqHireS_l1 (k8 : Option Bool) (a1 : List Hire) (b4 : List Hire) : Nat → Int → Option Bool
  | 0, _ => none
  | N + 1, i10 =>
    bif decide (i10 < (List.length a1 : Int)) then
    (idx a1 i10).bind fun e12 =>
    (idx b4 i10).bind fun e17 =>
    (w_eqHire e12 e17).bind fun r22 =>
    bif !r22 then
    some false
    else
    w_eqHireS_l1 k8 a1 b4 N (w64 (i10 + 1))
    else
    k8 

def w_eqHireS (N : Nat) (a1 : List Hire) (b4 : List Hire) : Option Bool :=
  bif ((List.length a1 : Int) != (List.length b4 : Int)) then
  some false
  else
  withK (some true) fun (k8 : Option Bool) =>
  w_eqHireS_l1 k8 a1 b4 N 0

def w_FnExactSameHires (N : Nat) (aA1 : List Hire) (aB4 : List Hire) : Option Bool :=
  (w_szHireS aA1 1048576).bind fun r7 =>
  bif decide (r7 < 0) then
  some true
  else
  (w_szHireS aB4 r7).bind fun r10 =>
  bif decide (r10 < 0) then
  some true
  else
  (w_toHireS N aA1).bind fun r13 =>
  (w_toHireS N aB4).bind fun r16 =>
  (s_SameHires N r13 r16).bind fun r19 =>
  (w_toHireS N aA1).bind fun r21 =>
  (w_toHireS N aB4).bind fun r24 =>
  (i_SameHires N r21 r24).bind fun r27 =>
  bif (r27 != r19) then
  some false
  else
  (w_toHireS N aA1).bind fun r30 =>
  (w_eqHireS N r21 r30).bind fun r33 =>
  bif !r33 then
  some false
  else
  (w_toHireS N aB4).bind fun r36 =>
  (w_eqHireS N r24 r36).bind fun r39 =>
  bif !r39 then
  some false
  else
  some true

end Go.Proofs.Ytigjflandggihaa
