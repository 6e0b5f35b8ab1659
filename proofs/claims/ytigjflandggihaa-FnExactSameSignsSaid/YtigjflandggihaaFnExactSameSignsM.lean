/-
  Plain functions that compute what the Go functions compute. No conditions.
-/
import Derived.Test.YtigjflandggihaaBase
namespace Go.Proofs.Ytigjflandggihaa
set_option linter.unusedVariables false
set_option linter.unusedSimpArgs false

structure Defect where
  name : Str
  weight : Int
  signs : Str

def Defect.beq (x y : Defect) : Bool := x.name == y.name && (x.weight == y.weight && (x.signs == y.signs))

def wfDefect (x : Defect) : Prop := wfStr x.name ∧ wfI64 x.weight ∧ wfStr x.signs

def w_szDefect (a1 : Defect) (left2 : Int) : Option Int :=
  bif decide ((w64 (left2 - (List.length a1.name : Int))) < 0) then
  some (-1)
  else
  bif decide ((w64 ((w64 (left2 - (List.length a1.name : Int))) - (List.length a1.signs : Int))) < 0) then
  some (-1)
  else
  some (w64 ((w64 (left2 - (List.length a1.name : Int))) - (List.length a1.signs : Int)))

def w_szDefectS_l1 (k7 : Int → Option Int) (a1 : List Defect) : Nat → Int → Int → Option Int
  | 0, _, _ => none
  | N + 1, left9, i10 =>
    bif decide (i10 < (List.length a1 : Int)) then
    (idx a1 i10).bind fun e12 =>
    (w_szDefect e12 left9).bind fun r17 =>
    bif decide (r17 < 0) then
    some (-1)
    else
    w_szDefectS_l1 k7 a1 N r17 (w64 (i10 + 1))
    else
    k7 left9

def w_szDefectS (N : Nat) (a1 : List Defect) (left4 : Int) : Option Int :=
  bif decide ((w64 (left4 - (List.length a1 : Int))) < 0) then
  some (-1)
  else
  withK (fun (left6 : Int) =>
  some left6) fun (k7 : Int → Option Int) =>
  w_szDefectS_l1 k7 a1 N (w64 (left4 - (List.length a1 : Int))) 0

def w_toDefect (a1 : Defect) : Option Defect :=
  some (Defect.mk a1.name a1.weight a1.signs)

def w_toDefectS_l1 (k8 : (List Defect) → Option (List Defect)) (a1 : List Defect) : Nat → (List Defect) → Int → Option (List Defect)
  | 0, _, _ => none
  | N + 1, l10, i11 =>
    bif decide (i11 < (List.length a1 : Int)) then
    (idx a1 i11).bind fun e13 =>
    (w_toDefect e13).bind fun r18 =>
    (idx l10 i11).bind fun e20 =>
    w_toDefectS_l1 k8 a1 N (List.set l10 (Int.toNat i11) r18) (w64 (i11 + 1))
    else
    k8 l10

def w_toDefectS (N : Nat) (a1 : List Defect) : Option (List Defect) :=
  (mk (List.length a1 : Int) (Defect.mk [] 0 [])).bind fun l4 =>
  withK (fun (l7 : List Defect) =>
  some l7) fun (k8 : (List Defect) → Option (List Defect)) =>
  w_toDefectS_l1 k8 a1 N l4 0

def w_toInt64S_l1 (k8 : (List Int) → Option (List Int)) (a1 : List Int) : Nat → (List Int) → Int → Option (List Int)
  | 0, _, _ => none
  | N + 1, l10, i11 =>
    bif decide (i11 < (List.length a1 : Int)) then
    (idx a1 i11).bind fun e13 =>
    (idx l10 i11).bind fun e18 =>
    w_toInt64S_l1 k8 a1 N (List.set l10 (Int.toNat i11) e13) (w64 (i11 + 1))
    else
    k8 l10

def w_toInt64S (N : Nat) (a1 : List Int) : Option (List Int) :=
  (mk (List.length a1 : Int) 0).bind fun l4 =>
  withK (fun (l7 : List Int) =>
  some l7) fun (k8 : (List Int) → Option (List Int)) =>
  w_toInt64S_l1 k8 a1 N l4 0

def s_l00In (n1 : Int) (low2 : Int) (high3 : Int) : Option Bool :=
  (andO (decide (n1 ≥ low2)) (some (decide (n1 ≤ high3)))).bind fun t4 =>
  some t4

def s_l01Small (c1 : UInt8) : Option Bool :=
  (andO (decide (c1 ≥ (97 : UInt8))) (some (decide (c1 ≤ (122 : UInt8))))).bind fun t2 =>
  some t2

def s_l01Digit (c1 : UInt8) : Option Bool :=
  (andO (decide (c1 ≥ (48 : UInt8))) (some (decide (c1 ≤ (57 : UInt8))))).bind fun t2 =>
  some t2

def s_IsName_l1 (k13 : Option Bool) (s1 : Str) : Nat → Int → Option Bool
  | 0, _ => none
  | N + 1, i15 =>
    bif decide (i15 < (List.length s1 : Int)) then
    (idx s1 i15).bind fun c17 =>
    (s_l01Small c17).bind fun r19 =>
    (andO (!r19) ((idx s1 i15).bind fun c24 =>
    (s_l01Digit c24).bind fun r26 =>
    some (!r26))).bind fun t21 =>
    (andO t21 ((idx s1 i15).bind fun c31 =>
    some (c31 != (45 : UInt8)))).bind fun t28 =>
    bif t28 then
    some false
    else
    s_IsName_l1 k13 s1 N (w64 (i15 + 1))
    else
    k13 

def s_IsName (N : Nat) (s1 : Str) : Option Bool :=
  (orO (s1 == []) (some (decide ((List.length s1 : Int) > 12)))).bind fun t2 =>
  (orO t2 ((idx s1 0).bind fun c8 =>
  (s_l01Small c8).bind fun r10 =>
  some (!r10))).bind fun t5 =>
  bif t5 then
  some false
  else
  withK (some true) fun (k13 : Option Bool) =>
  s_IsName_l1 k13 s1 N 0

def s_l23One_l1 (k5 : Option Bool) (d1 : Defect) : Nat → Int → Option Bool
  | 0, _ => none
  | N + 1, i7 =>
    bif decide (i7 < (List.length d1.signs : Int)) then
    (idx d1.signs i7).bind fun c9 =>
    (andO (c9 != (48 : UInt8)) ((idx d1.signs i7).bind fun c14 =>
    some (c14 != (49 : UInt8)))).bind fun t11 =>
    bif t11 then
    some false
    else
    s_l23One_l1 k5 d1 N (w64 (i7 + 1))
    else
    k5 

def s_l23One (N : Nat) (d1 : Defect) (tests4 : Int) : Option Bool :=
  withK ((s_IsName N d1.name).bind fun r17 =>
  (andO r17 ((s_l00In d1.weight 1 1000).bind fun r22 =>
  some r22)).bind fun t19 =>
  (andO t19 (some ((List.length d1.signs : Int) == tests4))).bind fun t24 =>
  some t24) fun (k5 : Option Bool) =>
  s_l23One_l1 k5 d1 N 0

def s_l23Ok_l1 (k7 : Option Bool) (prices4 : List Int) : Nat → Int → Option Bool
  | 0, _ => none
  | N + 1, i9 =>
    bif decide (i9 < (List.length prices4 : Int)) then
    (idx prices4 i9).bind fun e11 =>
    (s_l00In e11 1 100).bind fun r16 =>
    bif !r16 then
    some false
    else
    s_l23Ok_l1 k7 prices4 N (w64 (i9 + 1))
    else
    k7 

def s_l23Ok_l3 (k24 : Option Bool) (list1 : List Defect) (i21 : Int) : Nat → Int → Option Bool
  | 0, _ => none
  | N + 1, k33 =>
    bif decide (k33 < i21) then
    (idx list1 k33).bind fun e35 =>
    (idx list1 i21).bind fun e40 =>
    bif (e35.name == e40.name) then
    some false
    else
    s_l23Ok_l3 k24 list1 i21 N (w64 (k33 + 1))
    else
    k24 

def s_l23Ok_l2 (k19 : Option Bool) (list1 : List Defect) (prices4 : List Int) : Nat → Int → Option Bool
  | 0, _ => none
  | N + 1, i21 =>
    bif decide (i21 < (List.length list1 : Int)) then
    withK (s_l23Ok_l2 k19 list1 prices4 N (w64 (i21 + 1))) fun (k24 : Option Bool) =>
    (idx list1 i21).bind fun e25 =>
    (s_l23One N e25 (List.length prices4 : Int)).bind fun r30 =>
    bif !r30 then
    some false
    else
    s_l23Ok_l3 k24 list1 i21 N 0
    else
    k19 

def s_l23Ok (N : Nat) (list1 : List Defect) (prices4 : List Int) : Option Bool :=
  withK (withK ((andO (decide ((List.length list1 : Int) ≤ 10)) (some (decide ((List.length prices4 : Int) ≤ 6)))).bind fun t46 =>
  some t46) fun (k19 : Option Bool) =>
  s_l23Ok_l2 k19 list1 prices4 N 0) fun (k7 : Option Bool) =>
  s_l23Ok_l1 k7 prices4 N 0

def s_l23Same_l2 (k9 : Option (Int × Int)) (list1 : List Defect) (i6 : Int) : Nat → Int → Option (Int × Int)
  | 0, _ => none
  | N + 1, k10 =>
    bif decide (k10 < i6) then
    (idx list1 k10).bind fun e12 =>
    (idx list1 i6).bind fun e17 =>
    bif (e12.signs == e17.signs) then
    some (i6, k10)
    else
    s_l23Same_l2 k9 list1 i6 N (w64 (k10 + 1))
    else
    k9 

def s_l23Same_l1 (k4 : Option (Int × Int)) (list1 : List Defect) : Nat → Int → Option (Int × Int)
  | 0, _ => none
  | N + 1, i6 =>
    bif decide (i6 < (List.length list1 : Int)) then
    withK (s_l23Same_l1 k4 list1 N (w64 (i6 + 1))) fun (k9 : Option (Int × Int)) =>
    s_l23Same_l2 k9 list1 i6 N 0
    else
    k4 

def s_l23Same (N : Nat) (list1 : List Defect) : Option (Int × Int) :=
  withK (some ((-1), (-1))) fun (k4 : Option (Int × Int)) =>
  s_l23Same_l1 k4 list1 N 0

def s_SameSigns (N : Nat) (list1 : List Defect) (prices4 : List Int) : Option (Int × Int × Int) :=
  (s_l23Ok N list1 prices4).bind fun r7 =>
  bif !r7 then
  some (0, 0, 1)
  else
  (s_l23Same N list1).bind fun r10 =>
  bif decide (r10.1 < 0) then
  some (0, 0, 3)
  else
  some (r10.1, r10.2, 0)

def i_between (n1 : Int) (low2 : Int) (high3 : Int) : Option Bool :=
  (andO (decide (n1 ≥ low2)) (some (decide (n1 ≤ high3)))).bind fun t4 =>
  some t4

def i_isDigit (b1 : UInt8) : Option Bool :=
  (andO (decide (b1 ≥ (48 : UInt8))) (some (decide (b1 ≤ (57 : UInt8))))).bind fun t2 =>
  some t2

def i_IsName_l1 (k6 : Option Bool) (s1 : Str) : Nat → Int → Option Bool
  | 0, _ => none
  | N + 1, x8 =>
    bif decide (x8 < (List.length s1 : Int)) then
    (idx s1 x8).bind fun c10 =>
    (andO (decide (c10 ≥ (97 : UInt8))) ((idx s1 x8).bind fun c15 =>
    some (decide (c15 ≤ (122 : UInt8))))).bind fun t12 =>
    (andO (!t12) ((orO (x8 == 0) ((idx s1 x8).bind fun c23 =>
    (andO (c23 != (45 : UInt8)) ((idx s1 x8).bind fun c28 =>
    (i_isDigit c28).bind fun r30 =>
    some (!r30))).bind fun t25 =>
    some t25)).bind fun t20 =>
    some t20)).bind fun t17 =>
    bif t17 then
    some false
    else
    i_IsName_l1 k6 s1 N (w64 (x8 + 1))
    else
    k6 

def i_IsName (N : Nat) (s1 : Str) : Option Bool :=
  (orO ((List.length s1 : Int) == 0) (some (decide ((List.length s1 : Int) > 12)))).bind fun t2 =>
  bif t2 then
  some false
  else
  withK (some true) fun (k6 : Option Bool) =>
  i_IsName_l1 k6 s1 N 0

def i_ValidDefects_l1 (k11 : Option Bool) (x4 : List Int) : Nat → Int → Option Bool
  | 0, _ => none
  | N + 1, x13 =>
    bif decide (x13 < (List.length x4 : Int)) then
    (idx x4 x13).bind fun e15 =>
    (i_between e15 1 100).bind fun r20 =>
    bif !r20 then
    some false
    else
    i_ValidDefects_l1 k11 x4 N (w64 (x13 + 1))
    else
    k11 

def i_ValidDefects_l3 (k31 : (List (Str × Bool)) → Option Bool) (mp26 : List (Str × Bool)) (e32 : Defect) : Nat → Int → Option Bool
  | 0, _ => none
  | N + 1, x52 =>
    bif decide (x52 < (List.length e32.signs : Int)) then
    (idx e32.signs x52).bind fun c54 =>
    (andO (c54 != (48 : UInt8)) ((idx e32.signs x52).bind fun c59 =>
    some (c59 != (49 : UInt8)))).bind fun t56 =>
    bif t56 then
    some false
    else
    i_ValidDefects_l3 k31 mp26 e32 N (w64 (x52 + 1))
    else
    k31 (mset mp26 e32.name true)

def i_ValidDefects_l2 (k24 : Option Bool) (list1 : List Defect) (x4 : List Int) : Nat → (List (Str × Bool)) → Int → Option Bool
  | 0, _, _ => none
  | N + 1, mp26, x27 =>
    bif decide (x27 < (List.length list1 : Int)) then
    withK (fun (mp29 : List (Str × Bool)) =>
    i_ValidDefects_l2 k24 list1 x4 N mp29 (w64 (x27 + 1))) fun (k31 : (List (Str × Bool)) → Option Bool) =>
    (idx list1 x27).bind fun e32 =>
    (i_IsName N e32.name).bind fun r38 =>
    (orO (!r38) (some (mget mp26 e32.name))).bind fun t40 =>
    (orO t40 ((i_between e32.weight 1 1000).bind fun r46 =>
    some (!r46))).bind fun t43 =>
    (orO t43 (some ((List.length e32.signs : Int) != (List.length x4 : Int)))).bind fun t48 =>
    bif t48 then
    some false
    else
    i_ValidDefects_l3 k31 mp26 e32 N 0
    else
    k24 

def i_ValidDefects (N : Nat) (list1 : List Defect) (x4 : List Int) : Option Bool :=
  (orO (decide ((List.length x4 : Int) > 6)) (some (decide ((List.length list1 : Int) > 10)))).bind fun t7 =>
  bif t7 then
  some false
  else
  withK (withK (some true) fun (k24 : Option Bool) =>
  i_ValidDefects_l2 k24 list1 x4 N [] 0) fun (k11 : Option Bool) =>
  i_ValidDefects_l1 k11 x4 N 0

def i_firstAlike_l2 (k9 : Option (Int × Int × Bool)) (list1 : List Defect) (x6 : Int) : Nat → Int → Option (Int × Int × Bool)
  | 0, _ => none
  | N + 1, x10 =>
    bif decide (x10 < x6) then
    (idx list1 x6).bind fun e12 =>
    (idx list1 x10).bind fun e17 =>
    bif (e12.signs == e17.signs) then
    some (x6, x10, true)
    else
    i_firstAlike_l2 k9 list1 x6 N (w64 (x10 + 1))
    else
    k9 

def i_firstAlike_l1 (k4 : Option (Int × Int × Bool)) (list1 : List Defect) : Nat → Int → Option (Int × Int × Bool)
  | 0, _ => none
  | N + 1, x6 =>
    bif decide (x6 < (List.length list1 : Int)) then
    withK (i_firstAlike_l1 k4 list1 N (w64 (x6 + 1))) fun (k9 : Option (Int × Int × Bool)) =>
    i_firstAlike_l2 k9 list1 x6 N 0
    else
    k4 

def i_firstAlike (N : Nat) (list1 : List Defect) : Option (Int × Int × Bool) :=
  withK (some (0, 0, false)) fun (k4 : Option (Int × Int × Bool)) =>
  i_firstAlike_l1 k4 list1 N 0

def i_SameSigns (N : Nat) (list1 : List Defect) (prices4 : List Int) : Option (Int × Int × Int) :=
  (i_ValidDefects N list1 prices4).bind fun r7 =>
  bif !r7 then
  some (0, 0, 1)
  else
  (i_firstAlike N list1).bind fun r10 =>
  bif !r10.2.2 then
  some (0, 0, 3)
  else
  some (r10.1, r10.2.1, 0)

def w_eqDefect (a1 : Defect) (b2 : Defect) : Option Bool :=
  bif (a1.name != b2.name) then
  some false
  else
  bif (a1.weight != b2.weight) then
  some false
  else
  bif (a1.signs != b2.signs) then
  some false
  else
  some true

def w_eqDefectS_l1 (k8 : Option Bool) (a1 : List Defect) (b4 : List Defect) : Nat → Int → Option Bool
  | 0, _ => none
  | N + 1, i10 =>
    bif decide (i10 < (List.length a1 : Int)) then
    (idx a1 i10).bind fun e12 =>
    (idx b4 i10).bind fun e17 =>
    (w_eqDefect e12 e17).bind fun r22 =>
    bif !r22 then
    some false
    else
    w_eqDefectS_l1 k8 a1 b4 N (w64 (i10 + 1))
    else
    k8 

def w_eqDefectS (N : Nat) (a1 : List Defect) (b4 : List Defect) : Option Bool :=
  bif ((List.length a1 : Int) != (List.length b4 : Int)) then
  some false
  else
  withK (some true) fun (k8 : Option Bool) =>
  w_eqDefectS_l1 k8 a1 b4 N 0

def w_eqInt64S_l1 (k8 : Option Bool) (a1 : List Int) (b4 : List Int) : Nat → Int → Option Bool
  | 0, _ => none
  | N + 1, i10 =>
    bif decide (i10 < (List.length a1 : Int)) then
    (idx a1 i10).bind fun e12 =>
    (idx b4 i10).bind fun e17 =>
    bif (e12 != e17) then
    some false
    else
    w_eqInt64S_l1 k8 a1 b4 N (w64 (i10 + 1))
    else
    k8 

def w_eqInt64S (N : Nat) (a1 : List Int) (b4 : List Int) : Option Bool :=
  bif ((List.length a1 : Int) != (List.length b4 : Int)) then
  some false
  else
  withK (some true) fun (k8 : Option Bool) =>
  w_eqInt64S_l1 k8 a1 b4 N 0

def w_FnExactSameSigns (N : Nat) (aList1 : List Defect) (x4 : List Int) : Option Bool :=
  bif decide ((List.length x4 : Int) > 1048576) then
  some true
  else
  (w_szDefectS N aList1 1048576).bind fun r8 =>
  bif decide (r8 < 0) then
  some true
  else
  (w_toDefectS N aList1).bind fun r11 =>
  (w_toInt64S N x4).bind fun r14 =>
  (s_SameSigns N r11 r14).bind fun r17 =>
  (w_toDefectS N aList1).bind fun r19 =>
  (w_toInt64S N x4).bind fun r22 =>
  (i_SameSigns N r19 r22).bind fun r25 =>
  (orO (r25.1 != r17.1) (some (r25.2.1 != r17.2.1))).bind fun t27 =>
  (orO t27 (some (r25.2.2 != r17.2.2))).bind fun t30 =>
  bif t30 then
  some false
  else
  (w_toDefectS N aList1).bind fun r34 =>
  (w_eqDefectS N r19 r34).bind fun r37 =>
  bif !r37 then
  some false
  else
  (w_toInt64S N x4).bind fun r40 =>
  (w_eqInt64S N r22 r40).bind fun r43 =>
  bif !r43 then
  some false
  else
  some true

end Go.Proofs.Ytigjflandggihaa
