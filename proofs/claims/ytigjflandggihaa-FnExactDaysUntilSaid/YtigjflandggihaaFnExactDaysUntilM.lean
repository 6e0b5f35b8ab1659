/-
  Plain functions that compute what the Go functions compute. No conditions.
-/
import Derived.Test.YtigjflandggihaaBase
namespace Go.Proofs.Ytigjflandggihaa
set_option linter.unusedVariables false
set_option linter.unusedSimpArgs false

structure SparePart where
  name : Str
  stock : Int
  target : Int
  days : Int
  instead : Int

def SparePart.beq (x y : SparePart) : Bool := x.name == y.name && (x.stock == y.stock && (x.target == y.target && (x.days == y.days && (x.instead == y.instead))))

def wfSparePart (x : SparePart) : Prop := wfStr x.name ∧ wfI64 x.stock ∧ wfI64 x.target ∧ wfI64 x.days ∧ wfI64 x.instead

def w_szSparePart (a1 : SparePart) (left2 : Int) : Option Int :=
  bif decide ((w64 (left2 - (List.length a1.name : Int))) < 0) then
  some (-1)
  else
  some (w64 (left2 - (List.length a1.name : Int)))

def w_szSparePartS_l1 (k7 : Int → Option Int) (a1 : List SparePart) : Nat → Int → Int → Option Int
  | 0, _, _ => none
  | N + 1, left9, i10 =>
    bif decide (i10 < (List.length a1 : Int)) then
    (idx a1 i10).bind fun e12 =>
    (w_szSparePart e12 left9).bind fun r17 =>
    bif decide (r17 < 0) then
    some (-1)
    else
    w_szSparePartS_l1 k7 a1 N r17 (w64 (i10 + 1))
    else
    k7 left9

def w_szSparePartS (N : Nat) (a1 : List SparePart) (left4 : Int) : Option Int :=
  bif decide ((w64 (left4 - (List.length a1 : Int))) < 0) then
  some (-1)
  else
  withK (fun (left6 : Int) =>
  some left6) fun (k7 : Int → Option Int) =>
  w_szSparePartS_l1 k7 a1 N (w64 (left4 - (List.length a1 : Int))) 0

def w_toSparePart (a1 : SparePart) : Option SparePart :=
  some (SparePart.mk a1.name a1.stock a1.target a1.days a1.instead)

def w_toSparePartS_l1 (k8 : (List SparePart) → Option (List SparePart)) (a1 : List SparePart) : Nat → (List SparePart) → Int → Option (List SparePart)
  | 0, _, _ => none
  | N + 1, l10, i11 =>
    bif decide (i11 < (List.length a1 : Int)) then
    (idx a1 i11).bind fun e13 =>
    (w_toSparePart e13).bind fun r18 =>
    (idx l10 i11).bind fun e20 =>
    w_toSparePartS_l1 k8 a1 N (List.set l10 (Int.toNat i11) r18) (w64 (i11 + 1))
    else
    k8 l10

def w_toSparePartS (N : Nat) (a1 : List SparePart) : Option (List SparePart) :=
  (mk (List.length a1 : Int) (SparePart.mk [] 0 0 0 0)).bind fun l4 =>
  withK (fun (l7 : List SparePart) =>
  some l7) fun (k8 : (List SparePart) → Option (List SparePart)) =>
  w_toSparePartS_l1 k8 a1 N l4 0

def w_toInt64S_l1 (k8 : (List Int) → Option (List Int)) (a1 : List Int) : Nat → (List Int) → Int → Option (List Int)
  | 0, _, _ => none
  | N + 1, l10, i11 =>
    bif decide (i11 < (List.length a1 : Int)) then
    (idx a1 i11).bind fun e13 =>
    (idx l10 i11).bind fun e18 =>
    w_toInt64S_l1 k8 a1 N (List.set l10 (Int.toNat i11) e13) (w64 (i11 + 1))
    else
    k8 l10

def w_toInt64S (N : Nat) (a1 : List Int) : Option (List Int) :=
  (mk (List.length a1 : Int) 0).bind fun l4 =>
  withK (fun (l7 : List Int) =>
  some l7) fun (k8 : (List Int) → Option (List Int)) =>
  w_toInt64S_l1 k8 a1 N l4 0

def s_l01Small (c1 : UInt8) : Option Bool :=
  (andO (decide (c1 ≥ (97 : UInt8))) (some (decide (c1 ≤ (122 : UInt8))))).bind fun t2 =>
  some t2

def s_l01Digit (c1 : UInt8) : Option Bool :=
  (andO (decide (c1 ≥ (48 : UInt8))) (some (decide (c1 ≤ (57 : UInt8))))).bind fun t2 =>
  some t2

def s_IsName_l1 (k13 : Option Bool) (s1 : Str) : Nat → Int → Option Bool
  | 0, _ => none
  | N + 1, i15 =>
    bif decide (i15 < (List.length s1 : Int)) then
    (idx s1 i15).bind fun c17 =>
    (s_l01Small c17).bind fun r19 =>
    (andO (!r19) ((idx s1 i15).bind fun c24 =>
    (s_l01Digit c24).bind fun r26 =>
    some (!r26))).bind fun t21 =>
    (andO t21 ((idx s1 i15).bind fun c31 =>
    some (c31 != (45 : UInt8)))).bind fun t28 =>
    bif t28 then
    some false
    else
    s_IsName_l1 k13 s1 N (w64 (i15 + 1))
    else
    k13 

def s_IsName (N : Nat) (s1 : Str) : Option Bool :=
  (orO (s1 == []) (some (decide ((List.length s1 : Int) > 12)))).bind fun t2 =>
  (orO t2 ((idx s1 0).bind fun c8 =>
  (s_l01Small c8).bind fun r10 =>
  some (!r10))).bind fun t5 =>
  bif t5 then
  some false
  else
  withK (some true) fun (k13 : Option Bool) =>
  s_IsName_l1 k13 s1 N 0

def s_l00In (n1 : Int) (low2 : Int) (high3 : Int) : Option Bool :=
  (andO (decide (n1 ≥ low2)) (some (decide (n1 ≤ high3)))).bind fun t4 =>
  some t4

def s_l24Many (n1 : Int) : Option Bool :=
  (s_l00In n1 0 100000).bind fun r2 =>
  some r2

def s_l24Ok_l2 (k40 : Option Bool) (list1 : List SparePart) (x6 : Int) (e10 : SparePart) : Nat → Int → Option Bool
  | 0, _ => none
  | N + 1, x40 =>
    bif decide (x40 < x6) then
    (idx list1 x40).bind fun e42 =>
    bif (e42.name == e10.name) then
    some false
    else
    s_l24Ok_l2 k40 list1 x6 e10 N (w64 (x40 + 1))
    else
    k40 

def s_l24Ok_l3 (k9 : Option Bool) (list1 : List SparePart) : Nat → Int → Int → Option Bool
  | 0, _, _ => none
  | N + 1, x48, x49 =>
    bif decide (x48 ≥ 0) then
    (orO (decide (x49 > (List.length list1 : Int))) ((s_l00In x48 0 (w64 ((List.length list1 : Int) - 1))).bind fun r54 =>
    some (!r54))).bind fun t51 =>
    bif t51 then
    some false
    else
    (idx list1 x48).bind fun e57 =>
    s_l24Ok_l3 k9 list1 N e57.instead (w64 (x49 + 1))
    else
    k9 

def s_l24Ok_l1 (k4 : Option Bool) (list1 : List SparePart) : Nat → Int → Option Bool
  | 0, _ => none
  | N + 1, x6 =>
    bif decide (x6 < (List.length list1 : Int)) then
    withK (s_l24Ok_l1 k4 list1 N (w64 (x6 + 1))) fun (k9 : Option Bool) =>
    (idx list1 x6).bind fun e10 =>
    (s_IsName N e10.name).bind fun r15 =>
    (orO (!r15) ((s_l24Many e10.stock).bind fun r20 =>
    some (!r20))).bind fun t17 =>
    (orO t17 ((s_l24Many e10.target).bind fun r25 =>
    some (!r25))).bind fun t22 =>
    (orO t22 ((s_l00In e10.days 0 365).bind fun r30 =>
    some (!r30))).bind fun t27 =>
    (orO t27 ((s_l00In e10.instead (-1) (w64 ((List.length list1 : Int) - 1))).bind fun r35 =>
    some (!r35))).bind fun t32 =>
    bif t32 then
    some false
    else
    withK (s_l24Ok_l3 k9 list1 N e10.instead 0) fun (k40 : Option Bool) =>
    s_l24Ok_l2 k40 list1 x6 e10 N 0
    else
    k4 

def s_l24Ok (N : Nat) (list1 : List SparePart) : Option Bool :=
  withK (some (decide ((List.length list1 : Int) ≤ 40))) fun (k4 : Option Bool) =>
  s_l24Ok_l1 k4 list1 N 0

def s_l24Wants_l1 (k10 : Option Int) (wants4 : List Int) : Nat → Int → Option Int
  | 0, _ => none
  | N + 1, i12 =>
    bif decide (i12 < (List.length wants4 : Int)) then
    (idx wants4 i12).bind fun e14 =>
    (s_l24Many e14).bind fun r19 =>
    bif !r19 then
    some 2
    else
    s_l24Wants_l1 k10 wants4 N (w64 (i12 + 1))
    else
    k10 

def s_l24Wants (N : Nat) (list1 : List SparePart) (wants4 : List Int) : Option Int :=
  (s_l24Ok N list1).bind fun r7 =>
  bif !r7 then
  some 1
  else
  withK (bif ((List.length wants4 : Int) != (List.length list1 : Int)) then
  some 2
  else
  some 0) fun (k10 : Option Int) =>
  s_l24Wants_l1 k10 wants4 N 0

def s_l00Max (a1 : Int) (b2 : Int) : Option Int :=
  bif decide (a1 > b2) then
  some a1
  else
  some b2

def s_DaysUntil_l1 (k11 : Int → Option (Int × Int)) (list1 : List SparePart) (wants4 : List Int) : Nat → Int → Int → Option (Int × Int)
  | 0, _, _ => none
  | N + 1, most13, i14 =>
    bif decide (i14 < (List.length list1 : Int)) then
    withK (fun (most16 : Int) =>
    s_DaysUntil_l1 k11 list1 wants4 N most16 (w64 (i14 + 1))) fun (k18 : Int → Option (Int × Int)) =>
    (idx wants4 i14).bind fun e19 =>
    (idx list1 i14).bind fun e24 =>
    bif decide (e19 > e24.stock) then
    (idx list1 i14).bind fun e30 =>
    (s_l00Max most13 e30.days).bind fun r35 =>
    k18 r35
    else
    k18 most13
    else
    k11 most13

def s_DaysUntil (N : Nat) (list1 : List SparePart) (wants4 : List Int) : Option (Int × Int) :=
  (s_l24Wants N list1 wants4).bind fun r7 =>
  bif (r7 != 0) then
  some (0, r7)
  else
  withK (fun (most10 : Int) =>
  some (most10, 0)) fun (k11 : Int → Option (Int × Int)) =>
  s_DaysUntil_l1 k11 list1 wants4 N 0 0

def i_isDigit (b1 : UInt8) : Option Bool :=
  (andO (decide (b1 ≥ (48 : UInt8))) (some (decide (b1 ≤ (57 : UInt8))))).bind fun t2 =>
  some t2

def i_IsName_l1 (k6 : Option Bool) (s1 : Str) : Nat → Int → Option Bool
  | 0, _ => none
  | N + 1, x8 =>
    bif decide (x8 < (List.length s1 : Int)) then
    (idx s1 x8).bind fun c10 =>
    (andO (decide (c10 ≥ (97 : UInt8))) ((idx s1 x8).bind fun c15 =>
    some (decide (c15 ≤ (122 : UInt8))))).bind fun t12 =>
    (andO (!t12) ((orO (x8 == 0) ((idx s1 x8).bind fun c23 =>
    (andO (c23 != (45 : UInt8)) ((idx s1 x8).bind fun c28 =>
    (i_isDigit c28).bind fun r30 =>
    some (!r30))).bind fun t25 =>
    some t25)).bind fun t20 =>
    some t20)).bind fun t17 =>
    bif t17 then
    some false
    else
    i_IsName_l1 k6 s1 N (w64 (x8 + 1))
    else
    k6 

def i_IsName (N : Nat) (s1 : Str) : Option Bool :=
  (orO ((List.length s1 : Int) == 0) (some (decide ((List.length s1 : Int) > 12)))).bind fun t2 =>
  bif t2 then
  some false
  else
  withK (some true) fun (k6 : Option Bool) =>
  i_IsName_l1 k6 s1 N 0

def i_between (n1 : Int) (low2 : Int) (high3 : Int) : Option Bool :=
  (andO (decide (n1 ≥ low2)) (some (decide (n1 ≤ high3)))).bind fun t4 =>
  some t4

def i_ValidParts_l1 (k6 : Option Bool) (list1 : List SparePart) : Nat → (List (Str × Bool)) → Int → Option Bool
  | 0, _, _ => none
  | N + 1, mp8, x9 =>
    bif decide (x9 < (List.length list1 : Int)) then
    (idx list1 x9).bind fun e11 =>
    (i_IsName N e11.name).bind fun r17 =>
    (orO (!r17) (some (mget mp8 e11.name))).bind fun t19 =>
    (orO t19 ((i_between e11.stock 0 100000).bind fun r25 =>
    some (!r25))).bind fun t22 =>
    (orO t22 ((i_between e11.target 0 100000).bind fun r30 =>
    some (!r30))).bind fun t27 =>
    (orO t27 ((i_between e11.days 0 365).bind fun r35 =>
    some (!r35))).bind fun t32 =>
    (orO t32 ((i_between e11.instead (-1) (w64 ((List.length list1 : Int) - 1))).bind fun r40 =>
    some (!r40))).bind fun t37 =>
    bif t37 then
    some false
    else
    i_ValidParts_l1 k6 list1 N (mset mp8 e11.name true) (w64 (x9 + 1))
    else
    k6 

def i_ValidParts_l3 (k48 : Option Bool) (list1 : List SparePart) : Nat → Int → Int → Option Bool
  | 0, _, _ => none
  | N + 1, x49, x50 =>
    bif decide (x49 ≥ 0) then
    (idx list1 x49).bind fun e52 =>
    bif decide ((w64 (x50 + 1)) > (List.length list1 : Int)) then
    some false
    else
    i_ValidParts_l3 k48 list1 N e52.instead (w64 (x50 + 1))
    else
    k48 

def i_ValidParts_l2 (k43 : Option Bool) (list1 : List SparePart) : Nat → Int → Option Bool
  | 0, _ => none
  | N + 1, x45 =>
    bif decide (x45 < (List.length list1 : Int)) then
    withK (i_ValidParts_l2 k43 list1 N (w64 (x45 + 1))) fun (k48 : Option Bool) =>
    i_ValidParts_l3 k48 list1 N x45 0
    else
    k43 

def i_ValidParts (N : Nat) (list1 : List SparePart) : Option Bool :=
  bif decide ((List.length list1 : Int) > 40) then
  some false
  else
  withK (withK (some true) fun (k43 : Option Bool) =>
  i_ValidParts_l2 k43 list1 N 0) fun (k6 : Option Bool) =>
  i_ValidParts_l1 k6 list1 N [] 0

def i_numbersCode_l1 (k11 : Option Int) (numbers4 : List Int) : Nat → Int → Option Int
  | 0, _ => none
  | N + 1, x13 =>
    bif decide (x13 < (List.length numbers4 : Int)) then
    (idx numbers4 x13).bind fun e15 =>
    (i_between e15 0 100000).bind fun r20 =>
    bif !r20 then
    some 2
    else
    i_numbersCode_l1 k11 numbers4 N (w64 (x13 + 1))
    else
    k11 

def i_numbersCode (N : Nat) (list1 : List SparePart) (numbers4 : List Int) : Option Int :=
  (i_ValidParts N list1).bind fun r7 =>
  bif !r7 then
  some 1
  else
  bif ((List.length numbers4 : Int) != (List.length list1 : Int)) then
  some 2
  else
  withK (some 0) fun (k11 : Option Int) =>
  i_numbersCode_l1 k11 numbers4 N 0

def i_DaysUntil_l1 (k11 : Int → Option (Int × Int)) (list1 : List SparePart) (wants4 : List Int) : Nat → Int → Int → Option (Int × Int)
  | 0, _, _ => none
  | N + 1, days13, x14 =>
    bif decide (x14 < (List.length list1 : Int)) then
    withK (fun (days16 : Int) =>
    i_DaysUntil_l1 k11 list1 wants4 N days16 (w64 (x14 + 1))) fun (k18 : Int → Option (Int × Int)) =>
    (idx list1 x14).bind fun e19 =>
    (idx wants4 x14).bind fun e25 =>
    bif decide (e19.stock < e25) then
    k18 (imax days13 e19.days)
    else
    k18 days13
    else
    k11 days13

def i_DaysUntil (N : Nat) (list1 : List SparePart) (wants4 : List Int) : Option (Int × Int) :=
  (i_numbersCode N list1 wants4).bind fun r7 =>
  bif (r7 != 0) then
  some (0, r7)
  else
  withK (fun (days10 : Int) =>
  some (days10, 0)) fun (k11 : Int → Option (Int × Int)) =>
  i_DaysUntil_l1 k11 list1 wants4 N 0 0

def w_eqSparePart (a1 : SparePart) (b2 : SparePart) : Option Bool :=
  bif (a1.name != b2.name) then
  some false
  else
  bif (a1.stock != b2.stock) then
  some false
  else
  bif (a1.target != b2.target) then
  some false
  else
  bif (a1.days != b2.days) then
  some false
  else
  bif (a1.instead != b2.instead) then
  some false
  else
  some true

def w_eqSparePartS_l1 (k8 : Option Bool) (a1 : List SparePart) (b4 : List SparePart) : Nat → Int → Option Bool
  | 0, _ => none
  | N + 1, i10 =>
    bif decide (i10 < (List.length a1 : Int)) then
    (idx a1 i10).bind fun e12 =>
    (idx b4 i10).bind fun e17 =>
    (w_eqSparePart e12 e17).bind fun r22 =>
    bif !r22 then
    some false
    else
    w_eqSparePartS_l1 k8 a1 b4 N (w64 (i10 + 1))
    else
    k8 

def w_eqSparePartS (N : Nat) (a1 : List SparePart) (b4 : List SparePart) : Option Bool :=
  bif ((List.length a1 : Int) != (List.length b4 : Int)) then
  some false
  else
  withK (some true) fun (k8 : Option Bool) =>
  w_eqSparePartS_l1 k8 a1 b4 N 0

def w_eqInt64S_l1 (k8 : Option Bool) (a1 : List Int) (b4 : List Int) : Nat → Int → Option Bool
  | 0, _ => none
  | N + 1, i10 =>
    bif decide (i10 < (List.length a1 : Int)) then
    (idx a1 i10).bind fun e12 =>
    (idx b4 i10).bind fun e17 =>
    bif (e12 != e17) then
    some false
    else
    w_eqInt64S_l1 k8 a1 b4 N (w64 (i10 + 1))
    else
    k8 

def w_eqInt64S (N : Nat) (a1 : List Int) (b4 : List Int) : Option Bool :=
  bif ((List.length a1 : Int) != (List.length b4 : Int)) then
  some false
  else
  withK (some true) fun (k8 : Option Bool) =>
  w_eqInt64S_l1 k8 a1 b4 N 0

def w_FnExactDaysUntil (N : Nat) (aList1 : List SparePart) (aWants4 : List Int) : Option Bool :=
  bif decide ((List.length aWants4 : Int) > 1048576) then
  some true
  else
  (w_szSparePartS N aList1 1048576).bind fun r8 =>
  bif decide (r8 < 0) then
  some true
  else
  (w_toSparePartS N aList1).bind fun r11 =>
  (w_toInt64S N aWants4).bind fun r14 =>
  (s_DaysUntil N r11 r14).bind fun r17 =>
  (w_toSparePartS N aList1).bind fun r19 =>
  (w_toInt64S N aWants4).bind fun r22 =>
  (i_DaysUntil N r19 r22).bind fun r25 =>
  (orO (r25.1 != r17.1) (some (r25.2 != r17.2))).bind fun t27 =>
  bif t27 then
  some false
  else
  (w_toSparePartS N aList1).bind fun r31 =>
  (w_eqSparePartS N r19 r31).bind fun r34 =>
  bif !r34 then
  some false
  else
  (w_toInt64S N aWants4).bind fun r37 =>
  (w_eqInt64S N r22 r37).bind fun r40 =>
  bif !r40 then
  some false
  else
  some true

end Go.Proofs.Ytigjflandggihaa
