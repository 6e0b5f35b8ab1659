/-
  Plain functions that compute what the Go functions compute. No conditions.
-/
import Derived.Test.YtdnnnakjhehfkaaDoorBase
namespace Go.Proofs.YtdnnnakjhehfkaaDoor
set_option linter.unusedVariables false
set_option linter.unusedSimpArgs false

structure SparePart where
  name : Str
  stock : Int
  target : Int
  days : Int
  instead : Int

def SparePart.beq (x y : SparePart) : Bool := x.name == y.name && (x.stock == y.stock && (x.target == y.target && (x.days == y.days && (x.instead == y.instead))))

def wfSparePart (x : SparePart) : Prop := wfStr x.name ∧ wfI64 x.stock ∧ wfI64 x.target ∧ wfI64 x.days ∧ wfI64 x.instead

def w_szSparePart (a1 : SparePart) (left2 : Int) : Option Int :=
  bif decide ((w64 (left2 - (List.length a1.name : Int))) < 0) then
  some (-1)
  else
  some (w64 (left2 - (List.length a1.name : Int)))

def w_szSparePartS_l1 (kj7 : Int → Option Int) (a1 : List SparePart) : Nat → Int → Int → Option Int
  | 0, _, _ => none
  | N + 1, left9, i10 =>
    bif decide (i10 < (List.length a1 : Int)) then
    (idx a1 i10).bind fun e12 =>
    (w_szSparePart e12 left9).bind fun r17 =>
    bif decide (r17 < 0) then
    some (-1)
    else
    w_szSparePartS_l1 kj7 a1 N r17 (w64 (i10 + 1))
    else
    kj7 left9

def w_szSparePartS (N : Nat) (a1 : List SparePart) (left4 : Int) : Option Int :=
  bif decide ((w64 (left4 - (List.length a1 : Int))) < 0) then
  some (-1)
  else
  withK (fun (left6 : Int) =>
  some left6) fun (kj7 : Int → Option Int) =>
  w_szSparePartS_l1 kj7 a1 N (w64 (left4 - (List.length a1 : Int))) 0

def w_toSparePart (a1 : SparePart) : Option SparePart :=
  some (SparePart.mk a1.name a1.stock a1.target a1.days a1.instead)

def w_toSparePartS_l1 (kj8 : (List SparePart) → Option (List SparePart)) (a1 : List SparePart) : Nat → (List SparePart) → Int → Option (List SparePart)
  | 0, _, _ => none
  | N + 1, l10, i11 =>
    bif decide (i11 < (List.length a1 : Int)) then
    (idx a1 i11).bind fun e13 =>
    (w_toSparePart e13).bind fun r18 =>
    (idx l10 i11).bind fun e20 =>
    w_toSparePartS_l1 kj8 a1 N (List.set l10 (Int.toNat i11) r18) (w64 (i11 + 1))
    else
    kj8 l10

def w_toSparePartS (N : Nat) (a1 : List SparePart) : Option (List SparePart) :=
  (mk (List.length a1 : Int) (SparePart.mk [] 0 0 0 0)).bind fun l4 =>
  withK (fun (l7 : List SparePart) =>
  some l7) fun (kj8 : (List SparePart) → Option (List SparePart)) =>
  w_toSparePartS_l1 kj8 a1 N l4 0

def s_l01Small (c1 : UInt8) : Option Bool :=
  (andO (decide (c1 ≥ (97 : UInt8))) (some (decide (c1 ≤ (122 : UInt8))))).bind fun t2 =>
  some t2

def s_l01Digit (c1 : UInt8) : Option Bool :=
  (andO (decide (c1 ≥ (48 : UInt8))) (some (decide (c1 ≤ (57 : UInt8))))).bind fun t2 =>
  some t2

def s_IsName_l1 (kj13 : Option Bool) (s1 : Str) : Nat → Int → Option Bool
  | 0, _ => none
  | N + 1, i15 =>
    bif decide (i15 < (List.length s1 : Int)) then
    (idx s1 i15).bind fun c17 =>
    (s_l01Small c17).bind fun r19 =>
    (andO (!r19) ((idx s1 i15).bind fun c24 =>
    (s_l01Digit c24).bind fun r26 =>
    some (!r26))).bind fun t21 =>
    (andO t21 ((idx s1 i15).bind fun c31 =>
    some (c31 != (45 : UInt8)))).bind fun t28 =>
    bif t28 then
    some false
    else
    s_IsName_l1 kj13 s1 N (w64 (i15 + 1))
    else
    kj13 

def s_IsName (N : Nat) (s1 : Str) : Option Bool :=
  (orO (s1 == []) (some (decide ((List.length s1 : Int) > 12)))).bind fun t2 =>
  (orO t2 ((idx s1 0).bind fun c8 =>
  (s_l01Small c8).bind fun r10 =>
  some (!r10))).bind fun t5 =>
  bif t5 then
  some false
  else
  withK (some true) fun (kj13 : Option Bool) =>
  s_IsName_l1 kj13 s1 N 0

def s_l00In (n1 : Int) (low2 : Int) (high3 : Int) : Option Bool :=
  (andO (decide (n1 ≥ low2)) (some (decide (n1 ≤ high3)))).bind fun t4 =>
  some t4

def s_l24Many (n1 : Int) : Option Bool :=
  (s_l00In n1 0 100000).bind fun r2 =>
  some r2

def s_l24Ok_l2 (kj38 : Option Bool) (list1 : List SparePart) (i6 : Int) (e10 : SparePart) : Nat → Int → Option Bool
  | 0, _ => none
  | N + 1, k40 =>
    bif decide (k40 < i6) then
    (idx list1 k40).bind fun e42 =>
    bif (e42.name == e10.name) then
    some false
    else
    s_l24Ok_l2 kj38 list1 i6 e10 N (w64 (k40 + 1))
    else
    kj38 

def s_l24Ok_l3 (kj8 : Option Bool) (list1 : List SparePart) : Nat → Int → Int → Option Bool
  | 0, _, _ => none
  | N + 1, at48, steps49 =>
    bif decide (at48 ≥ 0) then
    (orO (decide (steps49 > (List.length list1 : Int))) ((s_l00In at48 0 (w64 ((List.length list1 : Int) - 1))).bind fun r54 =>
    some (!r54))).bind fun t51 =>
    bif t51 then
    some false
    else
    (idx list1 at48).bind fun e57 =>
    s_l24Ok_l3 kj8 list1 N e57.instead (w64 (steps49 + 1))
    else
    kj8 

def s_l24Ok_l1 (kj4 : Option Bool) (list1 : List SparePart) : Nat → Int → Option Bool
  | 0, _ => none
  | N + 1, i6 =>
    bif decide (i6 < (List.length list1 : Int)) then
    withK (s_l24Ok_l1 kj4 list1 N (w64 (i6 + 1))) fun (kj8 : Option Bool) =>
    (idx list1 i6).bind fun e10 =>
    (s_IsName N e10.name).bind fun r15 =>
    (orO (!r15) ((s_l24Many e10.stock).bind fun r20 =>
    some (!r20))).bind fun t17 =>
    (orO t17 ((s_l24Many e10.target).bind fun r25 =>
    some (!r25))).bind fun t22 =>
    (orO t22 ((s_l00In e10.days 0 365).bind fun r30 =>
    some (!r30))).bind fun t27 =>
    (orO t27 ((s_l00In e10.instead (-1) (w64 ((List.length list1 : Int) - 1))).bind fun r35 =>
    some (!r35))).bind fun t32 =>
    bif t32 then
    some false
    else
    withK (s_l24Ok_l3 kj8 list1 N e10.instead 0) fun (kj38 : Option Bool) =>
    s_l24Ok_l2 kj38 list1 i6 e10 N 0
    else
    kj4 

def s_l24Ok (N : Nat) (list1 : List SparePart) : Option Bool :=
  withK (some (decide ((List.length list1 : Int) ≤ 40))) fun (kj4 : Option Bool) =>
  s_l24Ok_l1 kj4 list1 N 0

def s_l01Dec_l1 (kj5 : (List UInt8) → Option Str) : Nat → (List UInt8) → Int → Option Str
  | 0, _, _ => none
  | N + 1, l7, k9 =>
    bif (k9 != 0) then
    withK (fun (d11 : Int) =>
    (app [UInt8.ofInt (w64 (48 + d11))] l7).bind fun l16 =>
    s_l01Dec_l1 kj5 N l16 (w64 (Int.tdiv k9 10))) fun (kj12 : Int → Option Str) =>
    bif decide ((Int.tmod k9 10) < 0) then
    kj12 (w64 (0 - (Int.tmod k9 10)))
    else
    kj12 (Int.tmod k9 10)
    else
    kj5 l7

def s_l01Dec (N : Nat) (n1 : Int) : Option Str :=
  withK (fun (l3 : List UInt8) =>
  bif ((List.length l3 : Int) == 0) then
  some [48]
  else
  bif decide (n1 < 0) then
  (cat [45] l3).bind fun s21 =>
  some s21
  else
  some l3) fun (kj5 : (List UInt8) → Option Str) =>
  s_l01Dec_l1 kj5 N [] n1

def s_PartText (N : Nat) (list1 : List SparePart) (k4 : Int) : Option Str :=
  (s_l24Ok N list1).bind fun r5 =>
  (orO (!r5) ((s_l00In k4 0 (w64 ((List.length list1 : Int) - 1))).bind fun r10 =>
  some (!r10))).bind fun t7 =>
  bif t7 then
  some []
  else
  (idx list1 k4).bind fun e13 =>
  (cat e13.name [32]).bind fun s18 =>
  (s_l01Dec N e13.stock).bind fun r20 =>
  (cat s18 r20).bind fun s22 =>
  (cat s22 [47]).bind fun s24 =>
  (s_l01Dec N e13.target).bind fun r26 =>
  (cat s24 r26).bind fun s28 =>
  (cat s28 [32, 105, 110, 32]).bind fun s30 =>
  (s_l01Dec N e13.days).bind fun r32 =>
  (cat s30 r32).bind fun s34 =>
  (cat s34 [32, 100, 97, 121, 115]).bind fun s36 =>
  withK (fun (out38 : Str) =>
  some out38) fun (kj39 : Str → Option Str) =>
  bif decide (e13.instead ≥ 0) then
  (idx list1 e13.instead).bind fun e42 =>
  (cat [32, 111, 114, 32] e42.name).bind fun s47 =>
  (cat s36 s47).bind fun s49 =>
  kj39 s49
  else
  kj39 s36

def i_isDigit (b1 : UInt8) : Option Bool :=
  (andO (decide (b1 ≥ (48 : UInt8))) (some (decide (b1 ≤ (57 : UInt8))))).bind fun t2 =>
  some t2

def i_IsName_l1 (kj6 : Option Bool) (s1 : Str) : Nat → Int → Option Bool
  | 0, _ => none
  | N + 1, x8 =>
    bif decide (x8 < (List.length s1 : Int)) then
    (idx s1 x8).bind fun c10 =>
    (andO (decide (c10 ≥ (97 : UInt8))) ((idx s1 x8).bind fun c15 =>
    some (decide (c15 ≤ (122 : UInt8))))).bind fun t12 =>
    (andO (!t12) ((orO (x8 == 0) ((idx s1 x8).bind fun c23 =>
    (andO (c23 != (45 : UInt8)) ((idx s1 x8).bind fun c28 =>
    (i_isDigit c28).bind fun r30 =>
    some (!r30))).bind fun t25 =>
    some t25)).bind fun t20 =>
    some t20)).bind fun t17 =>
    bif t17 then
    some false
    else
    i_IsName_l1 kj6 s1 N (w64 (x8 + 1))
    else
    kj6 

def i_IsName (N : Nat) (s1 : Str) : Option Bool :=
  (orO ((List.length s1 : Int) == 0) (some (decide ((List.length s1 : Int) > 12)))).bind fun t2 =>
  bif t2 then
  some false
  else
  withK (some true) fun (kj6 : Option Bool) =>
  i_IsName_l1 kj6 s1 N 0

def i_between (n1 : Int) (low2 : Int) (high3 : Int) : Option Bool :=
  (andO (decide (n1 ≥ low2)) (some (decide (n1 ≤ high3)))).bind fun t4 =>
  some t4

def i_ValidParts_l1 (kj6 : Option Bool) (list1 : List SparePart) : Nat → (List (Str × Bool)) → Int → Option Bool
  | 0, _, _ => none
  | N + 1, mp8, x9 =>
    bif decide (x9 < (List.length list1 : Int)) then
    (idx list1 x9).bind fun e11 =>
    (i_IsName N e11.name).bind fun r17 =>
    (orO (!r17) (some (mget mp8 e11.name))).bind fun t19 =>
    (orO t19 ((i_between e11.stock 0 100000).bind fun r25 =>
    some (!r25))).bind fun t22 =>
    (orO t22 ((i_between e11.target 0 100000).bind fun r30 =>
    some (!r30))).bind fun t27 =>
    (orO t27 ((i_between e11.days 0 365).bind fun r35 =>
    some (!r35))).bind fun t32 =>
    (orO t32 ((i_between e11.instead (-1) (w64 ((List.length list1 : Int) - 1))).bind fun r40 =>
    some (!r40))).bind fun t37 =>
    bif t37 then
    some false
    else
    i_ValidParts_l1 kj6 list1 N (mset mp8 e11.name true) (w64 (x9 + 1))
    else
    kj6 

def i_ValidParts_l3 (kj47 : Option Bool) (list1 : List SparePart) : Nat → Int → Int → Option Bool
  | 0, _, _ => none
  | N + 1, at49, steps50 =>
    bif decide (at49 ≥ 0) then
    (idx list1 at49).bind fun e52 =>
    bif decide ((w64 (steps50 + 1)) > (List.length list1 : Int)) then
    some false
    else
    i_ValidParts_l3 kj47 list1 N e52.instead (w64 (steps50 + 1))
    else
    kj47 

def i_ValidParts_l2 (kj43 : Option Bool) (list1 : List SparePart) : Nat → Int → Option Bool
  | 0, _ => none
  | N + 1, x45 =>
    bif decide (x45 < (List.length list1 : Int)) then
    withK (i_ValidParts_l2 kj43 list1 N (w64 (x45 + 1))) fun (kj47 : Option Bool) =>
    i_ValidParts_l3 kj47 list1 N x45 0
    else
    kj43 

def i_ValidParts (N : Nat) (list1 : List SparePart) : Option Bool :=
  bif decide ((List.length list1 : Int) > 40) then
  some false
  else
  withK (withK (some true) fun (kj43 : Option Bool) =>
  i_ValidParts_l2 kj43 list1 N 0) fun (kj6 : Option Bool) =>
  i_ValidParts_l1 kj6 list1 N [] 0

def i_Decimal (n1 : Int) : Option Str :=
  (fmtI n1 10).bind fun r2 =>
  some r2

def i_PartText (N : Nat) (list1 : List SparePart) (k4 : Int) : Option Str :=
  (i_ValidParts N list1).bind fun r5 =>
  (orO (!r5) ((i_between k4 0 (w64 ((List.length list1 : Int) - 1))).bind fun r10 =>
  some (!r10))).bind fun t7 =>
  bif t7 then
  some []
  else
  (idx list1 k4).bind fun e13 =>
  (cat e13.name [32]).bind fun s19 =>
  (i_Decimal e13.stock).bind fun r21 =>
  (cat s19 r21).bind fun s23 =>
  (cat s23 [47]).bind fun s25 =>
  (i_Decimal e13.target).bind fun r27 =>
  (cat s25 r27).bind fun s29 =>
  (cat s29 [32, 105, 110, 32]).bind fun s31 =>
  (i_Decimal e13.days).bind fun r33 =>
  (cat s31 r33).bind fun s35 =>
  (cat s35 [32, 100, 97, 121, 115]).bind fun s37 =>
  withK (fun (out39 : Str) =>
  some out39) fun (kj40 : Str → Option Str) =>
  bif decide (e13.instead ≥ 0) then
  (idx list1 e13.instead).bind fun e43 =>
  (cat [32, 111, 114, 32] e43.name).bind fun s48 =>
  (cat s37 s48).bind fun s50 =>
  kj40 s50
  else
  kj40 s37

def w_eqSparePart (a1 : SparePart) (b2 : SparePart) : Option Bool :=
  bif (a1.name != b2.name) then
  some false
  else
  bif (a1.stock != b2.stock) then
  some false
  else
  bif (a1.target != b2.target) then
  some false
  else
  bif (a1.days != b2.days) then
  some false
  else
  bif (a1.instead != b2.instead) then
  some false
  else
  some true

def w_eqSparePartS_l1 (kj8 : Option Bool) (a1 : List SparePart) (b4 : List SparePart) : Nat → Int → Option Bool
  | 0, _ => none
  | N + 1, i10 =>
    bif decide (i10 < (List.length a1 : Int)) then
    (idx a1 i10).bind fun e12 =>
    (idx b4 i10).bind fun e17 =>
    (w_eqSparePart e12 e17).bind fun r22 =>
    bif !r22 then
    some false
    else
    w_eqSparePartS_l1 kj8 a1 b4 N (w64 (i10 + 1))
    else
    kj8 

def w_eqSparePartS (N : Nat) (a1 : List SparePart) (b4 : List SparePart) : Option Bool :=
  bif ((List.length a1 : Int) != (List.length b4 : Int)) then
  some false
  else
  withK (some true) fun (kj8 : Option Bool) =>
  w_eqSparePartS_l1 kj8 a1 b4 N 0

def w_FnExactPartText (N : Nat) (aList1 : List SparePart) (aK4 : Int) : Option Bool :=
  (w_szSparePartS N aList1 1048576).bind fun r5 =>
  bif decide (r5 < 0) then
  some true
  else
  (w_toSparePartS N aList1).bind fun r8 =>
  (s_PartText N r8 aK4).bind fun r11 =>
  (w_toSparePartS N aList1).bind fun r13 =>
  (i_PartText N r13 aK4).bind fun r16 =>
  bif (r16 != r11) then
  some false
  else
  (w_toSparePartS N aList1).bind fun r19 =>
  (w_eqSparePartS N r13 r19).bind fun r22 =>
  bif !r22 then
  some false
  else
  some true

end Go.Proofs.YtdnnnakjhehfkaaDoor
