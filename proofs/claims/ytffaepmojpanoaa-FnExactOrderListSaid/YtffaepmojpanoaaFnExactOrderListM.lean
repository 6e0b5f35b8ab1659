/-
  Plain functions that compute what the Go functions compute. No conditions.
-/
import Derived.Test.YtffaepmojpanoaaBase
namespace Go.Proofs.Ytffaepmojpanoaa
set_option linter.unusedVariables false
set_option linter.unusedSimpArgs false

structure SparePart where
  name : Str
  stock : Int
  target : Int
  days : Int
  instead : Int

def SparePart.beq (x y : SparePart) : Bool := x.name == y.name && (x.stock == y.stock && (x.target == y.target && (x.days == y.days && (x.instead == y.instead))))

def wfSparePart (x : SparePart) : Prop := wfStr x.name ∧ wfI64 x.stock ∧ wfI64 x.target ∧ wfI64 x.days ∧ wfI64 x.instead

def w_szSparePart (a1 : SparePart) (left2 : Int) : Option Int :=
  bif decide ((w64 (left2 - (List.length a1.name : Int))) < 0) then
  some (-1)
  else
  some (w64 (left2 - (List.length a1.name : Int)))

def w_szSparePartS_l1 (k7 : Int → Option Int) (a1 : List SparePart) : Nat → Int → Int → Option Int
  | 0, _, _ => none
  | N + 1, left9, i10 =>
    bif decide (i10 < (List.length a1 : Int)) then
    (idx a1 i10).bind fun e12 =>
    (w_szSparePart e12 left9).bind fun r17 =>
    bif decide (r17 < 0) then
    some (-1)
    else
    w_szSparePartS_l1 k7 a1 N r17 (w64 (i10 + 1))
    else
    k7 left9

def w_szSparePartS (N : Nat) (a1 : List SparePart) (left4 : Int) : Option Int :=
  bif decide ((w64 (left4 - (List.length a1 : Int))) < 0) then
  some (-1)
  else
  withK (fun (left6 : Int) =>
  some left6) fun (k7 : Int → Option Int) =>
  w_szSparePartS_l1 k7 a1 N (w64 (left4 - (List.length a1 : Int))) 0

def w_toSparePart (a1 : SparePart) : Option SparePart :=
  some (SparePart.mk a1.name a1.stock a1.target a1.days a1.instead)

def w_toSparePartS_l1 (k8 : (List SparePart) → Option (List SparePart)) (a1 : List SparePart) : Nat → (List SparePart) → Int → Option (List SparePart)
  | 0, _, _ => none
  | N + 1, l10, i11 =>
    bif decide (i11 < (List.length a1 : Int)) then
    (idx a1 i11).bind fun e13 =>
    (w_toSparePart e13).bind fun r18 =>
    (idx l10 i11).bind fun e20 =>
    w_toSparePartS_l1 k8 a1 N (List.set l10 (Int.toNat i11) r18) (w64 (i11 + 1))
    else
    k8 l10

def w_toSparePartS (N : Nat) (a1 : List SparePart) : Option (List SparePart) :=
  (mk (List.length a1 : Int) (SparePart.mk [] 0 0 0 0)).bind fun l4 =>
  withK (fun (l7 : List SparePart) =>
  some l7) fun (k8 : (List SparePart) → Option (List SparePart)) =>
  w_toSparePartS_l1 k8 a1 N l4 0

def s_l01Small (c1 : UInt8) : Option Bool :=
  (andO (decide (c1 ≥ (97 : UInt8))) (some (decide (c1 ≤ (122 : UInt8))))).bind fun t2 =>
  some t2

def s_l01Digit (c1 : UInt8) : Option Bool :=
  (andO (decide (c1 ≥ (48 : UInt8))) (some (decide (c1 ≤ (57 : UInt8))))).bind fun t2 =>
  some t2

def s_IsName_l1 (k13 : Option Bool) (s1 : Str) : Nat → Int → Option Bool
  | 0, _ => none
  | N + 1, i15 =>
    bif decide (i15 < (List.length s1 : Int)) then
    (idx s1 i15).bind fun c17 =>
    (s_l01Small c17).bind fun r19 =>
    (andO (!r19) ((idx s1 i15).bind fun c24 =>
    (s_l01Digit c24).bind fun r26 =>
    some (!r26))).bind fun t21 =>
    (andO t21 ((idx s1 i15).bind fun c31 =>
    some (c31 != (45 : UInt8)))).bind fun t28 =>
    bif t28 then
    some false
    else
    s_IsName_l1 k13 s1 N (w64 (i15 + 1))
    else
    k13 

def s_IsName (N : Nat) (s1 : Str) : Option Bool :=
  (orO (s1 == []) (some (decide ((List.length s1 : Int) > 12)))).bind fun t2 =>
  (orO t2 ((idx s1 0).bind fun c8 =>
  (s_l01Small c8).bind fun r10 =>
  some (!r10))).bind fun t5 =>
  bif t5 then
  some false
  else
  withK (some true) fun (k13 : Option Bool) =>
  s_IsName_l1 k13 s1 N 0

def s_l00In (n1 : Int) (low2 : Int) (high3 : Int) : Option Bool :=
  (andO (decide (n1 ≥ low2)) (some (decide (n1 ≤ high3)))).bind fun t4 =>
  some t4

def s_l24Many (n1 : Int) : Option Bool :=
  (s_l00In n1 0 100000).bind fun r2 =>
  some r2

def s_l24Ok_l2 (k40 : Option Bool) (list1 : List SparePart) (x6 : Int) (e10 : SparePart) : Nat → Int → Option Bool
  | 0, _ => none
  | N + 1, x40 =>
    bif decide (x40 < x6) then
    (idx list1 x40).bind fun e42 =>
    bif (e42.name == e10.name) then
    some false
    else
    s_l24Ok_l2 k40 list1 x6 e10 N (w64 (x40 + 1))
    else
    k40 

def s_l24Ok_l3 (k9 : Option Bool) (list1 : List SparePart) : Nat → Int → Int → Option Bool
  | 0, _, _ => none
  | N + 1, x48, x49 =>
    bif decide (x48 ≥ 0) then
    (orO (decide (x49 > (List.length list1 : Int))) ((s_l00In x48 0 (w64 ((List.length list1 : Int) - 1))).bind fun r54 =>
    some (!r54))).bind fun t51 =>
    bif t51 then
    some false
    else
    (idx list1 x48).bind fun e57 =>
    s_l24Ok_l3 k9 list1 N e57.instead (w64 (x49 + 1))
    else
    k9 

def s_l24Ok_l1 (k4 : Option Bool) (list1 : List SparePart) : Nat → Int → Option Bool
  | 0, _ => none
  | N + 1, x6 =>
    bif decide (x6 < (List.length list1 : Int)) then
    withK (s_l24Ok_l1 k4 list1 N (w64 (x6 + 1))) fun (k9 : Option Bool) =>
    (idx list1 x6).bind fun e10 =>
    (s_IsName N e10.name).bind fun r15 =>
    (orO (!r15) ((s_l24Many e10.stock).bind fun r20 =>
    some (!r20))).bind fun t17 =>
    (orO t17 ((s_l24Many e10.target).bind fun r25 =>
    some (!r25))).bind fun t22 =>
    (orO t22 ((s_l00In e10.days 0 365).bind fun r30 =>
    some (!r30))).bind fun t27 =>
    (orO t27 ((s_l00In e10.instead (-1) (w64 ((List.length list1 : Int) - 1))).bind fun r35 =>
    some (!r35))).bind fun t32 =>
    bif t32 then
    some false
    else
    withK (s_l24Ok_l3 k9 list1 N e10.instead 0) fun (k40 : Option Bool) =>
    s_l24Ok_l2 k40 list1 x6 e10 N 0
    else
    k4 

def s_l24Ok (N : Nat) (list1 : List SparePart) : Option Bool :=
  withK (some (decide ((List.length list1 : Int) ≤ 40))) fun (k4 : Option Bool) =>
  s_l24Ok_l1 k4 list1 N 0

def s_l00Max (a1 : Int) (b2 : Int) : Option Int :=
  bif decide (a1 > b2) then
  some a1
  else
  some b2

def s_OrderList_l1 (k10 : (List Int) → Option ((List Int) × Int)) (list1 : List SparePart) : Nat → (List Int) → Int → Option ((List Int) × Int)
  | 0, _, _ => none
  | N + 1, l12, i14 =>
    bif decide (i14 < (List.length list1 : Int)) then
    (idx list1 i14).bind fun e16 =>
    (idx list1 i14).bind fun e21 =>
    (s_l00Max 0 (w64 (e16.target - e21.stock))).bind fun r26 =>
    (app l12 [r26]).bind fun l29 =>
    s_OrderList_l1 k10 list1 N l29 (w64 (i14 + 1))
    else
    k10 l12

def s_OrderList (N : Nat) (list1 : List SparePart) : Option ((List Int) × Int) :=
  (s_l24Ok N list1).bind fun r4 =>
  bif !r4 then
  some ([], 1)
  else
  withK (fun (l8 : List Int) =>
  some (l8, 0)) fun (k10 : (List Int) → Option ((List Int) × Int)) =>
  s_OrderList_l1 k10 list1 N [] 0

def i_isDigit (b1 : UInt8) : Option Bool :=
  (andO (decide (b1 ≥ (48 : UInt8))) (some (decide (b1 ≤ (57 : UInt8))))).bind fun t2 =>
  some t2

def i_IsName_l1 (k6 : Option Bool) (s1 : Str) : Nat → Int → Option Bool
  | 0, _ => none
  | N + 1, x8 =>
    bif decide (x8 < (List.length s1 : Int)) then
    (idx s1 x8).bind fun c10 =>
    (andO (decide (c10 ≥ (97 : UInt8))) ((idx s1 x8).bind fun c15 =>
    some (decide (c15 ≤ (122 : UInt8))))).bind fun t12 =>
    (andO (!t12) ((orO (x8 == 0) ((idx s1 x8).bind fun c23 =>
    (andO (c23 != (45 : UInt8)) ((idx s1 x8).bind fun c28 =>
    (i_isDigit c28).bind fun r30 =>
    some (!r30))).bind fun t25 =>
    some t25)).bind fun t20 =>
    some t20)).bind fun t17 =>
    bif t17 then
    some false
    else
    i_IsName_l1 k6 s1 N (w64 (x8 + 1))
    else
    k6 

def i_IsName (N : Nat) (s1 : Str) : Option Bool :=
  (orO ((List.length s1 : Int) == 0) (some (decide ((List.length s1 : Int) > 12)))).bind fun t2 =>
  bif t2 then
  some false
  else
  withK (some true) fun (k6 : Option Bool) =>
  i_IsName_l1 k6 s1 N 0

def i_between (n1 : Int) (low2 : Int) (high3 : Int) : Option Bool :=
  (andO (decide (n1 ≥ low2)) (some (decide (n1 ≤ high3)))).bind fun t4 =>
  some t4

def i_ValidParts_l1 (k6 : Option Bool) (list1 : List SparePart) : Nat → (List (Str × Bool)) → Int → Option Bool
  | 0, _, _ => none
  | N + 1, mp8, x9 =>
    bif decide (x9 < (List.length list1 : Int)) then
    (idx list1 x9).bind fun e11 =>
    (i_IsName N e11.name).bind fun r17 =>
    (orO (!r17) (some (mget mp8 e11.name))).bind fun t19 =>
    (orO t19 ((i_between e11.stock 0 100000).bind fun r25 =>
    some (!r25))).bind fun t22 =>
    (orO t22 ((i_between e11.target 0 100000).bind fun r30 =>
    some (!r30))).bind fun t27 =>
    (orO t27 ((i_between e11.days 0 365).bind fun r35 =>
    some (!r35))).bind fun t32 =>
    (orO t32 ((i_between e11.instead (-1) (w64 ((List.length list1 : Int) - 1))).bind fun r40 =>
    some (!r40))).bind fun t37 =>
    bif t37 then
    some false
    else
    i_ValidParts_l1 k6 list1 N (mset mp8 e11.name true) (w64 (x9 + 1))
    else
    k6 

def i_ValidParts_l3 (k48 : Option Bool) (list1 : List SparePart) : Nat → Int → Int → Option Bool
  | 0, _, _ => none
  | N + 1, x49, x50 =>
    bif decide (x49 ≥ 0) then
    (idx list1 x49).bind fun e52 =>
    bif decide ((w64 (x50 + 1)) > (List.length list1 : Int)) then
    some false
    else
    i_ValidParts_l3 k48 list1 N e52.instead (w64 (x50 + 1))
    else
    k48 

def i_ValidParts_l2 (k43 : Option Bool) (list1 : List SparePart) : Nat → Int → Option Bool
  | 0, _ => none
  | N + 1, x45 =>
    bif decide (x45 < (List.length list1 : Int)) then
    withK (i_ValidParts_l2 k43 list1 N (w64 (x45 + 1))) fun (k48 : Option Bool) =>
    i_ValidParts_l3 k48 list1 N x45 0
    else
    k43 

def i_ValidParts (N : Nat) (list1 : List SparePart) : Option Bool :=
  bif decide ((List.length list1 : Int) > 40) then
  some false
  else
  withK (withK (some true) fun (k43 : Option Bool) =>
  i_ValidParts_l2 k43 list1 N 0) fun (k6 : Option Bool) =>
  i_ValidParts_l1 k6 list1 N [] 0

def i_OrderList_l1 (k10 : (List Int) → Option ((List Int) × Int)) (list1 : List SparePart) : Nat → (List Int) → Int → Option ((List Int) × Int)
  | 0, _, _ => none
  | N + 1, l12, x14 =>
    bif decide (x14 < (List.length list1 : Int)) then
    (idx list1 x14).bind fun e16 =>
    (app l12 [imax (w64 (e16.target - e16.stock)) 0]).bind fun l23 =>
    i_OrderList_l1 k10 list1 N l23 (w64 (x14 + 1))
    else
    k10 l12

def i_OrderList (N : Nat) (list1 : List SparePart) : Option ((List Int) × Int) :=
  (i_ValidParts N list1).bind fun r4 =>
  bif !r4 then
  some ([], 1)
  else
  withK (fun (l8 : List Int) =>
  some (l8, 0)) fun (k10 : (List Int) → Option ((List Int) × Int)) =>
  i_OrderList_l1 k10 list1 N [] 0

def w_eqInt64S_l1 (k8 : Option Bool) (a1 : List Int) (b4 : List Int) : Nat → Int → Option Bool
  | 0, _ => none
  | N + 1, i10 =>
    bif decide (i10 < (List.length a1 : Int)) then
    (idx a1 i10).bind fun e12 =>
    (idx b4 i10).bind fun e17 =>
    bif (e12 != e17) then
    some false
    else
    w_eqInt64S_l1 k8 a1 b4 N (w64 (i10 + 1))
    else
    k8 

def w_eqInt64S (N : Nat) (a1 : List Int) (b4 : List Int) : Option Bool :=
  bif ((List.length a1 : Int) != (List.length b4 : Int)) then
  some false
  else
  withK (some true) fun (k8 : Option Bool) =>
  w_eqInt64S_l1 k8 a1 b4 N 0

def w_eqSparePart (a1 : SparePart) (b2 : SparePart) : Option Bool :=
  bif (a1.name != b2.name) then
  some false
  else
  bif (a1.stock != b2.stock) then
  some false
  else
  bif (a1.target != b2.target) then
  some false
  else
  bif (a1.days != b2.days) then
  some false
  else
  bif (a1.instead != b2.instead) then
  some false
  else
  some true

def w_eqSparePartS_l1 (k8 : Option Bool) (a1 : List SparePart) (b4 : List SparePart) : Nat → Int → Option Bool
  | 0, _ => none
  | N + 1, i10 =>
    bif decide (i10 < (List.length a1 : Int)) then
    (idx a1 i10).bind fun e12 =>
    (idx b4 i10).bind fun e17 =>
    (w_eqSparePart e12 e17).bind fun r22 =>
    bif !r22 then
    some false
    else
    w_eqSparePartS_l1 k8 a1 b4 N (w64 (i10 + 1))
    else
    k8 

def w_eqSparePartS (N : Nat) (a1 : List SparePart) (b4 : List SparePart) : Option Bool :=
  bif ((List.length a1 : Int) != (List.length b4 : Int)) then
  some false
  else
  withK (some true) fun (k8 : Option Bool) =>
  w_eqSparePartS_l1 k8 a1 b4 N 0

def w_markText_l1 (k4 : Str → Option Str) : Nat → Int → Str → Option Str
  | 0, _, _ => none
  | N + 1, k6, out7 =>
    bif decide (k6 > 0) then
    (cat [UInt8.ofInt (w64 (48 + (Int.tmod k6 10)))] out7).bind fun s10 =>
    w_markText_l1 k4 N (w64 (Int.tdiv k6 10)) s10
    else
    k4 out7

def w_markText (N : Nat) (k1 : Int) : Option Str :=
  bif decide (k1 ≤ 0) then
  some [109, 48]
  else
  withK (fun (out3 : Str) =>
  (cat [109] out3).bind fun s12 =>
  some s12) fun (k4 : Str → Option Str) =>
  w_markText_l1 k4 N k1 []

def w_markSparePartS_l1 (k6 : (List SparePart) → Int → Option (Int × (List SparePart))) : Nat → (List SparePart) → Int → Int → Option (Int × (List SparePart))
  | 0, _, _, _ => none
  | N + 1, l8, k9, i10 =>
    bif decide (i10 < (List.length l8 : Int)) then
    (w_markText N k9).bind fun r12 =>
    (idx l8 i10).bind fun e14 =>
    (idx (List.set l8 (Int.toNat i10) (SparePart.mk r12 e14.stock e14.target e14.days e14.instead)) i10).bind fun e16 =>
    (idx (List.set (List.set l8 (Int.toNat i10) (SparePart.mk r12 e14.stock e14.target e14.days e14.instead)) (Int.toNat i10) (SparePart.mk e16.name (w64 (k9 + 1)) e16.target e16.days e16.instead)) i10).bind fun e18 =>
    (idx (List.set (List.set (List.set l8 (Int.toNat i10) (SparePart.mk r12 e14.stock e14.target e14.days e14.instead)) (Int.toNat i10) (SparePart.mk e16.name (w64 (k9 + 1)) e16.target e16.days e16.instead)) (Int.toNat i10) (SparePart.mk e18.name e18.stock (w64 ((w64 (k9 + 1)) + 1)) e18.days e18.instead)) i10).bind fun e20 =>
    (idx (List.set (List.set (List.set (List.set l8 (Int.toNat i10) (SparePart.mk r12 e14.stock e14.target e14.days e14.instead)) (Int.toNat i10) (SparePart.mk e16.name (w64 (k9 + 1)) e16.target e16.days e16.instead)) (Int.toNat i10) (SparePart.mk e18.name e18.stock (w64 ((w64 (k9 + 1)) + 1)) e18.days e18.instead)) (Int.toNat i10) (SparePart.mk e20.name e20.stock e20.target (w64 ((w64 ((w64 (k9 + 1)) + 1)) + 1)) e20.instead)) i10).bind fun e22 =>
    w_markSparePartS_l1 k6 N (List.set (List.set (List.set (List.set (List.set l8 (Int.toNat i10) (SparePart.mk r12 e14.stock e14.target e14.days e14.instead)) (Int.toNat i10) (SparePart.mk e16.name (w64 (k9 + 1)) e16.target e16.days e16.instead)) (Int.toNat i10) (SparePart.mk e18.name e18.stock (w64 ((w64 (k9 + 1)) + 1)) e18.days e18.instead)) (Int.toNat i10) (SparePart.mk e20.name e20.stock e20.target (w64 ((w64 ((w64 (k9 + 1)) + 1)) + 1)) e20.instead)) (Int.toNat i10) (SparePart.mk e22.name e22.stock e22.target e22.days (w64 ((w64 ((w64 ((w64 (k9 + 1)) + 1)) + 1)) + 1)))) (w64 ((w64 ((w64 ((w64 ((w64 (k9 + 1)) + 1)) + 1)) + 1)) + 1)) (w64 (i10 + 1))
    else
    k6 l8 k9

def w_markSparePartS (N : Nat) (a1 : List SparePart) (k3 : Int) : Option (Int × (List SparePart)) :=
  withK (fun (l4 : List SparePart) (k5 : Int) =>
  some (k5, l4)) fun (k6 : (List SparePart) → Int → Option (Int × (List SparePart))) =>
  w_markSparePartS_l1 k6 N a1 k3 0

def w_markInt64S_l1 (k6 : (List Int) → Int → Option (Int × (List Int))) : Nat → (List Int) → Int → Int → Option (Int × (List Int))
  | 0, _, _, _ => none
  | N + 1, l8, k9, i10 =>
    bif decide (i10 < (List.length l8 : Int)) then
    (idx l8 i10).bind fun e12 =>
    w_markInt64S_l1 k6 N (List.set l8 (Int.toNat i10) k9) (w64 (k9 + 1)) (w64 (i10 + 1))
    else
    k6 l8 k9

def w_markInt64S (N : Nat) (a1 : List Int) (k3 : Int) : Option (Int × (List Int)) :=
  withK (fun (l4 : List Int) (k5 : Int) =>
  some (k5, l4)) fun (k6 : (List Int) → Int → Option (Int × (List Int))) =>
  w_markInt64S_l1 k6 N a1 k3 0

def w_heldInt64S_l1 (k6 : Int → Option Int) (a1 : List Int) : Nat → Int → Int → Option Int
  | 0, _, _ => none
  | N + 1, k8, i9 =>
    bif decide (i9 < (List.length a1 : Int)) then
    (idx a1 i9).bind fun e11 =>
    bif (e11 != k8) then
    some (-1)
    else
    w_heldInt64S_l1 k6 a1 N (w64 (k8 + 1)) (w64 (i9 + 1))
    else
    k6 k8

def w_heldInt64S (N : Nat) (a1 : List Int) (k4 : Int) : Option Int :=
  withK (fun (k5 : Int) =>
  some k5) fun (k6 : Int → Option Int) =>
  w_heldInt64S_l1 k6 a1 N k4 0

def w_FnExactOrderList (N : Nat) (aList1 : List SparePart) : Option Bool :=
  (w_szSparePartS N aList1 1048576).bind fun r4 =>
  bif decide (r4 < 0) then
  some true
  else
  (w_toSparePartS N aList1).bind fun r7 =>
  (s_OrderList N r7).bind fun r10 =>
  (w_toSparePartS N aList1).bind fun r13 =>
  (i_OrderList N r13).bind fun r16 =>
  (w_eqInt64S N r16.1 r10.1).bind fun r19 =>
  (orO (!r19) (some (r16.2 != r10.2))).bind fun t21 =>
  bif t21 then
  some false
  else
  (w_toSparePartS N aList1).bind fun r25 =>
  (w_eqSparePartS N r13 r25).bind fun r28 =>
  bif !r28 then
  some false
  else
  (w_markSparePartS N r13 1).bind fun r31 =>
  (orO (decide (r31.1 < 0)) ((w_eqInt64S N r16.1 r10.1).bind fun r36 =>
  some (!r36))).bind fun t33 =>
  (orO t33 (some (r16.2 != r10.2))).bind fun t38 =>
  bif t38 then
  some false
  else
  (w_markInt64S N r16.1 1).bind fun r42 =>
  (w_heldInt64S N r42.2 1).bind fun r44 =>
  bif decide (r44 < 0) then
  some false
  else
  bif (r44 != r42.1) then
  some false
  else
  (w_toSparePartS N aList1).bind fun r48 =>
  (i_OrderList N r48).bind fun r51 =>
  (w_eqInt64S N r51.1 r10.1).bind fun r54 =>
  (orO (!r54) (some (r51.2 != r10.2))).bind fun t56 =>
  bif t56 then
  some false
  else
  (w_heldInt64S N r42.2 1).bind fun r60 =>
  bif decide (r60 < 0) then
  some false
  else
  bif (r60 != r42.1) then
  some false
  else
  some true

def s_ValidParts (N : Nat) (list1 : List SparePart) : Option Bool :=
  (s_l24Ok N list1).bind fun r4 =>
  some r4

def w_FnExactValidParts (N : Nat) (aList1 : List SparePart) : Option Bool :=
  (w_szSparePartS N aList1 1048576).bind fun r4 =>
  bif decide (r4 < 0) then
  some true
  else
  (w_toSparePartS N aList1).bind fun r7 =>
  (s_ValidParts N r7).bind fun r10 =>
  (w_toSparePartS N aList1).bind fun r12 =>
  (i_ValidParts N r12).bind fun r15 =>
  bif (r15 != r10) then
  some false
  else
  (w_toSparePartS N aList1).bind fun r18 =>
  (w_eqSparePartS N r12 r18).bind fun r21 =>
  bif !r21 then
  some false
  else
  some true

def w_toInt64S_l1 (k8 : (List Int) → Option (List Int)) (a1 : List Int) : Nat → (List Int) → Int → Option (List Int)
  | 0, _, _ => none
  | N + 1, l10, i11 =>
    bif decide (i11 < (List.length a1 : Int)) then
    (idx a1 i11).bind fun e13 =>
    (idx l10 i11).bind fun e18 =>
    w_toInt64S_l1 k8 a1 N (List.set l10 (Int.toNat i11) e13) (w64 (i11 + 1))
    else
    k8 l10

def w_toInt64S (N : Nat) (a1 : List Int) : Option (List Int) :=
  (mk (List.length a1 : Int) 0).bind fun l4 =>
  withK (fun (l7 : List Int) =>
  some l7) fun (k8 : (List Int) → Option (List Int)) =>
  w_toInt64S_l1 k8 a1 N l4 0

def w_heldSparePartS_l1 (k6 : Int → Option Int) (a1 : List SparePart) : Nat → Int → Int → Option Int
  | 0, _, _ => none
  | N + 1, k8, i9 =>
    bif decide (i9 < (List.length a1 : Int)) then
    (idx a1 i9).bind fun e11 =>
    (w_markText N k8).bind fun r16 =>
    bif (e11.name != r16) then
    some (-1)
    else
    (idx a1 i9).bind fun e19 =>
    bif (e19.stock != (w64 (k8 + 1))) then
    some (-1)
    else
    (idx a1 i9).bind fun e25 =>
    bif (e25.target != (w64 ((w64 (k8 + 1)) + 1))) then
    some (-1)
    else
    (idx a1 i9).bind fun e31 =>
    bif (e31.days != (w64 ((w64 ((w64 (k8 + 1)) + 1)) + 1))) then
    some (-1)
    else
    (idx a1 i9).bind fun e37 =>
    bif (e37.instead != (w64 ((w64 ((w64 ((w64 (k8 + 1)) + 1)) + 1)) + 1))) then
    some (-1)
    else
    w_heldSparePartS_l1 k6 a1 N (w64 ((w64 ((w64 ((w64 ((w64 (k8 + 1)) + 1)) + 1)) + 1)) + 1)) (w64 (i9 + 1))
    else
    k6 k8

def w_heldSparePartS (N : Nat) (a1 : List SparePart) (k4 : Int) : Option Int :=
  withK (fun (k5 : Int) =>
  some k5) fun (k6 : Int → Option Int) =>
  w_heldSparePartS_l1 k6 a1 N k4 0

def s_l24Code (N : Nat) (list1 : List SparePart) (k4 : Int) (many5 : Int) : Option Int :=
  (s_l24Ok N list1).bind fun r6 =>
  bif !r6 then
  some 1
  else
  (s_l00In k4 0 (w64 ((List.length list1 : Int) - 1))).bind fun r9 =>
  (orO (!r9) ((s_l00In many5 1 100000).bind fun r14 =>
  some (!r14))).bind fun t11 =>
  bif t11 then
  some 2
  else
  some 0

def i_partCode (N : Nat) (list1 : List SparePart) (k4 : Int) (many5 : Int) : Option Int :=
  (i_ValidParts N list1).bind fun r6 =>
  bif !r6 then
  some 1
  else
  (i_between k4 0 (w64 ((List.length list1 : Int) - 1))).bind fun r9 =>
  (orO (!r9) ((i_between many5 1 100000).bind fun r14 =>
  some (!r14))).bind fun t11 =>
  bif t11 then
  some 2
  else
  some 0

def s_l24Use_l1 (k7 : Int → Option Int) (list1 : List SparePart) (many5 : Int) : Nat → Int → Option Int
  | 0, _ => none
  | N + 1, k9 =>
    (andO (decide (k9 ≥ 0)) ((idx list1 k9).bind fun e13 =>
    some (decide (e13.stock < many5)))).bind fun t10 =>
    bif t10 then
    (idx list1 k9).bind fun e19 =>
    s_l24Use_l1 k7 list1 many5 N e19.instead
    else
    k7 k9

def s_l24Use (N : Nat) (list1 : List SparePart) (k4 : Int) (many5 : Int) : Option Int :=
  withK (fun (k6 : Int) =>
  some k6) fun (k7 : Int → Option Int) =>
  s_l24Use_l1 k7 list1 many5 N k4

def i_usedPart_l1 (k7 : Int → Option Int) (list1 : List SparePart) (many5 : Int) : Nat → Int → Option Int
  | 0, _ => none
  | N + 1, k9 =>
    (andO (decide (k9 ≥ 0)) ((idx list1 k9).bind fun e13 =>
    some (decide (e13.stock < many5)))).bind fun t10 =>
    bif t10 then
    (idx list1 k9).bind fun e19 =>
    i_usedPart_l1 k7 list1 many5 N e19.instead
    else
    k7 k9

def i_usedPart (N : Nat) (list1 : List SparePart) (k4 : Int) (many5 : Int) : Option Int :=
  withK (fun (k6 : Int) =>
  some k6) fun (k7 : Int → Option Int) =>
  i_usedPart_l1 k7 list1 many5 N k4

def s_ReplacementOf (N : Nat) (list1 : List SparePart) (k4 : Int) (many5 : Int) : Option (Int × Int) :=
  (s_l24Code N list1 k4 many5).bind fun r6 =>
  bif (r6 != 0) then
  some (0, r6)
  else
  (s_l24Use N list1 k4 many5).bind fun r9 =>
  bif decide (r9 < 0) then
  some (0, 3)
  else
  some (r9, 0)

def i_ReplacementOf (N : Nat) (list1 : List SparePart) (k4 : Int) (many5 : Int) : Option (Int × Int) :=
  (i_partCode N list1 k4 many5).bind fun r6 =>
  bif (r6 != 0) then
  some (0, r6)
  else
  (i_usedPart N list1 k4 many5).bind fun r9 =>
  bif decide (r9 < 0) then
  some (0, 3)
  else
  some (r9, 0)

def w_FnExactReplacementOf (N : Nat) (aList1 : List SparePart) (aK4 : Int) (aMany5 : Int) : Option Bool :=
  (w_szSparePartS N aList1 1048576).bind fun r6 =>
  bif decide (r6 < 0) then
  some true
  else
  (w_toSparePartS N aList1).bind fun r9 =>
  (s_ReplacementOf N r9 aK4 aMany5).bind fun r12 =>
  (w_toSparePartS N aList1).bind fun r14 =>
  (i_ReplacementOf N r14 aK4 aMany5).bind fun r17 =>
  (orO (r17.1 != r12.1) (some (r17.2 != r12.2))).bind fun t19 =>
  bif t19 then
  some false
  else
  (w_toSparePartS N aList1).bind fun r23 =>
  (w_eqSparePartS N r14 r23).bind fun r26 =>
  bif !r26 then
  some false
  else
  some true

def s_DeadParts_l1 (k10 : (List Int) → Option ((List Int) × Int)) (list1 : List SparePart) : Nat → (List Int) → Int → Option ((List Int) × Int)
  | 0, _, _ => none
  | N + 1, l12, i14 =>
    bif decide (i14 < (List.length list1 : Int)) then
    withK (fun (l16 : List Int) =>
    s_DeadParts_l1 k10 list1 N l16 (w64 (i14 + 1))) fun (k19 : (List Int) → Option ((List Int) × Int)) =>
    (s_l24Use N list1 i14 1).bind fun r20 =>
    bif decide (r20 < 0) then
    (app l12 [i14]).bind fun l24 =>
    k19 l24
    else
    k19 l12
    else
    k10 l12

def s_DeadParts (N : Nat) (list1 : List SparePart) : Option ((List Int) × Int) :=
  (s_l24Ok N list1).bind fun r4 =>
  bif !r4 then
  some ([], 1)
  else
  withK (fun (l8 : List Int) =>
  some (l8, 0)) fun (k10 : (List Int) → Option ((List Int) × Int)) =>
  s_DeadParts_l1 k10 list1 N [] 0

def i_DeadParts_l1 (k10 : (List Int) → Option ((List Int) × Int)) (list1 : List SparePart) : Nat → (List Int) → Int → Option ((List Int) × Int)
  | 0, _, _ => none
  | N + 1, l12, x14 =>
    bif decide (x14 < (List.length list1 : Int)) then
    withK (fun (l16 : List Int) =>
    i_DeadParts_l1 k10 list1 N l16 (w64 (x14 + 1))) fun (k19 : (List Int) → Option ((List Int) × Int)) =>
    (i_usedPart N list1 x14 1).bind fun r20 =>
    bif decide (r20 < 0) then
    (app l12 [x14]).bind fun l24 =>
    k19 l24
    else
    k19 l12
    else
    k10 l12

def i_DeadParts (N : Nat) (list1 : List SparePart) : Option ((List Int) × Int) :=
  (i_ValidParts N list1).bind fun r4 =>
  bif !r4 then
  some ([], 1)
  else
  withK (fun (l8 : List Int) =>
  some (l8, 0)) fun (k10 : (List Int) → Option ((List Int) × Int)) =>
  i_DeadParts_l1 k10 list1 N [] 0

def w_FnExactDeadParts (N : Nat) (aList1 : List SparePart) : Option Bool :=
  (w_szSparePartS N aList1 1048576).bind fun r4 =>
  bif decide (r4 < 0) then
  some true
  else
  (w_toSparePartS N aList1).bind fun r7 =>
  (s_DeadParts N r7).bind fun r10 =>
  (w_toSparePartS N aList1).bind fun r13 =>
  (i_DeadParts N r13).bind fun r16 =>
  (w_eqInt64S N r16.1 r10.1).bind fun r19 =>
  (orO (!r19) (some (r16.2 != r10.2))).bind fun t21 =>
  bif t21 then
  some false
  else
  (w_toSparePartS N aList1).bind fun r25 =>
  (w_eqSparePartS N r13 r25).bind fun r28 =>
  bif !r28 then
  some false
  else
  (w_markSparePartS N r13 1).bind fun r31 =>
  (orO (decide (r31.1 < 0)) ((w_eqInt64S N r16.1 r10.1).bind fun r36 =>
  some (!r36))).bind fun t33 =>
  (orO t33 (some (r16.2 != r10.2))).bind fun t38 =>
  bif t38 then
  some false
  else
  (w_markInt64S N r16.1 1).bind fun r42 =>
  (w_heldInt64S N r42.2 1).bind fun r44 =>
  bif decide (r44 < 0) then
  some false
  else
  bif (r44 != r42.1) then
  some false
  else
  (w_toSparePartS N aList1).bind fun r48 =>
  (i_DeadParts N r48).bind fun r51 =>
  (w_eqInt64S N r51.1 r10.1).bind fun r54 =>
  (orO (!r54) (some (r51.2 != r10.2))).bind fun t56 =>
  bif t56 then
  some false
  else
  (w_heldInt64S N r42.2 1).bind fun r60 =>
  bif decide (r60 < 0) then
  some false
  else
  bif (r60 != r42.1) then
  some false
  else
  some true

end Go.Proofs.Ytffaepmojpanoaa
