/-
  Plain functions that compute what the Go functions compute. No conditions.
-/
import Derived.Test.YtigjflandggihaaBase
namespace Go.Proofs.Ytigjflandggihaa
set_option linter.unusedVariables false
set_option linter.unusedSimpArgs false

structure Defect where
  name : Str
  weight : Int
  signs : Str

def Defect.beq (x y : Defect) : Bool := x.name == y.name && (x.weight == y.weight && (x.signs == y.signs))

def wfDefect (x : Defect) : Prop := wfStr x.name ∧ wfI64 x.weight ∧ wfStr x.signs

def w_szDefect (a1 : Defect) (left2 : Int) : Option Int :=
  bif decide ((w64 (left2 - (List.length a1.name : Int))) < 0) then
  some (-1)
  else
  bif decide ((w64 ((w64 (left2 - (List.length a1.name : Int))) - (List.length a1.signs : Int))) < 0) then
  some (-1)
  else
  some (w64 ((w64 (left2 - (List.length a1.name : Int))) - (List.length a1.signs : Int)))

def w_szDefectS_l1 (k7 : Int → Option Int) (a1 : List Defect) : Nat → Int → Int → Option Int
  | 0, _, _ => none
  | N + 1, left9, i10 =>
    bif decide (i10 < (List.length a1 : Int)) then
    (idx a1 i10).bind fun e12 =>
    (w_szDefect e12 left9).bind fun r17 =>
    bif decide (r17 < 0) then
    some (-1)
    else
    w_szDefectS_l1 k7 a1 N r17 (w64 (i10 + 1))
    else
    k7 left9

def w_szDefectS (N : Nat) (a1 : List Defect) (left4 : Int) : Option Int :=
  bif decide ((w64 (left4 - (List.length a1 : Int))) < 0) then
  some (-1)
  else
  withK (fun (left6 : Int) =>
  some left6) fun (k7 : Int → Option Int) =>
  w_szDefectS_l1 k7 a1 N (w64 (left4 - (List.length a1 : Int))) 0

def w_toDefect (a1 : Defect) : Option Defect :=
  some (Defect.mk a1.name a1.weight a1.signs)

def w_toDefectS_l1 (k8 : (List Defect) → Option (List Defect)) (a1 : List Defect) : Nat → (List Defect) → Int → Option (List Defect)
  | 0, _, _ => none
  | N + 1, l10, i11 =>
    bif decide (i11 < (List.length a1 : Int)) then
    (idx a1 i11).bind fun e13 =>
    (w_toDefect e13).bind fun r18 =>
    (idx l10 i11).bind fun e20 =>
    w_toDefectS_l1 k8 a1 N (List.set l10 (Int.toNat i11) r18) (w64 (i11 + 1))
    else
    k8 l10

def w_toDefectS (N : Nat) (a1 : List Defect) : Option (List Defect) :=
  (mk (List.length a1 : Int) (Defect.mk [] 0 [])).bind fun l4 =>
  withK (fun (l7 : List Defect) =>
  some l7) fun (k8 : (List Defect) → Option (List Defect)) =>
  w_toDefectS_l1 k8 a1 N l4 0

def w_toInt64S_l1 (k8 : (List Int) → Option (List Int)) (a1 : List Int) : Nat → (List Int) → Int → Option (List Int)
  | 0, _, _ => none
  | N + 1, l10, i11 =>
    bif decide (i11 < (List.length a1 : Int)) then
    (idx a1 i11).bind fun e13 =>
    (idx l10 i11).bind fun e18 =>
    w_toInt64S_l1 k8 a1 N (List.set l10 (Int.toNat i11) e13) (w64 (i11 + 1))
    else
    k8 l10

def w_toInt64S (N : Nat) (a1 : List Int) : Option (List Int) :=
  (mk (List.length a1 : Int) 0).bind fun l4 =>
  withK (fun (l7 : List Int) =>
  some l7) fun (k8 : (List Int) → Option (List Int)) =>
  w_toInt64S_l1 k8 a1 N l4 0

def s_l00In (n1 : Int) (low2 : Int) (high3 : Int) : Option Bool :=
  (andO (decide (n1 ≥ low2)) (some (decide (n1 ≤ high3)))).bind fun t4 =>
  some t4

def s_l01Small (c1 : UInt8) : Option Bool :=
  (andO (decide (c1 ≥ (97 : UInt8))) (some (decide (c1 ≤ (122 : UInt8))))).bind fun t2 =>
  some t2

def s_l01Digit (c1 : UInt8) : Option Bool :=
  (andO (decide (c1 ≥ (48 : UInt8))) (some (decide (c1 ≤ (57 : UInt8))))).bind fun t2 =>
  some t2

def s_IsName_l1 (k13 : Option Bool) (s1 : Str) : Nat → Int → Option Bool
  | 0, _ => none
  | N + 1, i15 =>
    bif decide (i15 < (List.length s1 : Int)) then
    (idx s1 i15).bind fun c17 =>
    (s_l01Small c17).bind fun r19 =>
    (andO (!r19) ((idx s1 i15).bind fun c24 =>
    (s_l01Digit c24).bind fun r26 =>
    some (!r26))).bind fun t21 =>
    (andO t21 ((idx s1 i15).bind fun c31 =>
    some (c31 != (45 : UInt8)))).bind fun t28 =>
    bif t28 then
    some false
    else
    s_IsName_l1 k13 s1 N (w64 (i15 + 1))
    else
    k13 

def s_IsName (N : Nat) (s1 : Str) : Option Bool :=
  (orO (s1 == []) (some (decide ((List.length s1 : Int) > 12)))).bind fun t2 =>
  (orO t2 ((idx s1 0).bind fun c8 =>
  (s_l01Small c8).bind fun r10 =>
  some (!r10))).bind fun t5 =>
  bif t5 then
  some false
  else
  withK (some true) fun (k13 : Option Bool) =>
  s_IsName_l1 k13 s1 N 0

def s_l23One_l1 (k5 : Option Bool) (d1 : Defect) : Nat → Int → Option Bool
  | 0, _ => none
  | N + 1, i7 =>
    bif decide (i7 < (List.length d1.signs : Int)) then
    (idx d1.signs i7).bind fun c9 =>
    (andO (c9 != (48 : UInt8)) ((idx d1.signs i7).bind fun c14 =>
    some (c14 != (49 : UInt8)))).bind fun t11 =>
    bif t11 then
    some false
    else
    s_l23One_l1 k5 d1 N (w64 (i7 + 1))
    else
    k5 

def s_l23One (N : Nat) (d1 : Defect) (tests4 : Int) : Option Bool :=
  withK ((s_IsName N d1.name).bind fun r17 =>
  (andO r17 ((s_l00In d1.weight 1 1000).bind fun r22 =>
  some r22)).bind fun t19 =>
  (andO t19 (some ((List.length d1.signs : Int) == tests4))).bind fun t24 =>
  some t24) fun (k5 : Option Bool) =>
  s_l23One_l1 k5 d1 N 0

def s_l23Ok_l1 (k7 : Option Bool) (prices4 : List Int) : Nat → Int → Option Bool
  | 0, _ => none
  | N + 1, i9 =>
    bif decide (i9 < (List.length prices4 : Int)) then
    (idx prices4 i9).bind fun e11 =>
    (s_l00In e11 1 100).bind fun r16 =>
    bif !r16 then
    some false
    else
    s_l23Ok_l1 k7 prices4 N (w64 (i9 + 1))
    else
    k7 

def s_l23Ok_l3 (k24 : Option Bool) (list1 : List Defect) (i21 : Int) : Nat → Int → Option Bool
  | 0, _ => none
  | N + 1, k33 =>
    bif decide (k33 < i21) then
    (idx list1 k33).bind fun e35 =>
    (idx list1 i21).bind fun e40 =>
    bif (e35.name == e40.name) then
    some false
    else
    s_l23Ok_l3 k24 list1 i21 N (w64 (k33 + 1))
    else
    k24 

def s_l23Ok_l2 (k19 : Option Bool) (list1 : List Defect) (prices4 : List Int) : Nat → Int → Option Bool
  | 0, _ => none
  | N + 1, i21 =>
    bif decide (i21 < (List.length list1 : Int)) then
    withK (s_l23Ok_l2 k19 list1 prices4 N (w64 (i21 + 1))) fun (k24 : Option Bool) =>
    (idx list1 i21).bind fun e25 =>
    (s_l23One N e25 (List.length prices4 : Int)).bind fun r30 =>
    bif !r30 then
    some false
    else
    s_l23Ok_l3 k24 list1 i21 N 0
    else
    k19 

def s_l23Ok (N : Nat) (list1 : List Defect) (prices4 : List Int) : Option Bool :=
  withK (withK ((andO (decide ((List.length list1 : Int) ≤ 10)) (some (decide ((List.length prices4 : Int) ≤ 6)))).bind fun t46 =>
  some t46) fun (k19 : Option Bool) =>
  s_l23Ok_l2 k19 list1 prices4 N 0) fun (k7 : Option Bool) =>
  s_l23Ok_l1 k7 prices4 N 0

def s_l05Index_l1 (k3 : Option Int) (s1 : Str) (c2 : UInt8) : Nat → Int → Option Int
  | 0, _ => none
  | N + 1, i5 =>
    bif decide (i5 < (List.length s1 : Int)) then
    (idx s1 i5).bind fun c7 =>
    bif (c7 == c2) then
    some i5
    else
    s_l05Index_l1 k3 s1 c2 N (w64 (i5 + 1))
    else
    k3 

def s_l05Index (N : Nat) (s1 : Str) (c2 : UInt8) : Option Int :=
  withK (some (-1)) fun (k3 : Option Int) =>
  s_l05Index_l1 k3 s1 c2 N 0

def s_l23Answers_l1 (k3 : Option Bool) (answers1 : Str) : Nat → Int → Option Bool
  | 0, _ => none
  | N + 1, i5 =>
    bif decide (i5 < (List.length answers1 : Int)) then
    (idx answers1 i5).bind fun c7 =>
    (s_l05Index N [48, 49, 63] c7).bind fun r9 =>
    bif decide (r9 < 0) then
    some false
    else
    s_l23Answers_l1 k3 answers1 N (w64 (i5 + 1))
    else
    k3 

def s_l23Answers (N : Nat) (answers1 : Str) (tests2 : Int) : Option Bool :=
  withK (some ((List.length answers1 : Int) == tests2)) fun (k3 : Option Bool) =>
  s_l23Answers_l1 k3 answers1 N 0

def s_l23Code (N : Nat) (list1 : List Defect) (prices4 : List Int) (answers7 : Str) : Option Int :=
  (s_l23Ok N list1 prices4).bind fun r8 =>
  bif !r8 then
  some 1
  else
  (s_l23Answers N answers7 (List.length prices4 : Int)).bind fun r11 =>
  bif !r11 then
  some 2
  else
  some 0

def s_l23Fit_l2 (k21 : Bool → Option (List Int)) (list1 : List Defect) (answers4 : Str) (i12 : Int) : Nat → Bool → Int → Option (List Int)
  | 0, _, _ => none
  | N + 1, fits21, k22 =>
    bif decide (k22 < (List.length answers4 : Int)) then
    (andO fits21 ((idx answers4 k22).bind fun c27 =>
    (orO (c27 == (63 : UInt8)) ((idx answers4 k22).bind fun c32 =>
    (idx list1 i12).bind fun e34 =>
    (idx e34.signs k22).bind fun c39 =>
    some (c32 == c39))).bind fun t29 =>
    some t29)).bind fun t24 =>
    s_l23Fit_l2 k21 list1 answers4 i12 N t24 (w64 (k22 + 1))
    else
    k21 fits21

def s_l23Fit_l1 (k8 : (List Int) → Option (List Int)) (list1 : List Defect) (answers4 : Str) : Nat → (List Int) → Int → Option (List Int)
  | 0, _, _ => none
  | N + 1, l10, i12 =>
    bif decide (i12 < (List.length list1 : Int)) then
    withK (fun (l14 : List Int) =>
    s_l23Fit_l1 k8 list1 answers4 N l14 (w64 (i12 + 1))) fun (k17 : (List Int) → Option (List Int)) =>
    withK (fun (fits18 : Bool) =>
    bif fits18 then
    (app l10 [i12]).bind fun l43 =>
    k17 l43
    else
    k17 l10) fun (k21 : Bool → Option (List Int)) =>
    s_l23Fit_l2 k21 list1 answers4 i12 N true 0
    else
    k8 l10

def s_l23Fit (N : Nat) (list1 : List Defect) (answers4 : Str) : Option (List Int) :=
  withK (fun (l6 : List Int) =>
  some l6) fun (k8 : (List Int) → Option (List Int)) =>
  s_l23Fit_l1 k8 list1 answers4 N [] 0

def s_PossibleDefects (N : Nat) (list1 : List Defect) (prices4 : List Int) (answers7 : Str) : Option ((List Int) × Int) :=
  (s_l23Code N list1 prices4 answers7).bind fun r8 =>
  bif (r8 != 0) then
  some ([], r8)
  else
  (s_l23Fit N list1 answers7).bind fun r11 =>
  some (r11, 0)

def i_between (n1 : Int) (low2 : Int) (high3 : Int) : Option Bool :=
  (andO (decide (n1 ≥ low2)) (some (decide (n1 ≤ high3)))).bind fun t4 =>
  some t4

def i_isDigit (b1 : UInt8) : Option Bool :=
  (andO (decide (b1 ≥ (48 : UInt8))) (some (decide (b1 ≤ (57 : UInt8))))).bind fun t2 =>
  some t2

def i_IsName_l1 (k6 : Option Bool) (s1 : Str) : Nat → Int → Option Bool
  | 0, _ => none
  | N + 1, x8 =>
    bif decide (x8 < (List.length s1 : Int)) then
    (idx s1 x8).bind fun c10 =>
    (andO (decide (c10 ≥ (97 : UInt8))) ((idx s1 x8).bind fun c15 =>
    some (decide (c15 ≤ (122 : UInt8))))).bind fun t12 =>
    (andO (!t12) ((orO (x8 == 0) ((idx s1 x8).bind fun c23 =>
    (andO (c23 != (45 : UInt8)) ((idx s1 x8).bind fun c28 =>
    (i_isDigit c28).bind fun r30 =>
    some (!r30))).bind fun t25 =>
    some t25)).bind fun t20 =>
    some t20)).bind fun t17 =>
    bif t17 then
    some false
    else
    i_IsName_l1 k6 s1 N (w64 (x8 + 1))
    else
    k6 

def i_IsName (N : Nat) (s1 : Str) : Option Bool :=
  (orO ((List.length s1 : Int) == 0) (some (decide ((List.length s1 : Int) > 12)))).bind fun t2 =>
  bif t2 then
  some false
  else
  withK (some true) fun (k6 : Option Bool) =>
  i_IsName_l1 k6 s1 N 0

def i_ValidDefects_l1 (k11 : Option Bool) (x4 : List Int) : Nat → Int → Option Bool
  | 0, _ => none
  | N + 1, x13 =>
    bif decide (x13 < (List.length x4 : Int)) then
    (idx x4 x13).bind fun e15 =>
    (i_between e15 1 100).bind fun r20 =>
    bif !r20 then
    some false
    else
    i_ValidDefects_l1 k11 x4 N (w64 (x13 + 1))
    else
    k11 

def i_ValidDefects_l3 (k31 : (List (Str × Bool)) → Option Bool) (mp26 : List (Str × Bool)) (e32 : Defect) : Nat → Int → Option Bool
  | 0, _ => none
  | N + 1, x52 =>
    bif decide (x52 < (List.length e32.signs : Int)) then
    (idx e32.signs x52).bind fun c54 =>
    (andO (c54 != (48 : UInt8)) ((idx e32.signs x52).bind fun c59 =>
    some (c59 != (49 : UInt8)))).bind fun t56 =>
    bif t56 then
    some false
    else
    i_ValidDefects_l3 k31 mp26 e32 N (w64 (x52 + 1))
    else
    k31 (mset mp26 e32.name true)

def i_ValidDefects_l2 (k24 : Option Bool) (list1 : List Defect) (x4 : List Int) : Nat → (List (Str × Bool)) → Int → Option Bool
  | 0, _, _ => none
  | N + 1, mp26, x27 =>
    bif decide (x27 < (List.length list1 : Int)) then
    withK (fun (mp29 : List (Str × Bool)) =>
    i_ValidDefects_l2 k24 list1 x4 N mp29 (w64 (x27 + 1))) fun (k31 : (List (Str × Bool)) → Option Bool) =>
    (idx list1 x27).bind fun e32 =>
    (i_IsName N e32.name).bind fun r38 =>
    (orO (!r38) (some (mget mp26 e32.name))).bind fun t40 =>
    (orO t40 ((i_between e32.weight 1 1000).bind fun r46 =>
    some (!r46))).bind fun t43 =>
    (orO t43 (some ((List.length e32.signs : Int) != (List.length x4 : Int)))).bind fun t48 =>
    bif t48 then
    some false
    else
    i_ValidDefects_l3 k31 mp26 e32 N 0
    else
    k24 

def i_ValidDefects (N : Nat) (list1 : List Defect) (x4 : List Int) : Option Bool :=
  (orO (decide ((List.length x4 : Int) > 6)) (some (decide ((List.length list1 : Int) > 10)))).bind fun t7 =>
  bif t7 then
  some false
  else
  withK (withK (some true) fun (k24 : Option Bool) =>
  i_ValidDefects_l2 k24 list1 x4 N [] 0) fun (k11 : Option Bool) =>
  i_ValidDefects_l1 k11 x4 N 0

def i_areAnswers_l1 (k3 : Option Bool) (answers1 : Str) : Nat → Int → Option Bool
  | 0, _ => none
  | N + 1, x5 =>
    bif decide (x5 < (List.length answers1 : Int)) then
    (idx answers1 x5).bind fun c7 =>
    (andO (c7 != (48 : UInt8)) ((idx answers1 x5).bind fun c12 =>
    some (c12 != (49 : UInt8)))).bind fun t9 =>
    (andO t9 ((idx answers1 x5).bind fun c17 =>
    some (c17 != (63 : UInt8)))).bind fun t14 =>
    bif t14 then
    some false
    else
    i_areAnswers_l1 k3 answers1 N (w64 (x5 + 1))
    else
    k3 

def i_areAnswers (N : Nat) (answers1 : Str) (tests2 : Int) : Option Bool :=
  withK (some ((List.length answers1 : Int) == tests2)) fun (k3 : Option Bool) =>
  i_areAnswers_l1 k3 answers1 N 0

def i_answersCode (N : Nat) (list1 : List Defect) (prices4 : List Int) (answers7 : Str) : Option Int :=
  (i_ValidDefects N list1 prices4).bind fun r8 =>
  bif !r8 then
  some 1
  else
  (i_areAnswers N answers7 (List.length prices4 : Int)).bind fun r11 =>
  bif !r11 then
  some 2
  else
  some 0

def i_fitting_l2 (k27 : Bool → Option (List Int)) (answers4 : Str) (e18 : Defect) : Nat → Bool → Int → Option (List Int)
  | 0, _, _ => none
  | N + 1, fits27, x28 =>
    bif decide (x28 < (List.length answers4 : Int)) then
    (andO fits27 ((idx answers4 x28).bind fun c33 =>
    (orO (c33 == (63 : UInt8)) ((idx answers4 x28).bind fun c38 =>
    (idx e18.signs x28).bind fun c40 =>
    some (c38 == c40))).bind fun t35 =>
    some t35)).bind fun t30 =>
    i_fitting_l2 k27 answers4 e18 N t30 (w64 (x28 + 1))
    else
    k27 fits27

def i_fitting_l1 (k8 : (List Int) → Option (List Int)) (list1 : List Defect) (answers4 : Str) : Nat → (List Int) → Int → Option (List Int)
  | 0, _, _ => none
  | N + 1, l10, x12 =>
    bif decide (x12 < (List.length list1 : Int)) then
    withK (fun (l14 : List Int) =>
    i_fitting_l1 k8 list1 answers4 N l14 (w64 (x12 + 1))) fun (k17 : (List Int) → Option (List Int)) =>
    (idx list1 x12).bind fun e18 =>
    withK (fun (fits24 : Bool) =>
    bif fits24 then
    (app l10 [x12]).bind fun l44 =>
    k17 l44
    else
    k17 l10) fun (k27 : Bool → Option (List Int)) =>
    i_fitting_l2 k27 answers4 e18 N true 0
    else
    k8 l10

def i_fitting (N : Nat) (list1 : List Defect) (answers4 : Str) : Option (List Int) :=
  withK (fun (l6 : List Int) =>
  some l6) fun (k8 : (List Int) → Option (List Int)) =>
  i_fitting_l1 k8 list1 answers4 N [] 0

def i_PossibleDefects (N : Nat) (list1 : List Defect) (prices4 : List Int) (answers7 : Str) : Option ((List Int) × Int) :=
  (i_answersCode N list1 prices4 answers7).bind fun r8 =>
  bif (r8 != 0) then
  some ([], r8)
  else
  (i_fitting N list1 answers7).bind fun r11 =>
  some (r11, 0)

def w_eqInt64S_l1 (k8 : Option Bool) (a1 : List Int) (b4 : List Int) : Nat → Int → Option Bool
  | 0, _ => none
  | N + 1, i10 =>
    bif decide (i10 < (List.length a1 : Int)) then
    (idx a1 i10).bind fun e12 =>
    (idx b4 i10).bind fun e17 =>
    bif (e12 != e17) then
    some false
    else
    w_eqInt64S_l1 k8 a1 b4 N (w64 (i10 + 1))
    else
    k8 

def w_eqInt64S (N : Nat) (a1 : List Int) (b4 : List Int) : Option Bool :=
  bif ((List.length a1 : Int) != (List.length b4 : Int)) then
  some false
  else
  withK (some true) fun (k8 : Option Bool) =>
  w_eqInt64S_l1 k8 a1 b4 N 0

def w_eqDefect (a1 : Defect) (b2 : Defect) : Option Bool :=
  bif (a1.name != b2.name) then
  some false
  else
  bif (a1.weight != b2.weight) then
  some false
  else
  bif (a1.signs != b2.signs) then
  some false
  else
  some true

def w_eqDefectS_l1 (k8 : Option Bool) (a1 : List Defect) (b4 : List Defect) : Nat → Int → Option Bool
  | 0, _ => none
  | N + 1, i10 =>
    bif decide (i10 < (List.length a1 : Int)) then
    (idx a1 i10).bind fun e12 =>
    (idx b4 i10).bind fun e17 =>
    (w_eqDefect e12 e17).bind fun r22 =>
    bif !r22 then
    some false
    else
    w_eqDefectS_l1 k8 a1 b4 N (w64 (i10 + 1))
    else
    k8 

def w_eqDefectS (N : Nat) (a1 : List Defect) (b4 : List Defect) : Option Bool :=
  bif ((List.length a1 : Int) != (List.length b4 : Int)) then
  some false
  else
  withK (some true) fun (k8 : Option Bool) =>
  w_eqDefectS_l1 k8 a1 b4 N 0

def w_markText_l1 (k4 : Str → Option Str) : Nat → Int → Str → Option Str
  | 0, _, _ => none
  | N + 1, k6, out7 =>
    bif decide (k6 > 0) then
    (cat [UInt8.ofInt (w64 (48 + (Int.tmod k6 10)))] out7).bind fun s10 =>
    w_markText_l1 k4 N (w64 (Int.tdiv k6 10)) s10
    else
    k4 out7

def w_markText (N : Nat) (k1 : Int) : Option Str :=
  bif decide (k1 ≤ 0) then
  some [109, 48]
  else
  withK (fun (out3 : Str) =>
  (cat [109] out3).bind fun s12 =>
  some s12) fun (k4 : Str → Option Str) =>
  w_markText_l1 k4 N k1 []

def w_markDefectS_l1 (k6 : (List Defect) → Int → Option (Int × (List Defect))) : Nat → (List Defect) → Int → Int → Option (Int × (List Defect))
  | 0, _, _, _ => none
  | N + 1, l8, k9, i10 =>
    bif decide (i10 < (List.length l8 : Int)) then
    (w_markText N k9).bind fun r12 =>
    (idx l8 i10).bind fun e14 =>
    (idx (List.set l8 (Int.toNat i10) (Defect.mk r12 e14.weight e14.signs)) i10).bind fun e16 =>
    (w_markText N (w64 ((w64 (k9 + 1)) + 1))).bind fun r18 =>
    (idx (List.set (List.set l8 (Int.toNat i10) (Defect.mk r12 e14.weight e14.signs)) (Int.toNat i10) (Defect.mk e16.name (w64 (k9 + 1)) e16.signs)) i10).bind fun e20 =>
    w_markDefectS_l1 k6 N (List.set (List.set (List.set l8 (Int.toNat i10) (Defect.mk r12 e14.weight e14.signs)) (Int.toNat i10) (Defect.mk e16.name (w64 (k9 + 1)) e16.signs)) (Int.toNat i10) (Defect.mk e20.name e20.weight r18)) (w64 ((w64 ((w64 (k9 + 1)) + 1)) + 1)) (w64 (i10 + 1))
    else
    k6 l8 k9

def w_markDefectS (N : Nat) (a1 : List Defect) (k3 : Int) : Option (Int × (List Defect)) :=
  withK (fun (l4 : List Defect) (k5 : Int) =>
  some (k5, l4)) fun (k6 : (List Defect) → Int → Option (Int × (List Defect))) =>
  w_markDefectS_l1 k6 N a1 k3 0

def w_markInt64S_l1 (k6 : (List Int) → Int → Option (Int × (List Int))) : Nat → (List Int) → Int → Int → Option (Int × (List Int))
  | 0, _, _, _ => none
  | N + 1, l8, k9, i10 =>
    bif decide (i10 < (List.length l8 : Int)) then
    (idx l8 i10).bind fun e12 =>
    w_markInt64S_l1 k6 N (List.set l8 (Int.toNat i10) k9) (w64 (k9 + 1)) (w64 (i10 + 1))
    else
    k6 l8 k9

def w_markInt64S (N : Nat) (a1 : List Int) (k3 : Int) : Option (Int × (List Int)) :=
  withK (fun (l4 : List Int) (k5 : Int) =>
  some (k5, l4)) fun (k6 : (List Int) → Int → Option (Int × (List Int))) =>
  w_markInt64S_l1 k6 N a1 k3 0

def w_heldInt64S_l1 (k6 : Int → Option Int) (a1 : List Int) : Nat → Int → Int → Option Int
  | 0, _, _ => none
  | N + 1, k8, i9 =>
    bif decide (i9 < (List.length a1 : Int)) then
    (idx a1 i9).bind fun e11 =>
    bif (e11 != k8) then
    some (-1)
    else
    w_heldInt64S_l1 k6 a1 N (w64 (k8 + 1)) (w64 (i9 + 1))
    else
    k6 k8

def w_heldInt64S (N : Nat) (a1 : List Int) (k4 : Int) : Option Int :=
  withK (fun (k5 : Int) =>
  some k5) fun (k6 : Int → Option Int) =>
  w_heldInt64S_l1 k6 a1 N k4 0

def w_FnExactPossibleDefects (N : Nat) (aList1 : List Defect) (x4 : List Int) (x7 : Str) : Option Bool :=
  bif decide ((List.length x4 : Int) > 1048576) then
  some true
  else
  bif decide ((List.length x7 : Int) > 1048576) then
  some true
  else
  (w_szDefectS N aList1 1048576).bind fun r10 =>
  bif decide (r10 < 0) then
  some true
  else
  (w_toDefectS N aList1).bind fun r13 =>
  (w_toInt64S N x4).bind fun r16 =>
  (s_PossibleDefects N r13 r16 x7).bind fun r19 =>
  (w_toDefectS N aList1).bind fun r22 =>
  (w_toInt64S N x4).bind fun r25 =>
  (i_PossibleDefects N r22 r25 x7).bind fun r28 =>
  (w_eqInt64S N r28.1 r19.1).bind fun r31 =>
  (orO (!r31) (some (r28.2 != r19.2))).bind fun t33 =>
  bif t33 then
  some false
  else
  (w_toDefectS N aList1).bind fun r37 =>
  (w_eqDefectS N r22 r37).bind fun r40 =>
  bif !r40 then
  some false
  else
  (w_toInt64S N x4).bind fun r43 =>
  (w_eqInt64S N r25 r43).bind fun r46 =>
  bif !r46 then
  some false
  else
  (w_markDefectS N r22 1).bind fun r49 =>
  (w_markInt64S N r25 r49.1).bind fun r51 =>
  (orO (decide (r51.1 < 0)) ((w_eqInt64S N r28.1 r19.1).bind fun r56 =>
  some (!r56))).bind fun t53 =>
  (orO t53 (some (r28.2 != r19.2))).bind fun t58 =>
  bif t58 then
  some false
  else
  (w_markInt64S N r28.1 1).bind fun r62 =>
  (w_heldInt64S N r62.2 1).bind fun r64 =>
  bif decide (r64 < 0) then
  some false
  else
  bif (r64 != r62.1) then
  some false
  else
  (w_toDefectS N aList1).bind fun r68 =>
  (w_toInt64S N x4).bind fun r71 =>
  (i_PossibleDefects N r68 r71 x7).bind fun r74 =>
  (w_eqInt64S N r74.1 r19.1).bind fun r77 =>
  (orO (!r77) (some (r74.2 != r19.2))).bind fun t79 =>
  bif t79 then
  some false
  else
  (w_heldInt64S N r62.2 1).bind fun r83 =>
  bif decide (r83 < 0) then
  some false
  else
  bif (r83 != r62.1) then
  some false
  else
  some true

def s_l23Same_l2 (k9 : Option (Int × Int)) (list1 : List Defect) (i6 : Int) : Nat → Int → Option (Int × Int)
  | 0, _ => none
  | N + 1, k10 =>
    bif decide (k10 < i6) then
    (idx list1 k10).bind fun e12 =>
    (idx list1 i6).bind fun e17 =>
    bif (e12.signs == e17.signs) then
    some (i6, k10)
    else
    s_l23Same_l2 k9 list1 i6 N (w64 (k10 + 1))
    else
    k9 

def s_l23Same_l1 (k4 : Option (Int × Int)) (list1 : List Defect) : Nat → Int → Option (Int × Int)
  | 0, _ => none
  | N + 1, i6 =>
    bif decide (i6 < (List.length list1 : Int)) then
    withK (s_l23Same_l1 k4 list1 N (w64 (i6 + 1))) fun (k9 : Option (Int × Int)) =>
    s_l23Same_l2 k9 list1 i6 N 0
    else
    k4 

def s_l23Same (N : Nat) (list1 : List Defect) : Option (Int × Int) :=
  withK (some ((-1), (-1))) fun (k4 : Option (Int × Int)) =>
  s_l23Same_l1 k4 list1 N 0

def i_firstAlike_l2 (k9 : Option (Int × Int × Bool)) (list1 : List Defect) (x6 : Int) : Nat → Int → Option (Int × Int × Bool)
  | 0, _ => none
  | N + 1, x10 =>
    bif decide (x10 < x6) then
    (idx list1 x6).bind fun e12 =>
    (idx list1 x10).bind fun e17 =>
    bif (e12.signs == e17.signs) then
    some (x6, x10, true)
    else
    i_firstAlike_l2 k9 list1 x6 N (w64 (x10 + 1))
    else
    k9 

def i_firstAlike_l1 (k4 : Option (Int × Int × Bool)) (list1 : List Defect) : Nat → Int → Option (Int × Int × Bool)
  | 0, _ => none
  | N + 1, x6 =>
    bif decide (x6 < (List.length list1 : Int)) then
    withK (i_firstAlike_l1 k4 list1 N (w64 (x6 + 1))) fun (k9 : Option (Int × Int × Bool)) =>
    i_firstAlike_l2 k9 list1 x6 N 0
    else
    k4 

def i_firstAlike (N : Nat) (list1 : List Defect) : Option (Int × Int × Bool) :=
  withK (some (0, 0, false)) fun (k4 : Option (Int × Int × Bool)) =>
  i_firstAlike_l1 k4 list1 N 0

end Go.Proofs.Ytigjflandggihaa
