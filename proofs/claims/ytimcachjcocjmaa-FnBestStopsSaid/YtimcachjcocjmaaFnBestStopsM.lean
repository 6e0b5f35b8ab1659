/-
  Plain functions that compute what the Go functions compute. No conditions.
-/
import Derived.Test.YtimcachjcocjmaaBase
namespace Go.Proofs.Ytimcachjcocjmaa
set_option linter.unusedVariables false
set_option linter.unusedSimpArgs false

structure L00Src where
  code : List UInt8
  at_ : Int
  seed : Int



def w_a2Long (code1 : List UInt8) (more4 : List UInt8) : Option Bool :=
  (orO (decide ((List.length code1 : Int) > 3000)) (some (decide ((List.length more4 : Int) > 3000)))).bind fun t7 =>
  some t7

def s_l00From (code1 : List UInt8) : Option L00Src :=
  some (L00Src.mk code1 0 0)

def s_l00Src_next (s1 : L00Src) : Option (Int × L00Src) :=
  withK (fun (b5 : Int) =>
  bif decide ((w64 (s1.at_ + 1)) ≤ (List.length s1.code : Int)) then
  some (b5, (L00Src.mk s1.code (w64 (s1.at_ + 1)) (IntKind.u64.wrap ((IntKind.u64.wrap ((IntKind.u64.wrap (s1.seed * 6364136223846793005)) + (IntKind.u64.wrap b5))) + 1442695040888963407))))
  else
  some (w64 (uand (ushr (IntKind.u64.wrap ((IntKind.u64.wrap ((IntKind.u64.wrap (s1.seed * 6364136223846793005)) + (IntKind.u64.wrap b5))) + 1442695040888963407)) 40) 255), (L00Src.mk s1.code (w64 (s1.at_ + 1)) (IntKind.u64.wrap ((IntKind.u64.wrap ((IntKind.u64.wrap (s1.seed * 6364136223846793005)) + (IntKind.u64.wrap b5))) + 1442695040888963407))))) fun (kj6 : Int → Option (Int × L00Src)) =>
  bif decide (s1.at_ < (List.length s1.code : Int)) then
  (idx s1.code s1.at_).bind fun e9 =>
  kj6 (UInt8.toNat e9 : Int)
  else
  kj6 0

def s_l00Src_pick (s1 : L00Src) (n5 : Int) : Option (Int × L00Src) :=
  bif decide (n5 ≤ 1) then
  some (0, (L00Src.mk s1.code s1.at_ s1.seed))
  else
  (s_l00Src_next (L00Src.mk s1.code s1.at_ s1.seed)).bind fun r7 =>
  withK (fun (x9 : Int) (x10 : Int) (x11 : Int) =>
  (remO x11 n5).bind fun q17 =>
  some (q17, (L00Src.mk s1.code x9 x10))) fun (kj12 : Int → Int → Int → Option (Int × L00Src)) =>
  bif decide (n5 > 200) then
  (s_l00Src_next (L00Src.mk s1.code r7.2.at_ r7.2.seed)).bind fun r15 =>
  kj12 r15.2.at_ r15.2.seed (w64 ((w64 (r7.1 * 256)) + r15.1))
  else
  kj12 r7.2.at_ r7.2.seed r7.1

def s_A2Row_l2 (kj30 : Int → Int → (List UInt8) → Option Str) (r32 : Int × L00Src) : Nat → (List UInt8) → Int → Option Str
  | 0, _, _ => none
  | N + 1, l34, n36 =>
    bif decide (n36 > 0) then
    (app l34 [32]).bind fun l39 =>
    s_A2Row_l2 kj30 r32 N l39 (w64 (n36 - 1))
    else
    kj30 r32.2.at_ r32.2.seed l34

def s_A2Row_l1 (kj10 : (List UInt8) → Option Str) (code1 : List UInt8) : Nat → Int → Int → (List UInt8) → Int → Option Str
  | 0, _, _, _, _ => none
  | N + 1, x14, x15, l16, k18 =>
    bif decide (k18 > 0) then
    withK (fun (x20 : Int) (x21 : Int) (l22 : List UInt8) =>
    s_A2Row_l1 kj10 code1 N x20 x21 l22 (w64 (k18 - 1))) fun (kj24 : Int → Int → (List UInt8) → Option Str) =>
    withK (fun (x26 : Int) (x27 : Int) (l28 : List UInt8) =>
    (s_l00Src_pick (L00Src.mk code1 x26 x27) 6).bind fun r42 =>
    (idx [97, 98, 99, 39, 35, 62] r42.1).bind fun c44 =>
    (app l28 [c44]).bind fun l47 =>
    kj24 r42.2.at_ r42.2.seed l47) fun (kj30 : Int → Int → (List UInt8) → Option Str) =>
    (s_l00Src_pick (L00Src.mk code1 x14 x15) 7).bind fun r32 =>
    s_A2Row_l2 kj30 r32 N l16 r32.1
    else
    kj10 l16

def s_A2Row (N : Nat) (code1 : List UInt8) : Option Str :=
  (s_l00From code1).bind fun r4 =>
  withK (fun (l8 : List UInt8) =>
  some l8) fun (kj10 : (List UInt8) → Option Str) =>
  (s_l00Src_pick (L00Src.mk code1 r4.at_ r4.seed) 4).bind fun r12 =>
  s_A2Row_l1 kj10 code1 N r12.2.at_ r12.2.seed [] r12.1

def i_isText_l1 (kj5 : Option Bool) (s1 : Str) (low2 : UInt8) : Nat → Int → Option Bool
  | 0, _ => none
  | N + 1, x7 =>
    bif decide (x7 < (List.length s1 : Int)) then
    (idx s1 x7).bind fun c9 =>
    (orO (decide (c9 < low2)) ((idx s1 x7).bind fun c14 =>
    some (decide (c14 > (126 : UInt8))))).bind fun t11 =>
    bif t11 then
    some false
    else
    i_isText_l1 kj5 s1 low2 N (w64 (x7 + 1))
    else
    kj5 

def i_isText (N : Nat) (s1 : Str) (low2 : UInt8) (most3 : Int) : Option Bool :=
  bif decide ((List.length s1 : Int) > most3) then
  some false
  else
  withK (some true) fun (kj5 : Option Bool) =>
  i_isText_l1 kj5 s1 low2 N 0

def i_isRow (N : Nat) (row1 : Str) : Option Bool :=
  (i_isText N row1 32 30).bind fun r2 =>
  (andO r2 ((orO (row1 == []) ((idx row1 (w64 ((List.length row1 : Int) - 1))).bind fun c10 =>
  some (c10 != (32 : UInt8)))).bind fun t7 =>
  some t7)).bind fun t4 =>
  some t4

def i_rowsCode_l1 (kj5 : Option Int) (rows1 : List Str) : Nat → Int → Option Int
  | 0, _ => none
  | N + 1, x7 =>
    bif decide (x7 < (List.length rows1 : Int)) then
    (idx rows1 x7).bind fun e9 =>
    (i_isRow N e9).bind fun r14 =>
    bif !r14 then
    some 2
    else
    i_rowsCode_l1 kj5 rows1 N (w64 (x7 + 1))
    else
    kj5 

def i_rowsCode (N : Nat) (rows1 : List Str) : Option Int :=
  bif decide ((List.length rows1 : Int) > 12) then
  some 1
  else
  withK (some 0) fun (kj5 : Option Int) =>
  i_rowsCode_l1 kj5 rows1 N 0

def i_between (n1 : Int) (low2 : Int) (high3 : Int) : Option Bool :=
  (andO (decide (n1 ≥ low2)) (some (decide (n1 ≤ high3)))).bind fun t4 =>
  some t4

def i_moved_l1 (kj8 : Option (Int × Bool)) (stops1 : List Int) (column4 : Int) : Nat → Int → Option (Int × Bool)
  | 0, _ => none
  | N + 1, x10 =>
    bif decide (x10 < (List.length stops1 : Int)) then
    (idx stops1 x10).bind fun e12 =>
    bif decide (e12 > column4) then
    some (e12, true)
    else
    i_moved_l1 kj8 stops1 column4 N (w64 (x10 + 1))
    else
    kj8 

def i_moved (N : Nat) (stops1 : List Int) (column4 : Int) (move5 : UInt8) : Option (Int × Bool) :=
  bif (move5 == (62 : UInt8)) then
  some (w64 (column4 + 1), decide (column4 < 30))
  else
  bif (move5 == (60 : UInt8)) then
  some (w64 (column4 - 1), decide (column4 > 0))
  else
  withK (some (0, false)) fun (kj8 : Option (Int × Bool)) =>
  i_moved_l1 kj8 stops1 column4 N 0

def i_distances_l1 (kj8 : (List Int) → Option (List Int)) : Nat → (List Int) → Int → Option (List Int)
  | 0, _, _ => none
  | N + 1, l10, x11 =>
    bif decide (x11 < 31) then
    (idx l10 x11).bind fun e13 =>
    i_distances_l1 kj8 N (List.set l10 (Int.toNat x11) (-1)) (w64 (x11 + 1))
    else
    kj8 l10

def i_distances_l4 (kj40 : (List Int) → Option (List Int)) (stops1 : List Int) (x22 : Int) (x30 : Int) : Nat → (List Int) → Int → Option (List Int)
  | 0, _, _ => none
  | N + 1, l43, x44 =>
    bif decide (x44 < (List.length [35, 60, 62] : Int)) then
    withK (fun (l46 : List Int) =>
    i_distances_l4 kj40 stops1 x22 x30 N l46 (w64 (x44 + 1))) fun (kj47 : (List Int) → Option (List Int)) =>
    (idx [35, 60, 62] x44).bind fun e49 =>
    (i_moved N stops1 x30 e49).bind fun r51 =>
    (andO r51.2 ((idx l43 r51.1).bind fun e56 =>
    some (e56 == x22))).bind fun t53 =>
    bif t53 then
    (idx l43 x30).bind fun e59 =>
    kj47 (List.set l43 (Int.toNat x30) (w64 (x22 + 1)))
    else
    kj47 l43
    else
    kj40 l43

def i_distances_l3 (kj26 : (List Int) → Bool → Option (List Int)) (stops1 : List Int) (x22 : Int) : Nat → (List Int) → Bool → Int → Option (List Int)
  | 0, _, _, _ => none
  | N + 1, l28, x29, x30 =>
    bif decide (x30 < 31) then
    withK (fun (l32 : List Int) (x33 : Bool) =>
    i_distances_l3 kj26 stops1 x22 N l32 x33 (w64 (x30 + 1))) fun (kj34 : (List Int) → Bool → Option (List Int)) =>
    (idx l28 x30).bind fun e36 =>
    bif decide (e36 ≥ 0) then
    kj34 l28 x29
    else
    withK (fun (l39 : List Int) =>
    (orO x29 ((idx l39 x30).bind fun e64 =>
    some (decide (e64 ≥ 0)))).bind fun t61 =>
    kj34 l39 t61) fun (kj40 : (List Int) → Option (List Int)) =>
    i_distances_l4 kj40 stops1 x22 x30 N l28 0
    else
    kj26 l28 x29

def i_distances_l2 (kj18 : (List Int) → Option (List Int)) (stops1 : List Int) : Nat → (List Int) → Bool → Int → Option (List Int)
  | 0, _, _, _ => none
  | N + 1, l20, x21, x22 =>
    bif x21 then
    withK (fun (l24 : List Int) (x25 : Bool) =>
    i_distances_l2 kj18 stops1 N l24 x25 (w64 (x22 + 1))) fun (kj26 : (List Int) → Bool → Option (List Int)) =>
    i_distances_l3 kj26 stops1 x22 N l20 false 0
    else
    kj18 l20

def i_distances (N : Nat) (stops1 : List Int) (x4 : Int) : Option (List Int) :=
  withK (fun (l7 : List Int) =>
  (idx l7 x4).bind fun e15 =>
  withK (fun (l17 : List Int) =>
  (chkA 31 l17).bind fun l66 =>
  some l17) fun (kj18 : (List Int) → Option (List Int)) =>
  i_distances_l2 kj18 stops1 N (List.set l7 (Int.toNat x4) 0) true 0) fun (kj8 : (List Int) → Option (List Int)) =>
  i_distances_l1 kj8 N (List.replicate 31 (0 : Int)) 0

def i_planBetween_l2 (kj22 : (List UInt8) → Int → Option Str) (stops1 : List Int) (r6 : (List Int)) : Nat → (List UInt8) → Int → Int → Option Str
  | 0, _, _, _ => none
  | N + 1, l26, from28, x29 =>
    bif decide (x29 < (List.length [35, 60, 62] : Int)) then
    (idx [35, 60, 62] x29).bind fun e31 =>
    (i_moved N stops1 from28 e31).bind fun r33 =>
    (andO r33.2 ((idx r6 r33.1).bind fun e38 =>
    (idx r6 from28).bind fun e40 =>
    some (e38 == (w64 (e40 - 1))))).bind fun t35 =>
    bif t35 then
    (app l26 [e31]).bind fun l44 =>
    kj22 l44 r33.1
    else
    i_planBetween_l2 kj22 stops1 r6 N l26 from28 (w64 (x29 + 1))
    else
    kj22 l26 from28

def i_planBetween_l1 (kj14 : (List UInt8) → Option Str) (stops1 : List Int) (to5 : Int) (r6 : (List Int)) : Nat → (List UInt8) → Int → Option Str
  | 0, _, _ => none
  | N + 1, l16, from18 =>
    withK (fun (l19 : List UInt8) (from21 : Int) =>
    i_planBetween_l1 kj14 stops1 to5 r6 N l19 from21) fun (kj22 : (List UInt8) → Int → Option Str) =>
    bif (from18 != to5) then
    i_planBetween_l2 kj22 stops1 r6 N l16 from18 0
    else
    kj14 l16

def i_planBetween (N : Nat) (stops1 : List Int) (from4 : Int) (to5 : Int) : Option Str :=
  (i_distances N stops1 to5).bind fun r6 =>
  (chkA 31 r6).bind fun l9 =>
  withK (fun (l12 : List UInt8) =>
  some l12) fun (kj14 : (List UInt8) → Option Str) =>
  i_planBetween_l1 kj14 stops1 to5 r6 N [] from4

def i_rowPlan_l1 (kj7 : Str → Int → Option (Str × Int)) (stops1 : List Int) (row4 : Str) : Nat → Str → Int → Int → Int → Option (Str × Int)
  | 0, _, _, _, _ => none
  | N + 1, plan9, moves10, at11, x12 =>
    bif decide (x12 < (List.length row4 : Int)) then
    withK (fun (plan14 : Str) (moves15 : Int) (at16 : Int) =>
    i_rowPlan_l1 kj7 stops1 row4 N plan14 moves15 at16 (w64 (x12 + 1))) fun (kj17 : Str → Int → Int → Option (Str × Int)) =>
    (idx row4 x12).bind fun c19 =>
    bif (c19 == (32 : UInt8)) then
    kj17 plan9 moves10 at11
    else
    (i_planBetween N stops1 at11 x12).bind fun r22 =>
    (cat r22 [39]).bind fun s24 =>
    (sub row4 x12 (w64 (x12 + 1))).bind fun s26 =>
    (cat s24 s26).bind fun s28 =>
    (cat plan9 s28).bind fun s30 =>
    kj17 s30 (w64 (moves10 + (List.length r22 : Int))) (w64 (x12 + 1))
    else
    kj7 plan9 moves10

def i_rowPlan (N : Nat) (stops1 : List Int) (row4 : Str) : Option (Str × Int) :=
  withK (fun (plan5 : Str) (moves6 : Int) =>
  some (plan5, moves6)) fun (kj7 : Str → Int → Option (Str × Int)) =>
  i_rowPlan_l1 kj7 stops1 row4 N [] 0 0 0

def i_pageMoves_l1 (kj8 : Int → Option Int) (stops1 : List Int) (rows4 : List Str) : Nat → Int → Int → Option Int
  | 0, _, _ => none
  | N + 1, sum10, x11 =>
    bif decide (x11 < (List.length rows4 : Int)) then
    (idx rows4 x11).bind fun e13 =>
    (i_rowPlan N stops1 e13).bind fun r18 =>
    i_pageMoves_l1 kj8 stops1 rows4 N (w64 (sum10 + r18.2)) (w64 (x11 + 1))
    else
    kj8 sum10

def i_pageMoves (N : Nat) (stops1 : List Int) (rows4 : List Str) : Option Int :=
  withK (fun (sum7 : Int) =>
  some sum7) fun (kj8 : Int → Option Int) =>
  i_pageMoves_l1 kj8 stops1 rows4 N 0 0

def i_BestStops_l2 (kj25 : (List (List Int)) → Option ((List Int) × Int × Int)) (x4 : Int) (x20 : Int) : Nat → (List (List Int)) → Int → Option ((List Int) × Int × Int)
  | 0, _, _ => none
  | N + 1, l41, x44 =>
    (andO (x4 == 2) (some (decide (x44 ≤ 30)))).bind fun t45 =>
    bif t45 then
    (app l41 ([[x20, x44]] : List (List Int))).bind fun l54 =>
    i_BestStops_l2 kj25 x4 x20 N l54 (w64 (x44 + 1))
    else
    kj25 l41

def i_BestStops_l1 (kj15 : (List (List Int)) → Option ((List Int) × Int × Int)) (x4 : Int) : Nat → (List (List Int)) → Int → Option ((List Int) × Int × Int)
  | 0, _, _ => none
  | N + 1, l17, x20 =>
    bif decide (x20 ≤ 30) then
    withK (fun (l22 : List (List Int)) =>
    i_BestStops_l1 kj15 x4 N l22 (w64 (x20 + 1))) fun (kj25 : (List (List Int)) → Option ((List Int) × Int × Int)) =>
    withK (fun (l27 : List (List Int)) =>
    i_BestStops_l2 kj25 x4 x20 N l27 (w64 (x20 + 1))) fun (kj30 : (List (List Int)) → Option ((List Int) × Int × Int)) =>
    bif (x4 == 1) then
    (app l17 ([[x20]] : List (List Int))).bind fun l38 =>
    kj30 l38
    else
    kj30 l17
    else
    kj15 l17

def i_BestStops_l3 (kj70 : (List Int) → Int → Option ((List Int) × Int × Int)) (rows1 : List Str) (l57 : List (List Int)) : Nat → (List Int) → Int → Int → Option ((List Int) × Int × Int)
  | 0, _, _, _ => none
  | N + 1, l72, x74, x75 =>
    bif decide (x75 < (List.length l57 : Int)) then
    withK (fun (l77 : List Int) (x79 : Int) =>
    i_BestStops_l3 kj70 rows1 l57 N l77 x79 (w64 (x75 + 1))) fun (kj80 : (List Int) → Int → Option ((List Int) × Int × Int)) =>
    (idx l57 x75).bind fun e83 =>
    (i_pageMoves N e83 rows1).bind fun r87 =>
    (orO (decide (x74 < 0)) (some (decide (r87 < x74)))).bind fun t89 =>
    bif t89 then
    kj80 e83 r87
    else
    kj80 l72 x74
    else
    kj70 l72 x74

def i_BestStops (N : Nat) (rows1 : List Str) (x4 : Int) : Option ((List Int) × Int × Int) :=
  (i_rowsCode N rows1).bind fun r5 =>
  bif (r5 != 0) then
  some ([], 0, r5)
  else
  (i_between x4 0 2).bind fun r8 =>
  bif !r8 then
  some ([], 0, 2)
  else
  withK (fun (l12 : List (List Int)) =>
  withK (fun (l57 : List (List Int)) =>
  withK (fun (l67 : List Int) (x69 : Int) =>
  some (l67, x69, 0)) fun (kj70 : (List Int) → Int → Option ((List Int) × Int × Int)) =>
  i_BestStops_l3 kj70 rows1 l57 N ([] : List Int) (-1) 0) fun (kj60 : (List (List Int)) → Option ((List Int) × Int × Int)) =>
  bif (x4 == 0) then
  kj60 ([[]] : List (List Int))
  else
  kj60 l12) fun (kj15 : (List (List Int)) → Option ((List Int) × Int × Int)) =>
  i_BestStops_l1 kj15 x4 N ([] : List (List Int)) 1

def i_ValidStops_l1 (kj5 : Option Bool) (stops1 : List Int) : Nat → Int → Option Bool
  | 0, _ => none
  | N + 1, x7 =>
    bif decide (x7 < (List.length stops1 : Int)) then
    (idx stops1 x7).bind fun e9 =>
    (i_between e9 1 30).bind fun r14 =>
    (orO (!r14) ((andO (decide (x7 > 0)) ((idx stops1 (w64 (x7 - 1))).bind fun e22 =>
    some (decide (e9 ≤ e22)))).bind fun t19 =>
    some t19)).bind fun t16 =>
    bif t16 then
    some false
    else
    i_ValidStops_l1 kj5 stops1 N (w64 (x7 + 1))
    else
    kj5 

def i_ValidStops (N : Nat) (stops1 : List Int) : Option Bool :=
  bif decide ((List.length stops1 : Int) > 6) then
  some false
  else
  withK (some true) fun (kj5 : Option Bool) =>
  i_ValidStops_l1 kj5 stops1 N 0

def i_PageMoves (N : Nat) (stops1 : List Int) (rows4 : List Str) : Option (Int × Int) :=
  (i_ValidStops N stops1).bind fun r7 =>
  bif !r7 then
  some (0, 1)
  else
  (i_rowsCode N rows4).bind fun r10 =>
  bif (r10 != 0) then
  some (0, r10)
  else
  (i_pageMoves N stops1 rows4).bind fun r13 =>
  some (r13, 0)

def s_l00In (n1 : Int) (low2 : Int) (high3 : Int) : Option Bool :=
  (andO (decide (n1 ≥ low2)) (some (decide (n1 ≤ high3)))).bind fun t4 =>
  some t4

def s_l00Rises_l1 (kj6 : Option Bool) (list1 : List Int) (low4 : Int) (high5 : Int) : Nat → Int → Option Bool
  | 0, _ => none
  | N + 1, i8 =>
    bif decide (i8 < (List.length list1 : Int)) then
    (idx list1 i8).bind fun e10 =>
    (s_l00In e10 low4 high5).bind fun r15 =>
    (orO (!r15) ((andO (decide (i8 > 0)) ((idx list1 (w64 (i8 - 1))).bind fun e23 =>
    (idx list1 i8).bind fun e28 =>
    some (decide (e23 ≥ e28)))).bind fun t20 =>
    some t20)).bind fun t17 =>
    bif t17 then
    some false
    else
    s_l00Rises_l1 kj6 list1 low4 high5 N (w64 (i8 + 1))
    else
    kj6 

def s_l00Rises (N : Nat) (list1 : List Int) (low4 : Int) (high5 : Int) : Option Bool :=
  withK (some true) fun (kj6 : Option Bool) =>
  s_l00Rises_l1 kj6 list1 low4 high5 N 0

def s_l11Ok (N : Nat) (stops1 : List Int) : Option Bool :=
  (andO (decide ((List.length stops1 : Int) ≤ 6)) ((s_l00Rises N stops1 1 30).bind fun r7 =>
  some r7)).bind fun t4 =>
  some t4

def s_ValidStops (N : Nat) (stops1 : List Int) : Option Bool :=
  (s_l11Ok N stops1).bind fun r4 =>
  some r4

def w_FnBestStops_l1 (kj15 : Option Bool) (r10 : Str) (r12 : Str) : Nat → Int → Int → Option Bool
  | 0, _, _ => none
  | N + 1, x17, x18 =>
    bif decide (x18 ≤ 2) then
    (i_BestStops N [r10, r12] x18).bind fun r20 =>
    (i_PageMoves N r20.1 [r10, r12]).bind fun r23 =>
    (orO (r20.2.2 != 0) (some ((List.length r20.1 : Int) != x18))).bind fun t25 =>
    (orO t25 ((s_ValidStops N r20.1).bind fun r31 =>
    some (!r31))).bind fun t28 =>
    (orO t28 (some (r23.2 != 0))).bind fun t33 =>
    (orO t33 (some (r23.1 != r20.2.1))).bind fun t36 =>
    (orO t36 ((andO (decide (x17 ≥ 0)) (some (decide (r20.2.1 > x17)))).bind fun t42 =>
    some t42)).bind fun t39 =>
    bif t39 then
    some false
    else
    w_FnBestStops_l1 kj15 r10 r12 N r20.2.1 (w64 (x18 + 1))
    else
    kj15 

def w_FnBestStops (N : Nat) (code1 : List UInt8) (x4 : List UInt8) : Option Bool :=
  (w_a2Long code1 x4).bind fun r7 =>
  bif r7 then
  some true
  else
  (s_A2Row N code1).bind fun r10 =>
  (s_A2Row N x4).bind fun r12 =>
  withK (some true) fun (kj15 : Option Bool) =>
  w_FnBestStops_l1 kj15 r10 r12 N (-1) 0

end Go.Proofs.Ytimcachjcocjmaa
