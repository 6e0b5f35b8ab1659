/-
  Plain functions that compute what the Go functions compute. No conditions.
-/
import Derived.Test.YtimcachjcocjmaaBase
namespace Go.Proofs.Ytimcachjcocjmaa
set_option linter.unusedVariables false
set_option linter.unusedSimpArgs false

structure Drill where
  name : Str
  letters : Str
  minutes : Int

def Drill.beq (x y : Drill) : Bool := x.name == y.name && (x.letters == y.letters && (x.minutes == y.minutes))

structure L00Src where
  code : List UInt8
  at_ : Int
  seed : Int



def w_a2Long (code1 : List UInt8) (more4 : List UInt8) : Option Bool :=
  (orO (decide ((List.length code1 : Int) > 3000)) (some (decide ((List.length more4 : Int) > 3000)))).bind fun t7 =>
  some t7

def s_l00From (code1 : List UInt8) : Option L00Src :=
  some (L00Src.mk code1 0 0)

def s_l00Src_next (s1 : L00Src) : Option (Int × L00Src) :=
  withK (fun (b5 : Int) =>
  bif decide ((w64 (s1.at_ + 1)) ≤ (List.length s1.code : Int)) then
  some (b5, (L00Src.mk s1.code (w64 (s1.at_ + 1)) (IntKind.u64.wrap ((IntKind.u64.wrap ((IntKind.u64.wrap (s1.seed * 6364136223846793005)) + (IntKind.u64.wrap b5))) + 1442695040888963407))))
  else
  some (w64 (uand (ushr (IntKind.u64.wrap ((IntKind.u64.wrap ((IntKind.u64.wrap (s1.seed * 6364136223846793005)) + (IntKind.u64.wrap b5))) + 1442695040888963407)) 40) 255), (L00Src.mk s1.code (w64 (s1.at_ + 1)) (IntKind.u64.wrap ((IntKind.u64.wrap ((IntKind.u64.wrap (s1.seed * 6364136223846793005)) + (IntKind.u64.wrap b5))) + 1442695040888963407))))) fun (kj6 : Int → Option (Int × L00Src)) =>
  bif decide (s1.at_ < (List.length s1.code : Int)) then
  (idx s1.code s1.at_).bind fun e9 =>
  kj6 (UInt8.toNat e9 : Int)
  else
  kj6 0

def s_l00Src_pick (s1 : L00Src) (n5 : Int) : Option (Int × L00Src) :=
  bif decide (n5 ≤ 1) then
  some (0, (L00Src.mk s1.code s1.at_ s1.seed))
  else
  (s_l00Src_next (L00Src.mk s1.code s1.at_ s1.seed)).bind fun r7 =>
  withK (fun (x9 : Int) (x10 : Int) (x11 : Int) =>
  (remO x11 n5).bind fun q17 =>
  some (q17, (L00Src.mk s1.code x9 x10))) fun (kj12 : Int → Int → Int → Option (Int × L00Src)) =>
  bif decide (n5 > 200) then
  (s_l00Src_next (L00Src.mk s1.code r7.2.at_ r7.2.seed)).bind fun r15 =>
  kj12 r15.2.at_ r15.2.seed (w64 ((w64 (r7.1 * 256)) + r15.1))
  else
  kj12 r7.2.at_ r7.2.seed r7.1

def s_l00Src_text (s1 : L00Src) (list5 : List Str) : Option (Str × L00Src) :=
  (s_l00Src_pick (L00Src.mk s1.code s1.at_ s1.seed) (List.length list5 : Int)).bind fun r8 =>
  (idx list5 r8.1).bind fun e10 =>
  some (e10, (L00Src.mk s1.code r8.2.at_ r8.2.seed))

def s_l21New (s1 : L00Src) (name5 : Str) : Option (Drill × L00Src) :=
  (s_l00Src_text (L00Src.mk s1.code s1.at_ s1.seed) [[102, 106], [97, 115, 100, 102], [101, 105], [114, 116, 121, 117], [122, 120, 99], [110, 109, 44, 46], [126, 33], [103, 104, 97, 101, 105]]).bind fun r9 =>
  (s_l00Src_pick (L00Src.mk s1.code r9.2.at_ r9.2.seed) 20).bind fun r11 =>
  some ((Drill.mk ((Drill.mk name5 [] 0).name) r9.1 (w64 (1 + r11.1))), (L00Src.mk s1.code r11.2.at_ r11.2.seed))

def s_l21Draw_l1 (kj11 : Int → Int → (List Drill) → Option ((List Drill) × L00Src)) (s1 : L00Src) : Nat → Int → Int → (List Drill) → Int → Option ((List Drill) × L00Src)
  | 0, _, _, _, _ => none
  | N + 1, x15, x16, l17, k19 =>
    bif decide (k19 > 0) then
    (idx [[104, 111, 109, 101], [116, 111, 112], [108, 111, 119], [116, 104, 117, 109, 98], [109, 105, 120, 45, 49], [109, 105, 120, 45, 50]] (List.length l17 : Int)).bind fun e21 =>
    (s_l21New (L00Src.mk s1.code x15 x16) e21).bind fun r23 =>
    (app l17 [r23.1]).bind fun l26 =>
    s_l21Draw_l1 kj11 s1 N r23.2.at_ r23.2.seed l26 (w64 (k19 - 1))
    else
    kj11 x15 x16 l17

def s_l21Draw (N : Nat) (s1 : L00Src) : Option ((List Drill) × L00Src) :=
  withK (fun (x7 : Int) (x8 : Int) (l9 : List Drill) =>
  some (l9, (L00Src.mk s1.code x7 x8))) fun (kj11 : Int → Int → (List Drill) → Option ((List Drill) × L00Src)) =>
  (s_l00Src_pick (L00Src.mk s1.code s1.at_ s1.seed) 7).bind fun r13 =>
  s_l21Draw_l1 kj11 s1 N r13.2.at_ r13.2.seed [] r13.1

def s_A2Drills (N : Nat) (code1 : List UInt8) : Option (List Drill) :=
  (s_l00From code1).bind fun r4 =>
  (s_l21Draw N (L00Src.mk code1 r4.at_ r4.seed)).bind fun r7 =>
  some r7.1

def s_l00Src_one (s1 : L00Src) (n5 : Int) : Option (Bool × L00Src) :=
  (s_l00Src_pick (L00Src.mk s1.code s1.at_ s1.seed) n5).bind fun r6 =>
  some ((r6.1 == 0), (L00Src.mk s1.code r6.2.at_ r6.2.seed))

def s_A2Needs_l1 (kj13 : (List Int) → (List UInt8) → Option (Str × (List Int))) (code1 : List UInt8) : Nat → (List Int) → (List UInt8) → Int → Int → UInt8 → Option (Str × (List Int))
  | 0, _, _, _, _, _ => none
  | N + 1, l15, l17, x19, x20, c21 =>
    bif decide (c21 ≤ (110 : UInt8)) then
    withK (fun (x23 : Int) (x24 : Int) (l25 : List Int) (l27 : List UInt8) =>
    s_A2Needs_l1 kj13 code1 N l25 l27 x23 x24 (c21 + (1 : UInt8))) fun (kj29 : Int → Int → (List Int) → (List UInt8) → Option (Str × (List Int))) =>
    (s_l00Src_one (L00Src.mk code1 x19 x20) 3).bind fun r31 =>
    bif r31.1 then
    (app l17 [c21]).bind fun l35 =>
    (s_l00Src_pick (L00Src.mk code1 r31.2.at_ r31.2.seed) 12).bind fun r38 =>
    (app l15 [r38.1]).bind fun l41 =>
    kj29 r38.2.at_ r38.2.seed l41 l35
    else
    kj29 r31.2.at_ r31.2.seed l15 l17
    else
    kj13 l15 l17

def s_A2Needs (N : Nat) (code1 : List UInt8) : Option (Str × (List Int)) :=
  (s_l00From code1).bind fun r4 =>
  withK (fun (l9 : List Int) (l11 : List UInt8) =>
  some (l11, l9)) fun (kj13 : (List Int) → (List UInt8) → Option (Str × (List Int))) =>
  s_A2Needs_l1 kj13 code1 N [] [] r4.at_ r4.seed 97

def w_a2At (code1 : List UInt8) (at4 : Int) (n5 : Int) : Option Int :=
  (orO (decide (at4 ≥ (List.length code1 : Int))) (some (decide (n5 < 1)))).bind fun t6 =>
  bif t6 then
  some 0
  else
  (idx code1 at4).bind fun e10 =>
  (remO (UInt8.toNat e10 : Int) n5).bind fun q15 =>
  some q15

def i_isDigit (b1 : UInt8) : Option Bool :=
  (andO (decide (b1 ≥ (48 : UInt8))) (some (decide (b1 ≤ (57 : UInt8))))).bind fun t2 =>
  some t2

def i_IsName_l1 (kj6 : Option Bool) (s1 : Str) : Nat → Int → Option Bool
  | 0, _ => none
  | N + 1, x8 =>
    bif decide (x8 < (List.length s1 : Int)) then
    (idx s1 x8).bind fun c10 =>
    (andO (decide (c10 ≥ (97 : UInt8))) ((idx s1 x8).bind fun c15 =>
    some (decide (c15 ≤ (122 : UInt8))))).bind fun t12 =>
    (andO (!t12) ((orO (x8 == 0) ((idx s1 x8).bind fun c23 =>
    (andO (c23 != (45 : UInt8)) ((idx s1 x8).bind fun c28 =>
    (i_isDigit c28).bind fun r30 =>
    some (!r30))).bind fun t25 =>
    some t25)).bind fun t20 =>
    some t20)).bind fun t17 =>
    bif t17 then
    some false
    else
    i_IsName_l1 kj6 s1 N (w64 (x8 + 1))
    else
    kj6 

def i_IsName (N : Nat) (s1 : Str) : Option Bool :=
  (orO ((List.length s1 : Int) == 0) (some (decide ((List.length s1 : Int) > 12)))).bind fun t2 =>
  bif t2 then
  some false
  else
  withK (some true) fun (kj6 : Option Bool) =>
  i_IsName_l1 kj6 s1 N 0

def i_isText_l1 (kj5 : Option Bool) (s1 : Str) (low2 : UInt8) : Nat → Int → Option Bool
  | 0, _ => none
  | N + 1, x7 =>
    bif decide (x7 < (List.length s1 : Int)) then
    (idx s1 x7).bind fun c9 =>
    (orO (decide (c9 < low2)) ((idx s1 x7).bind fun c14 =>
    some (decide (c14 > (126 : UInt8))))).bind fun t11 =>
    bif t11 then
    some false
    else
    i_isText_l1 kj5 s1 low2 N (w64 (x7 + 1))
    else
    kj5 

def i_isText (N : Nat) (s1 : Str) (low2 : UInt8) (most3 : Int) : Option Bool :=
  bif decide ((List.length s1 : Int) > most3) then
  some false
  else
  withK (some true) fun (kj5 : Option Bool) =>
  i_isText_l1 kj5 s1 low2 N 0

def i_between (n1 : Int) (low2 : Int) (high3 : Int) : Option Bool :=
  (andO (decide (n1 ≥ low2)) (some (decide (n1 ≤ high3)))).bind fun t4 =>
  some t4

def i_validDrill_l1 (kj20 : Option Bool) (d1 : Drill) : Nat → (List Bool) → Int → Option Bool
  | 0, _, _ => none
  | N + 1, l22, x23 =>
    bif decide (x23 < (List.length d1.letters : Int)) then
    (idx d1.letters x23).bind fun c25 =>
    (idx l22 (UInt8.toNat c25 : Int)).bind fun e27 =>
    bif e27 then
    some false
    else
    (idx d1.letters x23).bind fun c30 =>
    (idx l22 (UInt8.toNat c30 : Int)).bind fun e32 =>
    i_validDrill_l1 kj20 d1 N (List.set l22 (Int.toNat (UInt8.toNat c30 : Int)) true) (w64 (x23 + 1))
    else
    kj20 

def i_validDrill (N : Nat) (d1 : Drill) : Option Bool :=
  (i_IsName N d1.name).bind fun r3 =>
  (orO (!r3) (some (d1.letters == []))).bind fun t5 =>
  (orO t5 ((i_isText N d1.letters 33 8).bind fun r11 =>
  some (!r11))).bind fun t8 =>
  (orO t8 ((i_between d1.minutes 1 600).bind fun r16 =>
  some (!r16))).bind fun t13 =>
  bif t13 then
  some false
  else
  withK (some true) fun (kj20 : Option Bool) =>
  i_validDrill_l1 kj20 d1 N (List.replicate 256 false) 0

def i_ValidDrills_l1 (kj5 : Option Bool) (list1 : List Drill) : Nat → (List (Str × Bool)) → Int → Option Bool
  | 0, _, _ => none
  | N + 1, mp7, x8 =>
    bif decide (x8 < (List.length list1 : Int)) then
    (idx list1 x8).bind fun e10 =>
    (i_validDrill N e10).bind fun r16 =>
    (orO (!r16) (some (mget mp7 e10.name))).bind fun t18 =>
    bif t18 then
    some false
    else
    i_ValidDrills_l1 kj5 list1 N (mset mp7 e10.name true) (w64 (x8 + 1))
    else
    kj5 

def i_ValidDrills (N : Nat) (list1 : List Drill) : Option Bool :=
  withK (some (decide ((List.length list1 : Int) ≤ 10))) fun (kj5 : Option Bool) =>
  i_ValidDrills_l1 kj5 list1 N [] 0

def i_areNeeded_l1 (kj2 : Option Bool) (letters1 : Str) : Nat → Int → Option Bool
  | 0, _ => none
  | N + 1, i4 =>
    bif decide (i4 < (List.length letters1 : Int)) then
    (idx letters1 i4).bind fun c6 =>
    (idx letters1 (w64 (i4 - 1))).bind fun c8 =>
    bif decide (c6 ≤ c8) then
    some false
    else
    i_areNeeded_l1 kj2 letters1 N (w64 (i4 + 1))
    else
    kj2 

def i_areNeeded (N : Nat) (letters1 : Str) : Option Bool :=
  withK ((i_isText N letters1 33 30).bind fun r11 =>
  some r11) fun (kj2 : Option Bool) =>
  i_areNeeded_l1 kj2 letters1 N 1

def i_ValidNeeds_l1 (kj5 : Option Bool) (counts2 : List Int) : Nat → Int → Option Bool
  | 0, _ => none
  | N + 1, x7 =>
    bif decide (x7 < (List.length counts2 : Int)) then
    (idx counts2 x7).bind fun e9 =>
    (i_between e9 0 1000).bind fun r14 =>
    bif !r14 then
    some false
    else
    i_ValidNeeds_l1 kj5 counts2 N (w64 (x7 + 1))
    else
    kj5 

def i_ValidNeeds (N : Nat) (letters1 : Str) (counts2 : List Int) : Option Bool :=
  withK ((i_areNeeded N letters1).bind fun r17 =>
  (andO r17 (some ((List.length counts2 : Int) == (List.length letters1 : Int)))).bind fun t19 =>
  some t19) fun (kj5 : Option Bool) =>
  i_ValidNeeds_l1 kj5 counts2 N 0

def i_chosen_l1 (kj6 : (List Int) → Option (List Int)) (set1 : Int) (n2 : Int) : Nat → (List Int) → Int → Option (List Int)
  | 0, _, _ => none
  | N + 1, l8, x10 =>
    bif decide (x10 < n2) then
    withK (fun (l12 : List Int) =>
    i_chosen_l1 kj6 set1 n2 N l12 (w64 (x10 + 1))) fun (kj14 : (List Int) → Option (List Int)) =>
    (shrO set1 x10).bind fun q16 =>
    bif ((iand q16 1) == 1) then
    (app l8 [x10]).bind fun l20 =>
    kj14 l20
    else
    kj14 l8
    else
    kj6 l8

def i_chosen (N : Nat) (set1 : Int) (n2 : Int) : Option (List Int) :=
  withK (fun (l4 : List Int) =>
  some l4) fun (kj6 : (List Int) → Option (List Int)) =>
  i_chosen_l1 kj6 set1 n2 N [] 0

def i_minutesOf_l1 (kj8 : Int → Option Int) (list1 : List Drill) (some4 : List Int) : Nat → Int → Int → Option Int
  | 0, _, _ => none
  | N + 1, sum10, x11 =>
    bif decide (x11 < (List.length some4 : Int)) then
    (idx some4 x11).bind fun e13 =>
    (idx list1 e13).bind fun e18 =>
    i_minutesOf_l1 kj8 list1 some4 N (w64 (sum10 + e18.minutes)) (w64 (x11 + 1))
    else
    kj8 sum10

def i_minutesOf (N : Nat) (list1 : List Drill) (some4 : List Int) : Option Int :=
  withK (fun (sum7 : Int) =>
  some sum7) fun (kj8 : Int → Option Int) =>
  i_minutesOf_l1 kj8 list1 some4 N 0 0

def i_trained_l2 (kj15 : (List Bool) → Option (List Bool)) (list1 : List Drill) (e17 : Int) (e22 : Drill) : Nat → (List Bool) → Int → Option (List Bool)
  | 0, _, _ => none
  | N + 1, l27, x28 =>
    bif decide (x28 < (List.length e22.letters : Int)) then
    (idx list1 e17).bind fun e30 =>
    (idx e30.letters x28).bind fun c35 =>
    (idx l27 (UInt8.toNat c35 : Int)).bind fun e37 =>
    i_trained_l2 kj15 list1 e17 e22 N (List.set l27 (Int.toNat (UInt8.toNat c35 : Int)) true) (w64 (x28 + 1))
    else
    kj15 l27

def i_trained_l1 (kj9 : (List Bool) → Option (List Bool)) (list1 : List Drill) (some4 : List Int) : Nat → (List Bool) → Int → Option (List Bool)
  | 0, _, _ => none
  | N + 1, l11, x12 =>
    bif decide (x12 < (List.length some4 : Int)) then
    withK (fun (l14 : List Bool) =>
    i_trained_l1 kj9 list1 some4 N l14 (w64 (x12 + 1))) fun (kj15 : (List Bool) → Option (List Bool)) =>
    (idx some4 x12).bind fun e17 =>
    (idx list1 e17).bind fun e22 =>
    i_trained_l2 kj15 list1 e17 e22 N l11 0
    else
    kj9 l11

def i_trained (N : Nat) (list1 : List Drill) (some4 : List Int) : Option (List Bool) :=
  withK (fun (l8 : List Bool) =>
  some l8) fun (kj9 : (List Bool) → Option (List Bool)) =>
  i_trained_l1 kj9 list1 some4 N (List.replicate 256 false) 0

def i_covered_l1 (kj15 : Int → Option Int) (letters7 : Str) (counts8 : List Int) (r11 : (List Bool)) : Nat → Int → Int → Option Int
  | 0, _, _ => none
  | N + 1, sum17, x18 =>
    bif decide (x18 < (List.length letters7 : Int)) then
    withK (fun (sum20 : Int) =>
    i_covered_l1 kj15 letters7 counts8 r11 N sum20 (w64 (x18 + 1))) fun (kj21 : Int → Option Int) =>
    (idx letters7 x18).bind fun c23 =>
    (idx r11 (UInt8.toNat c23 : Int)).bind fun e25 =>
    bif e25 then
    (idx counts8 x18).bind fun e28 =>
    kj21 (w64 (sum17 + e28))
    else
    kj21 sum17
    else
    kj15 sum17

def i_covered (N : Nat) (list1 : List Drill) (some4 : List Int) (letters7 : Str) (counts8 : List Int) : Option Int :=
  (i_trained N list1 some4).bind fun r11 =>
  withK (fun (sum14 : Int) =>
  some sum14) fun (kj15 : Int → Option Int) =>
  i_covered_l1 kj15 letters7 counts8 r11 N 0 0

def i_compareNumbers_l1 (kj7 : Option Int) (a1 : List Int) (b4 : List Int) : Nat → Int → Option Int
  | 0, _ => none
  | N + 1, i9 =>
    (andO (decide (i9 < (List.length a1 : Int))) (some (decide (i9 < (List.length b4 : Int))))).bind fun t10 =>
    bif t10 then
    (idx a1 i9).bind fun e14 =>
    (idx b4 i9).bind fun e19 =>
    bif decide (e14 < e19) then
    some (-1)
    else
    (idx a1 i9).bind fun e25 =>
    (idx b4 i9).bind fun e30 =>
    bif decide (e25 > e30) then
    some 1
    else
    i_compareNumbers_l1 kj7 a1 b4 N (w64 (i9 + 1))
    else
    kj7 

def i_compareNumbers (N : Nat) (a1 : List Int) (b4 : List Int) : Option Int :=
  withK (bif decide ((List.length a1 : Int) < (List.length b4 : Int)) then
  some (-1)
  else
  bif decide ((List.length a1 : Int) > (List.length b4 : Int)) then
  some 1
  else
  some 0) fun (kj7 : Option Int) =>
  i_compareNumbers_l1 kj7 a1 b4 N 0

def i_BestDrills_l1 (kj24 : (List Int) → Int → Option ((List Int) × Int × Int)) (list1 : List Drill) (x4 : Str) (x5 : List Int) (x8 : Int) (q26 : Int) : Nat → (List Int) → Int → Int → Int → Option ((List Int) × Int × Int)
  | 0, _, _, _, _ => none
  | N + 1, l28, x30, x31, x32 =>
    bif decide (x32 < q26) then
    withK (fun (l34 : List Int) (x36 : Int) (x37 : Int) =>
    i_BestDrills_l1 kj24 list1 x4 x5 x8 q26 N l34 x36 x37 (w64 (x32 + 1))) fun (kj38 : (List Int) → Int → Int → Option ((List Int) × Int × Int)) =>
    (i_chosen N x32 (List.length list1 : Int)).bind fun r40 =>
    (i_minutesOf N list1 r40).bind fun r43 =>
    bif decide (r43 > x8) then
    kj38 l28 x30 x31
    else
    (i_covered N list1 r40 x4 x5).bind fun r46 =>
    (orO (decide (r46 > x30)) ((andO (r46 == x30) (some (decide (r43 < x31)))).bind fun t51 =>
    some t51)).bind fun t48 =>
    withK (fun (x54 : Bool) =>
    bif x54 then
    kj38 r40 r46 r43
    else
    kj38 l28 x30 x31) fun (kj55 : Bool → Option ((List Int) × Int × Int)) =>
    (andO (r46 == x30) (some (r43 == x31))).bind fun t57 =>
    bif t57 then
    (i_compareNumbers N r40 l28).bind fun r61 =>
    kj55 (decide (r61 < 0))
    else
    kj55 t48
    else
    kj24 l28 x30

def i_BestDrills (N : Nat) (list1 : List Drill) (x4 : Str) (x5 : List Int) (x8 : Int) : Option ((List Int) × Int × Int) :=
  (i_ValidDrills N list1).bind fun r9 =>
  (orO (!r9) ((i_ValidNeeds N x4 x5).bind fun r14 =>
  some (!r14))).bind fun t11 =>
  bif t11 then
  some ([], 0, 1)
  else
  (i_between x8 0 6000).bind fun r17 =>
  bif !r17 then
  some ([], 0, 2)
  else
  withK (fun (l21 : List Int) (x23 : Int) =>
  some (l21, x23, 0)) fun (kj24 : (List Int) → Int → Option ((List Int) × Int × Int)) =>
  (shlO 1 (List.length list1 : Int)).bind fun q26 =>
  i_BestDrills_l1 kj24 list1 x4 x5 x8 q26 N [] (-1) 0 0

def i_areIndices_l1 (kj5 : Option Bool) (list1 : List Int) (n4 : Int) : Nat → Int → Option Bool
  | 0, _ => none
  | N + 1, x7 =>
    bif decide (x7 < (List.length list1 : Int)) then
    (idx list1 x7).bind fun e9 =>
    (i_between e9 0 (w64 (n4 - 1))).bind fun r14 =>
    (orO (!r14) ((andO (decide (x7 > 0)) ((idx list1 (w64 (x7 - 1))).bind fun e22 =>
    some (decide (e9 ≤ e22)))).bind fun t19 =>
    some t19)).bind fun t16 =>
    bif t16 then
    some false
    else
    i_areIndices_l1 kj5 list1 n4 N (w64 (x7 + 1))
    else
    kj5 

def i_areIndices (N : Nat) (list1 : List Int) (n4 : Int) : Option Bool :=
  withK (some true) fun (kj5 : Option Bool) =>
  i_areIndices_l1 kj5 list1 n4 N 0

def i_MinutesOf (N : Nat) (list1 : List Drill) (some4 : List Int) : Option (Int × Int) :=
  (i_ValidDrills N list1).bind fun r7 =>
  bif !r7 then
  some (0, 1)
  else
  (i_areIndices N some4 (List.length list1 : Int)).bind fun r10 =>
  bif !r10 then
  some (0, 2)
  else
  (i_minutesOf N list1 some4).bind fun r13 =>
  some (r13, 0)

def i_CoveredBy (N : Nat) (list1 : List Drill) (some4 : List Int) (letters7 : Str) (counts8 : List Int) : Option (Int × Int) :=
  (i_ValidDrills N list1).bind fun r11 =>
  (orO (!r11) ((i_ValidNeeds N letters7 counts8).bind fun r16 =>
  some (!r16))).bind fun t13 =>
  bif t13 then
  some (0, 1)
  else
  (i_areIndices N some4 (List.length list1 : Int)).bind fun r19 =>
  bif !r19 then
  some (0, 2)
  else
  (i_covered N list1 some4 letters7 counts8).bind fun r22 =>
  some (r22, 0)

def s_A2Some_l1 (kj11 : (List Int) → Option (List Int)) (code1 : List UInt8) (n4 : Int) : Nat → (List Int) → Int → Int → Int → Option (List Int)
  | 0, _, _, _, _ => none
  | N + 1, l13, x15, x16, i17 =>
    bif decide (i17 < n4) then
    withK (fun (x19 : Int) (x20 : Int) (l21 : List Int) =>
    s_A2Some_l1 kj11 code1 n4 N l21 x19 x20 (w64 (i17 + 1))) fun (kj23 : Int → Int → (List Int) → Option (List Int)) =>
    (s_l00Src_one (L00Src.mk code1 x15 x16) 2).bind fun r25 =>
    bif r25.1 then
    (app l13 [i17]).bind fun l29 =>
    kj23 r25.2.at_ r25.2.seed l29
    else
    kj23 r25.2.at_ r25.2.seed l13
    else
    kj11 l13

def s_A2Some (N : Nat) (code1 : List UInt8) (n4 : Int) : Option (List Int) :=
  (s_l00From code1).bind fun r5 =>
  withK (fun (l9 : List Int) =>
  some l9) fun (kj11 : (List Int) → Option (List Int)) =>
  s_A2Some_l1 kj11 code1 n4 N [] r5.at_ r5.seed 0

def i_left_l1 (kj14 : (List UInt8) → Option Str) (letters7 : Str) (r9 : (List Bool)) : Nat → (List UInt8) → Int → Option Str
  | 0, _, _ => none
  | N + 1, l16, x18 =>
    bif decide (x18 < (List.length letters7 : Int)) then
    withK (fun (l20 : List UInt8) =>
    i_left_l1 kj14 letters7 r9 N l20 (w64 (x18 + 1))) fun (kj22 : (List UInt8) → Option Str) =>
    (idx letters7 x18).bind fun c24 =>
    (idx r9 (UInt8.toNat c24 : Int)).bind fun e26 =>
    bif !e26 then
    (idx letters7 x18).bind fun c29 =>
    (app l16 [c29]).bind fun l32 =>
    kj22 l32
    else
    kj22 l16
    else
    kj14 l16

def i_left (N : Nat) (list1 : List Drill) (some4 : List Int) (letters7 : Str) : Option Str :=
  (i_trained N list1 some4).bind fun r9 =>
  withK (fun (l12 : List UInt8) =>
  some l12) fun (kj14 : (List UInt8) → Option Str) =>
  i_left_l1 kj14 letters7 r9 N [] 0

def i_LettersLeft (N : Nat) (list1 : List Drill) (some4 : List Int) (letters7 : Str) : Option (Str × Int) :=
  (i_ValidDrills N list1).bind fun r8 =>
  (orO (!r8) ((i_areNeeded N letters7).bind fun r13 =>
  some (!r13))).bind fun t10 =>
  bif t10 then
  some ([], 1)
  else
  (i_areIndices N some4 (List.length list1 : Int)).bind fun r16 =>
  bif !r16 then
  some ([], 2)
  else
  (i_left N list1 some4 letters7).bind fun r19 =>
  some (r19, 0)

def w_a2Sum_l1 (kj5 : Int → Option Int) (list1 : List Int) : Nat → Int → Int → Option Int
  | 0, _, _ => none
  | N + 1, sum7, i8 =>
    bif decide (i8 < (List.length list1 : Int)) then
    (idx list1 i8).bind fun e10 =>
    w_a2Sum_l1 kj5 list1 N (w64 (sum7 + e10)) (w64 (i8 + 1))
    else
    kj5 sum7

def w_a2Sum (N : Nat) (list1 : List Int) : Option Int :=
  withK (fun (sum4 : Int) =>
  some sum4) fun (kj5 : Int → Option Int) =>
  w_a2Sum_l1 kj5 list1 N 0 0

def i_FewestDrills_l1 (kj17 : (List Int) → Bool → Option ((List Int) × Int)) (list1 : List Drill) (letters4 : Str) (q19 : Int) : Nat → (List Int) → Bool → Int → Option ((List Int) × Int)
  | 0, _, _, _ => none
  | N + 1, l21, found23, x24 =>
    bif decide (x24 < q19) then
    withK (fun (l26 : List Int) (found28 : Bool) =>
    i_FewestDrills_l1 kj17 list1 letters4 q19 N l26 found28 (w64 (x24 + 1))) fun (kj29 : (List Int) → Bool → Option ((List Int) × Int)) =>
    (i_chosen N x24 (List.length list1 : Int)).bind fun r31 =>
    (i_left N list1 r31 letters4).bind fun r34 =>
    bif (r34 != []) then
    kj29 l21 found23
    else
    (orO (!found23) (some (decide ((List.length r31 : Int) < (List.length l21 : Int))))).bind fun t37 =>
    (orO t37 ((andO ((List.length r31 : Int) == (List.length l21 : Int)) ((i_compareNumbers N r31 l21).bind fun r46 =>
    some (decide (r46 < 0)))).bind fun t43 =>
    some t43)).bind fun t40 =>
    bif t40 then
    kj29 r31 true
    else
    kj29 l21 found23
    else
    kj17 l21 found23

def i_FewestDrills (N : Nat) (list1 : List Drill) (letters4 : Str) : Option ((List Int) × Int) :=
  (i_ValidDrills N list1).bind fun r5 =>
  (orO (!r5) ((i_areNeeded N letters4).bind fun r10 =>
  some (!r10))).bind fun t7 =>
  bif t7 then
  some ([], 1)
  else
  withK (fun (l14 : List Int) (found16 : Bool) =>
  bif !found16 then
  some ([], 3)
  else
  some (l14, 0)) fun (kj17 : (List Int) → Bool → Option ((List Int) × Int)) =>
  (shlO 1 (List.length list1 : Int)).bind fun q19 =>
  i_FewestDrills_l1 kj17 list1 letters4 q19 N [] false 0

def s_l05Index_l1 (kj3 : Option Int) (s1 : Str) (c2 : UInt8) : Nat → Int → Option Int
  | 0, _ => none
  | N + 1, i5 =>
    bif decide (i5 < (List.length s1 : Int)) then
    (idx s1 i5).bind fun c7 =>
    bif (c7 == c2) then
    some i5
    else
    s_l05Index_l1 kj3 s1 c2 N (w64 (i5 + 1))
    else
    kj3 

def s_l05Index (N : Nat) (s1 : Str) (c2 : UInt8) : Option Int :=
  withK (some (-1)) fun (kj3 : Option Int) =>
  s_l05Index_l1 kj3 s1 c2 N 0

def s_l01Small (c1 : UInt8) : Option Bool :=
  (andO (decide (c1 ≥ (97 : UInt8))) (some (decide (c1 ≤ (122 : UInt8))))).bind fun t2 =>
  some t2

def s_l01Digit (c1 : UInt8) : Option Bool :=
  (andO (decide (c1 ≥ (48 : UInt8))) (some (decide (c1 ≤ (57 : UInt8))))).bind fun t2 =>
  some t2

def s_IsName_l1 (kj13 : Option Bool) (s1 : Str) : Nat → Int → Option Bool
  | 0, _ => none
  | N + 1, i15 =>
    bif decide (i15 < (List.length s1 : Int)) then
    (idx s1 i15).bind fun c17 =>
    (s_l01Small c17).bind fun r19 =>
    (andO (!r19) ((idx s1 i15).bind fun c24 =>
    (s_l01Digit c24).bind fun r26 =>
    some (!r26))).bind fun t21 =>
    (andO t21 ((idx s1 i15).bind fun c31 =>
    some (c31 != (45 : UInt8)))).bind fun t28 =>
    bif t28 then
    some false
    else
    s_IsName_l1 kj13 s1 N (w64 (i15 + 1))
    else
    kj13 

def s_IsName (N : Nat) (s1 : Str) : Option Bool :=
  (orO (s1 == []) (some (decide ((List.length s1 : Int) > 12)))).bind fun t2 =>
  (orO t2 ((idx s1 0).bind fun c8 =>
  (s_l01Small c8).bind fun r10 =>
  some (!r10))).bind fun t5 =>
  bif t5 then
  some false
  else
  withK (some true) fun (kj13 : Option Bool) =>
  s_IsName_l1 kj13 s1 N 0

def s_l17Text_l1 (kj3 : Option Bool) (s1 : Str) : Nat → Int → Option Bool
  | 0, _ => none
  | N + 1, i5 =>
    bif decide (i5 < (List.length s1 : Int)) then
    (idx s1 i5).bind fun c7 =>
    (orO (decide (c7 < (33 : UInt8))) ((idx s1 i5).bind fun c12 =>
    some (decide (c12 > (126 : UInt8))))).bind fun t9 =>
    bif t9 then
    some false
    else
    s_l17Text_l1 kj3 s1 N (w64 (i5 + 1))
    else
    kj3 

def s_l17Text (N : Nat) (s1 : Str) (most2 : Int) : Option Bool :=
  withK (some (decide ((List.length s1 : Int) ≤ most2))) fun (kj3 : Option Bool) =>
  s_l17Text_l1 kj3 s1 N 0

def s_l00In (n1 : Int) (low2 : Int) (high3 : Int) : Option Bool :=
  (andO (decide (n1 ≥ low2)) (some (decide (n1 ≤ high3)))).bind fun t4 =>
  some t4

def s_l21One_l1 (kj3 : Option Bool) (d1 : Drill) : Nat → Int → Option Bool
  | 0, _ => none
  | N + 1, i5 =>
    bif decide (i5 < (List.length d1.letters : Int)) then
    (idx d1.letters i5).bind fun c7 =>
    (s_l05Index N d1.letters c7).bind fun r9 =>
    bif (r9 != i5) then
    some false
    else
    s_l21One_l1 kj3 d1 N (w64 (i5 + 1))
    else
    kj3 

def s_l21One (N : Nat) (d1 : Drill) : Option Bool :=
  withK ((s_IsName N d1.name).bind fun r12 =>
  (andO r12 ((s_l17Text N d1.letters 8).bind fun r17 =>
  some r17)).bind fun t14 =>
  (andO t14 (some (d1.letters != []))).bind fun t19 =>
  (andO t19 ((s_l00In d1.minutes 1 600).bind fun r25 =>
  some r25)).bind fun t22 =>
  some t22) fun (kj3 : Option Bool) =>
  s_l21One_l1 kj3 d1 N 0

def s_l21Find_l1 (kj5 : Option Int) (list1 : List Drill) (name4 : Str) : Nat → Int → Option Int
  | 0, _ => none
  | N + 1, i7 =>
    bif decide (i7 < (List.length list1 : Int)) then
    (idx list1 i7).bind fun e9 =>
    bif (e9.name == name4) then
    some i7
    else
    s_l21Find_l1 kj5 list1 name4 N (w64 (i7 + 1))
    else
    kj5 

def s_l21Find (N : Nat) (list1 : List Drill) (name4 : Str) : Option Int :=
  withK (some (-1)) fun (kj5 : Option Int) =>
  s_l21Find_l1 kj5 list1 name4 N 0

def s_l21Ok_l1 (kj4 : Option Bool) (list1 : List Drill) : Nat → Int → Option Bool
  | 0, _ => none
  | N + 1, i6 =>
    bif decide (i6 < (List.length list1 : Int)) then
    (idx list1 i6).bind fun e8 =>
    (s_l21One N e8).bind fun r13 =>
    (orO (!r13) ((sub list1 0 i6).bind fun l18 =>
    (idx list1 i6).bind fun e23 =>
    (s_l21Find N l18 e23.name).bind fun r28 =>
    some (decide (r28 ≥ 0)))).bind fun t15 =>
    bif t15 then
    some false
    else
    s_l21Ok_l1 kj4 list1 N (w64 (i6 + 1))
    else
    kj4 

def s_l21Ok (N : Nat) (list1 : List Drill) : Option Bool :=
  withK (some (decide ((List.length list1 : Int) ≤ 10))) fun (kj4 : Option Bool) =>
  s_l21Ok_l1 kj4 list1 N 0

def s_l21Letters_l1 (kj2 : Option Bool) (letters1 : Str) : Nat → Int → Option Bool
  | 0, _ => none
  | N + 1, i4 =>
    bif decide (i4 < (List.length letters1 : Int)) then
    (idx letters1 (w64 (i4 - 1))).bind fun c6 =>
    (idx letters1 i4).bind fun c8 =>
    bif decide (c6 ≥ c8) then
    some false
    else
    s_l21Letters_l1 kj2 letters1 N (w64 (i4 + 1))
    else
    kj2 

def s_l21Letters (N : Nat) (letters1 : Str) : Option Bool :=
  withK ((s_l17Text N letters1 30).bind fun r11 =>
  some r11) fun (kj2 : Option Bool) =>
  s_l21Letters_l1 kj2 letters1 N 1

def s_l00Rises_l1 (kj6 : Option Bool) (list1 : List Int) (low4 : Int) (high5 : Int) : Nat → Int → Option Bool
  | 0, _ => none
  | N + 1, i8 =>
    bif decide (i8 < (List.length list1 : Int)) then
    (idx list1 i8).bind fun e10 =>
    (s_l00In e10 low4 high5).bind fun r15 =>
    (orO (!r15) ((andO (decide (i8 > 0)) ((idx list1 (w64 (i8 - 1))).bind fun e23 =>
    (idx list1 i8).bind fun e28 =>
    some (decide (e23 ≥ e28)))).bind fun t20 =>
    some t20)).bind fun t17 =>
    bif t17 then
    some false
    else
    s_l00Rises_l1 kj6 list1 low4 high5 N (w64 (i8 + 1))
    else
    kj6 

def s_l00Rises (N : Nat) (list1 : List Int) (low4 : Int) (high5 : Int) : Option Bool :=
  withK (some true) fun (kj6 : Option Bool) =>
  s_l00Rises_l1 kj6 list1 low4 high5 N 0

def s_l21Some (N : Nat) (list1 : List Drill) (some4 : List Int) : Option Bool :=
  (s_l00Rises N some4 0 (w64 ((List.length list1 : Int) - 1))).bind fun r7 =>
  some r7

def s_l21Trains_l1 (kj8 : Option Bool) (list1 : List Drill) (some4 : List Int) (letter7 : UInt8) : Nat → Int → Option Bool
  | 0, _ => none
  | N + 1, i10 =>
    bif decide (i10 < (List.length some4 : Int)) then
    (idx some4 i10).bind fun e12 =>
    (idx list1 e12).bind fun e17 =>
    (s_l05Index N e17.letters letter7).bind fun r22 =>
    bif decide (r22 ≥ 0) then
    some true
    else
    s_l21Trains_l1 kj8 list1 some4 letter7 N (w64 (i10 + 1))
    else
    kj8 

def s_l21Trains (N : Nat) (list1 : List Drill) (some4 : List Int) (letter7 : UInt8) : Option Bool :=
  withK (some false) fun (kj8 : Option Bool) =>
  s_l21Trains_l1 kj8 list1 some4 letter7 N 0

def s_l21Left_l1 (kj11 : (List UInt8) → Option Str) (list1 : List Drill) (some4 : List Int) (letters7 : Str) : Nat → (List UInt8) → Int → Option Str
  | 0, _, _ => none
  | N + 1, l13, i15 =>
    bif decide (i15 < (List.length letters7 : Int)) then
    withK (fun (l17 : List UInt8) =>
    s_l21Left_l1 kj11 list1 some4 letters7 N l17 (w64 (i15 + 1))) fun (kj19 : (List UInt8) → Option Str) =>
    (idx letters7 i15).bind fun c21 =>
    (s_l21Trains N list1 some4 c21).bind fun r23 =>
    bif !r23 then
    (idx letters7 i15).bind fun c26 =>
    (app l13 [c26]).bind fun l29 =>
    kj19 l29
    else
    kj19 l13
    else
    kj11 l13

def s_l21Left (N : Nat) (list1 : List Drill) (some4 : List Int) (letters7 : Str) : Option Str :=
  withK (fun (l9 : List UInt8) =>
  some l9) fun (kj11 : (List UInt8) → Option Str) =>
  s_l21Left_l1 kj11 list1 some4 letters7 N [] 0

def s_LettersLeft (N : Nat) (list1 : List Drill) (some4 : List Int) (letters7 : Str) : Option (Str × Int) :=
  (s_l21Ok N list1).bind fun r8 =>
  (orO (!r8) ((s_l21Letters N letters7).bind fun r13 =>
  some (!r13))).bind fun t10 =>
  bif t10 then
  some ([], 1)
  else
  (s_l21Some N list1 some4).bind fun r16 =>
  bif !r16 then
  some ([], 2)
  else
  (s_l21Left N list1 some4 letters7).bind fun r19 =>
  some (r19, 0)

def w_FnDrillSets_l1 (kj68 : Int → Int → Option Bool) (r13 : Str × (List Int)) (r63 : Str × Int) : Nat → Int → Int → Int → Option Bool
  | 0, _, _, _ => none
  | N + 1, x70, x71, x72 =>
    bif decide (x72 < (List.length r13.1 : Int)) then
    withK (fun (x74 : Int) (x75 : Int) =>
    w_FnDrillSets_l1 kj68 r13 r63 N x74 x75 (w64 (x72 + 1))) fun (kj76 : Int → Int → Option Bool) =>
    (andO (decide (x71 < (List.length r63.1 : Int))) ((idx r63.1 x71).bind fun c81 =>
    (idx r13.1 x72).bind fun c83 =>
    some (c81 == c83))).bind fun t78 =>
    bif t78 then
    (idx r13.2 x72).bind fun e86 =>
    kj76 (w64 (x70 + e86)) (w64 (x71 + 1))
    else
    kj76 x70 x71
    else
    kj68 x70 x71

def w_FnDrillSets_l2 (kj100 : (List Int) → Option Bool) (r10 : (List Drill)) : Nat → (List Int) → Int → Option Bool
  | 0, _, _ => none
  | N + 1, l102, x104 =>
    bif decide (x104 < (List.length r10 : Int)) then
    (app l102 [x104]).bind fun l107 =>
    w_FnDrillSets_l2 kj100 r10 N l107 (w64 (x104 + 1))
    else
    kj100 l102

def w_FnDrillSets (N : Nat) (code1 : List UInt8) (x4 : List UInt8) : Option Bool :=
  (w_a2Long code1 x4).bind fun r7 =>
  bif r7 then
  some true
  else
  (s_A2Drills N code1).bind fun r10 =>
  (s_A2Needs N x4).bind fun r13 =>
  (w_a2At x4 30 60).bind fun r16 =>
  (i_BestDrills N r10 r13.1 r13.2 r16).bind fun r18 =>
  (i_MinutesOf N r10 r18.1).bind fun r21 =>
  (i_CoveredBy N r10 r18.1 r13.1 r13.2).bind fun r23 =>
  (s_A2Some N x4 (List.length r10 : Int)).bind fun r25 =>
  (i_MinutesOf N r10 r25).bind fun r28 =>
  (i_CoveredBy N r10 r25 r13.1 r13.2).bind fun r30 =>
  (orO (r18.2.2 != 0) (some (r21.2 != 0))).bind fun t32 =>
  (orO t32 (some (decide (r21.1 > r16)))).bind fun t35 =>
  (orO t35 (some (r23.2 != 0))).bind fun t38 =>
  (orO t38 (some (r23.1 != r18.2.1))).bind fun t41 =>
  (orO t41 (some (r28.2 != 0))).bind fun t44 =>
  (orO t44 (some (r30.2 != 0))).bind fun t47 =>
  (orO t47 ((andO (decide (r28.1 ≤ r16)) ((orO (decide (r30.1 > r18.2.1)) ((andO (r30.1 == r18.2.1) (some (decide (r28.1 < r21.1)))).bind fun t59 =>
  some t59)).bind fun t56 =>
  some t56)).bind fun t53 =>
  some t53)).bind fun t50 =>
  bif t50 then
  some false
  else
  (i_LettersLeft N r10 r25 r13.1).bind fun r63 =>
  bif (r63.2 != 0) then
  some false
  else
  withK (fun (x66 : Int) (x67 : Int) =>
  (orO (x67 != (List.length r63.1 : Int)) ((w_a2Sum N r13.2).bind fun r91 =>
  some ((w64 (r30.1 + x66)) != r91))).bind fun t88 =>
  bif t88 then
  some false
  else
  (i_FewestDrills N r10 r13.1).bind fun r94 =>
  withK (fun (l98 : List Int) =>
  (s_LettersLeft N r10 l98 r13.1).bind fun r110 =>
  bif (r94.2 != 0) then
  (andO (r94.2 == 3) (some (r110.2 == 0))).bind fun t113 =>
  (andO t113 (some (r110.1 != []))).bind fun t116 =>
  some t116
  else
  (i_LettersLeft N r10 r94.1 r13.1).bind fun r119 =>
  (andO (r119.2 == 0) (some (r119.1 == []))).bind fun t121 =>
  (andO t121 (some (r110.1 == []))).bind fun t124 =>
  (andO t124 ((orO (r63.1 != []) (some (decide ((List.length r94.1 : Int) ≤ (List.length r25 : Int))))).bind fun t130 =>
  some t130)).bind fun t127 =>
  some t127) fun (kj100 : (List Int) → Option Bool) =>
  w_FnDrillSets_l2 kj100 r10 N [] 0) fun (kj68 : Int → Int → Option Bool) =>
  w_FnDrillSets_l1 kj68 r13 r63 N 0 0 0

end Go.Proofs.Ytimcachjcocjmaa
