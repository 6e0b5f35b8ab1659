/-
  Plain functions that compute what the Go functions compute. No conditions.
-/
import Derived.Test.YtoojddajhalimaaDoorBase
namespace Go.Proofs.YtoojddajhalimaaDoor
set_option linter.unusedVariables false
set_option linter.unusedSimpArgs false

structure Drill where
  name : Str
  letters : Str
  minutes : Int

def Drill.beq (x y : Drill) : Bool := x.name == y.name && (x.letters == y.letters && (x.minutes == y.minutes))

structure L00Src where
  code : List UInt8
  at_ : Int
  seed : Int



def w_a2Long (code1 : List UInt8) (more4 : List UInt8) : Option Bool :=
  (orO (decide ((List.length code1 : Int) > 3000)) (some (decide ((List.length more4 : Int) > 3000)))).bind fun t7 =>
  some t7

def s_l00From (code1 : List UInt8) : Option L00Src :=
  some (L00Src.mk code1 0 0)

def s_l00Src_next (s1 : L00Src) : Option (Int × L00Src) :=
  withK (fun (b5 : Int) =>
  bif decide ((w64 (s1.at_ + 1)) ≤ (List.length s1.code : Int)) then
  some (b5, (L00Src.mk s1.code (w64 (s1.at_ + 1)) (IntKind.u64.wrap ((IntKind.u64.wrap ((IntKind.u64.wrap (s1.seed * 6364136223846793005)) + (IntKind.u64.wrap b5))) + 1442695040888963407))))
  else
  some (w64 (uand (ushr (IntKind.u64.wrap ((IntKind.u64.wrap ((IntKind.u64.wrap (s1.seed * 6364136223846793005)) + (IntKind.u64.wrap b5))) + 1442695040888963407)) 40) 255), (L00Src.mk s1.code (w64 (s1.at_ + 1)) (IntKind.u64.wrap ((IntKind.u64.wrap ((IntKind.u64.wrap (s1.seed * 6364136223846793005)) + (IntKind.u64.wrap b5))) + 1442695040888963407))))) fun (kj6 : Int → Option (Int × L00Src)) =>
  bif decide (s1.at_ < (List.length s1.code : Int)) then
  (idx s1.code s1.at_).bind fun e9 =>
  kj6 (UInt8.toNat e9 : Int)
  else
  kj6 0

def s_l00Src_pick (s1 : L00Src) (n5 : Int) : Option (Int × L00Src) :=
  bif decide (n5 ≤ 1) then
  some (0, (L00Src.mk s1.code s1.at_ s1.seed))
  else
  (s_l00Src_next (L00Src.mk s1.code s1.at_ s1.seed)).bind fun r7 =>
  withK (fun (x9 : Int) (x10 : Int) (x11 : Int) =>
  (remO x11 n5).bind fun q17 =>
  some (q17, (L00Src.mk s1.code x9 x10))) fun (kj12 : Int → Int → Int → Option (Int × L00Src)) =>
  bif decide (n5 > 200) then
  (s_l00Src_next (L00Src.mk s1.code r7.2.at_ r7.2.seed)).bind fun r15 =>
  kj12 r15.2.at_ r15.2.seed (w64 ((w64 (r7.1 * 256)) + r15.1))
  else
  kj12 r7.2.at_ r7.2.seed r7.1

def s_l00Src_text (s1 : L00Src) (list5 : List Str) : Option (Str × L00Src) :=
  (s_l00Src_pick (L00Src.mk s1.code s1.at_ s1.seed) (List.length list5 : Int)).bind fun r8 =>
  (idx list5 r8.1).bind fun e10 =>
  some (e10, (L00Src.mk s1.code r8.2.at_ r8.2.seed))

def s_l21New (s1 : L00Src) (name5 : Str) : Option (Drill × L00Src) :=
  (s_l00Src_text (L00Src.mk s1.code s1.at_ s1.seed) [[102, 106], [97, 115, 100, 102], [101, 105], [114, 116, 121, 117], [122, 120, 99], [110, 109, 44, 46], [126, 33], [103, 104, 97, 101, 105]]).bind fun r9 =>
  (s_l00Src_pick (L00Src.mk s1.code r9.2.at_ r9.2.seed) 20).bind fun r11 =>
  some ((Drill.mk ((Drill.mk name5 [] 0).name) r9.1 (w64 (1 + r11.1))), (L00Src.mk s1.code r11.2.at_ r11.2.seed))

def s_l21Draw_l1 (kj11 : Int → Int → (List Drill) → Option ((List Drill) × L00Src)) (s1 : L00Src) : Nat → Int → Int → (List Drill) → Int → Option ((List Drill) × L00Src)
  | 0, _, _, _, _ => none
  | N + 1, x15, x16, l17, k19 =>
    bif decide (k19 > 0) then
    (idx [[104, 111, 109, 101], [116, 111, 112], [108, 111, 119], [116, 104, 117, 109, 98], [109, 105, 120, 45, 49], [109, 105, 120, 45, 50]] (List.length l17 : Int)).bind fun e21 =>
    (s_l21New (L00Src.mk s1.code x15 x16) e21).bind fun r23 =>
    (app l17 [r23.1]).bind fun l26 =>
    s_l21Draw_l1 kj11 s1 N r23.2.at_ r23.2.seed l26 (w64 (k19 - 1))
    else
    kj11 x15 x16 l17

def s_l21Draw (N : Nat) (s1 : L00Src) : Option ((List Drill) × L00Src) :=
  withK (fun (x7 : Int) (x8 : Int) (l9 : List Drill) =>
  some (l9, (L00Src.mk s1.code x7 x8))) fun (kj11 : Int → Int → (List Drill) → Option ((List Drill) × L00Src)) =>
  (s_l00Src_pick (L00Src.mk s1.code s1.at_ s1.seed) 7).bind fun r13 =>
  s_l21Draw_l1 kj11 s1 N r13.2.at_ r13.2.seed [] r13.1

def s_A2Drills (N : Nat) (code1 : List UInt8) : Option (List Drill) :=
  (s_l00From code1).bind fun r4 =>
  (s_l21Draw N (L00Src.mk code1 r4.at_ r4.seed)).bind fun r7 =>
  some r7.1

def w_a2At (code1 : List UInt8) (at4 : Int) (n5 : Int) : Option Int :=
  (orO (decide (at4 ≥ (List.length code1 : Int))) (some (decide (n5 < 1)))).bind fun t6 =>
  bif t6 then
  some 0
  else
  (idx code1 at4).bind fun e10 =>
  (remO (UInt8.toNat e10 : Int) n5).bind fun q15 =>
  some q15

def i_isDigit (b1 : UInt8) : Option Bool :=
  (andO (decide (b1 ≥ (48 : UInt8))) (some (decide (b1 ≤ (57 : UInt8))))).bind fun t2 =>
  some t2

def i_IsName_l1 (kj6 : Option Bool) (s1 : Str) : Nat → Int → Option Bool
  | 0, _ => none
  | N + 1, x8 =>
    bif decide (x8 < (List.length s1 : Int)) then
    (idx s1 x8).bind fun c10 =>
    (andO (decide (c10 ≥ (97 : UInt8))) ((idx s1 x8).bind fun c15 =>
    some (decide (c15 ≤ (122 : UInt8))))).bind fun t12 =>
    (andO (!t12) ((orO (x8 == 0) ((idx s1 x8).bind fun c23 =>
    (andO (c23 != (45 : UInt8)) ((idx s1 x8).bind fun c28 =>
    (i_isDigit c28).bind fun r30 =>
    some (!r30))).bind fun t25 =>
    some t25)).bind fun t20 =>
    some t20)).bind fun t17 =>
    bif t17 then
    some false
    else
    i_IsName_l1 kj6 s1 N (w64 (x8 + 1))
    else
    kj6 

def i_IsName (N : Nat) (s1 : Str) : Option Bool :=
  (orO ((List.length s1 : Int) == 0) (some (decide ((List.length s1 : Int) > 12)))).bind fun t2 =>
  bif t2 then
  some false
  else
  withK (some true) fun (kj6 : Option Bool) =>
  i_IsName_l1 kj6 s1 N 0

def i_isText_l1 (kj5 : Option Bool) (s1 : Str) (low2 : UInt8) : Nat → Int → Option Bool
  | 0, _ => none
  | N + 1, x7 =>
    bif decide (x7 < (List.length s1 : Int)) then
    (idx s1 x7).bind fun c9 =>
    (orO (decide (c9 < low2)) ((idx s1 x7).bind fun c14 =>
    some (decide (c14 > (126 : UInt8))))).bind fun t11 =>
    bif t11 then
    some false
    else
    i_isText_l1 kj5 s1 low2 N (w64 (x7 + 1))
    else
    kj5 

def i_isText (N : Nat) (s1 : Str) (low2 : UInt8) (most3 : Int) : Option Bool :=
  bif decide ((List.length s1 : Int) > most3) then
  some false
  else
  withK (some true) fun (kj5 : Option Bool) =>
  i_isText_l1 kj5 s1 low2 N 0

def i_between (n1 : Int) (low2 : Int) (high3 : Int) : Option Bool :=
  (andO (decide (n1 ≥ low2)) (some (decide (n1 ≤ high3)))).bind fun t4 =>
  some t4

def i_validDrill_l1 (kj20 : Option Bool) (d1 : Drill) : Nat → (List Bool) → Int → Option Bool
  | 0, _, _ => none
  | N + 1, l22, x23 =>
    bif decide (x23 < (List.length d1.letters : Int)) then
    (idx d1.letters x23).bind fun c25 =>
    (idx l22 (UInt8.toNat c25 : Int)).bind fun e27 =>
    bif e27 then
    some false
    else
    (idx d1.letters x23).bind fun c30 =>
    (idx l22 (UInt8.toNat c30 : Int)).bind fun e32 =>
    i_validDrill_l1 kj20 d1 N (List.set l22 (Int.toNat (UInt8.toNat c30 : Int)) true) (w64 (x23 + 1))
    else
    kj20 

def i_validDrill (N : Nat) (d1 : Drill) : Option Bool :=
  (i_IsName N d1.name).bind fun r3 =>
  (orO (!r3) (some (d1.letters == []))).bind fun t5 =>
  (orO t5 ((i_isText N d1.letters 33 8).bind fun r11 =>
  some (!r11))).bind fun t8 =>
  (orO t8 ((i_between d1.minutes 1 600).bind fun r16 =>
  some (!r16))).bind fun t13 =>
  bif t13 then
  some false
  else
  withK (some true) fun (kj20 : Option Bool) =>
  i_validDrill_l1 kj20 d1 N (List.replicate 256 false) 0

def i_Decimal (n1 : Int) : Option Str :=
  (fmtI n1 10).bind fun r2 =>
  some r2

def i_DrillText (N : Nat) (d1 : Drill) : Option Str :=
  (i_validDrill N d1).bind fun r3 =>
  bif !r3 then
  some []
  else
  (cat d1.name [32]).bind fun s6 =>
  (cat s6 d1.letters).bind fun s8 =>
  (cat s8 [32]).bind fun s10 =>
  (i_Decimal d1.minutes).bind fun r12 =>
  (cat s10 r12).bind fun s14 =>
  some s14

def i_SplitWords_l1 (kj6 : (List Str) → Int → Option (List Str)) (s1 : Str) : Nat → (List Str) → Int → Int → Option (List Str)
  | 0, _, _, _ => none
  | N + 1, l8, start10, x11 =>
    bif decide (x11 < (List.length s1 : Int)) then
    withK (fun (l13 : List Str) (start15 : Int) =>
    i_SplitWords_l1 kj6 s1 N l13 start15 (w64 (x11 + 1))) fun (kj16 : (List Str) → Int → Option (List Str)) =>
    (idx s1 x11).bind fun c18 =>
    (andO (c18 == (32 : UInt8)) (some (decide (start10 ≥ 0)))).bind fun t20 =>
    bif t20 then
    (sub s1 start10 x11).bind fun s24 =>
    (app l8 [s24]).bind fun l27 =>
    kj16 l27 (-1)
    else
    (idx s1 x11).bind fun c30 =>
    (andO (c30 != (32 : UInt8)) (some (decide (start10 < 0)))).bind fun t32 =>
    bif t32 then
    kj16 l8 x11
    else
    kj16 l8 start10
    else
    kj6 l8 start10

def i_SplitWords (N : Nat) (s1 : Str) : Option (List Str) :=
  withK (fun (l3 : List Str) (start5 : Int) =>
  withK (fun (l36 : List Str) =>
  some l36) fun (kj38 : (List Str) → Option (List Str)) =>
  bif decide (start5 ≥ 0) then
  (sub s1 start5 (List.length s1 : Int)).bind fun s41 =>
  (app l3 [s41]).bind fun l44 =>
  kj38 l44
  else
  kj38 l3) fun (kj6 : (List Str) → Int → Option (List Str)) =>
  i_SplitWords_l1 kj6 s1 N [] (-1) 0

def i_ReadDecimal_l1 (kj18 : Int → Option (Int × Bool)) (digits2 : Str) : Nat → Int → Int → Option (Int × Bool)
  | 0, _, _ => none
  | N + 1, n20, x21 =>
    bif decide (x21 < (List.length digits2 : Int)) then
    (idx digits2 x21).bind fun c23 =>
    (i_isDigit c23).bind fun r25 =>
    bif !r25 then
    some (0, false)
    else
    (idx digits2 x21).bind fun c28 =>
    i_ReadDecimal_l1 kj18 digits2 N (w64 ((w64 (10 * n20)) + (UInt8.toNat (c28 - (48 : UInt8)) : Int))) (w64 (x21 + 1))
    else
    kj18 n20

def i_ReadDecimal (N : Nat) (s1 : Str) : Option (Int × Bool) :=
  withK (fun (digits2 : Str) =>
  (orO ((List.length digits2 : Int) == 0) (some (decide ((List.length digits2 : Int) > 18)))).bind fun t13 =>
  bif t13 then
  some (0, false)
  else
  withK (fun (n17 : Int) =>
  withK (fun (n30 : Int) =>
  (i_Decimal n30).bind fun r34 =>
  bif (r34 != s1) then
  some (0, false)
  else
  some (n30, true)) fun (kj31 : Int → Option (Int × Bool)) =>
  bif decide ((List.length digits2 : Int) < (List.length s1 : Int)) then
  kj31 (w64 (0 - n17))
  else
  kj31 n17) fun (kj18 : Int → Option (Int × Bool)) =>
  i_ReadDecimal_l1 kj18 digits2 N 0 0) fun (kj3 : Str → Option (Int × Bool)) =>
  (andO (decide ((List.length s1 : Int) > 0)) ((idx s1 0).bind fun c8 =>
  some (c8 == (45 : UInt8)))).bind fun t5 =>
  bif t5 then
  (sub s1 1 (List.length s1 : Int)).bind fun s11 =>
  kj3 s11
  else
  kj3 s1

def i_ReadDrill (N : Nat) (s1 : Str) : Option (Drill × Bool) :=
  (i_SplitWords N s1).bind fun r3 =>
  bif ((List.length r3 : Int) != 3) then
  some ((Drill.mk [] [] 0), false)
  else
  (idx r3 2).bind fun e7 =>
  (i_ReadDecimal N e7).bind fun r9 =>
  (idx r3 0).bind fun e11 =>
  (idx r3 1).bind fun e13 =>
  (orO (!r9.2) ((i_DrillText N (Drill.mk e11 e13 r9.1)).bind fun r19 =>
  some (r19 != s1))).bind fun t16 =>
  (orO t16 (some (s1 == []))).bind fun t21 =>
  bif t21 then
  some ((Drill.mk [] [] 0), false)
  else
  some ((Drill.mk e11 e13 r9.1), true)

def i_repeat_l1 (kj6 : (List UInt8) → Option Str) (s1 : Str) (n2 : Int) : Nat → (List UInt8) → Int → Option Str
  | 0, _, _ => none
  | N + 1, l8, x10 =>
    bif decide (x10 < (imax n2 0)) then
    (app l8 s1).bind fun l12 =>
    i_repeat_l1 kj6 s1 n2 N l12 (w64 (x10 + 1))
    else
    kj6 l8

def i_repeat (N : Nat) (s1 : Str) (n2 : Int) : Option Str :=
  withK (fun (l4 : List UInt8) =>
  some l4) fun (kj6 : (List UInt8) → Option Str) =>
  i_repeat_l1 kj6 s1 n2 N [] 0

def i_trimRight_l1 (kj3 : Int → Option Str) (s1 : Str) : Nat → Int → Option Str
  | 0, _ => none
  | N + 1, end5 =>
    (andO (decide (end5 > 0)) ((idx s1 (w64 (end5 - 1))).bind fun c9 =>
    some (c9 == (32 : UInt8)))).bind fun t6 =>
    bif t6 then
    i_trimRight_l1 kj3 s1 N (w64 (end5 - 1))
    else
    kj3 end5

def i_trimRight (N : Nat) (s1 : Str) : Option Str :=
  withK (fun (end2 : Int) =>
  (sub s1 0 end2).bind fun s12 =>
  some s12) fun (kj3 : Int → Option Str) =>
  i_trimRight_l1 kj3 s1 N (List.length s1 : Int)

def i_DrillLine_l1 (kj11 : Str → Option (Str × Int)) (d1 : Drill) (length2 : Int) : Nat → Str → Int → Option (Str × Int)
  | 0, _, _ => none
  | N + 1, line13, k14 =>
    bif decide ((List.length line13 : Int) < length2) then
    (remO k14 (List.length d1.letters : Int)).bind fun q16 =>
    (sub d1.letters q16 (w64 (q16 + 1))).bind fun s18 =>
    (i_repeat N s18 3).bind fun r20 =>
    (cat r20 [32]).bind fun s22 =>
    (cat line13 s22).bind fun s24 =>
    i_DrillLine_l1 kj11 d1 length2 N s24 (w64 (k14 + 1))
    else
    kj11 line13

def i_DrillLine (N : Nat) (d1 : Drill) (length2 : Int) : Option (Str × Int) :=
  (i_validDrill N d1).bind fun r4 =>
  bif !r4 then
  some ([], 1)
  else
  (i_between length2 1 80).bind fun r7 =>
  bif !r7 then
  some ([], 2)
  else
  withK (fun (line10 : Str) =>
  (sub line10 0 length2).bind fun s26 =>
  (i_trimRight N s26).bind fun r28 =>
  some (r28, 0)) fun (kj11 : Str → Option (Str × Int)) =>
  i_DrillLine_l1 kj11 d1 length2 N [] 0

def i_ValidDrills_l1 (kj5 : Option Bool) (list1 : List Drill) : Nat → (List (Str × Bool)) → Int → Option Bool
  | 0, _, _ => none
  | N + 1, mp7, x8 =>
    bif decide (x8 < (List.length list1 : Int)) then
    (idx list1 x8).bind fun e10 =>
    (i_validDrill N e10).bind fun r16 =>
    (orO (!r16) (some (mget mp7 e10.name))).bind fun t18 =>
    bif t18 then
    some false
    else
    i_ValidDrills_l1 kj5 list1 N (mset mp7 e10.name true) (w64 (x8 + 1))
    else
    kj5 

def i_ValidDrills (N : Nat) (list1 : List Drill) : Option Bool :=
  withK (some (decide ((List.length list1 : Int) ≤ 10))) fun (kj5 : Option Bool) =>
  i_ValidDrills_l1 kj5 list1 N [] 0

def i_AddDrill_l1 (kj12 : Option ((List Drill) × Int)) (list1 : List Drill) (d4 : Drill) : Nat → Int → Option ((List Drill) × Int)
  | 0, _ => none
  | N + 1, x14 =>
    bif decide (x14 < (List.length list1 : Int)) then
    (idx list1 x14).bind fun e16 =>
    bif (e16.name == d4.name) then
    some ([], 4)
    else
    i_AddDrill_l1 kj12 list1 d4 N (w64 (x14 + 1))
    else
    kj12 

def i_AddDrill (N : Nat) (list1 : List Drill) (d4 : Drill) : Option ((List Drill) × Int) :=
  (i_ValidDrills N list1).bind fun r6 =>
  bif !r6 then
  some ([], 1)
  else
  (i_validDrill N d4).bind fun r9 =>
  bif !r9 then
  some ([], 2)
  else
  withK (bif ((List.length list1 : Int) == 10) then
  some ([], 5)
  else
  (app [] list1).bind fun l25 =>
  (app l25 [d4]).bind fun l29 =>
  some (l29, 0)) fun (kj12 : Option ((List Drill) × Int)) =>
  i_AddDrill_l1 kj12 list1 d4 N 0

def w_FnDrillLines_l2 (kj62 : Option Bool) (e26 : Drill) (r34 : Str × Int) : Nat → Int → Option Bool
  | 0, _ => none
  | N + 1, k64 =>
    bif decide (k64 < (List.length r34.1 : Int)) then
    withK (w_FnDrillLines_l2 kj62 e26 r34 N (w64 (k64 + 1))) fun (kj66 : Option Bool) =>
    bif ((Int.tmod k64 4) == 3) then
    (idx r34.1 k64).bind fun c69 =>
    bif (c69 != (32 : UInt8)) then
    some false
    else
    kj66 
    else
    (idx r34.1 k64).bind fun c72 =>
    (remO (w64 (Int.tdiv k64 4)) (List.length e26.letters : Int)).bind fun q74 =>
    (idx e26.letters q74).bind fun c76 =>
    bif (c72 != c76) then
    some false
    else
    kj66 
    else
    kj62 

def w_FnDrillLines_l1 (kj16 : Option Bool) (r10 : (List Drill)) (r13 : Int) : Nat → (List Drill) → Int → Option Bool
  | 0, _, _ => none
  | N + 1, l18, i20 =>
    bif decide (i20 < (List.length r10 : Int)) then
    withK (fun (l22 : List Drill) =>
    w_FnDrillLines_l1 kj16 r10 r13 N l22 (w64 (i20 + 1))) fun (kj24 : (List Drill) → Option Bool) =>
    (idx r10 i20).bind fun e26 =>
    (i_DrillText N e26).bind fun r29 =>
    (i_ReadDrill N r29).bind fun r31 =>
    (i_DrillLine N e26 (w64 (1 + r13))).bind fun r34 =>
    (i_DrillLine N e26 (w64 ((w64 (1 + r13)) + 8))).bind fun r36 =>
    (orO (!r31.2) (some (!(Drill.beq r31.1 e26)))).bind fun t38 =>
    (orO t38 (some (r34.2 != 0))).bind fun t41 =>
    (orO t41 (some (r36.2 != 0))).bind fun t44 =>
    (orO t44 (some (decide ((List.length r34.1 : Int) < (w64 ((w64 (1 + r13)) - 1)))))).bind fun t47 =>
    (orO t47 (some (decide ((List.length r34.1 : Int) > (w64 (1 + r13)))))).bind fun t50 =>
    (orO t50 (some (decide ((List.length r36.1 : Int) < (List.length r34.1 : Int))))).bind fun t53 =>
    (orO t53 ((sub r36.1 0 (List.length r34.1 : Int)).bind fun s59 =>
    some (s59 != r34.1))).bind fun t56 =>
    bif t56 then
    some false
    else
    withK ((i_AddDrill N l18 e26).bind fun r79 =>
    (i_AddDrill N r10 e26).bind fun r82 =>
    (orO (r79.2 != 0) (some ((List.length r79.1 : Int) != (w64 (i20 + 1))))).bind fun t85 =>
    (orO t85 ((idx r79.1 i20).bind fun e91 =>
    some (!(Drill.beq e91 e26)))).bind fun t88 =>
    (orO t88 (some (r82.2 != 4))).bind fun t93 =>
    bif t93 then
    some false
    else
    kj24 r79.1) fun (kj62 : Option Bool) =>
    w_FnDrillLines_l2 kj62 e26 r34 N 0
    else
    kj16 

def w_FnDrillLines (N : Nat) (code1 : List UInt8) (more4 : List UInt8) : Option Bool :=
  (w_a2Long code1 more4).bind fun r7 =>
  bif r7 then
  some true
  else
  (s_A2Drills N code1).bind fun r10 =>
  (w_a2At more4 0 70).bind fun r13 =>
  withK (some true) fun (kj16 : Option Bool) =>
  w_FnDrillLines_l1 kj16 r10 r13 N [] 0

end Go.Proofs.YtoojddajhalimaaDoor
