/-
  Plain functions that compute what the Go functions compute. No conditions.
-/
import Derived.Test.YtbgngihmpdneaaaDoorBase2
namespace Go.Proofs.YtbgngihmpdneaaaDoor
set_option linter.unusedVariables false
set_option linter.unusedSimpArgs false

structure Lesson where
  name : Str
  letters : Str
  needs : List Int
  hours : Int

structure L00Src where
  code : List UInt8
  at_ : Int
  seed : Int



def w_f6big (code1 : List UInt8) : Option Bool :=
  some (decide ((List.length code1 : Int) > 4096))

def s_l00From (code1 : List UInt8) : Option L00Src :=
  some (L00Src.mk code1 0 0)

def s_l00Src_next (s1 : L00Src) : Option (Int × L00Src) :=
  withK (fun (b5 : Int) =>
  bif decide ((w64 (s1.at_ + 1)) ≤ (List.length s1.code : Int)) then
  some (b5, (L00Src.mk s1.code (w64 (s1.at_ + 1)) (IntKind.u64.wrap ((IntKind.u64.wrap ((IntKind.u64.wrap (s1.seed * 6364136223846793005)) + (IntKind.u64.wrap b5))) + 1442695040888963407))))
  else
  some (w64 (uand (ushr (IntKind.u64.wrap ((IntKind.u64.wrap ((IntKind.u64.wrap (s1.seed * 6364136223846793005)) + (IntKind.u64.wrap b5))) + 1442695040888963407)) 40) 255), (L00Src.mk s1.code (w64 (s1.at_ + 1)) (IntKind.u64.wrap ((IntKind.u64.wrap ((IntKind.u64.wrap (s1.seed * 6364136223846793005)) + (IntKind.u64.wrap b5))) + 1442695040888963407))))) fun (kj6 : Int → Option (Int × L00Src)) =>
  bif decide (s1.at_ < (List.length s1.code : Int)) then
  (idx s1.code s1.at_).bind fun e9 =>
  kj6 (UInt8.toNat e9 : Int)
  else
  kj6 0

def s_l00Src_pick (s1 : L00Src) (n5 : Int) : Option (Int × L00Src) :=
  bif decide (n5 ≤ 1) then
  some (0, (L00Src.mk s1.code s1.at_ s1.seed))
  else
  (s_l00Src_next (L00Src.mk s1.code s1.at_ s1.seed)).bind fun r7 =>
  withK (fun (x9 : Int) (x10 : Int) (x11 : Int) =>
  (remO x11 n5).bind fun q17 =>
  some (q17, (L00Src.mk s1.code x9 x10))) fun (kj12 : Int → Int → Int → Option (Int × L00Src)) =>
  bif decide (n5 > 200) then
  (s_l00Src_next (L00Src.mk s1.code r7.2.at_ r7.2.seed)).bind fun r15 =>
  kj12 r15.2.at_ r15.2.seed (w64 ((w64 (r7.1 * 256)) + r15.1))
  else
  kj12 r7.2.at_ r7.2.seed r7.1

def s_l00Src_text (s1 : L00Src) (list5 : List Str) : Option (Str × L00Src) :=
  (s_l00Src_pick (L00Src.mk s1.code s1.at_ s1.seed) (List.length list5 : Int)).bind fun r8 =>
  (idx list5 r8.1).bind fun e10 =>
  some (e10, (L00Src.mk s1.code r8.2.at_ r8.2.seed))

def s_l02PutLetter_l1 (kj4 : Int → Option Str) (list1 : Str) (letter2 : Str) : Nat → Int → Option Str
  | 0, _ => none
  | N + 1, k6 =>
    (andO (decide (k6 < (List.length list1 : Int))) ((idx list1 k6).bind fun c10 =>
    (idx letter2 0).bind fun c12 =>
    some (decide (c10 < c12)))).bind fun t7 =>
    bif t7 then
    s_l02PutLetter_l1 kj4 list1 letter2 N (w64 (k6 + 1))
    else
    kj4 k6

def s_l02PutLetter (N : Nat) (list1 : Str) (letter2 : Str) : Option Str :=
  withK (fun (k3 : Int) =>
  (andO (decide (k3 < (List.length list1 : Int))) ((idx list1 k3).bind fun c18 =>
  (idx letter2 0).bind fun c20 =>
  some (c18 == c20))).bind fun t15 =>
  bif t15 then
  some list1
  else
  (sub list1 0 k3).bind fun s23 =>
  (cat s23 letter2).bind fun s25 =>
  (sub list1 k3 (List.length list1 : Int)).bind fun s27 =>
  (cat s25 s27).bind fun s29 =>
  some s29) fun (kj4 : Int → Option Str) =>
  s_l02PutLetter_l1 kj4 list1 letter2 N 0

def s_l00Src_one (s1 : L00Src) (n5 : Int) : Option (Bool × L00Src) :=
  (s_l00Src_pick (L00Src.mk s1.code s1.at_ s1.seed) n5).bind fun r6 =>
  some ((r6.1 == 0), (L00Src.mk s1.code r6.2.at_ r6.2.seed))

def s_l18Draw_l2 (kj44 : Int → Int → Str → Str → Int → Option ((List Lesson) × L00Src)) (s1 : L00Src) : Nat → Int → Int → Str → Str → Int → Int → Option ((List Lesson) × L00Src)
  | 0, _, _, _, _, _, _ => none
  | N + 1, x48, x49, x50, x51, x52, k53 =>
    bif decide (k53 > 0) then
    (s_l00Src_text (L00Src.mk s1.code x48 x49) ([[97], [115], [100], [102], [103], [104], [49]] : List Str)).bind fun r56 =>
    (s_l02PutLetter N x51 r56.1).bind fun r58 =>
    s_l18Draw_l2 kj44 s1 N r56.2.at_ r56.2.seed x50 r58 x52 (w64 (k53 - 1))
    else
    kj44 x48 x49 x50 x51 x52

def s_l18Draw_l3 (kj68 : Int → Int → Str → Str → Int → (List Int) → Option ((List Lesson) × L00Src)) (s1 : L00Src) (r7 : Int × L00Src) (i21 : Int) : Nat → Int → Int → Str → Str → Int → (List Int) → Int → Option ((List Lesson) × L00Src)
  | 0, _, _, _, _, _, _, _ => none
  | N + 1, x70, x71, x72, x73, x74, l75, k77 =>
    bif decide (k77 < r7.1) then
    withK (fun (x79 : Int) (x80 : Int) (x81 : Str) (x82 : Str) (x83 : Int) (l84 : List Int) =>
    s_l18Draw_l3 kj68 s1 r7 i21 N x79 x80 x81 x82 x83 l84 (w64 (k77 + 1))) fun (kj86 : Int → Int → Str → Str → Int → (List Int) → Option ((List Lesson) × L00Src)) =>
    (bif decide (k77 < i21) then (s_l00Src_one (L00Src.mk s1.code x70 x71) 3).bind fun r92 =>
    some (r92.1, (L00Src.mk s1.code r92.2.at_ r92.2.seed)) else some (false, (L00Src.mk s1.code x70 x71))).bind fun x90 =>
    (bif x90.1 then some (true, (L00Src.mk s1.code x90.2.at_ x90.2.seed)) else (bif decide (k77 > i21) then (s_l00Src_one (L00Src.mk s1.code x90.2.at_ x90.2.seed) 30).bind fun r102 =>
    some (r102.1, (L00Src.mk s1.code r102.2.at_ r102.2.seed)) else some (false, (L00Src.mk s1.code x90.2.at_ x90.2.seed))).bind fun x100 =>
    some (x100.1, (L00Src.mk s1.code x100.2.at_ x100.2.seed))).bind fun x96 =>
    bif x96.1 then
    (app l75 [k77]).bind fun l106 =>
    kj86 x96.2.at_ x96.2.seed x72 x73 x74 l106
    else
    kj86 x96.2.at_ x96.2.seed x72 x73 x74 l75
    else
    kj68 x70 x71 x72 x73 x74 l75

def s_l18Draw_l1 (kj14 : Int → Int → (List Lesson) → Option ((List Lesson) × L00Src)) (s1 : L00Src) (r7 : Int × L00Src) : Nat → Int → Int → (List Lesson) → Int → Option ((List Lesson) × L00Src)
  | 0, _, _, _, _ => none
  | N + 1, x16, x17, l18, i21 =>
    bif decide (i21 < r7.1) then
    withK (fun (l23 : List Lesson) (x24 : Int) (x25 : Int) =>
    s_l18Draw_l1 kj14 s1 r7 N x24 x25 l23 (w64 (i21 + 1))) fun (kj28 : (List Lesson) → Int → Int → Option ((List Lesson) × L00Src)) =>
    (idx ([[104, 111, 109, 101], [117, 112, 112, 101, 114], [108, 111, 119, 101, 114], [100, 105, 103, 105, 116, 115], [115, 105, 103, 110, 115], [115, 112, 101, 101, 100], [108, 97, 115, 116, 45, 49]] : List Str) i21).bind fun e30 =>
    (s_l00Src_pick (L00Src.mk s1.code x16 x17) 12).bind fun r33 =>
    withK (fun (x39 : Int) (x40 : Int) (x41 : Str) (x42 : Str) (x43 : Int) =>
    withK (fun (x61 : Int) (x62 : Int) (x63 : Str) (x64 : Str) (x65 : Int) (l66 : List Int) =>
    (app l18 ([(Lesson.mk x63 x64 l66 x65)] : List Lesson)).bind fun l114 =>
    kj28 l114 x61 x62) fun (kj68 : Int → Int → Str → Str → Int → (List Int) → Option ((List Lesson) × L00Src)) =>
    s_l18Draw_l3 kj68 s1 r7 i21 N x39 x40 x41 x42 x43 [] 0) fun (kj44 : Int → Int → Str → Str → Int → Option ((List Lesson) × L00Src)) =>
    (s_l00Src_pick (L00Src.mk s1.code r33.2.at_ r33.2.seed) 5).bind fun r46 =>
    s_l18Draw_l2 kj44 s1 N r46.2.at_ r46.2.seed e30 [] r33.1 r46.1
    else
    kj14 x16 x17 l18

def s_l18Draw (N : Nat) (s1 : L00Src) : Option ((List Lesson) × L00Src) :=
  (s_l00Src_pick (L00Src.mk s1.code s1.at_ s1.seed) 7).bind fun r7 =>
  withK (fun (x9 : Int) (x10 : Int) (l11 : List Lesson) =>
  some (l11, (L00Src.mk s1.code x9 x10))) fun (kj14 : Int → Int → (List Lesson) → Option ((List Lesson) × L00Src)) =>
  s_l18Draw_l1 kj14 s1 r7 N r7.2.at_ r7.2.seed ([] : List Lesson) 0

def s_l00Src_among (s1 : L00Src) (list5 : List Int) : Option (Int × L00Src) :=
  (s_l00Src_pick (L00Src.mk s1.code s1.at_ s1.seed) (List.length list5 : Int)).bind fun r8 =>
  (idx list5 r8.1).bind fun e10 =>
  some (e10, (L00Src.mk s1.code r8.2.at_ r8.2.seed))

def s_l18Bent_l1 (kj14 : Int → Int → (List Lesson) → Option ((List Lesson) × L00Src)) (r20 : Int × L00Src) : Nat → (List Lesson) → Int → Option ((List Lesson) × L00Src)
  | 0, _, _ => none
  | N + 1, l22, k25 =>
    bif decide (k25 > 0) then
    (cat [108] [(97 : UInt8) + (UInt8.ofInt (List.length l22 : Int))]).bind fun s28 =>
    (app l22 ([(Lesson.mk s28 [97] ([] : List Int) k25)] : List Lesson)).bind fun l34 =>
    s_l18Bent_l1 kj14 r20 N l34 (w64 (k25 - 1))
    else
    kj14 r20.2.at_ r20.2.seed l22

def s_l18Bent (N : Nat) (s1 : L00Src) : Option ((List Lesson) × L00Src) :=
  (s_l18Draw N (L00Src.mk s1.code s1.at_ s1.seed)).bind fun r5 =>
  withK (fun (x9 : Int) (x10 : Int) (l11 : List Lesson) =>
  bif ((List.length l11 : Int) == 0) then
  some (l11, (L00Src.mk s1.code x9 x10))
  else
  (s_l00Src_pick (L00Src.mk s1.code x9 x10) (List.length l11 : Int)).bind fun r39 =>
  (idx l11 r39.1).bind fun e41 =>
  withK (fun (x46 : Int) (x47 : Int) (l48 : List Lesson) =>
  some (l48, (L00Src.mk s1.code x46 x47))) fun (kj50 : Int → Int → (List Lesson) → Option ((List Lesson) × L00Src)) =>
  (s_l00Src_pick (L00Src.mk s1.code r39.2.at_ r39.2.seed) 24).bind fun r52 =>
  bif (r52.1 == 0) then
  (s_l00Src_text (L00Src.mk s1.code r52.2.at_ r52.2.seed) ([[], [72, 111, 109, 101], [104, 111, 109, 101]] : List Str)).bind fun r56 =>
  kj50 r56.2.at_ r56.2.seed (List.set l11 (Int.toNat r39.1) (Lesson.mk r56.1 e41.letters e41.needs e41.hours))
  else
  bif (r52.1 == 1) then
  (s_l00Src_text (L00Src.mk s1.code r52.2.at_ r52.2.seed) ([[98, 97], [97, 97], [97, 32, 98], [127]] : List Str)).bind fun r60 =>
  kj50 r60.2.at_ r60.2.seed (List.set l11 (Int.toNat r39.1) (Lesson.mk e41.name r60.1 e41.needs e41.hours))
  else
  bif (r52.1 == 2) then
  (s_l00Src_among (L00Src.mk s1.code r52.2.at_ r52.2.seed) [(-1), w64 ((List.length l11 : Int) - 1), (List.length l11 : Int)]).bind fun r64 =>
  (app e41.needs [r64.1]).bind fun l67 =>
  kj50 r64.2.at_ r64.2.seed (List.set l11 (Int.toNat r39.1) (Lesson.mk e41.name e41.letters l67 e41.hours))
  else
  bif (r52.1 == 3) then
  (s_l00Src_among (L00Src.mk s1.code r52.2.at_ r52.2.seed) [(-1), 0, 100, 101, (-9223372036854775808)]).bind fun r75 =>
  kj50 r75.2.at_ r75.2.seed (List.set l11 (Int.toNat r39.1) (Lesson.mk e41.name e41.letters e41.needs r75.1))
  else
  kj50 r52.2.at_ r52.2.seed l11) fun (kj14 : Int → Int → (List Lesson) → Option ((List Lesson) × L00Src)) =>
  (s_l00Src_one (L00Src.mk s1.code r5.2.at_ r5.2.seed) 30).bind fun r16 =>
  bif r16.1 then
  (s_l00Src_pick (L00Src.mk s1.code r16.2.at_ r16.2.seed) 2).bind fun r20 =>
  s_l18Bent_l1 kj14 r20 N ([] : List Lesson) (w64 (12 + r20.1))
  else
  kj14 r16.2.at_ r16.2.seed r5.1

def s_DrawLessonOrder (N : Nat) (code1 : List UInt8) : Option (List Lesson) :=
  (s_l00From code1).bind fun r4 =>
  (s_l18Bent N (L00Src.mk code1 r4.at_ r4.seed)).bind fun r7 =>
  some r7.1

def i_isDigit (b1 : UInt8) : Option Bool :=
  (andO (decide (b1 ≥ (48 : UInt8))) (some (decide (b1 ≤ (57 : UInt8))))).bind fun t2 =>
  some t2

def i_IsName_l1 (kj6 : Option Bool) (s1 : Str) : Nat → Int → Option Bool
  | 0, _ => none
  | N + 1, x8 =>
    bif decide (x8 < (List.length s1 : Int)) then
    (idx s1 x8).bind fun c10 =>
    (andO (decide (c10 ≥ (97 : UInt8))) ((idx s1 x8).bind fun c15 =>
    some (decide (c15 ≤ (122 : UInt8))))).bind fun t12 =>
    (andO (!t12) ((orO (x8 == 0) ((idx s1 x8).bind fun c23 =>
    (andO (c23 != (45 : UInt8)) ((idx s1 x8).bind fun c28 =>
    (i_isDigit c28).bind fun r30 =>
    some (!r30))).bind fun t25 =>
    some t25)).bind fun t20 =>
    some t20)).bind fun t17 =>
    bif t17 then
    some false
    else
    i_IsName_l1 kj6 s1 N (w64 (x8 + 1))
    else
    kj6 

def i_IsName (N : Nat) (s1 : Str) : Option Bool :=
  (orO ((List.length s1 : Int) == 0) (some (decide ((List.length s1 : Int) > 12)))).bind fun t2 =>
  bif t2 then
  some false
  else
  withK (some true) fun (kj6 : Option Bool) =>
  i_IsName_l1 kj6 s1 N 0

def i_isText_l1 (kj5 : Option Bool) (s1 : Str) (low2 : UInt8) : Nat → Int → Option Bool
  | 0, _ => none
  | N + 1, x7 =>
    bif decide (x7 < (List.length s1 : Int)) then
    (idx s1 x7).bind fun c9 =>
    (orO (decide (c9 < low2)) ((idx s1 x7).bind fun c14 =>
    some (decide (c14 > (126 : UInt8))))).bind fun t11 =>
    bif t11 then
    some false
    else
    i_isText_l1 kj5 s1 low2 N (w64 (x7 + 1))
    else
    kj5 

def i_isText (N : Nat) (s1 : Str) (low2 : UInt8) (most3 : Int) : Option Bool :=
  bif decide ((List.length s1 : Int) > most3) then
  some false
  else
  withK (some true) fun (kj5 : Option Bool) =>
  i_isText_l1 kj5 s1 low2 N 0

def i_between (n1 : Int) (low2 : Int) (high3 : Int) : Option Bool :=
  (andO (decide (n1 ≥ low2)) (some (decide (n1 ≤ high3)))).bind fun t4 =>
  some t4

def i_areIndices_l1 (kj5 : Option Bool) (list1 : List Int) (n4 : Int) : Nat → Int → Option Bool
  | 0, _ => none
  | N + 1, x7 =>
    bif decide (x7 < (List.length list1 : Int)) then
    (idx list1 x7).bind fun e9 =>
    (i_between e9 0 (w64 (n4 - 1))).bind fun r14 =>
    (orO (!r14) ((andO (decide (x7 > 0)) ((idx list1 (w64 (x7 - 1))).bind fun e22 =>
    some (decide (e9 ≤ e22)))).bind fun t19 =>
    some t19)).bind fun t16 =>
    bif t16 then
    some false
    else
    i_areIndices_l1 kj5 list1 n4 N (w64 (x7 + 1))
    else
    kj5 

def i_areIndices (N : Nat) (list1 : List Int) (n4 : Int) : Option Bool :=
  withK (some true) fun (kj5 : Option Bool) =>
  i_areIndices_l1 kj5 list1 n4 N 0

def i_contains_l1 (kj5 : Option Bool) (list1 : List Int) (n4 : Int) : Nat → Int → Option Bool
  | 0, _ => none
  | N + 1, x7 =>
    bif decide (x7 < (List.length list1 : Int)) then
    (idx list1 x7).bind fun e9 =>
    bif (e9 == n4) then
    some true
    else
    i_contains_l1 kj5 list1 n4 N (w64 (x7 + 1))
    else
    kj5 

def i_contains (N : Nat) (list1 : List Int) (n4 : Int) : Option Bool :=
  withK (some false) fun (kj5 : Option Bool) =>
  i_contains_l1 kj5 list1 n4 N 0

def i_ValidLessons_l2 (kj39 : Option Bool) (e14 : Lesson) : Nat → Int → Option Bool
  | 0, _ => none
  | N + 1, k41 =>
    bif decide (k41 < (List.length e14.letters : Int)) then
    (idx e14.letters k41).bind fun c43 =>
    (idx e14.letters (w64 (k41 - 1))).bind fun c45 =>
    bif decide (c43 ≤ c45) then
    some false
    else
    i_ValidLessons_l2 kj39 e14 N (w64 (k41 + 1))
    else
    kj39 

def i_ValidLessons_l1 (kj6 : Option Bool) (list1 : List Lesson) : Nat → (List (Str × Bool)) → Int → Option Bool
  | 0, _, _ => none
  | N + 1, mp8, x9 =>
    bif decide (x9 < (List.length list1 : Int)) then
    withK (fun (mp11 : List (Str × Bool)) =>
    i_ValidLessons_l1 kj6 list1 N mp11 (w64 (x9 + 1))) fun (kj12 : (List (Str × Bool)) → Option Bool) =>
    (idx list1 x9).bind fun e14 =>
    (i_IsName N e14.name).bind fun r23 =>
    (orO (!r23) (some (mget mp8 e14.name))).bind fun t25 =>
    (orO t25 ((i_isText N e14.letters 33 100).bind fun r31 =>
    some (!r31))).bind fun t28 =>
    (orO t28 ((i_between e14.hours 0 100).bind fun r36 =>
    some (!r36))).bind fun t33 =>
    bif t33 then
    some false
    else
    withK ((i_areIndices N e14.needs (List.length list1 : Int)).bind fun r48 =>
    (orO (!r48) ((i_contains N e14.needs x9).bind fun r53 =>
    some r53)).bind fun t50 =>
    bif t50 then
    some false
    else
    kj12 (mset mp8 e14.name true)) fun (kj39 : Option Bool) =>
    i_ValidLessons_l2 kj39 e14 N 1
    else
    kj6 

def i_ValidLessons (N : Nat) (list1 : List Lesson) : Option Bool :=
  bif decide ((List.length list1 : Int) > 12) then
  some false
  else
  withK (some true) fun (kj6 : Option Bool) =>
  i_ValidLessons_l1 kj6 list1 N [] 0

def i_lessonCircle_l2 (kj25 : (List Bool) → Option Int) (list1 : List Lesson) : Nat → (List Int) → (List Bool) → Option Int
  | 0, _, _ => none
  | N + 1, l27, l29 =>
    bif decide ((List.length l27 : Int) > 0) then
    (idx l27 0).bind fun e31 =>
    (sub l27 1 (List.length l27 : Int)).bind fun l33 =>
    (idx l29 e31).bind fun e36 =>
    bif e36 then
    i_lessonCircle_l2 kj25 list1 N l33 l29
    else
    (idx l29 e31).bind fun e39 =>
    (idx list1 e31).bind fun e41 =>
    (app l33 e41.needs).bind fun l48 =>
    i_lessonCircle_l2 kj25 list1 N l48 (List.set l29 (Int.toNat e31) true)
    else
    kj25 l29

def i_lessonCircle_l1 (kj4 : Option Int) (list1 : List Lesson) : Nat → Int → Option Int
  | 0, _ => none
  | N + 1, x6 =>
    bif decide (x6 < (List.length list1 : Int)) then
    withK (i_lessonCircle_l1 kj4 list1 N (w64 (x6 + 1))) fun (kj8 : Option Int) =>
    (mk (List.length list1 : Int) false).bind fun l10 =>
    (idx list1 x6).bind fun e14 =>
    (app [] e14.needs).bind fun l21 =>
    withK (fun (l24 : List Bool) =>
    (idx l24 x6).bind fun e51 =>
    bif e51 then
    some x6
    else
    kj8 ) fun (kj25 : (List Bool) → Option Int) =>
    i_lessonCircle_l2 kj25 list1 N l21 l10
    else
    kj4 

def i_lessonCircle (N : Nat) (list1 : List Lesson) : Option Int :=
  withK (some (-1)) fun (kj4 : Option Int) =>
  i_lessonCircle_l1 kj4 list1 N 0

def i_allIn_l1 (kj7 : Option Bool) (list1 : List Int) (marked4 : List Bool) : Nat → Int → Option Bool
  | 0, _ => none
  | N + 1, x9 =>
    bif decide (x9 < (List.length list1 : Int)) then
    (idx list1 x9).bind fun e11 =>
    (idx marked4 e11).bind fun e16 =>
    bif !e16 then
    some false
    else
    i_allIn_l1 kj7 list1 marked4 N (w64 (x9 + 1))
    else
    kj7 

def i_allIn (N : Nat) (list1 : List Int) (marked4 : List Bool) : Option Bool :=
  withK (some true) fun (kj7 : Option Bool) =>
  i_allIn_l1 kj7 list1 marked4 N 0

def i_LessonOrder_l2 (kj23 : Int → Option ((List Int) × Int)) (list1 : List Lesson) (l20 : List Bool) : Nat → Int → Int → Option ((List Int) × Int)
  | 0, _, _ => none
  | N + 1, best25, x26 =>
    bif decide (x26 < (List.length list1 : Int)) then
    withK (fun (best28 : Int) =>
    i_LessonOrder_l2 kj23 list1 l20 N best28 (w64 (x26 + 1))) fun (kj29 : Int → Option ((List Int) × Int)) =>
    (idx list1 x26).bind fun e31 =>
    (idx l20 x26).bind fun e40 =>
    (andO (!e40) ((i_allIn N e31.needs l20).bind fun r45 =>
    some r45)).bind fun t42 =>
    (andO t42 ((orO (decide (best25 < 0)) ((idx list1 best25).bind fun e53 =>
    some (decide (e31.hours < e53.hours)))).bind fun t50 =>
    some t50)).bind fun t47 =>
    bif t47 then
    kj29 x26
    else
    kj29 best25
    else
    kj23 best25

def i_LessonOrder_l1 (kj16 : (List Int) → Option ((List Int) × Int)) (list1 : List Lesson) : Nat → (List Int) → (List Bool) → Option ((List Int) × Int)
  | 0, _, _ => none
  | N + 1, l18, l20 =>
    bif decide ((List.length l18 : Int) < (List.length list1 : Int)) then
    withK (fun (best22 : Int) =>
    (idx l20 best22).bind fun e61 =>
    (app l18 [best22]).bind fun l64 =>
    i_LessonOrder_l1 kj16 list1 N l64 (List.set l20 (Int.toNat best22) true)) fun (kj23 : Int → Option ((List Int) × Int)) =>
    i_LessonOrder_l2 kj23 list1 l20 N (-1) 0
    else
    kj16 l18

def i_LessonOrder (N : Nat) (list1 : List Lesson) : Option ((List Int) × Int) :=
  (i_ValidLessons N list1).bind fun r4 =>
  bif !r4 then
  some ([], 1)
  else
  (i_lessonCircle N list1).bind fun r7 =>
  bif decide (r7 ≥ 0) then
  some ([], 9)
  else
  (mk (List.length list1 : Int) false).bind fun l10 =>
  withK (fun (l14 : List Int) =>
  some (l14, 0)) fun (kj16 : (List Int) → Option ((List Int) × Int)) =>
  i_LessonOrder_l1 kj16 list1 N [] l10

def s_l01Small (c1 : UInt8) : Option Bool :=
  (andO (decide (c1 ≥ (97 : UInt8))) (some (decide (c1 ≤ (122 : UInt8))))).bind fun t2 =>
  some t2

def s_l01Digit (c1 : UInt8) : Option Bool :=
  (andO (decide (c1 ≥ (48 : UInt8))) (some (decide (c1 ≤ (57 : UInt8))))).bind fun t2 =>
  some t2

def s_IsName_l1 (kj13 : Option Bool) (s1 : Str) : Nat → Int → Option Bool
  | 0, _ => none
  | N + 1, i15 =>
    bif decide (i15 < (List.length s1 : Int)) then
    (idx s1 i15).bind fun c17 =>
    (s_l01Small c17).bind fun r19 =>
    (andO (!r19) ((idx s1 i15).bind fun c24 =>
    (s_l01Digit c24).bind fun r26 =>
    some (!r26))).bind fun t21 =>
    (andO t21 ((idx s1 i15).bind fun c31 =>
    some (c31 != (45 : UInt8)))).bind fun t28 =>
    bif t28 then
    some false
    else
    s_IsName_l1 kj13 s1 N (w64 (i15 + 1))
    else
    kj13 

def s_IsName (N : Nat) (s1 : Str) : Option Bool :=
  (orO (s1 == []) (some (decide ((List.length s1 : Int) > 12)))).bind fun t2 =>
  (orO t2 ((idx s1 0).bind fun c8 =>
  (s_l01Small c8).bind fun r10 =>
  some (!r10))).bind fun t5 =>
  bif t5 then
  some false
  else
  withK (some true) fun (kj13 : Option Bool) =>
  s_IsName_l1 kj13 s1 N 0

def s_l02Text_l1 (kj2 : Option Bool) (s1 : Str) : Nat → Int → Option Bool
  | 0, _ => none
  | N + 1, i4 =>
    bif decide (i4 < (List.length s1 : Int)) then
    (idx s1 i4).bind fun c6 =>
    (orO (decide (c6 < (33 : UInt8))) ((idx s1 i4).bind fun c11 =>
    some (decide (c11 > (126 : UInt8))))).bind fun t8 =>
    bif t8 then
    some false
    else
    s_l02Text_l1 kj2 s1 N (w64 (i4 + 1))
    else
    kj2 

def s_l02Text (N : Nat) (s1 : Str) : Option Bool :=
  withK (some (decide ((List.length s1 : Int) ≤ 100))) fun (kj2 : Option Bool) =>
  s_l02Text_l1 kj2 s1 N 0

def s_l00In (n1 : Int) (low2 : Int) (high3 : Int) : Option Bool :=
  (andO (decide (n1 ≥ low2)) (some (decide (n1 ≤ high3)))).bind fun t4 =>
  some t4

def s_l00Rises_l1 (kj6 : Option Bool) (list1 : List Int) (low4 : Int) (high5 : Int) : Nat → Int → Option Bool
  | 0, _ => none
  | N + 1, i8 =>
    bif decide (i8 < (List.length list1 : Int)) then
    (idx list1 i8).bind fun e10 =>
    (s_l00In e10 low4 high5).bind fun r15 =>
    (orO (!r15) ((andO (decide (i8 > 0)) ((idx list1 (w64 (i8 - 1))).bind fun e23 =>
    (idx list1 i8).bind fun e28 =>
    some (decide (e23 ≥ e28)))).bind fun t20 =>
    some t20)).bind fun t17 =>
    bif t17 then
    some false
    else
    s_l00Rises_l1 kj6 list1 low4 high5 N (w64 (i8 + 1))
    else
    kj6 

def s_l00Rises (N : Nat) (list1 : List Int) (low4 : Int) (high5 : Int) : Option Bool :=
  withK (some true) fun (kj6 : Option Bool) =>
  s_l00Rises_l1 kj6 list1 low4 high5 N 0

def s_l00Has_l1 (kj5 : Option Bool) (list1 : List Int) (n4 : Int) : Nat → Int → Option Bool
  | 0, _ => none
  | N + 1, i7 =>
    bif decide (i7 < (List.length list1 : Int)) then
    (idx list1 i7).bind fun e9 =>
    bif (e9 == n4) then
    some true
    else
    s_l00Has_l1 kj5 list1 n4 N (w64 (i7 + 1))
    else
    kj5 

def s_l00Has (N : Nat) (list1 : List Int) (n4 : Int) : Option Bool :=
  withK (some false) fun (kj5 : Option Bool) =>
  s_l00Has_l1 kj5 list1 n4 N 0

def s_l18Ok_l2 (kj40 : Option Bool) (e10 : Lesson) : Nat → Int → Option Bool
  | 0, _ => none
  | N + 1, k42 =>
    bif decide (k42 < (List.length e10.letters : Int)) then
    (idx e10.letters (w64 (k42 - 1))).bind fun c44 =>
    (idx e10.letters k42).bind fun c46 =>
    bif decide (c44 ≥ c46) then
    some false
    else
    s_l18Ok_l2 kj40 e10 N (w64 (k42 + 1))
    else
    kj40 

def s_l18Ok_l3 (kj8 : Option Bool) (list1 : List Lesson) (i6 : Int) (e10 : Lesson) : Nat → Int → Option Bool
  | 0, _ => none
  | N + 1, k49 =>
    bif decide (k49 < i6) then
    (idx list1 k49).bind fun e51 =>
    bif (e51.name == e10.name) then
    some false
    else
    s_l18Ok_l3 kj8 list1 i6 e10 N (w64 (k49 + 1))
    else
    kj8 

def s_l18Ok_l1 (kj4 : Option Bool) (list1 : List Lesson) : Nat → Int → Option Bool
  | 0, _ => none
  | N + 1, i6 =>
    bif decide (i6 < (List.length list1 : Int)) then
    withK (s_l18Ok_l1 kj4 list1 N (w64 (i6 + 1))) fun (kj8 : Option Bool) =>
    (idx list1 i6).bind fun e10 =>
    (s_IsName N e10.name).bind fun r17 =>
    (orO (!r17) ((s_l02Text N e10.letters).bind fun r22 =>
    some (!r22))).bind fun t19 =>
    (orO t19 ((s_l00Rises N e10.needs 0 (w64 ((List.length list1 : Int) - 1))).bind fun r27 =>
    some (!r27))).bind fun t24 =>
    (orO t24 ((s_l00Has N e10.needs i6).bind fun r32 =>
    some r32)).bind fun t29 =>
    (orO t29 ((s_l00In e10.hours 0 100).bind fun r37 =>
    some (!r37))).bind fun t34 =>
    bif t34 then
    some false
    else
    withK (s_l18Ok_l3 kj8 list1 i6 e10 N 0) fun (kj40 : Option Bool) =>
    s_l18Ok_l2 kj40 e10 N 1
    else
    kj4 

def s_l18Ok (N : Nat) (list1 : List Lesson) : Option Bool :=
  withK (some (decide ((List.length list1 : Int) ≤ 12))) fun (kj4 : Option Bool) =>
  s_l18Ok_l1 kj4 list1 N 0

def s_l00Own (list1 : List Int) : Option (List Int) :=
  (app [] list1).bind fun l5 =>
  some l5

def s_l00Put_l1 (kj9 : (List Int) → Bool → Option (List Int)) (list1 : List Int) (n4 : Int) : Nat → (List Int) → Bool → Int → Option (List Int)
  | 0, _, _, _ => none
  | N + 1, l11, done13, i14 =>
    bif decide (i14 < (List.length list1 : Int)) then
    withK (fun (l16 : List Int) (done18 : Bool) =>
    (idx list1 i14).bind fun e40 =>
    (app l16 [e40]).bind fun l46 =>
    s_l00Put_l1 kj9 list1 n4 N l46 done18 (w64 (i14 + 1))) fun (kj19 : (List Int) → Bool → Option (List Int)) =>
    (andO (!done13) ((idx list1 i14).bind fun e24 =>
    some (decide (e24 ≥ n4)))).bind fun t21 =>
    bif t21 then
    (idx list1 i14).bind fun e30 =>
    bif decide (e30 > n4) then
    (app l11 [n4]).bind fun l37 =>
    kj19 l37 true
    else
    kj19 l11 true
    else
    kj19 l11 done13
    else
    kj9 l11 done13

def s_l00Put (N : Nat) (list1 : List Int) (n4 : Int) : Option (List Int) :=
  withK (fun (l6 : List Int) (done8 : Bool) =>
  withK (fun (l49 : List Int) =>
  some l49) fun (kj51 : (List Int) → Option (List Int)) =>
  bif !done8 then
  (app l6 [n4]).bind fun l55 =>
  kj51 l55
  else
  kj51 l6) fun (kj9 : (List Int) → Bool → Option (List Int)) =>
  s_l00Put_l1 kj9 list1 n4 N [] false 0

def s_l18All_l2 (kj21 : (List Int) → Int → Option (List Int)) (l14 : List Int) (e25 : Lesson) : Nat → Int → Int → Option (List Int)
  | 0, _, _ => none
  | N + 1, i32, k33 =>
    bif decide (k33 < (List.length e25.needs : Int)) then
    (idx e25.needs k33).bind fun e35 =>
    (s_l00Has N l14 e35).bind fun r40 =>
    bif !r40 then
    (idx e25.needs k33).bind fun e43 =>
    (s_l00Put N l14 e43).bind fun r48 =>
    kj21 r48 (-1)
    else
    s_l18All_l2 kj21 l14 e25 N i32 (w64 (k33 + 1))
    else
    kj21 l14 i32

def s_l18All_l1 (kj12 : (List Int) → Option (List Int)) (list1 : List Lesson) : Nat → (List Int) → Int → Option (List Int)
  | 0, _, _ => none
  | N + 1, l14, i16 =>
    bif decide (i16 < (List.length l14 : Int)) then
    withK (fun (l18 : List Int) (i20 : Int) =>
    s_l18All_l1 kj12 list1 N l18 (w64 (i20 + 1))) fun (kj21 : (List Int) → Int → Option (List Int)) =>
    (idx l14 i16).bind fun e23 =>
    (idx list1 e23).bind fun e25 =>
    s_l18All_l2 kj21 l14 e25 N i16 0
    else
    kj12 l14

def s_l18All (N : Nat) (list1 : List Lesson) (some4 : List Int) : Option (List Int) :=
  (s_l00Own some4).bind fun r7 =>
  withK (fun (l10 : List Int) =>
  some l10) fun (kj12 : (List Int) → Option (List Int)) =>
  s_l18All_l1 kj12 list1 N r7 0

def s_l18Circle_l1 (kj4 : Option Int) (list1 : List Lesson) : Nat → Int → Option Int
  | 0, _ => none
  | N + 1, k6 =>
    bif decide (k6 < (List.length list1 : Int)) then
    (idx list1 k6).bind fun e8 =>
    (s_l18All N list1 e8.needs).bind fun r15 =>
    (s_l00Has N r15 k6).bind fun r18 =>
    bif r18 then
    some k6
    else
    s_l18Circle_l1 kj4 list1 N (w64 (k6 + 1))
    else
    kj4 

def s_l18Circle (N : Nat) (list1 : List Lesson) : Option Int :=
  withK (some (-1)) fun (kj4 : Option Int) =>
  s_l18Circle_l1 kj4 list1 N 0

def s_l18Can_l1 (kj11 : Option Bool) (list1 : List Lesson) (taken4 : List Int) (k7 : Int) : Nat → Int → Option Bool
  | 0, _ => none
  | N + 1, i13 =>
    (idx list1 k7).bind fun e14 =>
    bif decide (i13 < (List.length e14.needs : Int)) then
    (idx list1 k7).bind fun e22 =>
    (idx e22.needs i13).bind fun e29 =>
    (s_l00Has N taken4 e29).bind fun r34 =>
    bif !r34 then
    some false
    else
    s_l18Can_l1 kj11 list1 taken4 k7 N (w64 (i13 + 1))
    else
    kj11 

def s_l18Can (N : Nat) (list1 : List Lesson) (taken4 : List Int) (k7 : Int) : Option Bool :=
  (s_l00Has N taken4 k7).bind fun r8 =>
  bif r8 then
  some false
  else
  withK (some true) fun (kj11 : Option Bool) =>
  s_l18Can_l1 kj11 list1 taken4 k7 N 0

def s_LessonOrder_l2 (kj19 : Int → Option ((List Int) × Int)) (list1 : List Lesson) (l15 : List Int) : Nat → Int → Int → Option ((List Int) × Int)
  | 0, _, _ => none
  | N + 1, best21, k22 =>
    bif decide (k22 < (List.length list1 : Int)) then
    withK (fun (best24 : Int) =>
    s_LessonOrder_l2 kj19 list1 l15 N best24 (w64 (k22 + 1))) fun (kj25 : Int → Option ((List Int) × Int)) =>
    (s_l18Can N list1 l15 k22).bind fun r27 =>
    (andO r27 ((orO (decide (best21 < 0)) ((idx list1 k22).bind fun e35 =>
    (idx list1 best21).bind fun e42 =>
    some (decide (e35.hours < e42.hours)))).bind fun t32 =>
    some t32)).bind fun t29 =>
    bif t29 then
    kj25 k22
    else
    kj25 best21
    else
    kj19 best21

def s_LessonOrder_l1 (kj13 : (List Int) → Option ((List Int) × Int)) (list1 : List Lesson) : Nat → (List Int) → Option ((List Int) × Int)
  | 0, _ => none
  | N + 1, l15 =>
    bif decide ((List.length l15 : Int) < (List.length list1 : Int)) then
    withK (fun (best18 : Int) =>
    (app l15 [best18]).bind fun l51 =>
    s_LessonOrder_l1 kj13 list1 N l51) fun (kj19 : Int → Option ((List Int) × Int)) =>
    s_LessonOrder_l2 kj19 list1 l15 N (-1) 0
    else
    kj13 l15

def s_LessonOrder (N : Nat) (list1 : List Lesson) : Option ((List Int) × Int) :=
  (s_l18Ok N list1).bind fun r4 =>
  bif !r4 then
  some ([], 1)
  else
  (s_l18Circle N list1).bind fun r7 =>
  bif decide (r7 ≥ 0) then
  some ([], 9)
  else
  withK (fun (l11 : List Int) =>
  some (l11, 0)) fun (kj13 : (List Int) → Option ((List Int) × Int)) =>
  s_LessonOrder_l1 kj13 list1 N []

def i_LessonCircle (N : Nat) (list1 : List Lesson) : Option (Int × Int) :=
  (i_ValidLessons N list1).bind fun r4 =>
  bif !r4 then
  some (0, 1)
  else
  (i_lessonCircle N list1).bind fun r7 =>
  some (r7, 0)

def s_LessonCircle (N : Nat) (list1 : List Lesson) : Option (Int × Int) :=
  (s_l18Ok N list1).bind fun r4 =>
  bif !r4 then
  some (0, 1)
  else
  (s_l18Circle N list1).bind fun r7 =>
  some (r7, 0)

def s_l18Some_l1 (kj14 : (List Int) → Int → Int → Option ((List Lesson) × (List Int) × L00Src)) (s1 : L00Src) (r5 : (List Lesson) × L00Src) : Nat → (List Int) → Int → Int → Int → Option ((List Lesson) × (List Int) × L00Src)
  | 0, _, _, _, _ => none
  | N + 1, l16, x18, x19, i20 =>
    bif decide (i20 < (List.length r5.1 : Int)) then
    withK (fun (x22 : Int) (x23 : Int) (l24 : List Int) =>
    s_l18Some_l1 kj14 s1 r5 N l24 x22 x23 (w64 (i20 + 1))) fun (kj26 : Int → Int → (List Int) → Option ((List Lesson) × (List Int) × L00Src)) =>
    (s_l00Src_one (L00Src.mk s1.code x18 x19) 2).bind fun r28 =>
    bif r28.1 then
    (app l16 [i20]).bind fun l32 =>
    kj26 r28.2.at_ r28.2.seed l32
    else
    kj26 r28.2.at_ r28.2.seed l16
    else
    kj14 l16 x18 x19

def s_l18Some (N : Nat) (s1 : L00Src) : Option ((List Lesson) × (List Int) × L00Src) :=
  (s_l18Bent N (L00Src.mk s1.code s1.at_ s1.seed)).bind fun r5 =>
  withK (fun (l10 : List Int) (x12 : Int) (x13 : Int) =>
  withK (fun (x35 : Int) (x36 : Int) (l37 : List Int) =>
  some (r5.1, l37, (L00Src.mk s1.code x35 x36))) fun (kj39 : Int → Int → (List Int) → Option ((List Lesson) × (List Int) × L00Src)) =>
  (s_l00Src_one (L00Src.mk s1.code x12 x13) 14).bind fun r41 =>
  bif r41.1 then
  (s_l00Src_among (L00Src.mk s1.code r41.2.at_ r41.2.seed) [(-1), 0, (List.length r5.1 : Int)]).bind fun r45 =>
  (app l10 [r45.1]).bind fun l48 =>
  kj39 r45.2.at_ r45.2.seed l48
  else
  kj39 r41.2.at_ r41.2.seed l10) fun (kj14 : (List Int) → Int → Int → Option ((List Lesson) × (List Int) × L00Src)) =>
  s_l18Some_l1 kj14 s1 r5 N [] r5.2.at_ r5.2.seed 0

def s_l18Only (N : Nat) (code1 : List UInt8) : Option ((List Lesson) × (List Int)) :=
  (s_l00From code1).bind fun r4 =>
  (s_l18Some N (L00Src.mk code1 r4.at_ r4.seed)).bind fun r7 =>
  some (r7.1, r7.2.1)

def s_DrawNextLessons (N : Nat) (code1 : List UInt8) : Option ((List Lesson) × (List Int)) :=
  (s_l18Only N code1).bind fun r4 =>
  some (r4.1, r4.2)

def i_takenCode (N : Nat) (list1 : List Lesson) (taken4 : List Int) : Option Int :=
  (i_ValidLessons N list1).bind fun r7 =>
  bif !r7 then
  some 1
  else
  (i_areIndices N taken4 (List.length list1 : Int)).bind fun r10 =>
  bif !r10 then
  some 2
  else
  some 0

def i_marks_l1 (kj9 : (List Bool) → Option (List Bool)) (list1 : List Int) : Nat → (List Bool) → Int → Option (List Bool)
  | 0, _, _ => none
  | N + 1, l11, x12 =>
    bif decide (x12 < (List.length list1 : Int)) then
    (idx list1 x12).bind fun e14 =>
    (idx l11 e14).bind fun e19 =>
    i_marks_l1 kj9 list1 N (List.set l11 (Int.toNat e14) true) (w64 (x12 + 1))
    else
    kj9 l11

def i_marks (N : Nat) (list1 : List Int) (n4 : Int) : Option (List Bool) :=
  (mk n4 false).bind fun l5 =>
  withK (fun (l8 : List Bool) =>
  some l8) fun (kj9 : (List Bool) → Option (List Bool)) =>
  i_marks_l1 kj9 list1 N l5 0

def i_NextLessons_l1 (kj16 : (List Int) → Option ((List Int) × Int)) (list1 : List Lesson) (r10 : (List Bool)) : Nat → (List Int) → Int → Option ((List Int) × Int)
  | 0, _, _ => none
  | N + 1, l18, x20 =>
    bif decide (x20 < (List.length list1 : Int)) then
    withK (fun (l22 : List Int) =>
    i_NextLessons_l1 kj16 list1 r10 N l22 (w64 (x20 + 1))) fun (kj24 : (List Int) → Option ((List Int) × Int)) =>
    (idx list1 x20).bind fun e26 =>
    (idx r10 x20).bind fun e35 =>
    (andO (!e35) ((i_allIn N e26.needs r10).bind fun r40 =>
    some r40)).bind fun t37 =>
    bif t37 then
    (app l18 [x20]).bind fun l44 =>
    kj24 l44
    else
    kj24 l18
    else
    kj16 l18

def i_NextLessons (N : Nat) (list1 : List Lesson) (taken4 : List Int) : Option ((List Int) × Int) :=
  (i_takenCode N list1 taken4).bind fun r7 =>
  bif (r7 != 0) then
  some ([], r7)
  else
  (i_marks N taken4 (List.length list1 : Int)).bind fun r10 =>
  withK (fun (l14 : List Int) =>
  some (l14, 0)) fun (kj16 : (List Int) → Option ((List Int) × Int)) =>
  i_NextLessons_l1 kj16 list1 r10 N [] 0

def s_l18Taken (N : Nat) (list1 : List Lesson) (taken4 : List Int) : Option Int :=
  (s_l18Ok N list1).bind fun r7 =>
  bif !r7 then
  some 1
  else
  (s_l00Rises N taken4 0 (w64 ((List.length list1 : Int) - 1))).bind fun r10 =>
  bif !r10 then
  some 2
  else
  some 0

def s_NextLessons_l1 (kj13 : (List Int) → Option ((List Int) × Int)) (list1 : List Lesson) (taken4 : List Int) : Nat → (List Int) → Int → Option ((List Int) × Int)
  | 0, _, _ => none
  | N + 1, l15, k17 =>
    bif decide (k17 < (List.length list1 : Int)) then
    withK (fun (l19 : List Int) =>
    s_NextLessons_l1 kj13 list1 taken4 N l19 (w64 (k17 + 1))) fun (kj21 : (List Int) → Option ((List Int) × Int)) =>
    (s_l18Can N list1 taken4 k17).bind fun r23 =>
    bif r23 then
    (app l15 [k17]).bind fun l27 =>
    kj21 l27
    else
    kj21 l15
    else
    kj13 l15

def s_NextLessons (N : Nat) (list1 : List Lesson) (taken4 : List Int) : Option ((List Int) × Int) :=
  (s_l18Taken N list1 taken4).bind fun r7 =>
  bif (r7 != 0) then
  some ([], r7)
  else
  withK (fun (l11 : List Int) =>
  some (l11, 0)) fun (kj13 : (List Int) → Option ((List Int) × Int)) =>
  s_NextLessons_l1 kj13 list1 taken4 N [] 0

def i_known_l2 (kj15 : (List Bool) → Option (List Bool)) (list1 : List Lesson) (e17 : Int) (e22 : Lesson) : Nat → (List Bool) → Int → Option (List Bool)
  | 0, _, _ => none
  | N + 1, l29, x30 =>
    bif decide (x30 < (List.length e22.letters : Int)) then
    (idx list1 e17).bind fun e32 =>
    (idx e32.letters x30).bind fun c39 =>
    (idx l29 (UInt8.toNat c39 : Int)).bind fun e41 =>
    i_known_l2 kj15 list1 e17 e22 N (List.set l29 (Int.toNat (UInt8.toNat c39 : Int)) true) (w64 (x30 + 1))
    else
    kj15 l29

def i_known_l1 (kj9 : (List Bool) → Option (List Bool)) (list1 : List Lesson) (taken4 : List Int) : Nat → (List Bool) → Int → Option (List Bool)
  | 0, _, _ => none
  | N + 1, l11, x12 =>
    bif decide (x12 < (List.length taken4 : Int)) then
    withK (fun (l14 : List Bool) =>
    i_known_l1 kj9 list1 taken4 N l14 (w64 (x12 + 1))) fun (kj15 : (List Bool) → Option (List Bool)) =>
    (idx taken4 x12).bind fun e17 =>
    (idx list1 e17).bind fun e22 =>
    i_known_l2 kj15 list1 e17 e22 N l11 0
    else
    kj9 l11

def i_known (N : Nat) (list1 : List Lesson) (taken4 : List Int) : Option (List Bool) :=
  withK (fun (l8 : List Bool) =>
  some l8) fun (kj9 : (List Bool) → Option (List Bool)) =>
  i_known_l1 kj9 list1 taken4 N (List.replicate 256 false) 0

def i_ascending_l1 (kj7 : (List UInt8) → Option Str) (marked1 : List Bool) : Nat → (List UInt8) → Int → Option Str
  | 0, _, _ => none
  | N + 1, l9, x11 =>
    bif decide (x11 < 256) then
    withK (fun (l13 : List UInt8) =>
    i_ascending_l1 kj7 marked1 N l13 (w64 (x11 + 1))) fun (kj15 : (List UInt8) → Option Str) =>
    (idx marked1 x11).bind fun e17 =>
    bif e17 then
    (app l9 [UInt8.ofInt x11]).bind fun l24 =>
    kj15 l24
    else
    kj15 l9
    else
    kj7 l9

def i_ascending (N : Nat) (marked1 : List Bool) : Option Str :=
  withK (fun (l5 : List UInt8) =>
  some l5) fun (kj7 : (List UInt8) → Option Str) =>
  i_ascending_l1 kj7 marked1 N [] 0

def i_KnownAfter (N : Nat) (list1 : List Lesson) (taken4 : List Int) : Option (Str × Int) :=
  (i_takenCode N list1 taken4).bind fun r7 =>
  bif (r7 != 0) then
  some ([], r7)
  else
  (i_known N list1 taken4).bind fun r10 =>
  (i_ascending N r10).bind fun r13 =>
  some (r13, 0)

def s_l18Known_l2 (kj14 : Str → Option Str) (e21 : Lesson) : Nat → Str → Int → Option Str
  | 0, _, _ => none
  | N + 1, out28, k29 =>
    bif decide (k29 < (List.length e21.letters : Int)) then
    (sub e21.letters k29 (w64 (k29 + 1))).bind fun s31 =>
    (s_l02PutLetter N out28 s31).bind fun r33 =>
    s_l18Known_l2 kj14 e21 N r33 (w64 (k29 + 1))
    else
    kj14 out28

def s_l18Known_l1 (kj8 : Str → Option Str) (list1 : List Lesson) (taken4 : List Int) : Nat → Str → Int → Option Str
  | 0, _, _ => none
  | N + 1, out10, i11 =>
    bif decide (i11 < (List.length taken4 : Int)) then
    withK (fun (out13 : Str) =>
    s_l18Known_l1 kj8 list1 taken4 N out13 (w64 (i11 + 1))) fun (kj14 : Str → Option Str) =>
    (idx taken4 i11).bind fun e16 =>
    (idx list1 e16).bind fun e21 =>
    s_l18Known_l2 kj14 e21 N out10 0
    else
    kj8 out10

def s_l18Known (N : Nat) (list1 : List Lesson) (taken4 : List Int) : Option Str :=
  withK (fun (out7 : Str) =>
  some out7) fun (kj8 : Str → Option Str) =>
  s_l18Known_l1 kj8 list1 taken4 N [] 0

def s_KnownAfter (N : Nat) (list1 : List Lesson) (taken4 : List Int) : Option (Str × Int) :=
  (s_l18Taken N list1 taken4).bind fun r7 =>
  bif (r7 != 0) then
  some ([], r7)
  else
  (s_l18Known N list1 taken4).bind fun r10 =>
  some (r10, 0)

def i_hours_l1 (kj8 : Int → Option Int) (list1 : List Lesson) (some4 : List Int) : Nat → Int → Int → Option Int
  | 0, _, _ => none
  | N + 1, sum10, x11 =>
    bif decide (x11 < (List.length some4 : Int)) then
    (idx some4 x11).bind fun e13 =>
    (idx list1 e13).bind fun e18 =>
    i_hours_l1 kj8 list1 some4 N (w64 (sum10 + e18.hours)) (w64 (x11 + 1))
    else
    kj8 sum10

def i_hours (N : Nat) (list1 : List Lesson) (some4 : List Int) : Option Int :=
  withK (fun (sum7 : Int) =>
  some sum7) fun (kj8 : Int → Option Int) =>
  i_hours_l1 kj8 list1 some4 N 0 0

def i_HoursOfLessons (N : Nat) (list1 : List Lesson) (some4 : List Int) : Option (Int × Int) :=
  (i_takenCode N list1 some4).bind fun r7 =>
  bif (r7 != 0) then
  some (0, r7)
  else
  (i_hours N list1 some4).bind fun r10 =>
  some (r10, 0)

def s_l18Hours_l1 (kj8 : Int → Option Int) (list1 : List Lesson) (some4 : List Int) : Nat → Int → Int → Option Int
  | 0, _, _ => none
  | N + 1, sum10, i11 =>
    bif decide (i11 < (List.length some4 : Int)) then
    (idx some4 i11).bind fun e13 =>
    (idx list1 e13).bind fun e18 =>
    s_l18Hours_l1 kj8 list1 some4 N (w64 (sum10 + e18.hours)) (w64 (i11 + 1))
    else
    kj8 sum10

def s_l18Hours (N : Nat) (list1 : List Lesson) (some4 : List Int) : Option Int :=
  withK (fun (sum7 : Int) =>
  some sum7) fun (kj8 : Int → Option Int) =>
  s_l18Hours_l1 kj8 list1 some4 N 0 0

def s_HoursOfLessons (N : Nat) (list1 : List Lesson) (some4 : List Int) : Option (Int × Int) :=
  (s_l18Taken N list1 some4).bind fun r7 =>
  bif (r7 != 0) then
  some (0, r7)
  else
  (s_l18Hours N list1 some4).bind fun r10 =>
  some (r10, 0)

def s_DrawSameLessons_l1 (kj15 : (List Lesson) → Option ((List Lesson) × (List Lesson))) (r7 : (List Lesson) × L00Src) : Nat → (List Lesson) → Int → Option ((List Lesson) × (List Lesson))
  | 0, _, _ => none
  | N + 1, l17, i20 =>
    bif decide (i20 < (List.length r7.1 : Int)) then
    (idx r7.1 i20).bind fun e24 =>
    (idx r7.1 i20).bind fun e29 =>
    (idx r7.1 i20).bind fun e34 =>
    (s_l00Own e34.needs).bind fun r39 =>
    (idx r7.1 i20).bind fun e42 =>
    (app l17 ([(Lesson.mk e24.name e29.letters r39 e42.hours)] : List Lesson)).bind fun l52 =>
    s_DrawSameLessons_l1 kj15 r7 N l52 (w64 (i20 + 1))
    else
    kj15 l17

def s_DrawSameLessons (N : Nat) (code1 : List UInt8) : Option ((List Lesson) × (List Lesson)) :=
  (s_l00From code1).bind fun r4 =>
  (s_l18Draw N (L00Src.mk code1 r4.at_ r4.seed)).bind fun r7 =>
  withK (fun (l12 : List Lesson) =>
  withK (fun (l55 : List Lesson) (x56 : Int) (x57 : Int) =>
  withK (fun (l97 : List Lesson) =>
  some (r7.1, l97)) fun (kj100 : (List Lesson) → Option ((List Lesson) × (List Lesson))) =>
  (s_l00Src_one (L00Src.mk code1 x56 x57) 5).bind fun r102 =>
  bif r102.1 then
  (app l55 ([(Lesson.mk [] [] ([] : List Int) 0)] : List Lesson)).bind fun l109 =>
  kj100 l109
  else
  kj100 l55) fun (kj59 : (List Lesson) → Int → Int → Option ((List Lesson) × (List Lesson))) =>
  bif decide ((List.length l12 : Int) > 0) then
  (s_l00Src_pick (L00Src.mk code1 r7.2.at_ r7.2.seed) 4).bind fun r62 =>
  bif (r62.1 == 0) then
  (idx l12 0).bind fun e67 =>
  (app e67.needs [1]).bind fun l73 =>
  (idx l12 0).bind fun e76 =>
  kj59 (List.set l12 (Int.toNat 0) (Lesson.mk e76.name e76.letters l73 e76.hours)) r62.2.at_ r62.2.seed
  else
  bif (r62.1 == 1) then
  (idx l12 0).bind fun e85 =>
  (cat e85.letters [122]).bind fun s90 =>
  (idx l12 0).bind fun e92 =>
  kj59 (List.set l12 (Int.toNat 0) (Lesson.mk e92.name s90 e92.needs e92.hours)) r62.2.at_ r62.2.seed
  else
  kj59 l12 r62.2.at_ r62.2.seed
  else
  kj59 l12 r7.2.at_ r7.2.seed) fun (kj15 : (List Lesson) → Option ((List Lesson) × (List Lesson))) =>
  s_DrawSameLessons_l1 kj15 r7 N ([] : List Lesson) 0

def s_DrawLessonText (N : Nat) (code1 : List UInt8) : Option ((List Lesson) × Int) :=
  (s_l00From code1).bind fun r4 =>
  (s_l18Bent N (L00Src.mk code1 r4.at_ r4.seed)).bind fun r7 =>
  (s_l00Src_pick (L00Src.mk code1 r7.2.at_ r7.2.seed) (w64 ((List.length r7.1 : Int) + 1))).bind fun r11 =>
  (s_l00Src_pick (L00Src.mk code1 r11.2.at_ r11.2.seed) 16).bind fun r13 =>
  some (r7.1, w64 (r11.1 - (w64 (Int.tdiv r13.1 15))))

def w_f6ints_l1 (kj8 : Option Bool) (a1 : List Int) (b4 : List Int) : Nat → Int → Option Bool
  | 0, _ => none
  | N + 1, i10 =>
    bif decide (i10 < (List.length a1 : Int)) then
    (idx a1 i10).bind fun e12 =>
    (idx b4 i10).bind fun e17 =>
    bif (e12 != e17) then
    some false
    else
    w_f6ints_l1 kj8 a1 b4 N (w64 (i10 + 1))
    else
    kj8 

def w_f6ints (N : Nat) (a1 : List Int) (b4 : List Int) : Option Bool :=
  bif ((List.length a1 : Int) != (List.length b4 : Int)) then
  some false
  else
  withK (some true) fun (kj8 : Option Bool) =>
  w_f6ints_l1 kj8 a1 b4 N 0

def i_sameNumbers_l1 (kj8 : Option Bool) (a1 : List Int) (b4 : List Int) : Nat → Int → Option Bool
  | 0, _ => none
  | N + 1, x10 =>
    bif decide (x10 < (List.length a1 : Int)) then
    (idx a1 x10).bind fun e12 =>
    (idx b4 x10).bind fun e17 =>
    bif (e12 != e17) then
    some false
    else
    i_sameNumbers_l1 kj8 a1 b4 N (w64 (x10 + 1))
    else
    kj8 

def i_sameNumbers (N : Nat) (a1 : List Int) (b4 : List Int) : Option Bool :=
  bif ((List.length a1 : Int) != (List.length b4 : Int)) then
  some false
  else
  withK (some true) fun (kj8 : Option Bool) =>
  i_sameNumbers_l1 kj8 a1 b4 N 0

def i_SameLessons_l1 (kj8 : Option Bool) (a1 : List Lesson) (b4 : List Lesson) : Nat → Int → Option Bool
  | 0, _ => none
  | N + 1, x10 =>
    bif decide (x10 < (List.length a1 : Int)) then
    (idx a1 x10).bind fun e12 =>
    (idx b4 x10).bind fun e21 =>
    (orO (e12.name != e21.name) (some (e12.letters != e21.letters))).bind fun t30 =>
    (orO t30 (some (e12.hours != e21.hours))).bind fun t33 =>
    (orO t33 ((i_sameNumbers N e12.needs e21.needs).bind fun r39 =>
    some (!r39))).bind fun t36 =>
    bif t36 then
    some false
    else
    i_SameLessons_l1 kj8 a1 b4 N (w64 (x10 + 1))
    else
    kj8 

def i_SameLessons (N : Nat) (a1 : List Lesson) (b4 : List Lesson) : Option Bool :=
  bif ((List.length a1 : Int) != (List.length b4 : Int)) then
  some false
  else
  withK (some true) fun (kj8 : Option Bool) =>
  i_SameLessons_l1 kj8 a1 b4 N 0

def s_l00Same_l1 (kj8 : Option Bool) (a1 : List Int) (b4 : List Int) : Nat → Int → Option Bool
  | 0, _ => none
  | N + 1, i10 =>
    bif decide (i10 < (List.length a1 : Int)) then
    (idx a1 i10).bind fun e12 =>
    (idx b4 i10).bind fun e17 =>
    bif (e12 != e17) then
    some false
    else
    s_l00Same_l1 kj8 a1 b4 N (w64 (i10 + 1))
    else
    kj8 

def s_l00Same (N : Nat) (a1 : List Int) (b4 : List Int) : Option Bool :=
  bif ((List.length a1 : Int) != (List.length b4 : Int)) then
  some false
  else
  withK (some true) fun (kj8 : Option Bool) =>
  s_l00Same_l1 kj8 a1 b4 N 0

def s_SameLessons_l1 (kj8 : Option Bool) (a1 : List Lesson) (b4 : List Lesson) : Nat → Int → Option Bool
  | 0, _ => none
  | N + 1, i10 =>
    bif decide (i10 < (List.length a1 : Int)) then
    (idx a1 i10).bind fun e12 =>
    (idx b4 i10).bind fun e19 =>
    (orO (e12.name != e19.name) ((idx a1 i10).bind fun e29 =>
    (idx b4 i10).bind fun e36 =>
    some (e29.letters != e36.letters))).bind fun t26 =>
    (orO t26 ((idx a1 i10).bind fun e46 =>
    (idx b4 i10).bind fun e53 =>
    (s_l00Same N e46.needs e53.needs).bind fun r60 =>
    some (!r60))).bind fun t43 =>
    (orO t43 ((idx a1 i10).bind fun e65 =>
    (idx b4 i10).bind fun e72 =>
    some (e65.hours != e72.hours))).bind fun t62 =>
    bif t62 then
    some false
    else
    s_SameLessons_l1 kj8 a1 b4 N (w64 (i10 + 1))
    else
    kj8 

def s_SameLessons (N : Nat) (a1 : List Lesson) (b4 : List Lesson) : Option Bool :=
  bif ((List.length a1 : Int) != (List.length b4 : Int)) then
  some false
  else
  withK (some true) fun (kj8 : Option Bool) =>
  s_SameLessons_l1 kj8 a1 b4 N 0

def i_Decimal (n1 : Int) : Option Str :=
  (fmtI n1 10).bind fun r2 =>
  some r2

def i_LessonText_l1 (kj37 : (List Str) → Option Str) (list1 : List Lesson) (e13 : Lesson) : Nat → (List Str) → Int → Option Str
  | 0, _, _ => none
  | N + 1, l39, x41 =>
    bif decide (x41 < (List.length e13.needs : Int)) then
    (idx e13.needs x41).bind fun e43 =>
    (idx list1 e43).bind fun e48 =>
    (app l39 [e48.name]).bind fun l56 =>
    i_LessonText_l1 kj37 list1 e13 N l56 (w64 (x41 + 1))
    else
    kj37 l39

def i_LessonText (N : Nat) (list1 : List Lesson) (k4 : Int) : Option Str :=
  (i_ValidLessons N list1).bind fun r5 =>
  (orO (!r5) ((i_between k4 0 (w64 ((List.length list1 : Int) - 1))).bind fun r10 =>
  some (!r10))).bind fun t7 =>
  bif t7 then
  some []
  else
  (idx list1 k4).bind fun e13 =>
  (cat e13.name [32]).bind fun s22 =>
  (i_Decimal e13.hours).bind fun r24 =>
  (cat s22 r24).bind fun s26 =>
  (cat s26 [104, 32, 91]).bind fun s28 =>
  (cat s28 e13.letters).bind fun s30 =>
  (cat s30 [93]).bind fun s32 =>
  withK (fun (l35 : List Str) =>
  withK (fun (out59 : Str) =>
  some out59) fun (kj60 : Str → Option Str) =>
  bif decide ((List.length l35 : Int) > 0) then
  (joinO l35 [44]).bind fun r63 =>
  (cat [32, 97, 102, 116, 101, 114, 32] r63).bind fun s65 =>
  (cat s32 s65).bind fun s67 =>
  kj60 s67
  else
  kj60 s32) fun (kj37 : (List Str) → Option Str) =>
  i_LessonText_l1 kj37 list1 e13 N [] 0

def s_l01Dec_l1 (kj5 : (List UInt8) → Option Str) : Nat → (List UInt8) → Int → Option Str
  | 0, _, _ => none
  | N + 1, l7, k9 =>
    bif (k9 != 0) then
    withK (fun (d11 : Int) =>
    (app [UInt8.ofInt (w64 (48 + d11))] l7).bind fun l16 =>
    s_l01Dec_l1 kj5 N l16 (w64 (Int.tdiv k9 10))) fun (kj12 : Int → Option Str) =>
    bif decide ((Int.tmod k9 10) < 0) then
    kj12 (w64 (0 - (Int.tmod k9 10)))
    else
    kj12 (Int.tmod k9 10)
    else
    kj5 l7

def s_l01Dec (N : Nat) (n1 : Int) : Option Str :=
  withK (fun (l3 : List UInt8) =>
  bif ((List.length l3 : Int) == 0) then
  some [48]
  else
  bif decide (n1 < 0) then
  (cat [45] l3).bind fun s21 =>
  some s21
  else
  some l3) fun (kj5 : (List UInt8) → Option Str) =>
  s_l01Dec_l1 kj5 N [] n1

def s_LessonText_l1 (kj33 : Str → Option Str) (list1 : List Lesson) (e13 : Lesson) : Nat → Str → Int → Option Str
  | 0, _, _ => none
  | N + 1, out35, i36 =>
    bif decide (i36 < (List.length e13.needs : Int)) then
    withK (fun (out38 : Str) =>
    (idx e13.needs i36).bind fun e46 =>
    (idx list1 e46).bind fun e51 =>
    (cat out38 e51.name).bind fun s58 =>
    s_LessonText_l1 kj33 list1 e13 N s58 (w64 (i36 + 1))) fun (kj39 : Str → Option Str) =>
    bif (i36 == 0) then
    (cat out35 [32, 97, 102, 116, 101, 114, 32]).bind fun s42 =>
    kj39 s42
    else
    (cat out35 [44]).bind fun s44 =>
    kj39 s44
    else
    kj33 out35

def s_LessonText (N : Nat) (list1 : List Lesson) (k4 : Int) : Option Str :=
  (s_l18Ok N list1).bind fun r5 =>
  (orO (!r5) ((s_l00In k4 0 (w64 ((List.length list1 : Int) - 1))).bind fun r10 =>
  some (!r10))).bind fun t7 =>
  bif t7 then
  some []
  else
  (idx list1 k4).bind fun e13 =>
  (cat e13.name [32]).bind fun s20 =>
  (s_l01Dec N e13.hours).bind fun r22 =>
  (cat s20 r22).bind fun s24 =>
  (cat s24 [104, 32, 91]).bind fun s26 =>
  (cat s26 e13.letters).bind fun s28 =>
  (cat s28 [93]).bind fun s30 =>
  withK (fun (out32 : Str) =>
  some out32) fun (kj33 : Str → Option Str) =>
  s_LessonText_l1 kj33 list1 e13 N s30 0

def s_ValidLessons (N : Nat) (list1 : List Lesson) : Option Bool :=
  (s_l18Ok N list1).bind fun r4 =>
  some r4

def w_f6has_l1 (kj5 : Option Bool) (list1 : List Int) (n4 : Int) : Nat → Int → Option Bool
  | 0, _ => none
  | N + 1, i7 =>
    bif decide (i7 < (List.length list1 : Int)) then
    (idx list1 i7).bind fun e9 =>
    bif (e9 == n4) then
    some true
    else
    w_f6has_l1 kj5 list1 n4 N (w64 (i7 + 1))
    else
    kj5 

def w_f6has (N : Nat) (list1 : List Int) (n4 : Int) : Option Bool :=
  withK (some false) fun (kj5 : Option Bool) =>
  w_f6has_l1 kj5 list1 n4 N 0

def w_FnLessonOrders_l2 (kj108 : Option Bool) (r21 : (List Lesson) × (List Int)) (r29 : (List Int) × Int) (i106 : Int) : Nat → Int → Option Bool
  | 0, _ => none
  | N + 1, j115 =>
    (idx r29.1 i106).bind fun e118 =>
    (idx r21.1 e118).bind fun e120 =>
    bif decide (j115 < (List.length e120.needs : Int)) then
    (idx r29.1 i106).bind fun e128 =>
    (idx r21.1 e128).bind fun e130 =>
    (idx e130.needs j115).bind fun e135 =>
    (w_f6has N r21.2 e135).bind fun r137 =>
    bif !r137 then
    some false
    else
    w_FnLessonOrders_l2 kj108 r21 r29 i106 N (w64 (j115 + 1))
    else
    kj108 

def w_FnLessonOrders_l1 (kj103 : Option Bool) (r21 : (List Lesson) × (List Int)) (r29 : (List Int) × Int) : Nat → Int → Option Bool
  | 0, _ => none
  | N + 1, i106 =>
    bif decide (i106 < (List.length r29.1 : Int)) then
    withK (w_FnLessonOrders_l1 kj103 r21 r29 N (w64 (i106 + 1))) fun (kj108 : Option Bool) =>
    (idx r29.1 i106).bind fun e110 =>
    (w_f6has N r21.2 e110).bind fun r112 =>
    bif r112 then
    some false
    else
    w_FnLessonOrders_l2 kj108 r21 r29 i106 N 0
    else
    kj103 

def w_FnLessonOrders_l4 (kj149 : Option Bool) (r7 : (List Lesson)) (r14 : (List Int) × Int) (i147 : Int) : Nat → Int → Option Bool
  | 0, _ => none
  | N + 1, j158 =>
    (idx r14.1 i147).bind fun e160 =>
    (idx r7 e160).bind fun e162 =>
    bif decide (j158 < (List.length e162.needs : Int)) then
    (sub r14.1 0 i147).bind fun l169 =>
    (idx r14.1 i147).bind fun e171 =>
    (idx r7 e171).bind fun e173 =>
    (idx e173.needs j158).bind fun e178 =>
    (w_f6has N l169 e178).bind fun r180 =>
    bif !r180 then
    some false
    else
    w_FnLessonOrders_l4 kj149 r7 r14 i147 N (w64 (j158 + 1))
    else
    kj149 

def w_FnLessonOrders_l3 (kj145 : Option Bool) (r7 : (List Lesson)) (r14 : (List Int) × Int) : Nat → Int → Option Bool
  | 0, _ => none
  | N + 1, i147 =>
    bif decide (i147 < (List.length r14.1 : Int)) then
    withK (w_FnLessonOrders_l3 kj145 r7 r14 N (w64 (i147 + 1))) fun (kj149 : Option Bool) =>
    (sub r14.1 0 i147).bind fun l151 =>
    (idx r14.1 i147).bind fun e153 =>
    (w_f6has N l151 e153).bind fun r155 =>
    bif r155 then
    some false
    else
    w_FnLessonOrders_l4 kj149 r7 r14 i147 N 0
    else
    kj145 

def w_FnLessonOrders (N : Nat) (code1 : List UInt8) : Option Bool :=
  (w_f6big code1).bind fun r4 =>
  bif r4 then
  some true
  else
  (s_DrawLessonOrder N code1).bind fun r7 =>
  (i_LessonOrder N r7).bind fun r11 =>
  (s_LessonOrder N r7).bind fun r14 =>
  (i_LessonCircle N r7).bind fun r17 =>
  (s_LessonCircle N r7).bind fun r19 =>
  (s_DrawNextLessons N code1).bind fun r21 =>
  (i_NextLessons N r21.1 r21.2).bind fun r26 =>
  (s_NextLessons N r21.1 r21.2).bind fun r29 =>
  (i_KnownAfter N r21.1 r21.2).bind fun r32 =>
  (s_KnownAfter N r21.1 r21.2).bind fun r34 =>
  (i_HoursOfLessons N r21.1 r21.2).bind fun r36 =>
  (s_HoursOfLessons N r21.1 r21.2).bind fun r38 =>
  (s_DrawSameLessons N code1).bind fun r40 =>
  (s_DrawLessonText N code1).bind fun r46 =>
  (orO (r11.2 != r14.2) ((w_f6ints N r11.1 r14.1).bind fun r53 =>
  some (!r53))).bind fun t50 =>
  (orO t50 (some (r17.2 != r19.2))).bind fun t55 =>
  (orO t55 (some (r17.1 != r19.1))).bind fun t58 =>
  (orO t58 (some (r26.2 != r29.2))).bind fun t61 =>
  (orO t61 ((w_f6ints N r26.1 r29.1).bind fun r67 =>
  some (!r67))).bind fun t64 =>
  (orO t64 (some (r32.2 != r34.2))).bind fun t69 =>
  (orO t69 (some (r32.1 != r34.1))).bind fun t72 =>
  (orO t72 (some (r36.2 != r38.2))).bind fun t75 =>
  (orO t75 (some (r36.1 != r38.1))).bind fun t78 =>
  (orO t78 ((i_SameLessons N r40.1 r40.2).bind fun r84 =>
  (s_SameLessons N r40.1 r40.2).bind fun r86 =>
  some (r84 != r86))).bind fun t81 =>
  (orO t81 ((i_LessonText N r46.1 r46.2).bind fun r91 =>
  (s_LessonText N r46.1 r46.2).bind fun r93 =>
  some (r91 != r93))).bind fun t88 =>
  (orO t88 ((i_ValidLessons N r7).bind fun r98 =>
  (s_ValidLessons N r7).bind fun r100 =>
  some (r98 != r100))).bind fun t95 =>
  bif t95 then
  some false
  else
  withK ((andO (r17.2 == 0) (some ((decide (r17.1 ≥ 0)) != (r11.2 == 9)))).bind fun t140 =>
  bif t140 then
  some false
  else
  bif (r11.2 != 0) then
  some true
  else
  withK (some ((List.length r14.1 : Int) == (List.length r7 : Int))) fun (kj145 : Option Bool) =>
  w_FnLessonOrders_l3 kj145 r7 r14 N 0) fun (kj103 : Option Bool) =>
  bif (r26.2 == 0) then
  w_FnLessonOrders_l1 kj103 r21 r29 N 0
  else
  kj103 

end Go.Proofs.YtbgngihmpdneaaaDoor
