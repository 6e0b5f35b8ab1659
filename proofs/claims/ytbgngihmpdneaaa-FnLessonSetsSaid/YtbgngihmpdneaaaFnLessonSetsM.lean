/-
  Plain functions that compute what the Go functions compute. No conditions.
-/
import Derived.Test.YtbgngihmpdneaaaBase2
namespace Go.Proofs.Ytbgngihmpdneaaa
set_option linter.unusedVariables false
set_option linter.unusedSimpArgs false

structure Lesson where
  name : Str
  letters : Str
  needs : List Int
  hours : Int

structure L00Src where
  code : List UInt8
  at_ : Int
  seed : Int



def w_f6big (code1 : List UInt8) : Option Bool :=
  some (decide ((List.length code1 : Int) > 4096))

def s_l00From (code1 : List UInt8) : Option L00Src :=
  some (L00Src.mk code1 0 0)

def s_l00Src_next (s1 : L00Src) : Option (Int × L00Src) :=
  withK (fun (b5 : Int) =>
  bif decide ((w64 (s1.at_ + 1)) ≤ (List.length s1.code : Int)) then
  some (b5, (L00Src.mk s1.code (w64 (s1.at_ + 1)) (IntKind.u64.wrap ((IntKind.u64.wrap ((IntKind.u64.wrap (s1.seed * 6364136223846793005)) + (IntKind.u64.wrap b5))) + 1442695040888963407))))
  else
  some (w64 (uand (ushr (IntKind.u64.wrap ((IntKind.u64.wrap ((IntKind.u64.wrap (s1.seed * 6364136223846793005)) + (IntKind.u64.wrap b5))) + 1442695040888963407)) 40) 255), (L00Src.mk s1.code (w64 (s1.at_ + 1)) (IntKind.u64.wrap ((IntKind.u64.wrap ((IntKind.u64.wrap (s1.seed * 6364136223846793005)) + (IntKind.u64.wrap b5))) + 1442695040888963407))))) fun (kj6 : Int → Option (Int × L00Src)) =>
  bif decide (s1.at_ < (List.length s1.code : Int)) then
  (idx s1.code s1.at_).bind fun e9 =>
  kj6 (UInt8.toNat e9 : Int)
  else
  kj6 0

def s_l00Src_pick (s1 : L00Src) (n5 : Int) : Option (Int × L00Src) :=
  bif decide (n5 ≤ 1) then
  some (0, (L00Src.mk s1.code s1.at_ s1.seed))
  else
  (s_l00Src_next (L00Src.mk s1.code s1.at_ s1.seed)).bind fun r7 =>
  withK (fun (x9 : Int) (x10 : Int) (x11 : Int) =>
  (remO x11 n5).bind fun q17 =>
  some (q17, (L00Src.mk s1.code x9 x10))) fun (kj12 : Int → Int → Int → Option (Int × L00Src)) =>
  bif decide (n5 > 200) then
  (s_l00Src_next (L00Src.mk s1.code r7.2.at_ r7.2.seed)).bind fun r15 =>
  kj12 r15.2.at_ r15.2.seed (w64 ((w64 (r7.1 * 256)) + r15.1))
  else
  kj12 r7.2.at_ r7.2.seed r7.1

def s_l00Src_text (s1 : L00Src) (list5 : List Str) : Option (Str × L00Src) :=
  (s_l00Src_pick (L00Src.mk s1.code s1.at_ s1.seed) (List.length list5 : Int)).bind fun r8 =>
  (idx list5 r8.1).bind fun e10 =>
  some (e10, (L00Src.mk s1.code r8.2.at_ r8.2.seed))

def s_l02PutLetter_l1 (kj4 : Int → Option Str) (list1 : Str) (letter2 : Str) : Nat → Int → Option Str
  | 0, _ => none
  | N + 1, k6 =>
    (andO (decide (k6 < (List.length list1 : Int))) ((idx list1 k6).bind fun c10 =>
    (idx letter2 0).bind fun c12 =>
    some (decide (c10 < c12)))).bind fun t7 =>
    bif t7 then
    s_l02PutLetter_l1 kj4 list1 letter2 N (w64 (k6 + 1))
    else
    kj4 k6

def s_l02PutLetter (N : Nat) (list1 : Str) (letter2 : Str) : Option Str :=
  withK (fun (k3 : Int) =>
  (andO (decide (k3 < (List.length list1 : Int))) ((idx list1 k3).bind fun c18 =>
  (idx letter2 0).bind fun c20 =>
  some (c18 == c20))).bind fun t15 =>
  bif t15 then
  some list1
  else
  (sub list1 0 k3).bind fun s23 =>
  (cat s23 letter2).bind fun s25 =>
  (sub list1 k3 (List.length list1 : Int)).bind fun s27 =>
  (cat s25 s27).bind fun s29 =>
  some s29) fun (kj4 : Int → Option Str) =>
  s_l02PutLetter_l1 kj4 list1 letter2 N 0

def s_l00Src_one (s1 : L00Src) (n5 : Int) : Option (Bool × L00Src) :=
  (s_l00Src_pick (L00Src.mk s1.code s1.at_ s1.seed) n5).bind fun r6 =>
  some ((r6.1 == 0), (L00Src.mk s1.code r6.2.at_ r6.2.seed))

def s_l18Draw_l2 (kj44 : Int → Int → Str → Str → Int → Option ((List Lesson) × L00Src)) (s1 : L00Src) : Nat → Int → Int → Str → Str → Int → Int → Option ((List Lesson) × L00Src)
  | 0, _, _, _, _, _, _ => none
  | N + 1, x48, x49, x50, x51, x52, k53 =>
    bif decide (k53 > 0) then
    (s_l00Src_text (L00Src.mk s1.code x48 x49) ([[97], [115], [100], [102], [103], [104], [49]] : List Str)).bind fun r56 =>
    (s_l02PutLetter N x51 r56.1).bind fun r58 =>
    s_l18Draw_l2 kj44 s1 N r56.2.at_ r56.2.seed x50 r58 x52 (w64 (k53 - 1))
    else
    kj44 x48 x49 x50 x51 x52

def s_l18Draw_l3 (kj68 : Int → Int → Str → Str → Int → (List Int) → Option ((List Lesson) × L00Src)) (s1 : L00Src) (r7 : Int × L00Src) (i21 : Int) : Nat → Int → Int → Str → Str → Int → (List Int) → Int → Option ((List Lesson) × L00Src)
  | 0, _, _, _, _, _, _, _ => none
  | N + 1, x70, x71, x72, x73, x74, l75, k77 =>
    bif decide (k77 < r7.1) then
    withK (fun (x79 : Int) (x80 : Int) (x81 : Str) (x82 : Str) (x83 : Int) (l84 : List Int) =>
    s_l18Draw_l3 kj68 s1 r7 i21 N x79 x80 x81 x82 x83 l84 (w64 (k77 + 1))) fun (kj86 : Int → Int → Str → Str → Int → (List Int) → Option ((List Lesson) × L00Src)) =>
    (bif decide (k77 < i21) then (s_l00Src_one (L00Src.mk s1.code x70 x71) 3).bind fun r92 =>
    some (r92.1, (L00Src.mk s1.code r92.2.at_ r92.2.seed)) else some (false, (L00Src.mk s1.code x70 x71))).bind fun x90 =>
    (bif x90.1 then some (true, (L00Src.mk s1.code x90.2.at_ x90.2.seed)) else (bif decide (k77 > i21) then (s_l00Src_one (L00Src.mk s1.code x90.2.at_ x90.2.seed) 30).bind fun r102 =>
    some (r102.1, (L00Src.mk s1.code r102.2.at_ r102.2.seed)) else some (false, (L00Src.mk s1.code x90.2.at_ x90.2.seed))).bind fun x100 =>
    some (x100.1, (L00Src.mk s1.code x100.2.at_ x100.2.seed))).bind fun x96 =>
    bif x96.1 then
    (app l75 [k77]).bind fun l106 =>
    kj86 x96.2.at_ x96.2.seed x72 x73 x74 l106
    else
    kj86 x96.2.at_ x96.2.seed x72 x73 x74 l75
    else
    kj68 x70 x71 x72 x73 x74 l75

def s_l18Draw_l1 (kj14 : Int → Int → (List Lesson) → Option ((List Lesson) × L00Src)) (s1 : L00Src) (r7 : Int × L00Src) : Nat → Int → Int → (List Lesson) → Int → Option ((List Lesson) × L00Src)
  | 0, _, _, _, _ => none
  | N + 1, x16, x17, l18, i21 =>
    bif decide (i21 < r7.1) then
    withK (fun (l23 : List Lesson) (x24 : Int) (x25 : Int) =>
    s_l18Draw_l1 kj14 s1 r7 N x24 x25 l23 (w64 (i21 + 1))) fun (kj28 : (List Lesson) → Int → Int → Option ((List Lesson) × L00Src)) =>
    (idx ([[104, 111, 109, 101], [117, 112, 112, 101, 114], [108, 111, 119, 101, 114], [100, 105, 103, 105, 116, 115], [115, 105, 103, 110, 115], [115, 112, 101, 101, 100], [108, 97, 115, 116, 45, 49]] : List Str) i21).bind fun e30 =>
    (s_l00Src_pick (L00Src.mk s1.code x16 x17) 12).bind fun r33 =>
    withK (fun (x39 : Int) (x40 : Int) (x41 : Str) (x42 : Str) (x43 : Int) =>
    withK (fun (x61 : Int) (x62 : Int) (x63 : Str) (x64 : Str) (x65 : Int) (l66 : List Int) =>
    (app l18 ([(Lesson.mk x63 x64 l66 x65)] : List Lesson)).bind fun l114 =>
    kj28 l114 x61 x62) fun (kj68 : Int → Int → Str → Str → Int → (List Int) → Option ((List Lesson) × L00Src)) =>
    s_l18Draw_l3 kj68 s1 r7 i21 N x39 x40 x41 x42 x43 [] 0) fun (kj44 : Int → Int → Str → Str → Int → Option ((List Lesson) × L00Src)) =>
    (s_l00Src_pick (L00Src.mk s1.code r33.2.at_ r33.2.seed) 5).bind fun r46 =>
    s_l18Draw_l2 kj44 s1 N r46.2.at_ r46.2.seed e30 [] r33.1 r46.1
    else
    kj14 x16 x17 l18

def s_l18Draw (N : Nat) (s1 : L00Src) : Option ((List Lesson) × L00Src) :=
  (s_l00Src_pick (L00Src.mk s1.code s1.at_ s1.seed) 7).bind fun r7 =>
  withK (fun (x9 : Int) (x10 : Int) (l11 : List Lesson) =>
  some (l11, (L00Src.mk s1.code x9 x10))) fun (kj14 : Int → Int → (List Lesson) → Option ((List Lesson) × L00Src)) =>
  s_l18Draw_l1 kj14 s1 r7 N r7.2.at_ r7.2.seed ([] : List Lesson) 0

def s_l00Src_among (s1 : L00Src) (list5 : List Int) : Option (Int × L00Src) :=
  (s_l00Src_pick (L00Src.mk s1.code s1.at_ s1.seed) (List.length list5 : Int)).bind fun r8 =>
  (idx list5 r8.1).bind fun e10 =>
  some (e10, (L00Src.mk s1.code r8.2.at_ r8.2.seed))

def s_l18Bent_l1 (kj14 : Int → Int → (List Lesson) → Option ((List Lesson) × L00Src)) (r20 : Int × L00Src) : Nat → (List Lesson) → Int → Option ((List Lesson) × L00Src)
  | 0, _, _ => none
  | N + 1, l22, k25 =>
    bif decide (k25 > 0) then
    (cat [108] [(97 : UInt8) + (UInt8.ofInt (List.length l22 : Int))]).bind fun s28 =>
    (app l22 ([(Lesson.mk s28 [97] ([] : List Int) k25)] : List Lesson)).bind fun l34 =>
    s_l18Bent_l1 kj14 r20 N l34 (w64 (k25 - 1))
    else
    kj14 r20.2.at_ r20.2.seed l22

def s_l18Bent (N : Nat) (s1 : L00Src) : Option ((List Lesson) × L00Src) :=
  (s_l18Draw N (L00Src.mk s1.code s1.at_ s1.seed)).bind fun r5 =>
  withK (fun (x9 : Int) (x10 : Int) (l11 : List Lesson) =>
  bif ((List.length l11 : Int) == 0) then
  some (l11, (L00Src.mk s1.code x9 x10))
  else
  (s_l00Src_pick (L00Src.mk s1.code x9 x10) (List.length l11 : Int)).bind fun r39 =>
  (idx l11 r39.1).bind fun e41 =>
  withK (fun (x46 : Int) (x47 : Int) (l48 : List Lesson) =>
  some (l48, (L00Src.mk s1.code x46 x47))) fun (kj50 : Int → Int → (List Lesson) → Option ((List Lesson) × L00Src)) =>
  (s_l00Src_pick (L00Src.mk s1.code r39.2.at_ r39.2.seed) 24).bind fun r52 =>
  bif (r52.1 == 0) then
  (s_l00Src_text (L00Src.mk s1.code r52.2.at_ r52.2.seed) ([[], [72, 111, 109, 101], [104, 111, 109, 101]] : List Str)).bind fun r56 =>
  kj50 r56.2.at_ r56.2.seed (List.set l11 (Int.toNat r39.1) (Lesson.mk r56.1 e41.letters e41.needs e41.hours))
  else
  bif (r52.1 == 1) then
  (s_l00Src_text (L00Src.mk s1.code r52.2.at_ r52.2.seed) ([[98, 97], [97, 97], [97, 32, 98], [127]] : List Str)).bind fun r60 =>
  kj50 r60.2.at_ r60.2.seed (List.set l11 (Int.toNat r39.1) (Lesson.mk e41.name r60.1 e41.needs e41.hours))
  else
  bif (r52.1 == 2) then
  (s_l00Src_among (L00Src.mk s1.code r52.2.at_ r52.2.seed) [(-1), w64 ((List.length l11 : Int) - 1), (List.length l11 : Int)]).bind fun r64 =>
  (app e41.needs [r64.1]).bind fun l67 =>
  kj50 r64.2.at_ r64.2.seed (List.set l11 (Int.toNat r39.1) (Lesson.mk e41.name e41.letters l67 e41.hours))
  else
  bif (r52.1 == 3) then
  (s_l00Src_among (L00Src.mk s1.code r52.2.at_ r52.2.seed) [(-1), 0, 100, 101, (-9223372036854775808)]).bind fun r75 =>
  kj50 r75.2.at_ r75.2.seed (List.set l11 (Int.toNat r39.1) (Lesson.mk e41.name e41.letters e41.needs r75.1))
  else
  kj50 r52.2.at_ r52.2.seed l11) fun (kj14 : Int → Int → (List Lesson) → Option ((List Lesson) × L00Src)) =>
  (s_l00Src_one (L00Src.mk s1.code r5.2.at_ r5.2.seed) 30).bind fun r16 =>
  bif r16.1 then
  (s_l00Src_pick (L00Src.mk s1.code r16.2.at_ r16.2.seed) 2).bind fun r20 =>
  s_l18Bent_l1 kj14 r20 N ([] : List Lesson) (w64 (12 + r20.1))
  else
  kj14 r16.2.at_ r16.2.seed r5.1

def s_l18DrawText_l1 (kj22 : Int → Int → (List UInt8) → Option (Str × L00Src)) (s1 : L00Src) : Nat → Int → Int → (List UInt8) → Int → Option (Str × L00Src)
  | 0, _, _, _, _ => none
  | N + 1, x24, x25, l26, k28 =>
    bif decide (k28 > 0) then
    (s_l00Src_pick (L00Src.mk s1.code x24 x25) 7).bind fun r30 =>
    (idx [97, 115, 100, 102, 103, 104, 32] r30.1).bind fun c32 =>
    (app l26 [c32]).bind fun l35 =>
    s_l18DrawText_l1 kj22 s1 N r30.2.at_ r30.2.seed l35 (w64 (k28 - 1))
    else
    kj22 x24 x25 l26

def s_l18DrawText (N : Nat) (s1 : L00Src) : Option (Str × L00Src) :=
  (s_l00Src_pick (L00Src.mk s1.code s1.at_ s1.seed) 7).bind fun r6 =>
  withK (fun (x8 : Int) (x9 : Int) (n10 : Int) =>
  withK (fun (x18 : Int) (x19 : Int) (l20 : List UInt8) =>
  withK (fun (x38 : Int) (x39 : Int) (l40 : List UInt8) =>
  some (l40, (L00Src.mk s1.code x38 x39))) fun (kj41 : Int → Int → (List UInt8) → Option (Str × L00Src)) =>
  (bif decide (n10 > 0) then (s_l00Src_one (L00Src.mk s1.code x18 x19) 16).bind fun r47 =>
  some (r47.1, (L00Src.mk s1.code r47.2.at_ r47.2.seed)) else some (false, (L00Src.mk s1.code x18 x19))).bind fun x45 =>
  bif x45.1 then
  (s_l00Src_pick (L00Src.mk s1.code x45.2.at_ x45.2.seed) 4).bind fun r50 =>
  (idx [49, 122, 126, 127] r50.1).bind fun c52 =>
  (idx l20 0).bind fun e54 =>
  kj41 r50.2.at_ r50.2.seed (List.set l20 (Int.toNat 0) c52)
  else
  kj41 x45.2.at_ x45.2.seed l20) fun (kj22 : Int → Int → (List UInt8) → Option (Str × L00Src)) =>
  s_l18DrawText_l1 kj22 s1 N x8 x9 [] n10) fun (kj11 : Int → Int → Int → Option (Str × L00Src)) =>
  (s_l00Src_one (L00Src.mk s1.code r6.2.at_ r6.2.seed) 24).bind fun r13 =>
  bif r13.1 then
  (s_l00Src_pick (L00Src.mk s1.code r13.2.at_ r13.2.seed) 2).bind fun r16 =>
  kj11 r16.2.at_ r16.2.seed (w64 (100 + r16.1))
  else
  kj11 r13.2.at_ r13.2.seed r6.1

def s_l18With (N : Nat) (code1 : List UInt8) : Option ((List Lesson) × Str) :=
  (s_l00From code1).bind fun r4 =>
  (s_l18Bent N (L00Src.mk code1 r4.at_ r4.seed)).bind fun r7 =>
  (s_l18DrawText N (L00Src.mk code1 r7.2.at_ r7.2.seed)).bind fun r11 =>
  some (r7.1, r11.1)

def s_DrawLessonsForText (N : Nat) (code1 : List UInt8) : Option ((List Lesson) × Str) :=
  (s_l18With N code1).bind fun r4 =>
  some (r4.1, r4.2)

def i_isDigit (b1 : UInt8) : Option Bool :=
  (andO (decide (b1 ≥ (48 : UInt8))) (some (decide (b1 ≤ (57 : UInt8))))).bind fun t2 =>
  some t2

def i_IsName_l1 (kj6 : Option Bool) (s1 : Str) : Nat → Int → Option Bool
  | 0, _ => none
  | N + 1, x8 =>
    bif decide (x8 < (List.length s1 : Int)) then
    (idx s1 x8).bind fun c10 =>
    (andO (decide (c10 ≥ (97 : UInt8))) ((idx s1 x8).bind fun c15 =>
    some (decide (c15 ≤ (122 : UInt8))))).bind fun t12 =>
    (andO (!t12) ((orO (x8 == 0) ((idx s1 x8).bind fun c23 =>
    (andO (c23 != (45 : UInt8)) ((idx s1 x8).bind fun c28 =>
    (i_isDigit c28).bind fun r30 =>
    some (!r30))).bind fun t25 =>
    some t25)).bind fun t20 =>
    some t20)).bind fun t17 =>
    bif t17 then
    some false
    else
    i_IsName_l1 kj6 s1 N (w64 (x8 + 1))
    else
    kj6 

def i_IsName (N : Nat) (s1 : Str) : Option Bool :=
  (orO ((List.length s1 : Int) == 0) (some (decide ((List.length s1 : Int) > 12)))).bind fun t2 =>
  bif t2 then
  some false
  else
  withK (some true) fun (kj6 : Option Bool) =>
  i_IsName_l1 kj6 s1 N 0

def i_isText_l1 (kj5 : Option Bool) (s1 : Str) (low2 : UInt8) : Nat → Int → Option Bool
  | 0, _ => none
  | N + 1, x7 =>
    bif decide (x7 < (List.length s1 : Int)) then
    (idx s1 x7).bind fun c9 =>
    (orO (decide (c9 < low2)) ((idx s1 x7).bind fun c14 =>
    some (decide (c14 > (126 : UInt8))))).bind fun t11 =>
    bif t11 then
    some false
    else
    i_isText_l1 kj5 s1 low2 N (w64 (x7 + 1))
    else
    kj5 

def i_isText (N : Nat) (s1 : Str) (low2 : UInt8) (most3 : Int) : Option Bool :=
  bif decide ((List.length s1 : Int) > most3) then
  some false
  else
  withK (some true) fun (kj5 : Option Bool) =>
  i_isText_l1 kj5 s1 low2 N 0

def i_between (n1 : Int) (low2 : Int) (high3 : Int) : Option Bool :=
  (andO (decide (n1 ≥ low2)) (some (decide (n1 ≤ high3)))).bind fun t4 =>
  some t4

def i_areIndices_l1 (kj5 : Option Bool) (list1 : List Int) (n4 : Int) : Nat → Int → Option Bool
  | 0, _ => none
  | N + 1, x7 =>
    bif decide (x7 < (List.length list1 : Int)) then
    (idx list1 x7).bind fun e9 =>
    (i_between e9 0 (w64 (n4 - 1))).bind fun r14 =>
    (orO (!r14) ((andO (decide (x7 > 0)) ((idx list1 (w64 (x7 - 1))).bind fun e22 =>
    some (decide (e9 ≤ e22)))).bind fun t19 =>
    some t19)).bind fun t16 =>
    bif t16 then
    some false
    else
    i_areIndices_l1 kj5 list1 n4 N (w64 (x7 + 1))
    else
    kj5 

def i_areIndices (N : Nat) (list1 : List Int) (n4 : Int) : Option Bool :=
  withK (some true) fun (kj5 : Option Bool) =>
  i_areIndices_l1 kj5 list1 n4 N 0

def i_contains_l1 (kj5 : Option Bool) (list1 : List Int) (n4 : Int) : Nat → Int → Option Bool
  | 0, _ => none
  | N + 1, x7 =>
    bif decide (x7 < (List.length list1 : Int)) then
    (idx list1 x7).bind fun e9 =>
    bif (e9 == n4) then
    some true
    else
    i_contains_l1 kj5 list1 n4 N (w64 (x7 + 1))
    else
    kj5 

def i_contains (N : Nat) (list1 : List Int) (n4 : Int) : Option Bool :=
  withK (some false) fun (kj5 : Option Bool) =>
  i_contains_l1 kj5 list1 n4 N 0

def i_ValidLessons_l2 (kj39 : Option Bool) (e14 : Lesson) : Nat → Int → Option Bool
  | 0, _ => none
  | N + 1, k41 =>
    bif decide (k41 < (List.length e14.letters : Int)) then
    (idx e14.letters k41).bind fun c43 =>
    (idx e14.letters (w64 (k41 - 1))).bind fun c45 =>
    bif decide (c43 ≤ c45) then
    some false
    else
    i_ValidLessons_l2 kj39 e14 N (w64 (k41 + 1))
    else
    kj39 

def i_ValidLessons_l1 (kj6 : Option Bool) (list1 : List Lesson) : Nat → (List (Str × Bool)) → Int → Option Bool
  | 0, _, _ => none
  | N + 1, mp8, x9 =>
    bif decide (x9 < (List.length list1 : Int)) then
    withK (fun (mp11 : List (Str × Bool)) =>
    i_ValidLessons_l1 kj6 list1 N mp11 (w64 (x9 + 1))) fun (kj12 : (List (Str × Bool)) → Option Bool) =>
    (idx list1 x9).bind fun e14 =>
    (i_IsName N e14.name).bind fun r23 =>
    (orO (!r23) (some (mget mp8 e14.name))).bind fun t25 =>
    (orO t25 ((i_isText N e14.letters 33 100).bind fun r31 =>
    some (!r31))).bind fun t28 =>
    (orO t28 ((i_between e14.hours 0 100).bind fun r36 =>
    some (!r36))).bind fun t33 =>
    bif t33 then
    some false
    else
    withK ((i_areIndices N e14.needs (List.length list1 : Int)).bind fun r48 =>
    (orO (!r48) ((i_contains N e14.needs x9).bind fun r53 =>
    some r53)).bind fun t50 =>
    bif t50 then
    some false
    else
    kj12 (mset mp8 e14.name true)) fun (kj39 : Option Bool) =>
    i_ValidLessons_l2 kj39 e14 N 1
    else
    kj6 

def i_ValidLessons (N : Nat) (list1 : List Lesson) : Option Bool :=
  bif decide ((List.length list1 : Int) > 12) then
  some false
  else
  withK (some true) fun (kj6 : Option Bool) =>
  i_ValidLessons_l1 kj6 list1 N [] 0

def i_lessonCircle_l2 (kj25 : (List Bool) → Option Int) (list1 : List Lesson) : Nat → (List Int) → (List Bool) → Option Int
  | 0, _, _ => none
  | N + 1, l27, l29 =>
    bif decide ((List.length l27 : Int) > 0) then
    (idx l27 0).bind fun e31 =>
    (sub l27 1 (List.length l27 : Int)).bind fun l33 =>
    (idx l29 e31).bind fun e36 =>
    bif e36 then
    i_lessonCircle_l2 kj25 list1 N l33 l29
    else
    (idx l29 e31).bind fun e39 =>
    (idx list1 e31).bind fun e41 =>
    (app l33 e41.needs).bind fun l48 =>
    i_lessonCircle_l2 kj25 list1 N l48 (List.set l29 (Int.toNat e31) true)
    else
    kj25 l29

def i_lessonCircle_l1 (kj4 : Option Int) (list1 : List Lesson) : Nat → Int → Option Int
  | 0, _ => none
  | N + 1, x6 =>
    bif decide (x6 < (List.length list1 : Int)) then
    withK (i_lessonCircle_l1 kj4 list1 N (w64 (x6 + 1))) fun (kj8 : Option Int) =>
    (mk (List.length list1 : Int) false).bind fun l10 =>
    (idx list1 x6).bind fun e14 =>
    (app [] e14.needs).bind fun l21 =>
    withK (fun (l24 : List Bool) =>
    (idx l24 x6).bind fun e51 =>
    bif e51 then
    some x6
    else
    kj8 ) fun (kj25 : (List Bool) → Option Int) =>
    i_lessonCircle_l2 kj25 list1 N l21 l10
    else
    kj4 

def i_lessonCircle (N : Nat) (list1 : List Lesson) : Option Int :=
  withK (some (-1)) fun (kj4 : Option Int) =>
  i_lessonCircle_l1 kj4 list1 N 0

def i_chosen_l1 (kj6 : (List Int) → Option (List Int)) (set1 : Int) (n2 : Int) : Nat → (List Int) → Int → Option (List Int)
  | 0, _, _ => none
  | N + 1, l8, x10 =>
    bif decide (x10 < n2) then
    withK (fun (l12 : List Int) =>
    i_chosen_l1 kj6 set1 n2 N l12 (w64 (x10 + 1))) fun (kj14 : (List Int) → Option (List Int)) =>
    (shrO set1 x10).bind fun q16 =>
    bif ((iand q16 1) == 1) then
    (app l8 [x10]).bind fun l20 =>
    kj14 l20
    else
    kj14 l8
    else
    kj6 l8

def i_chosen (N : Nat) (set1 : Int) (n2 : Int) : Option (List Int) :=
  withK (fun (l4 : List Int) =>
  some l4) fun (kj6 : (List Int) → Option (List Int)) =>
  i_chosen_l1 kj6 set1 n2 N [] 0

def i_marks_l1 (kj9 : (List Bool) → Option (List Bool)) (list1 : List Int) : Nat → (List Bool) → Int → Option (List Bool)
  | 0, _, _ => none
  | N + 1, l11, x12 =>
    bif decide (x12 < (List.length list1 : Int)) then
    (idx list1 x12).bind fun e14 =>
    (idx l11 e14).bind fun e19 =>
    i_marks_l1 kj9 list1 N (List.set l11 (Int.toNat e14) true) (w64 (x12 + 1))
    else
    kj9 l11

def i_marks (N : Nat) (list1 : List Int) (n4 : Int) : Option (List Bool) :=
  (mk n4 false).bind fun l5 =>
  withK (fun (l8 : List Bool) =>
  some l8) fun (kj9 : (List Bool) → Option (List Bool)) =>
  i_marks_l1 kj9 list1 N l5 0

def i_allIn_l1 (kj7 : Option Bool) (list1 : List Int) (marked4 : List Bool) : Nat → Int → Option Bool
  | 0, _ => none
  | N + 1, x9 =>
    bif decide (x9 < (List.length list1 : Int)) then
    (idx list1 x9).bind fun e11 =>
    (idx marked4 e11).bind fun e16 =>
    bif !e16 then
    some false
    else
    i_allIn_l1 kj7 list1 marked4 N (w64 (x9 + 1))
    else
    kj7 

def i_allIn (N : Nat) (list1 : List Int) (marked4 : List Bool) : Option Bool :=
  withK (some true) fun (kj7 : Option Bool) =>
  i_allIn_l1 kj7 list1 marked4 N 0

def i_known_l2 (kj15 : (List Bool) → Option (List Bool)) (list1 : List Lesson) (e17 : Int) (e22 : Lesson) : Nat → (List Bool) → Int → Option (List Bool)
  | 0, _, _ => none
  | N + 1, l29, x30 =>
    bif decide (x30 < (List.length e22.letters : Int)) then
    (idx list1 e17).bind fun e32 =>
    (idx e32.letters x30).bind fun c39 =>
    (idx l29 (UInt8.toNat c39 : Int)).bind fun e41 =>
    i_known_l2 kj15 list1 e17 e22 N (List.set l29 (Int.toNat (UInt8.toNat c39 : Int)) true) (w64 (x30 + 1))
    else
    kj15 l29

def i_known_l1 (kj9 : (List Bool) → Option (List Bool)) (list1 : List Lesson) (taken4 : List Int) : Nat → (List Bool) → Int → Option (List Bool)
  | 0, _, _ => none
  | N + 1, l11, x12 =>
    bif decide (x12 < (List.length taken4 : Int)) then
    withK (fun (l14 : List Bool) =>
    i_known_l1 kj9 list1 taken4 N l14 (w64 (x12 + 1))) fun (kj15 : (List Bool) → Option (List Bool)) =>
    (idx taken4 x12).bind fun e17 =>
    (idx list1 e17).bind fun e22 =>
    i_known_l2 kj15 list1 e17 e22 N l11 0
    else
    kj9 l11

def i_known (N : Nat) (list1 : List Lesson) (taken4 : List Int) : Option (List Bool) :=
  withK (fun (l8 : List Bool) =>
  some l8) fun (kj9 : (List Bool) → Option (List Bool)) =>
  i_known_l1 kj9 list1 taken4 N (List.replicate 256 false) 0

def i_typable_l1 (kj5 : Option Bool) (text1 : Str) (letters2 : List Bool) : Nat → Int → Option Bool
  | 0, _ => none
  | N + 1, x7 =>
    bif decide (x7 < (List.length text1 : Int)) then
    (idx text1 x7).bind fun c9 =>
    (andO (c9 != (32 : UInt8)) ((idx text1 x7).bind fun c14 =>
    (idx letters2 (UInt8.toNat c14 : Int)).bind fun e16 =>
    some (!e16))).bind fun t11 =>
    bif t11 then
    some false
    else
    i_typable_l1 kj5 text1 letters2 N (w64 (x7 + 1))
    else
    kj5 

def i_typable (N : Nat) (text1 : Str) (letters2 : List Bool) : Option Bool :=
  withK (some true) fun (kj5 : Option Bool) =>
  i_typable_l1 kj5 text1 letters2 N 0

def i_hours_l1 (kj8 : Int → Option Int) (list1 : List Lesson) (some4 : List Int) : Nat → Int → Int → Option Int
  | 0, _, _ => none
  | N + 1, sum10, x11 =>
    bif decide (x11 < (List.length some4 : Int)) then
    (idx some4 x11).bind fun e13 =>
    (idx list1 e13).bind fun e18 =>
    i_hours_l1 kj8 list1 some4 N (w64 (sum10 + e18.hours)) (w64 (x11 + 1))
    else
    kj8 sum10

def i_hours (N : Nat) (list1 : List Lesson) (some4 : List Int) : Option Int :=
  withK (fun (sum7 : Int) =>
  some sum7) fun (kj8 : Int → Option Int) =>
  i_hours_l1 kj8 list1 some4 N 0 0

def i_compareNumbers_l1 (kj7 : Option Int) (a1 : List Int) (b4 : List Int) : Nat → Int → Option Int
  | 0, _ => none
  | N + 1, i9 =>
    (andO (decide (i9 < (List.length a1 : Int))) (some (decide (i9 < (List.length b4 : Int))))).bind fun t10 =>
    bif t10 then
    (idx a1 i9).bind fun e14 =>
    (idx b4 i9).bind fun e19 =>
    bif decide (e14 < e19) then
    some (-1)
    else
    (idx a1 i9).bind fun e25 =>
    (idx b4 i9).bind fun e30 =>
    bif decide (e25 > e30) then
    some 1
    else
    i_compareNumbers_l1 kj7 a1 b4 N (w64 (i9 + 1))
    else
    kj7 

def i_compareNumbers (N : Nat) (a1 : List Int) (b4 : List Int) : Option Int :=
  withK (bif decide ((List.length a1 : Int) < (List.length b4 : Int)) then
  some (-1)
  else
  bif decide ((List.length a1 : Int) > (List.length b4 : Int)) then
  some 1
  else
  some 0) fun (kj7 : Option Int) =>
  i_compareNumbers_l1 kj7 a1 b4 N 0

def i_LessonsForText_l2 (kj41 : Bool → Option ((List Int) × Int)) (list1 : List Lesson) (r34 : (List Int)) (r37 : (List Bool)) : Nat → Bool → Int → Option ((List Int) × Int)
  | 0, _, _ => none
  | N + 1, complete43, x44 =>
    bif decide (x44 < (List.length r34 : Int)) then
    (idx r34 x44).bind fun e46 =>
    (andO complete43 ((idx list1 e46).bind fun e51 =>
    (i_allIn N e51.needs r37).bind fun r58 =>
    some r58)).bind fun t48 =>
    i_LessonsForText_l2 kj41 list1 r34 r37 N t48 (w64 (x44 + 1))
    else
    kj41 complete43

def i_LessonsForText_l1 (kj18 : (List Int) → Bool → Option ((List Int) × Int)) (list1 : List Lesson) (text4 : Str) (q20 : Int) : Nat → (List Int) → Int → Bool → Int → Option ((List Int) × Int)
  | 0, _, _, _, _ => none
  | N + 1, l22, least24, found25, x26 =>
    bif decide (x26 < q20) then
    withK (fun (l28 : List Int) (least30 : Int) (found31 : Bool) =>
    i_LessonsForText_l1 kj18 list1 text4 q20 N l28 least30 found31 (w64 (x26 + 1))) fun (kj32 : (List Int) → Int → Bool → Option ((List Int) × Int)) =>
    (i_chosen N x26 (List.length list1 : Int)).bind fun r34 =>
    (i_marks N r34 (List.length list1 : Int)).bind fun r37 =>
    withK (fun (complete40 : Bool) =>
    (orO (!complete40) ((i_known N list1 r34).bind fun r63 =>
    (i_typable N text4 r63).bind fun r66 =>
    some (!r66))).bind fun t60 =>
    bif t60 then
    kj32 l22 least24 found25
    else
    (i_hours N list1 r34).bind fun r69 =>
    (orO (!found25) (some (decide (r69 < least24)))).bind fun t71 =>
    withK (fun (better74 : Bool) =>
    bif better74 then
    kj32 r34 r69 true
    else
    kj32 l22 least24 found25) fun (kj75 : Bool → Option ((List Int) × Int)) =>
    (andO found25 (some (r69 == least24))).bind fun t77 =>
    bif t77 then
    (orO (decide ((List.length r34 : Int) < (List.length l22 : Int))) ((andO ((List.length r34 : Int) == (List.length l22 : Int)) ((i_compareNumbers N r34 l22).bind fun r87 =>
    some (decide (r87 < 0)))).bind fun t84 =>
    some t84)).bind fun t81 =>
    kj75 t81
    else
    kj75 t71) fun (kj41 : Bool → Option ((List Int) × Int)) =>
    i_LessonsForText_l2 kj41 list1 r34 r37 N true 0
    else
    kj18 l22 found25

def i_LessonsForText (N : Nat) (list1 : List Lesson) (text4 : Str) : Option ((List Int) × Int) :=
  (i_ValidLessons N list1).bind fun r5 =>
  bif !r5 then
  some ([], 1)
  else
  (i_isText N text4 32 100).bind fun r8 =>
  bif !r8 then
  some ([], 2)
  else
  (i_lessonCircle N list1).bind fun r11 =>
  bif decide (r11 ≥ 0) then
  some ([], 9)
  else
  withK (fun (l15 : List Int) (found17 : Bool) =>
  bif !found17 then
  some ([], 3)
  else
  some (l15, 0)) fun (kj18 : (List Int) → Bool → Option ((List Int) × Int)) =>
  (shlO 1 (List.length list1 : Int)).bind fun q20 =>
  i_LessonsForText_l1 kj18 list1 text4 q20 N [] 0 false 0

def s_l01Small (c1 : UInt8) : Option Bool :=
  (andO (decide (c1 ≥ (97 : UInt8))) (some (decide (c1 ≤ (122 : UInt8))))).bind fun t2 =>
  some t2

def s_l01Digit (c1 : UInt8) : Option Bool :=
  (andO (decide (c1 ≥ (48 : UInt8))) (some (decide (c1 ≤ (57 : UInt8))))).bind fun t2 =>
  some t2

def s_IsName_l1 (kj13 : Option Bool) (s1 : Str) : Nat → Int → Option Bool
  | 0, _ => none
  | N + 1, i15 =>
    bif decide (i15 < (List.length s1 : Int)) then
    (idx s1 i15).bind fun c17 =>
    (s_l01Small c17).bind fun r19 =>
    (andO (!r19) ((idx s1 i15).bind fun c24 =>
    (s_l01Digit c24).bind fun r26 =>
    some (!r26))).bind fun t21 =>
    (andO t21 ((idx s1 i15).bind fun c31 =>
    some (c31 != (45 : UInt8)))).bind fun t28 =>
    bif t28 then
    some false
    else
    s_IsName_l1 kj13 s1 N (w64 (i15 + 1))
    else
    kj13 

def s_IsName (N : Nat) (s1 : Str) : Option Bool :=
  (orO (s1 == []) (some (decide ((List.length s1 : Int) > 12)))).bind fun t2 =>
  (orO t2 ((idx s1 0).bind fun c8 =>
  (s_l01Small c8).bind fun r10 =>
  some (!r10))).bind fun t5 =>
  bif t5 then
  some false
  else
  withK (some true) fun (kj13 : Option Bool) =>
  s_IsName_l1 kj13 s1 N 0

def s_l02Text_l1 (kj2 : Option Bool) (s1 : Str) : Nat → Int → Option Bool
  | 0, _ => none
  | N + 1, i4 =>
    bif decide (i4 < (List.length s1 : Int)) then
    (idx s1 i4).bind fun c6 =>
    (orO (decide (c6 < (33 : UInt8))) ((idx s1 i4).bind fun c11 =>
    some (decide (c11 > (126 : UInt8))))).bind fun t8 =>
    bif t8 then
    some false
    else
    s_l02Text_l1 kj2 s1 N (w64 (i4 + 1))
    else
    kj2 

def s_l02Text (N : Nat) (s1 : Str) : Option Bool :=
  withK (some (decide ((List.length s1 : Int) ≤ 100))) fun (kj2 : Option Bool) =>
  s_l02Text_l1 kj2 s1 N 0

def s_l00In (n1 : Int) (low2 : Int) (high3 : Int) : Option Bool :=
  (andO (decide (n1 ≥ low2)) (some (decide (n1 ≤ high3)))).bind fun t4 =>
  some t4

def s_l00Rises_l1 (kj6 : Option Bool) (list1 : List Int) (low4 : Int) (high5 : Int) : Nat → Int → Option Bool
  | 0, _ => none
  | N + 1, i8 =>
    bif decide (i8 < (List.length list1 : Int)) then
    (idx list1 i8).bind fun e10 =>
    (s_l00In e10 low4 high5).bind fun r15 =>
    (orO (!r15) ((andO (decide (i8 > 0)) ((idx list1 (w64 (i8 - 1))).bind fun e23 =>
    (idx list1 i8).bind fun e28 =>
    some (decide (e23 ≥ e28)))).bind fun t20 =>
    some t20)).bind fun t17 =>
    bif t17 then
    some false
    else
    s_l00Rises_l1 kj6 list1 low4 high5 N (w64 (i8 + 1))
    else
    kj6 

def s_l00Rises (N : Nat) (list1 : List Int) (low4 : Int) (high5 : Int) : Option Bool :=
  withK (some true) fun (kj6 : Option Bool) =>
  s_l00Rises_l1 kj6 list1 low4 high5 N 0

def s_l00Has_l1 (kj5 : Option Bool) (list1 : List Int) (n4 : Int) : Nat → Int → Option Bool
  | 0, _ => none
  | N + 1, i7 =>
    bif decide (i7 < (List.length list1 : Int)) then
    (idx list1 i7).bind fun e9 =>
    bif (e9 == n4) then
    some true
    else
    s_l00Has_l1 kj5 list1 n4 N (w64 (i7 + 1))
    else
    kj5 

def s_l00Has (N : Nat) (list1 : List Int) (n4 : Int) : Option Bool :=
  withK (some false) fun (kj5 : Option Bool) =>
  s_l00Has_l1 kj5 list1 n4 N 0

def s_l18Ok_l2 (kj40 : Option Bool) (e10 : Lesson) : Nat → Int → Option Bool
  | 0, _ => none
  | N + 1, k42 =>
    bif decide (k42 < (List.length e10.letters : Int)) then
    (idx e10.letters (w64 (k42 - 1))).bind fun c44 =>
    (idx e10.letters k42).bind fun c46 =>
    bif decide (c44 ≥ c46) then
    some false
    else
    s_l18Ok_l2 kj40 e10 N (w64 (k42 + 1))
    else
    kj40 

def s_l18Ok_l3 (kj8 : Option Bool) (list1 : List Lesson) (i6 : Int) (e10 : Lesson) : Nat → Int → Option Bool
  | 0, _ => none
  | N + 1, k49 =>
    bif decide (k49 < i6) then
    (idx list1 k49).bind fun e51 =>
    bif (e51.name == e10.name) then
    some false
    else
    s_l18Ok_l3 kj8 list1 i6 e10 N (w64 (k49 + 1))
    else
    kj8 

def s_l18Ok_l1 (kj4 : Option Bool) (list1 : List Lesson) : Nat → Int → Option Bool
  | 0, _ => none
  | N + 1, i6 =>
    bif decide (i6 < (List.length list1 : Int)) then
    withK (s_l18Ok_l1 kj4 list1 N (w64 (i6 + 1))) fun (kj8 : Option Bool) =>
    (idx list1 i6).bind fun e10 =>
    (s_IsName N e10.name).bind fun r17 =>
    (orO (!r17) ((s_l02Text N e10.letters).bind fun r22 =>
    some (!r22))).bind fun t19 =>
    (orO t19 ((s_l00Rises N e10.needs 0 (w64 ((List.length list1 : Int) - 1))).bind fun r27 =>
    some (!r27))).bind fun t24 =>
    (orO t24 ((s_l00Has N e10.needs i6).bind fun r32 =>
    some r32)).bind fun t29 =>
    (orO t29 ((s_l00In e10.hours 0 100).bind fun r37 =>
    some (!r37))).bind fun t34 =>
    bif t34 then
    some false
    else
    withK (s_l18Ok_l3 kj8 list1 i6 e10 N 0) fun (kj40 : Option Bool) =>
    s_l18Ok_l2 kj40 e10 N 1
    else
    kj4 

def s_l18Ok (N : Nat) (list1 : List Lesson) : Option Bool :=
  withK (some (decide ((List.length list1 : Int) ≤ 12))) fun (kj4 : Option Bool) =>
  s_l18Ok_l1 kj4 list1 N 0

def s_l18Taken (N : Nat) (list1 : List Lesson) (taken4 : List Int) : Option Int :=
  (s_l18Ok N list1).bind fun r7 =>
  bif !r7 then
  some 1
  else
  (s_l00Rises N taken4 0 (w64 ((List.length list1 : Int) - 1))).bind fun r10 =>
  bif !r10 then
  some 2
  else
  some 0

def s_l00Text_l1 (kj3 : Option Bool) (s1 : Str) : Nat → Int → Option Bool
  | 0, _ => none
  | N + 1, i5 =>
    bif decide (i5 < (List.length s1 : Int)) then
    (idx s1 i5).bind fun c7 =>
    (orO (decide (c7 < (32 : UInt8))) ((idx s1 i5).bind fun c12 =>
    some (decide (c12 > (126 : UInt8))))).bind fun t9 =>
    bif t9 then
    some false
    else
    s_l00Text_l1 kj3 s1 N (w64 (i5 + 1))
    else
    kj3 

def s_l00Text (N : Nat) (s1 : Str) (most2 : Int) : Option Bool :=
  withK (some (decide ((List.length s1 : Int) ≤ most2))) fun (kj3 : Option Bool) =>
  s_l00Text_l1 kj3 s1 N 0

def s_l00Own (list1 : List Int) : Option (List Int) :=
  (app [] list1).bind fun l5 =>
  some l5

def s_l00Put_l1 (kj9 : (List Int) → Bool → Option (List Int)) (list1 : List Int) (n4 : Int) : Nat → (List Int) → Bool → Int → Option (List Int)
  | 0, _, _, _ => none
  | N + 1, l11, done13, i14 =>
    bif decide (i14 < (List.length list1 : Int)) then
    withK (fun (l16 : List Int) (done18 : Bool) =>
    (idx list1 i14).bind fun e40 =>
    (app l16 [e40]).bind fun l46 =>
    s_l00Put_l1 kj9 list1 n4 N l46 done18 (w64 (i14 + 1))) fun (kj19 : (List Int) → Bool → Option (List Int)) =>
    (andO (!done13) ((idx list1 i14).bind fun e24 =>
    some (decide (e24 ≥ n4)))).bind fun t21 =>
    bif t21 then
    (idx list1 i14).bind fun e30 =>
    bif decide (e30 > n4) then
    (app l11 [n4]).bind fun l37 =>
    kj19 l37 true
    else
    kj19 l11 true
    else
    kj19 l11 done13
    else
    kj9 l11 done13

def s_l00Put (N : Nat) (list1 : List Int) (n4 : Int) : Option (List Int) :=
  withK (fun (l6 : List Int) (done8 : Bool) =>
  withK (fun (l49 : List Int) =>
  some l49) fun (kj51 : (List Int) → Option (List Int)) =>
  bif !done8 then
  (app l6 [n4]).bind fun l55 =>
  kj51 l55
  else
  kj51 l6) fun (kj9 : (List Int) → Bool → Option (List Int)) =>
  s_l00Put_l1 kj9 list1 n4 N [] false 0

def s_l18All_l2 (kj21 : (List Int) → Int → Option (List Int)) (l14 : List Int) (e25 : Lesson) : Nat → Int → Int → Option (List Int)
  | 0, _, _ => none
  | N + 1, i32, k33 =>
    bif decide (k33 < (List.length e25.needs : Int)) then
    (idx e25.needs k33).bind fun e35 =>
    (s_l00Has N l14 e35).bind fun r40 =>
    bif !r40 then
    (idx e25.needs k33).bind fun e43 =>
    (s_l00Put N l14 e43).bind fun r48 =>
    kj21 r48 (-1)
    else
    s_l18All_l2 kj21 l14 e25 N i32 (w64 (k33 + 1))
    else
    kj21 l14 i32

def s_l18All_l1 (kj12 : (List Int) → Option (List Int)) (list1 : List Lesson) : Nat → (List Int) → Int → Option (List Int)
  | 0, _, _ => none
  | N + 1, l14, i16 =>
    bif decide (i16 < (List.length l14 : Int)) then
    withK (fun (l18 : List Int) (i20 : Int) =>
    s_l18All_l1 kj12 list1 N l18 (w64 (i20 + 1))) fun (kj21 : (List Int) → Int → Option (List Int)) =>
    (idx l14 i16).bind fun e23 =>
    (idx list1 e23).bind fun e25 =>
    s_l18All_l2 kj21 l14 e25 N i16 0
    else
    kj12 l14

def s_l18All (N : Nat) (list1 : List Lesson) (some4 : List Int) : Option (List Int) :=
  (s_l00Own some4).bind fun r7 =>
  withK (fun (l10 : List Int) =>
  some l10) fun (kj12 : (List Int) → Option (List Int)) =>
  s_l18All_l1 kj12 list1 N r7 0

def s_l18Circle_l1 (kj4 : Option Int) (list1 : List Lesson) : Nat → Int → Option Int
  | 0, _ => none
  | N + 1, k6 =>
    bif decide (k6 < (List.length list1 : Int)) then
    (idx list1 k6).bind fun e8 =>
    (s_l18All N list1 e8.needs).bind fun r15 =>
    (s_l00Has N r15 k6).bind fun r18 =>
    bif r18 then
    some k6
    else
    s_l18Circle_l1 kj4 list1 N (w64 (k6 + 1))
    else
    kj4 

def s_l18Circle (N : Nat) (list1 : List Lesson) : Option Int :=
  withK (some (-1)) fun (kj4 : Option Int) =>
  s_l18Circle_l1 kj4 list1 N 0

def s_l18Hours_l1 (kj8 : Int → Option Int) (list1 : List Lesson) (some4 : List Int) : Nat → Int → Int → Option Int
  | 0, _, _ => none
  | N + 1, sum10, i11 =>
    bif decide (i11 < (List.length some4 : Int)) then
    (idx some4 i11).bind fun e13 =>
    (idx list1 e13).bind fun e18 =>
    s_l18Hours_l1 kj8 list1 some4 N (w64 (sum10 + e18.hours)) (w64 (i11 + 1))
    else
    kj8 sum10

def s_l18Hours (N : Nat) (list1 : List Lesson) (some4 : List Int) : Option Int :=
  withK (fun (sum7 : Int) =>
  some sum7) fun (kj8 : Int → Option Int) =>
  s_l18Hours_l1 kj8 list1 some4 N 0 0

def s_l18Known_l2 (kj14 : Str → Option Str) (e21 : Lesson) : Nat → Str → Int → Option Str
  | 0, _, _ => none
  | N + 1, out28, k29 =>
    bif decide (k29 < (List.length e21.letters : Int)) then
    (sub e21.letters k29 (w64 (k29 + 1))).bind fun s31 =>
    (s_l02PutLetter N out28 s31).bind fun r33 =>
    s_l18Known_l2 kj14 e21 N r33 (w64 (k29 + 1))
    else
    kj14 out28

def s_l18Known_l1 (kj8 : Str → Option Str) (list1 : List Lesson) (taken4 : List Int) : Nat → Str → Int → Option Str
  | 0, _, _ => none
  | N + 1, out10, i11 =>
    bif decide (i11 < (List.length taken4 : Int)) then
    withK (fun (out13 : Str) =>
    s_l18Known_l1 kj8 list1 taken4 N out13 (w64 (i11 + 1))) fun (kj14 : Str → Option Str) =>
    (idx taken4 i11).bind fun e16 =>
    (idx list1 e16).bind fun e21 =>
    s_l18Known_l2 kj14 e21 N out10 0
    else
    kj8 out10

def s_l18Known (N : Nat) (list1 : List Lesson) (taken4 : List Int) : Option Str :=
  withK (fun (out7 : Str) =>
  some out7) fun (kj8 : Str → Option Str) =>
  s_l18Known_l1 kj8 list1 taken4 N [] 0

def s_l18Missing_l2 (kj15 : Bool → Option Str) (known1 : Str) (text2 : Str) (i7 : Int) : Nat → Bool → Int → Option Str
  | 0, _, _ => none
  | N + 1, found17, k18 =>
    bif decide (k18 < (List.length known1 : Int)) then
    (orO found17 ((idx known1 k18).bind fun c23 =>
    (idx text2 i7).bind fun c25 =>
    some (c23 == c25))).bind fun t20 =>
    s_l18Missing_l2 kj15 known1 text2 i7 N t20 (w64 (k18 + 1))
    else
    kj15 found17

def s_l18Missing_l1 (kj4 : Str → Option Str) (known1 : Str) (text2 : Str) : Nat → Str → Int → Option Str
  | 0, _, _ => none
  | N + 1, out6, i7 =>
    bif decide (i7 < (List.length text2 : Int)) then
    withK (fun (out9 : Str) =>
    s_l18Missing_l1 kj4 known1 text2 N out9 (w64 (i7 + 1))) fun (kj10 : Str → Option Str) =>
    (idx text2 i7).bind fun c12 =>
    withK (fun (found14 : Bool) =>
    bif !found14 then
    (sub text2 i7 (w64 (i7 + 1))).bind fun s28 =>
    (s_l02PutLetter N out6 s28).bind fun r30 =>
    kj10 r30
    else
    kj10 out6) fun (kj15 : Bool → Option Str) =>
    s_l18Missing_l2 kj15 known1 text2 i7 N (c12 == (32 : UInt8)) 0
    else
    kj4 out6

def s_l18Missing (N : Nat) (known1 : Str) (text2 : Str) : Option Str :=
  withK (fun (out3 : Str) =>
  some out3) fun (kj4 : Str → Option Str) =>
  s_l18Missing_l1 kj4 known1 text2 N [] 0

def s_l18Less_l1 (kj8 : Option Bool) (a1 : List Int) (b4 : List Int) : Nat → Int → Option Bool
  | 0, _ => none
  | N + 1, i10 =>
    bif decide (i10 < (List.length a1 : Int)) then
    (idx a1 i10).bind fun e12 =>
    (idx b4 i10).bind fun e17 =>
    bif (e12 != e17) then
    (idx a1 i10).bind fun e23 =>
    (idx b4 i10).bind fun e28 =>
    some (decide (e23 < e28))
    else
    s_l18Less_l1 kj8 a1 b4 N (w64 (i10 + 1))
    else
    kj8 

def s_l18Less (N : Nat) (a1 : List Int) (b4 : List Int) : Option Bool :=
  bif ((List.length a1 : Int) != (List.length b4 : Int)) then
  some (decide ((List.length a1 : Int) < (List.length b4 : Int)))
  else
  withK (some false) fun (kj8 : Option Bool) =>
  s_l18Less_l1 kj8 a1 b4 N 0

def s_LessonsForText_l2 (kj48 : (List Int) → Option ((List Int) × Int)) (list1 : List Lesson) (bits36 : Int) : Nat → (List Int) → Int → Option ((List Int) × Int)
  | 0, _, _ => none
  | N + 1, l50, i52 =>
    bif decide (i52 < (List.length list1 : Int)) then
    withK (fun (l54 : List Int) =>
    s_LessonsForText_l2 kj48 list1 bits36 N l54 (w64 (i52 + 1))) fun (kj56 : (List Int) → Option ((List Int) × Int)) =>
    (shrO bits36 (IntKind.u64.wrap i52)).bind fun q58 =>
    bif ((iand q58 1) == 1) then
    (app l50 [i52]).bind fun l62 =>
    kj56 l62
    else
    kj56 l50
    else
    kj48 l50

def s_LessonsForText_l1 (kj31 : (List Int) → Int → Option ((List Int) × Int)) (list1 : List Lesson) (text4 : Str) : Nat → (List Int) → Int → Int → Option ((List Int) × Int)
  | 0, _, _, _ => none
  | N + 1, l33, least35, bits36 =>
    (shlO 1 (IntKind.u64.wrap (List.length list1 : Int))).bind fun q37 =>
    bif decide (bits36 < q37) then
    withK (fun (l40 : List Int) (least42 : Int) =>
    s_LessonsForText_l1 kj31 list1 text4 N l40 least42 (w64 (bits36 + 1))) fun (kj43 : (List Int) → Int → Option ((List Int) × Int)) =>
    withK (fun (l46 : List Int) =>
    (s_l18Hours N list1 l46).bind fun r65 =>
    (andO (decide (least35 ≥ 0)) (some (decide (r65 > least35)))).bind fun t67 =>
    (orO t67 ((s_l18Known N list1 l46).bind fun r73 =>
    (s_l18Missing N r73 text4).bind fun r75 =>
    some (r75 != []))).bind fun t70 =>
    (orO t70 ((s_l18All N list1 l46).bind fun r80 =>
    some ((List.length r80 : Int) != (List.length l46 : Int)))).bind fun t77 =>
    bif t77 then
    kj43 l33 least35
    else
    (orO (decide (least35 < 0)) (some (decide (r65 < least35)))).bind fun t84 =>
    (orO t84 ((s_l18Less N l46 l33).bind fun r90 =>
    some r90)).bind fun t87 =>
    bif t87 then
    kj43 l46 r65
    else
    kj43 l33 least35) fun (kj48 : (List Int) → Option ((List Int) × Int)) =>
    s_LessonsForText_l2 kj48 list1 bits36 N [] 0
    else
    kj31 l33 least35

def s_LessonsForText (N : Nat) (list1 : List Lesson) (text4 : Str) : Option ((List Int) × Int) :=
  (s_l18Taken N list1 []).bind fun r6 =>
  withK (fun (code8 : Int) =>
  withK (fun (code17 : Int) =>
  bif (code17 != 0) then
  some ([], code17)
  else
  withK (fun (l28 : List Int) (least30 : Int) =>
  bif decide (least30 < 0) then
  some ([], 3)
  else
  some (l28, 0)) fun (kj31 : (List Int) → Int → Option ((List Int) × Int)) =>
  s_LessonsForText_l1 kj31 list1 text4 N [] (-1) 0) fun (kj18 : Int → Option ((List Int) × Int)) =>
  (andO (code8 == 0) ((s_l18Circle N list1).bind fun r23 =>
  some (decide (r23 ≥ 0)))).bind fun t20 =>
  bif t20 then
  kj18 9
  else
  kj18 code8) fun (kj9 : Int → Option ((List Int) × Int)) =>
  (andO (r6 == 0) ((s_l00Text N text4 100).bind fun r14 =>
  some (!r14))).bind fun t11 =>
  bif t11 then
  kj9 2
  else
  kj9 r6

def i_ascending_l1 (kj7 : (List UInt8) → Option Str) (marked1 : List Bool) : Nat → (List UInt8) → Int → Option Str
  | 0, _, _ => none
  | N + 1, l9, x11 =>
    bif decide (x11 < 256) then
    withK (fun (l13 : List UInt8) =>
    i_ascending_l1 kj7 marked1 N l13 (w64 (x11 + 1))) fun (kj15 : (List UInt8) → Option Str) =>
    (idx marked1 x11).bind fun e17 =>
    bif e17 then
    (app l9 [UInt8.ofInt x11]).bind fun l24 =>
    kj15 l24
    else
    kj15 l9
    else
    kj7 l9

def i_ascending (N : Nat) (marked1 : List Bool) : Option Str :=
  withK (fun (l5 : List UInt8) =>
  some l5) fun (kj7 : (List UInt8) → Option Str) =>
  i_ascending_l1 kj7 marked1 N [] 0

def i_UntaughtLetters_l1 (kj21 : (List Bool) → Option (Str × Int)) (text4 : Str) (r16 : (List Bool)) : Nat → (List Bool) → Int → Option (Str × Int)
  | 0, _, _ => none
  | N + 1, l23, x24 =>
    bif decide (x24 < (List.length text4 : Int)) then
    withK (fun (l26 : List Bool) =>
    i_UntaughtLetters_l1 kj21 text4 r16 N l26 (w64 (x24 + 1))) fun (kj27 : (List Bool) → Option (Str × Int)) =>
    (idx text4 x24).bind fun c29 =>
    (andO (c29 != (32 : UInt8)) ((idx text4 x24).bind fun c34 =>
    (idx r16 (UInt8.toNat c34 : Int)).bind fun e36 =>
    some (!e36))).bind fun t31 =>
    bif t31 then
    (idx text4 x24).bind fun c39 =>
    (idx l23 (UInt8.toNat c39 : Int)).bind fun e41 =>
    kj27 (List.set l23 (Int.toNat (UInt8.toNat c39 : Int)) true)
    else
    kj27 l23
    else
    kj21 l23

def i_UntaughtLetters (N : Nat) (list1 : List Lesson) (text4 : Str) : Option (Str × Int) :=
  (i_ValidLessons N list1).bind fun r5 =>
  bif !r5 then
  some ([], 1)
  else
  (i_isText N text4 32 100).bind fun r8 =>
  bif !r8 then
  some ([], 2)
  else
  (shlO 1 (List.length list1 : Int)).bind fun q11 =>
  (i_chosen N (w64 (q11 - 1)) (List.length list1 : Int)).bind fun r13 =>
  (i_known N list1 r13).bind fun r16 =>
  withK (fun (l20 : List Bool) =>
  (i_ascending N l20).bind fun r43 =>
  some (r43, 0)) fun (kj21 : (List Bool) → Option (Str × Int)) =>
  i_UntaughtLetters_l1 kj21 text4 r16 N (List.replicate 256 false) 0

def s_UntaughtLetters_l1 (kj21 : (List Int) → Option (Str × Int)) (list1 : List Lesson) : Nat → (List Int) → Int → Option (Str × Int)
  | 0, _, _ => none
  | N + 1, l23, i25 =>
    bif decide (i25 < (List.length list1 : Int)) then
    (app l23 [i25]).bind fun l28 =>
    s_UntaughtLetters_l1 kj21 list1 N l28 (w64 (i25 + 1))
    else
    kj21 l23

def s_UntaughtLetters (N : Nat) (list1 : List Lesson) (text4 : Str) : Option (Str × Int) :=
  (s_l18Taken N list1 []).bind fun r6 =>
  withK (fun (code8 : Int) =>
  bif (code8 != 0) then
  some ([], code8)
  else
  withK (fun (l19 : List Int) =>
  (s_l18Known N list1 l19).bind fun r31 =>
  (s_l18Missing N r31 text4).bind fun r33 =>
  some (r33, 0)) fun (kj21 : (List Int) → Option (Str × Int)) =>
  s_UntaughtLetters_l1 kj21 list1 N [] 0) fun (kj9 : Int → Option (Str × Int)) =>
  (andO (r6 == 0) ((s_l00Text N text4 100).bind fun r14 =>
  some (!r14))).bind fun t11 =>
  bif t11 then
  kj9 2
  else
  kj9 r6

def s_l18Some_l1 (kj14 : (List Int) → Int → Int → Option ((List Lesson) × (List Int) × L00Src)) (s1 : L00Src) (r5 : (List Lesson) × L00Src) : Nat → (List Int) → Int → Int → Int → Option ((List Lesson) × (List Int) × L00Src)
  | 0, _, _, _, _ => none
  | N + 1, l16, x18, x19, i20 =>
    bif decide (i20 < (List.length r5.1 : Int)) then
    withK (fun (x22 : Int) (x23 : Int) (l24 : List Int) =>
    s_l18Some_l1 kj14 s1 r5 N l24 x22 x23 (w64 (i20 + 1))) fun (kj26 : Int → Int → (List Int) → Option ((List Lesson) × (List Int) × L00Src)) =>
    (s_l00Src_one (L00Src.mk s1.code x18 x19) 2).bind fun r28 =>
    bif r28.1 then
    (app l16 [i20]).bind fun l32 =>
    kj26 r28.2.at_ r28.2.seed l32
    else
    kj26 r28.2.at_ r28.2.seed l16
    else
    kj14 l16 x18 x19

def s_l18Some (N : Nat) (s1 : L00Src) : Option ((List Lesson) × (List Int) × L00Src) :=
  (s_l18Bent N (L00Src.mk s1.code s1.at_ s1.seed)).bind fun r5 =>
  withK (fun (l10 : List Int) (x12 : Int) (x13 : Int) =>
  withK (fun (x35 : Int) (x36 : Int) (l37 : List Int) =>
  some (r5.1, l37, (L00Src.mk s1.code x35 x36))) fun (kj39 : Int → Int → (List Int) → Option ((List Lesson) × (List Int) × L00Src)) =>
  (s_l00Src_one (L00Src.mk s1.code x12 x13) 14).bind fun r41 =>
  bif r41.1 then
  (s_l00Src_among (L00Src.mk s1.code r41.2.at_ r41.2.seed) [(-1), 0, (List.length r5.1 : Int)]).bind fun r45 =>
  (app l10 [r45.1]).bind fun l48 =>
  kj39 r45.2.at_ r45.2.seed l48
  else
  kj39 r41.2.at_ r41.2.seed l10) fun (kj14 : (List Int) → Int → Int → Option ((List Lesson) × (List Int) × L00Src)) =>
  s_l18Some_l1 kj14 s1 r5 N [] r5.2.at_ r5.2.seed 0

def s_DrawCanType (N : Nat) (code1 : List UInt8) : Option ((List Lesson) × (List Int) × Str) :=
  (s_l00From code1).bind fun r4 =>
  (s_l18Some N (L00Src.mk code1 r4.at_ r4.seed)).bind fun r7 =>
  (s_l18DrawText N (L00Src.mk code1 r7.2.2.at_ r7.2.2.seed)).bind fun r12 =>
  some (r7.1, r7.2.1, r12.1)

def i_takenCode (N : Nat) (list1 : List Lesson) (taken4 : List Int) : Option Int :=
  (i_ValidLessons N list1).bind fun r7 =>
  bif !r7 then
  some 1
  else
  (i_areIndices N taken4 (List.length list1 : Int)).bind fun r10 =>
  bif !r10 then
  some 2
  else
  some 0

def i_CanType (N : Nat) (list1 : List Lesson) (taken4 : List Int) (text7 : Str) : Option (Bool × Int) :=
  (i_takenCode N list1 taken4).bind fun r8 =>
  bif (r8 != 0) then
  some (false, r8)
  else
  (i_isText N text7 32 100).bind fun r11 =>
  bif !r11 then
  some (false, 2)
  else
  (i_known N list1 taken4).bind fun r14 =>
  (i_typable N text7 r14).bind fun r17 =>
  some (r17, 0)

def s_CanType (N : Nat) (list1 : List Lesson) (taken4 : List Int) (text7 : Str) : Option (Bool × Int) :=
  (s_l18Taken N list1 taken4).bind fun r8 =>
  withK (fun (code10 : Int) =>
  bif (code10 != 0) then
  some (false, code10)
  else
  (s_l18Known N list1 taken4).bind fun r20 =>
  (s_l18Missing N r20 text7).bind fun r22 =>
  some ((r22 == []), 0)) fun (kj11 : Int → Option (Bool × Int)) =>
  (andO (r8 == 0) ((s_l00Text N text7 100).bind fun r16 =>
  some (!r16))).bind fun t13 =>
  bif t13 then
  kj11 2
  else
  kj11 r8

def w_f6ints_l1 (kj8 : Option Bool) (a1 : List Int) (b4 : List Int) : Nat → Int → Option Bool
  | 0, _ => none
  | N + 1, i10 =>
    bif decide (i10 < (List.length a1 : Int)) then
    (idx a1 i10).bind fun e12 =>
    (idx b4 i10).bind fun e17 =>
    bif (e12 != e17) then
    some false
    else
    w_f6ints_l1 kj8 a1 b4 N (w64 (i10 + 1))
    else
    kj8 

def w_f6ints (N : Nat) (a1 : List Int) (b4 : List Int) : Option Bool :=
  bif ((List.length a1 : Int) != (List.length b4 : Int)) then
  some false
  else
  withK (some true) fun (kj8 : Option Bool) =>
  w_f6ints_l1 kj8 a1 b4 N 0

def w_f6has_l1 (kj5 : Option Bool) (list1 : List Int) (n4 : Int) : Nat → Int → Option Bool
  | 0, _ => none
  | N + 1, i7 =>
    bif decide (i7 < (List.length list1 : Int)) then
    (idx list1 i7).bind fun e9 =>
    bif (e9 == n4) then
    some true
    else
    w_f6has_l1 kj5 list1 n4 N (w64 (i7 + 1))
    else
    kj5 

def w_f6has (N : Nat) (list1 : List Int) (n4 : Int) : Option Bool :=
  withK (some false) fun (kj5 : Option Bool) =>
  w_f6has_l1 kj5 list1 n4 N 0

def i_HoursOfLessons (N : Nat) (list1 : List Lesson) (some4 : List Int) : Option (Int × Int) :=
  (i_takenCode N list1 some4).bind fun r7 =>
  bif (r7 != 0) then
  some (0, r7)
  else
  (i_hours N list1 some4).bind fun r10 =>
  some (r10, 0)

def w_FnLessonSets_l2 (kj63 : Option Bool) (r7 : (List Lesson) × Str) (r14 : (List Int) × Int) (i61 : Int) : Nat → Int → Option Bool
  | 0, _ => none
  | N + 1, j65 =>
    (idx r14.1 i61).bind fun e67 =>
    (idx r7.1 e67).bind fun e69 =>
    bif decide (j65 < (List.length e69.needs : Int)) then
    (idx r14.1 i61).bind fun e76 =>
    (idx r7.1 e76).bind fun e78 =>
    (idx e78.needs j65).bind fun e83 =>
    (w_f6has N r14.1 e83).bind fun r85 =>
    bif !r85 then
    some false
    else
    w_FnLessonSets_l2 kj63 r7 r14 i61 N (w64 (j65 + 1))
    else
    kj63 

def w_FnLessonSets_l1 (kj59 : Option Bool) (r7 : (List Lesson) × Str) (r14 : (List Int) × Int) : Nat → Int → Option Bool
  | 0, _ => none
  | N + 1, i61 =>
    bif decide (i61 < (List.length r14.1 : Int)) then
    withK (w_FnLessonSets_l1 kj59 r7 r14 N (w64 (i61 + 1))) fun (kj63 : Option Bool) =>
    w_FnLessonSets_l2 kj63 r7 r14 i61 N 0
    else
    kj59 

def w_FnLessonSets_l3 (kj93 : Int → Option Bool) (r7 : (List Lesson) × Str) : Nat → Int → Int → Option Bool
  | 0, _, _ => none
  | N + 1, all95, i96 =>
    bif decide (i96 < (List.length r7.1 : Int)) then
    (idx r7.1 i96).bind fun e99 =>
    w_FnLessonSets_l3 kj93 r7 N (w64 (all95 + e99.hours)) (w64 (i96 + 1))
    else
    kj93 all95

def w_FnLessonSets (N : Nat) (code1 : List UInt8) : Option Bool :=
  (w_f6big code1).bind fun r4 =>
  bif r4 then
  some true
  else
  (s_DrawLessonsForText N code1).bind fun r7 =>
  (i_LessonsForText N r7.1 r7.2).bind fun r11 =>
  (s_LessonsForText N r7.1 r7.2).bind fun r14 =>
  (i_UntaughtLetters N r7.1 r7.2).bind fun r17 =>
  (s_UntaughtLetters N r7.1 r7.2).bind fun r19 =>
  (s_DrawCanType N code1).bind fun r21 =>
  (i_CanType N r21.1 r21.2.1 r21.2.2).bind fun r26 =>
  (s_CanType N r21.1 r21.2.1 r21.2.2).bind fun r28 =>
  (orO (r11.2 != r14.2) ((w_f6ints N r11.1 r14.1).bind fun r33 =>
  some (!r33))).bind fun t30 =>
  (orO t30 (some (r17.2 != r19.2))).bind fun t35 =>
  (orO t35 (some (r17.1 != r19.1))).bind fun t38 =>
  (orO t38 (some (r26.2 != r28.2))).bind fun t41 =>
  (orO t41 (some (r26.1 != r28.1))).bind fun t44 =>
  bif t44 then
  some false
  else
  (andO (r11.2 == 0) (some (r17.1 != []))).bind fun t48 =>
  (orO t48 ((andO (r11.2 == 3) (some (r17.1 == []))).bind fun t54 =>
  some t54)).bind fun t51 =>
  bif t51 then
  some false
  else
  bif (r11.2 != 0) then
  some true
  else
  withK ((i_CanType N r7.1 r14.1 r7.2).bind fun r88 =>
  (i_HoursOfLessons N r7.1 r14.1).bind fun r90 =>
  withK (fun (all92 : Int) =>
  (andO (r88.2 == 0) (some r88.1)).bind fun t104 =>
  (andO t104 (some (r90.2 == 0))).bind fun t107 =>
  (andO t107 (some (decide (r90.1 ≤ all92)))).bind fun t110 =>
  some t110) fun (kj93 : Int → Option Bool) =>
  w_FnLessonSets_l3 kj93 r7 N 0 0) fun (kj59 : Option Bool) =>
  w_FnLessonSets_l1 kj59 r7 r14 N 0

end Go.Proofs.Ytbgngihmpdneaaa
