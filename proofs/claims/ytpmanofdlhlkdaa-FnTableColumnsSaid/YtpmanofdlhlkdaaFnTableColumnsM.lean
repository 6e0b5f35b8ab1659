/-
  Plain functions that compute what the Go functions compute. No conditions.
-/
import Derived.Test.YtpmanofdlhlkdaaBase2
namespace Go.Proofs.Ytpmanofdlhlkdaa
set_option linter.unusedVariables false
set_option linter.unusedSimpArgs false

structure L00Src where
  code : List UInt8
  at_ : Int
  seed : Int



def w_f6big (code1 : List UInt8) : Option Bool :=
  some (decide ((List.length code1 : Int) > 4096))

def s_l00From (code1 : List UInt8) : Option L00Src :=
  some (L00Src.mk code1 0 0)

def s_l00Src_next (s1 : L00Src) : Option (Int × L00Src) :=
  withK (fun (b5 : Int) =>
  bif decide ((w64 (s1.at_ + 1)) ≤ (List.length s1.code : Int)) then
  some (b5, (L00Src.mk s1.code (w64 (s1.at_ + 1)) (IntKind.u64.wrap ((IntKind.u64.wrap ((IntKind.u64.wrap (s1.seed * 6364136223846793005)) + (IntKind.u64.wrap b5))) + 1442695040888963407))))
  else
  some (w64 (uand (ushr (IntKind.u64.wrap ((IntKind.u64.wrap ((IntKind.u64.wrap (s1.seed * 6364136223846793005)) + (IntKind.u64.wrap b5))) + 1442695040888963407)) 40) 255), (L00Src.mk s1.code (w64 (s1.at_ + 1)) (IntKind.u64.wrap ((IntKind.u64.wrap ((IntKind.u64.wrap (s1.seed * 6364136223846793005)) + (IntKind.u64.wrap b5))) + 1442695040888963407))))) fun (kj6 : Int → Option (Int × L00Src)) =>
  bif decide (s1.at_ < (List.length s1.code : Int)) then
  (idx s1.code s1.at_).bind fun e9 =>
  kj6 (UInt8.toNat e9 : Int)
  else
  kj6 0

def s_l00Src_pick (s1 : L00Src) (n5 : Int) : Option (Int × L00Src) :=
  bif decide (n5 ≤ 1) then
  some (0, (L00Src.mk s1.code s1.at_ s1.seed))
  else
  (s_l00Src_next (L00Src.mk s1.code s1.at_ s1.seed)).bind fun r7 =>
  withK (fun (x9 : Int) (x10 : Int) (x11 : Int) =>
  (remO x11 n5).bind fun q17 =>
  some (q17, (L00Src.mk s1.code x9 x10))) fun (kj12 : Int → Int → Int → Option (Int × L00Src)) =>
  bif decide (n5 > 200) then
  (s_l00Src_next (L00Src.mk s1.code r7.2.at_ r7.2.seed)).bind fun r15 =>
  kj12 r15.2.at_ r15.2.seed (w64 ((w64 (r7.1 * 256)) + r15.1))
  else
  kj12 r7.2.at_ r7.2.seed r7.1

def s_l00Src_one (s1 : L00Src) (n5 : Int) : Option (Bool × L00Src) :=
  (s_l00Src_pick (L00Src.mk s1.code s1.at_ s1.seed) n5).bind fun r6 =>
  some ((r6.1 == 0), (L00Src.mk s1.code r6.2.at_ r6.2.seed))

def s_l00Src_among (s1 : L00Src) (list5 : List Int) : Option (Int × L00Src) :=
  (s_l00Src_pick (L00Src.mk s1.code s1.at_ s1.seed) (List.length list5 : Int)).bind fun r8 =>
  (idx list5 r8.1).bind fun e10 =>
  some (e10, (L00Src.mk s1.code r8.2.at_ r8.2.seed))

def s_l00Src_text (s1 : L00Src) (list5 : List Str) : Option (Str × L00Src) :=
  (s_l00Src_pick (L00Src.mk s1.code s1.at_ s1.seed) (List.length list5 : Int)).bind fun r8 =>
  (idx list5 r8.1).bind fun e10 =>
  some (e10, (L00Src.mk s1.code r8.2.at_ r8.2.seed))

def s_l08Cell (s1 : L00Src) : Option (Str × L00Src) :=
  (s_l00Src_text (L00Src.mk s1.code s1.at_ s1.seed) ([[], [97], [105, 110, 107], [49, 50], [114, 105, 98, 98, 111, 110], [120, 45, 114, 97, 121], [52, 46, 53, 48], [116, 111, 116, 97, 108]] : List Str)).bind fun r6 =>
  some (r6.1, (L00Src.mk s1.code r6.2.at_ r6.2.seed))

def s_l08Table_l2 (kj57 : (List Str) → Int → Int → Option ((List (List Str)) × L00Src)) (s1 : L00Src) : Nat → (List Str) → Int → Int → Int → Option ((List (List Str)) × L00Src)
  | 0, _, _, _, _ => none
  | N + 1, l59, x61, x62, j63 =>
    bif decide (j63 > 0) then
    (s_l08Cell (L00Src.mk s1.code x61 x62)).bind fun r65 =>
    (app l59 [r65.1]).bind fun l68 =>
    s_l08Table_l2 kj57 s1 N l68 r65.2.at_ r65.2.seed (w64 (j63 - 1))
    else
    kj57 l59 x61 x62

def s_l08Table_l1 (kj36 : Int → Int → (List (List Str)) → Option ((List (List Str)) × L00Src)) (s1 : L00Src) (n10 : Int) : Nat → Int → Int → (List (List Str)) → Int → Option ((List (List Str)) × L00Src)
  | 0, _, _, _, _ => none
  | N + 1, x38, x39, l40, k43 =>
    bif decide (k43 > 0) then
    withK (fun (l45 : List (List Str)) (x46 : Int) (x47 : Int) =>
    s_l08Table_l1 kj36 s1 n10 N x46 x47 l45 (w64 (k43 - 1))) fun (kj50 : (List (List Str)) → Int → Int → Option ((List (List Str)) × L00Src)) =>
    withK (fun (l53 : List Str) (x55 : Int) (x56 : Int) =>
    (app l40 ([l53] : List (List Str))).bind fun l75 =>
    kj50 l75 x55 x56) fun (kj57 : (List Str) → Int → Int → Option ((List (List Str)) × L00Src)) =>
    s_l08Table_l2 kj57 s1 N [] x38 x39 n10
    else
    kj36 x38 x39 l40

def s_l08Table (N : Nat) (s1 : L00Src) : Option ((List (List Str)) × L00Src) :=
  (s_l00Src_pick (L00Src.mk s1.code s1.at_ s1.seed) 4).bind fun r6 =>
  withK (fun (x8 : Int) (x9 : Int) (n10 : Int) =>
  (s_l00Src_pick (L00Src.mk s1.code x8 x9) 4).bind fun r18 =>
  withK (fun (x20 : Int) (x21 : Int) (many22 : Int) =>
  withK (fun (x31 : Int) (x32 : Int) (l33 : List (List Str)) =>
  withK (fun (x78 : Int) (x79 : Int) (l80 : List (List Str)) =>
  some (l80, (L00Src.mk s1.code x78 x79))) fun (kj82 : Int → Int → (List (List Str)) → Option ((List (List Str)) × L00Src)) =>
  bif decide (many22 > 0) then
  (s_l00Src_pick (L00Src.mk s1.code x31 x32) many22).bind fun r86 =>
  (idx l33 r86.1).bind fun e88 =>
  (s_l00Src_pick (L00Src.mk s1.code r86.2.at_ r86.2.seed) 16).bind fun r92 =>
  bif (r92.1 == 0) then
  (s_l00Src_text (L00Src.mk s1.code r92.2.at_ r92.2.seed) ([[127], [49, 50, 51, 52, 53, 54, 55, 56, 57, 48, 49, 50, 51, 52, 53, 54, 55, 56, 57, 48, 49, 50, 51, 52, 53, 54, 55, 56, 57, 48], [49, 50, 51, 52, 53, 54, 55, 56, 57, 48, 49, 50, 51, 52, 53, 54, 55, 56, 57, 48, 49, 50, 51, 52, 53, 54, 55, 56, 57, 48, 49]] : List Str)).bind fun r96 =>
  (idx e88 0).bind fun e98 =>
  kj82 r96.2.at_ r96.2.seed (List.set l33 (Int.toNat r86.1) (List.set e88 (Int.toNat 0) r96.1))
  else
  bif (r92.1 == 1) then
  (idx l33 0).bind fun e102 =>
  (sub e102 1 (List.length e102 : Int)).bind fun l106 =>
  (idx l33 0).bind fun e108 =>
  kj82 r92.2.at_ r92.2.seed (List.set l33 (Int.toNat 0) l106)
  else
  kj82 r92.2.at_ r92.2.seed l33
  else
  kj82 x31 x32 l33) fun (kj36 : Int → Int → (List (List Str)) → Option ((List (List Str)) × L00Src)) =>
  s_l08Table_l1 kj36 s1 n10 N x20 x21 ([] : List (List Str)) many22) fun (kj23 : Int → Int → Int → Option ((List (List Str)) × L00Src)) =>
  (s_l00Src_one (L00Src.mk s1.code r18.2.at_ r18.2.seed) 20).bind fun r25 =>
  bif r25.1 then
  (s_l00Src_among (L00Src.mk s1.code r25.2.at_ r25.2.seed) [0, 40, 41]).bind fun r29 =>
  kj23 r29.2.at_ r29.2.seed r29.1
  else
  kj23 r25.2.at_ r25.2.seed (w64 (1 + r18.1))) fun (kj11 : Int → Int → Int → Option ((List (List Str)) × L00Src)) =>
  (s_l00Src_one (L00Src.mk s1.code r6.2.at_ r6.2.seed) 20).bind fun r13 =>
  bif r13.1 then
  (s_l00Src_pick (L00Src.mk s1.code r13.2.at_ r13.2.seed) 2).bind fun r16 =>
  kj11 r16.2.at_ r16.2.seed (w64 (12 + r16.1))
  else
  kj11 r13.2.at_ r13.2.seed (w64 (1 + r6.1))

def s_DrawTableLines_l1 (kj14 : Int → Int → Str → Option ((List (List Str)) × Str × Int)) (code1 : List UInt8) (r7 : (List (List Str)) × L00Src) : Nat → Int → Int → Str → Int → Option ((List (List Str)) × Str × Int)
  | 0, _, _, _, _ => none
  | N + 1, x17, x18, sides19, k20 =>
    (idx r7.1 0).bind fun e22 =>
    bif decide (k20 < (List.length e22 : Int)) then
    (s_l00Src_text (L00Src.mk code1 x17 x18) ([[108], [114]] : List Str)).bind fun r28 =>
    (cat sides19 r28.1).bind fun s30 =>
    s_DrawTableLines_l1 kj14 code1 r7 N r28.2.at_ r28.2.seed s30 (w64 (k20 + 1))
    else
    kj14 x17 x18 sides19

def s_DrawTableLines (N : Nat) (code1 : List UInt8) : Option ((List (List Str)) × Str × Int) :=
  (s_l00From code1).bind fun r4 =>
  (s_l08Table N (L00Src.mk code1 r4.at_ r4.seed)).bind fun r7 =>
  withK (fun (x11 : Int) (x12 : Int) (sides13 : Str) =>
  withK (fun (x32 : Int) (x33 : Int) (sides34 : Str) =>
  (s_l00Src_pick (L00Src.mk code1 x32 x33) 4).bind fun r49 =>
  some (r7.1, sides34, r49.1)) fun (kj35 : Int → Int → Str → Option ((List (List Str)) × Str × Int)) =>
  (s_l00Src_pick (L00Src.mk code1 x11 x12) 16).bind fun r37 =>
  bif (r37.1 == 0) then
  (s_l00Src_text (L00Src.mk code1 r37.2.at_ r37.2.seed) ([[108], [120]] : List Str)).bind fun r41 =>
  (cat sides13 r41.1).bind fun s43 =>
  kj35 r41.2.at_ r41.2.seed s43
  else
  bif (r37.1 == 1) then
  (s_l00Src_among (L00Src.mk code1 r37.2.at_ r37.2.seed) [(-1), 0, 20, 21]).bind fun r47 =>
  some (r7.1, sides13, r47.1)
  else
  kj35 r37.2.at_ r37.2.seed sides13) fun (kj14 : Int → Int → Str → Option ((List (List Str)) × Str × Int)) =>
  bif decide ((List.length r7.1 : Int) > 0) then
  s_DrawTableLines_l1 kj14 code1 r7 N r7.2.at_ r7.2.seed [] 0
  else
  kj14 r7.2.at_ r7.2.seed []

def i_between (n1 : Int) (low2 : Int) (high3 : Int) : Option Bool :=
  (andO (decide (n1 ≥ low2)) (some (decide (n1 ≤ high3)))).bind fun t4 =>
  some t4

def i_isText_l1 (kj5 : Option Bool) (s1 : Str) (low2 : UInt8) : Nat → Int → Option Bool
  | 0, _ => none
  | N + 1, x7 =>
    bif decide (x7 < (List.length s1 : Int)) then
    (idx s1 x7).bind fun c9 =>
    (orO (decide (c9 < low2)) ((idx s1 x7).bind fun c14 =>
    some (decide (c14 > (126 : UInt8))))).bind fun t11 =>
    bif t11 then
    some false
    else
    i_isText_l1 kj5 s1 low2 N (w64 (x7 + 1))
    else
    kj5 

def i_isText (N : Nat) (s1 : Str) (low2 : UInt8) (most3 : Int) : Option Bool :=
  bif decide ((List.length s1 : Int) > most3) then
  some false
  else
  withK (some true) fun (kj5 : Option Bool) =>
  i_isText_l1 kj5 s1 low2 N 0

def i_isTable_l2 (kj11 : Option Bool) (e13 : List Str) : Nat → Int → Option Bool
  | 0, _ => none
  | N + 1, x33 =>
    bif decide (x33 < (List.length e13 : Int)) then
    (idx e13 x33).bind fun e35 =>
    (i_isText N e35 32 30).bind fun r40 =>
    bif !r40 then
    some false
    else
    i_isTable_l2 kj11 e13 N (w64 (x33 + 1))
    else
    kj11 

def i_isTable_l1 (kj7 : Option Bool) (rows1 : List (List Str)) : Nat → Int → Option Bool
  | 0, _ => none
  | N + 1, x9 =>
    bif decide (x9 < (List.length rows1 : Int)) then
    withK (i_isTable_l1 kj7 rows1 N (w64 (x9 + 1))) fun (kj11 : Option Bool) =>
    (idx rows1 x9).bind fun e13 =>
    (idx rows1 0).bind fun e20 =>
    (orO ((List.length e13 : Int) != (List.length e20 : Int)) ((i_between (List.length e13 : Int) 1 12).bind fun r30 =>
    some (!r30))).bind fun t27 =>
    bif t27 then
    some false
    else
    i_isTable_l2 kj11 e13 N 0
    else
    kj7 

def i_isTable (N : Nat) (rows1 : List (List Str)) : Option Bool :=
  (i_between (List.length rows1 : Int) 1 40).bind fun r4 =>
  bif !r4 then
  some false
  else
  withK (some true) fun (kj7 : Option Bool) =>
  i_isTable_l1 kj7 rows1 N 0

def i_columnWidths_l2 (kj21 : (List Int) → Option (List Int)) (e23 : List Str) : Nat → (List Int) → Int → Option (List Int)
  | 0, _, _ => none
  | N + 1, l30, x31 =>
    bif decide (x31 < (List.length e23 : Int)) then
    (idx e23 x31).bind fun e33 =>
    (idx l30 x31).bind fun e38 =>
    (idx l30 x31).bind fun e40 =>
    i_columnWidths_l2 kj21 e23 N (List.set l30 (Int.toNat x31) (imax e38 (List.length e33 : Int))) (w64 (x31 + 1))
    else
    kj21 l30

def i_columnWidths_l1 (kj15 : (List Int) → Option (List Int)) (rows1 : List (List Str)) : Nat → (List Int) → Int → Option (List Int)
  | 0, _, _ => none
  | N + 1, l17, x18 =>
    bif decide (x18 < (List.length rows1 : Int)) then
    withK (fun (l20 : List Int) =>
    i_columnWidths_l1 kj15 rows1 N l20 (w64 (x18 + 1))) fun (kj21 : (List Int) → Option (List Int)) =>
    (idx rows1 x18).bind fun e23 =>
    i_columnWidths_l2 kj21 e23 N l17 0
    else
    kj15 l17

def i_columnWidths (N : Nat) (rows1 : List (List Str)) : Option (List Int) :=
  (idx rows1 0).bind fun e4 =>
  (mk (List.length e4 : Int) (0 : Int)).bind fun l11 =>
  withK (fun (l14 : List Int) =>
  some l14) fun (kj15 : (List Int) → Option (List Int)) =>
  i_columnWidths_l1 kj15 rows1 N l11 0

def i_repeat_l1 (kj6 : (List UInt8) → Option Str) (s1 : Str) (n2 : Int) : Nat → (List UInt8) → Int → Option Str
  | 0, _, _ => none
  | N + 1, l8, x10 =>
    bif decide (x10 < (imax n2 0)) then
    (app l8 s1).bind fun l12 =>
    i_repeat_l1 kj6 s1 n2 N l12 (w64 (x10 + 1))
    else
    kj6 l8

def i_repeat (N : Nat) (s1 : Str) (n2 : Int) : Option Str :=
  withK (fun (l4 : List UInt8) =>
  some l4) fun (kj6 : (List UInt8) → Option Str) =>
  i_repeat_l1 kj6 s1 n2 N [] 0

def i_TableLines_l1 (kj22 : Option ((List Str) × Int)) (sides4 : Str) : Nat → Int → Option ((List Str) × Int)
  | 0, _ => none
  | N + 1, x24 =>
    bif decide (x24 < (List.length sides4 : Int)) then
    (idx sides4 x24).bind fun c26 =>
    (andO (c26 != (108 : UInt8)) ((idx sides4 x24).bind fun c31 =>
    some (c31 != (114 : UInt8)))).bind fun t28 =>
    bif t28 then
    some ([], 2)
    else
    i_TableLines_l1 kj22 sides4 N (w64 (x24 + 1))
    else
    kj22 

def i_TableLines_l3 (kj58 : Str → Option ((List Str) × Int)) (sides4 : Str) (gap5 : Int) (r34 : (List Int)) (e50 : List Str) : Nat → Str → Int → Option ((List Str) × Int)
  | 0, _, _ => none
  | N + 1, line60, x61 =>
    bif decide (x61 < (List.length e50 : Int)) then
    withK (fun (line63 : Str) =>
    i_TableLines_l3 kj58 sides4 gap5 r34 e50 N line63 (w64 (x61 + 1))) fun (kj64 : Str → Option ((List Str) × Int)) =>
    (idx e50 x61).bind fun e66 =>
    withK (fun (line71 : Str) =>
    (idx r34 x61).bind fun e79 =>
    (i_repeat N [32] (w64 (e79 - (List.length e66 : Int)))).bind fun r81 =>
    (idx sides4 x61).bind fun c83 =>
    bif (c83 == (108 : UInt8)) then
    (cat e66 r81).bind fun s86 =>
    (cat line71 s86).bind fun s88 =>
    kj64 s88
    else
    (cat r81 e66).bind fun s90 =>
    (cat line71 s90).bind fun s92 =>
    kj64 s92) fun (kj72 : Str → Option ((List Str) × Int)) =>
    bif decide (x61 > 0) then
    (i_repeat N [32] gap5).bind fun r75 =>
    (cat line60 r75).bind fun s77 =>
    kj72 s77
    else
    kj72 line60
    else
    kj58 line60

def i_TableLines_l2 (kj40 : (List Str) → Option ((List Str) × Int)) (rows1 : List (List Str)) (sides4 : Str) (gap5 : Int) (r34 : (List Int)) : Nat → (List Str) → Int → Option ((List Str) × Int)
  | 0, _, _ => none
  | N + 1, l42, x44 =>
    bif decide (x44 < (List.length rows1 : Int)) then
    withK (fun (l46 : List Str) =>
    i_TableLines_l2 kj40 rows1 sides4 gap5 r34 N l46 (w64 (x44 + 1))) fun (kj48 : (List Str) → Option ((List Str) × Int)) =>
    (idx rows1 x44).bind fun e50 =>
    withK (fun (line57 : Str) =>
    (app l42 [line57]).bind fun l95 =>
    kj48 l95) fun (kj58 : Str → Option ((List Str) × Int)) =>
    i_TableLines_l3 kj58 sides4 gap5 r34 e50 N [] 0
    else
    kj40 l42

def i_TableLines (N : Nat) (rows1 : List (List Str)) (sides4 : Str) (gap5 : Int) : Option ((List Str) × Int) :=
  (i_isTable N rows1).bind fun r6 =>
  bif !r6 then
  some ([], 1)
  else
  (idx rows1 0).bind fun e9 =>
  (orO ((List.length sides4 : Int) != (List.length e9 : Int)) ((i_between gap5 0 20).bind fun r19 =>
  some (!r19))).bind fun t16 =>
  bif t16 then
  some ([], 2)
  else
  withK ((i_columnWidths N rows1).bind fun r34 =>
  withK (fun (l38 : List Str) =>
  some (l38, 0)) fun (kj40 : (List Str) → Option ((List Str) × Int)) =>
  i_TableLines_l2 kj40 rows1 sides4 gap5 r34 N [] 0) fun (kj22 : Option ((List Str) × Int)) =>
  i_TableLines_l1 kj22 sides4 N 0

def s_l00In (n1 : Int) (low2 : Int) (high3 : Int) : Option Bool :=
  (andO (decide (n1 ≥ low2)) (some (decide (n1 ≤ high3)))).bind fun t4 =>
  some t4

def s_l00Text_l1 (kj3 : Option Bool) (s1 : Str) : Nat → Int → Option Bool
  | 0, _ => none
  | N + 1, i5 =>
    bif decide (i5 < (List.length s1 : Int)) then
    (idx s1 i5).bind fun c7 =>
    (orO (decide (c7 < (32 : UInt8))) ((idx s1 i5).bind fun c12 =>
    some (decide (c12 > (126 : UInt8))))).bind fun t9 =>
    bif t9 then
    some false
    else
    s_l00Text_l1 kj3 s1 N (w64 (i5 + 1))
    else
    kj3 

def s_l00Text (N : Nat) (s1 : Str) (most2 : Int) : Option Bool :=
  withK (some (decide ((List.length s1 : Int) ≤ most2))) fun (kj3 : Option Bool) =>
  s_l00Text_l1 kj3 s1 N 0

def s_l08Rows_l2 (kj8 : Option Bool) (rows1 : List (List Str)) (i6 : Int) : Nat → Int → Option Bool
  | 0, _ => none
  | N + 1, k37 =>
    (idx rows1 i6).bind fun e38 =>
    bif decide (k37 < (List.length e38 : Int)) then
    (idx rows1 i6).bind fun e46 =>
    (idx e46 k37).bind fun e53 =>
    (s_l00Text N e53 30).bind fun r58 =>
    bif !r58 then
    some false
    else
    s_l08Rows_l2 kj8 rows1 i6 N (w64 (k37 + 1))
    else
    kj8 

def s_l08Rows_l1 (kj4 : Option Bool) (rows1 : List (List Str)) : Nat → Int → Option Bool
  | 0, _ => none
  | N + 1, i6 =>
    bif decide (i6 < (List.length rows1 : Int)) then
    withK (s_l08Rows_l1 kj4 rows1 N (w64 (i6 + 1))) fun (kj8 : Option Bool) =>
    (idx rows1 i6).bind fun e10 =>
    (idx rows1 0).bind fun e17 =>
    (orO ((List.length e10 : Int) != (List.length e17 : Int)) ((idx rows1 i6).bind fun e27 =>
    (s_l00In (List.length e27 : Int) 1 12).bind fun r34 =>
    some (!r34))).bind fun t24 =>
    bif t24 then
    some false
    else
    s_l08Rows_l2 kj8 rows1 i6 N 0
    else
    kj4 

def s_l08Rows (N : Nat) (rows1 : List (List Str)) : Option Bool :=
  withK ((s_l00In (List.length rows1 : Int) 1 40).bind fun r61 =>
  some r61) fun (kj4 : Option Bool) =>
  s_l08Rows_l1 kj4 rows1 N 0

def s_l00Max (a1 : Int) (b2 : Int) : Option Int :=
  bif decide (a1 > b2) then
  some a1
  else
  some b2

def s_l08Widths_l2 (kj21 : (List Int) → Option (List Int)) (rows1 : List (List Str)) (i18 : Int) : Nat → (List Int) → Int → Option (List Int)
  | 0, _, _ => none
  | N + 1, l23, k24 =>
    (idx rows1 i18).bind fun e25 =>
    bif decide (k24 < (List.length e25 : Int)) then
    (idx l23 k24).bind fun e33 =>
    (idx rows1 i18).bind fun e35 =>
    (idx e35 k24).bind fun e42 =>
    (s_l00Max e33 (List.length e42 : Int)).bind fun r47 =>
    (idx l23 k24).bind fun e49 =>
    s_l08Widths_l2 kj21 rows1 i18 N (List.set l23 (Int.toNat k24) r47) (w64 (k24 + 1))
    else
    kj21 l23

def s_l08Widths_l1 (kj15 : (List Int) → Option (List Int)) (rows1 : List (List Str)) : Nat → (List Int) → Int → Option (List Int)
  | 0, _, _ => none
  | N + 1, l17, i18 =>
    bif decide (i18 < (List.length rows1 : Int)) then
    withK (fun (l20 : List Int) =>
    s_l08Widths_l1 kj15 rows1 N l20 (w64 (i18 + 1))) fun (kj21 : (List Int) → Option (List Int)) =>
    s_l08Widths_l2 kj21 rows1 i18 N l17 0
    else
    kj15 l17

def s_l08Widths (N : Nat) (rows1 : List (List Str)) : Option (List Int) :=
  (idx rows1 0).bind fun e4 =>
  (mk (List.length e4 : Int) (0 : Int)).bind fun l11 =>
  withK (fun (l14 : List Int) =>
  some l14) fun (kj15 : (List Int) → Option (List Int)) =>
  s_l08Widths_l1 kj15 rows1 N l11 0

def s_l08Blanks_l1 (kj5 : (List UInt8) → Option Str) (n1 : Int) : Nat → (List UInt8) → Int → Option Str
  | 0, _, _ => none
  | N + 1, l7, k9 =>
    bif decide (k9 < n1) then
    (app l7 [32]).bind fun l12 =>
    s_l08Blanks_l1 kj5 n1 N l12 (w64 (k9 + 1))
    else
    kj5 l7

def s_l08Blanks (N : Nat) (n1 : Int) : Option Str :=
  withK (fun (l3 : List UInt8) =>
  some l3) fun (kj5 : (List UInt8) → Option Str) =>
  s_l08Blanks_l1 kj5 n1 N [] 0

def s_TableLines_l1 (kj9 : Option ((List Str) × Int)) (sides4 : Str) : Nat → Int → Option ((List Str) × Int)
  | 0, _ => none
  | N + 1, i11 =>
    bif decide (i11 < (List.length sides4 : Int)) then
    (idx sides4 i11).bind fun c13 =>
    (andO (c13 != (108 : UInt8)) ((idx sides4 i11).bind fun c18 =>
    some (c18 != (114 : UInt8)))).bind fun t15 =>
    bif t15 then
    some ([], 2)
    else
    s_TableLines_l1 kj9 sides4 N (w64 (i11 + 1))
    else
    kj9 

def s_TableLines_l3 (kj51 : Str → Option ((List Str) × Int)) (rows1 : List (List Str)) (sides4 : Str) (gap5 : Int) (r34 : (List Int)) (i44 : Int) : Nat → Str → Int → Option ((List Str) × Int)
  | 0, _, _ => none
  | N + 1, line53, k54 =>
    (idx rows1 i44).bind fun e55 =>
    bif decide (k54 < (List.length e55 : Int)) then
    withK (fun (line63 : Str) =>
    s_TableLines_l3 kj51 rows1 sides4 gap5 r34 i44 N line63 (w64 (k54 + 1))) fun (kj64 : Str → Option ((List Str) × Int)) =>
    withK (fun (line66 : Str) =>
    (idx r34 k54).bind fun e74 =>
    (idx rows1 i44).bind fun e76 =>
    (idx e76 k54).bind fun e83 =>
    (s_l08Blanks N (w64 (e74 - (List.length e83 : Int)))).bind fun r88 =>
    (idx sides4 k54).bind fun c90 =>
    bif (c90 == (108 : UInt8)) then
    (idx rows1 i44).bind fun e93 =>
    (idx e93 k54).bind fun e100 =>
    (cat e100 r88).bind fun s105 =>
    (cat line66 s105).bind fun s107 =>
    kj64 s107
    else
    (idx rows1 i44).bind fun e109 =>
    (idx e109 k54).bind fun e116 =>
    (cat r88 e116).bind fun s121 =>
    (cat line66 s121).bind fun s123 =>
    kj64 s123) fun (kj67 : Str → Option ((List Str) × Int)) =>
    bif decide (k54 > 0) then
    (s_l08Blanks N gap5).bind fun r70 =>
    (cat line53 r70).bind fun s72 =>
    kj67 s72
    else
    kj67 line53
    else
    kj51 line53

def s_TableLines_l2 (kj40 : (List Str) → Option ((List Str) × Int)) (rows1 : List (List Str)) (sides4 : Str) (gap5 : Int) (r34 : (List Int)) : Nat → (List Str) → Int → Option ((List Str) × Int)
  | 0, _, _ => none
  | N + 1, l42, i44 =>
    bif decide (i44 < (List.length rows1 : Int)) then
    withK (fun (l46 : List Str) =>
    s_TableLines_l2 kj40 rows1 sides4 gap5 r34 N l46 (w64 (i44 + 1))) fun (kj48 : (List Str) → Option ((List Str) × Int)) =>
    withK (fun (line50 : Str) =>
    (app l42 [line50]).bind fun l126 =>
    kj48 l126) fun (kj51 : Str → Option ((List Str) × Int)) =>
    s_TableLines_l3 kj51 rows1 sides4 gap5 r34 i44 N [] 0
    else
    kj40 l42

def s_TableLines (N : Nat) (rows1 : List (List Str)) (sides4 : Str) (gap5 : Int) : Option ((List Str) × Int) :=
  (s_l08Rows N rows1).bind fun r6 =>
  bif !r6 then
  some ([], 1)
  else
  withK ((idx rows1 0).bind fun e21 =>
  (orO ((List.length sides4 : Int) != (List.length e21 : Int)) ((s_l00In gap5 0 20).bind fun r31 =>
  some (!r31))).bind fun t28 =>
  bif t28 then
  some ([], 2)
  else
  (s_l08Widths N rows1).bind fun r34 =>
  withK (fun (l38 : List Str) =>
  some (l38, 0)) fun (kj40 : (List Str) → Option ((List Str) × Int)) =>
  s_TableLines_l2 kj40 rows1 sides4 gap5 r34 N [] 0) fun (kj9 : Option ((List Str) × Int)) =>
  s_TableLines_l1 kj9 sides4 N 0

def i_ColumnWidths (N : Nat) (rows1 : List (List Str)) : Option ((List Int) × Int) :=
  (i_isTable N rows1).bind fun r4 =>
  bif !r4 then
  some ([], 1)
  else
  (i_columnWidths N rows1).bind fun r7 =>
  some (r7, 0)

def s_ColumnWidths (N : Nat) (rows1 : List (List Str)) : Option ((List Int) × Int) :=
  (s_l08Rows N rows1).bind fun r4 =>
  bif !r4 then
  some ([], 1)
  else
  (s_l08Widths N rows1).bind fun r7 =>
  some (r7, 0)

def s_l08DrawWidths_l1 (kj10 : Int → Int → (List Int) → Option ((List Int) × L00Src)) (s1 : L00Src) : Nat → Int → Int → (List Int) → Int → Option ((List Int) × L00Src)
  | 0, _, _, _, _ => none
  | N + 1, x14, x15, l16, k18 =>
    bif decide (k18 > 0) then
    (s_l00Src_pick (L00Src.mk s1.code x14 x15) 20).bind fun r20 =>
    (app l16 [r20.1]).bind fun l23 =>
    s_l08DrawWidths_l1 kj10 s1 N r20.2.at_ r20.2.seed l23 (w64 (k18 - 1))
    else
    kj10 x14 x15 l16

def s_l08DrawWidths (N : Nat) (s1 : L00Src) : Option ((List Int) × L00Src) :=
  withK (fun (x6 : Int) (x7 : Int) (l8 : List Int) =>
  withK (fun (x26 : Int) (x27 : Int) (l28 : List Int) =>
  some (l28, (L00Src.mk s1.code x26 x27))) fun (kj30 : Int → Int → (List Int) → Option ((List Int) × L00Src)) =>
  (s_l00Src_pick (L00Src.mk s1.code x6 x7) 16).bind fun r32 =>
  bif (r32.1 == 0) then
  (s_l00Src_among (L00Src.mk s1.code r32.2.at_ r32.2.seed) [(-1), 0, 120, 121, (-9223372036854775808)]).bind fun r36 =>
  (idx l8 0).bind fun e38 =>
  kj30 r36.2.at_ r36.2.seed (List.set l8 (Int.toNat 0) r36.1)
  else
  bif (r32.1 == 1) then
  (s_l00Src_among (L00Src.mk s1.code r32.2.at_ r32.2.seed) [0, 12, 13]).bind fun r42 =>
  (mk r42.1 (0 : Int)).bind fun l44 =>
  kj30 r42.2.at_ r42.2.seed l44
  else
  kj30 r32.2.at_ r32.2.seed l8) fun (kj10 : Int → Int → (List Int) → Option ((List Int) × L00Src)) =>
  (s_l00Src_pick (L00Src.mk s1.code s1.at_ s1.seed) 4).bind fun r12 =>
  s_l08DrawWidths_l1 kj10 s1 N r12.2.at_ r12.2.seed [] (w64 (1 + r12.1))

def s_DrawStopsFor (N : Nat) (code1 : List UInt8) : Option ((List Int) × Int × Int) :=
  (s_l00From code1).bind fun r4 =>
  (s_l08DrawWidths N (L00Src.mk code1 r4.at_ r4.seed)).bind fun r7 =>
  (s_l00Src_pick (L00Src.mk code1 r7.2.at_ r7.2.seed) 20).bind fun r10 =>
  withK (fun (x12 : Int) (x13 : Int) (left14 : Int) =>
  (s_l00Src_one (L00Src.mk code1 x12 x13) 10).bind fun r23 =>
  bif r23.1 then
  (s_l00Src_among (L00Src.mk code1 r23.2.at_ r23.2.seed) [0, 1, 120, 121]).bind fun r27 =>
  some (r7.1, left14, r27.1)
  else
  (s_l00Src_pick (L00Src.mk code1 r23.2.at_ r23.2.seed) 6).bind fun r29 =>
  some (r7.1, left14, w64 (1 + r29.1))) fun (kj15 : Int → Int → Int → Option ((List Int) × Int × Int)) =>
  (s_l00Src_one (L00Src.mk code1 r10.2.at_ r10.2.seed) 10).bind fun r17 =>
  bif r17.1 then
  (s_l00Src_among (L00Src.mk code1 r17.2.at_ r17.2.seed) [(-1), 0, 119, 120]).bind fun r21 =>
  kj15 r21.2.at_ r21.2.seed r21.1
  else
  kj15 r17.2.at_ r17.2.seed r10.1

def i_areWidths_l1 (kj4 : Option Bool) (widths1 : List Int) : Nat → Int → Option Bool
  | 0, _ => none
  | N + 1, x6 =>
    bif decide (x6 < (List.length widths1 : Int)) then
    (idx widths1 x6).bind fun e8 =>
    (i_between e8 0 120).bind fun r13 =>
    bif !r13 then
    some false
    else
    i_areWidths_l1 kj4 widths1 N (w64 (x6 + 1))
    else
    kj4 

def i_areWidths (N : Nat) (widths1 : List Int) : Option Bool :=
  withK ((i_between (List.length widths1 : Int) 1 12).bind fun r16 =>
  some r16) fun (kj4 : Option Bool) =>
  i_areWidths_l1 kj4 widths1 N 0

def i_isColumn (n1 : Int) : Option Bool :=
  (i_between n1 0 119).bind fun r2 =>
  some r2

def i_ValidRack_l1 (kj5 : Option Bool) (stops1 : List Int) : Nat → Int → Option Bool
  | 0, _ => none
  | N + 1, x7 =>
    bif decide (x7 < (List.length stops1 : Int)) then
    (idx stops1 x7).bind fun e9 =>
    (i_isColumn e9).bind fun r14 =>
    (orO (!r14) ((andO (decide (x7 > 0)) ((idx stops1 (w64 (x7 - 1))).bind fun e22 =>
    some (decide (e9 ≤ e22)))).bind fun t19 =>
    some t19)).bind fun t16 =>
    bif t16 then
    some false
    else
    i_ValidRack_l1 kj5 stops1 N (w64 (x7 + 1))
    else
    kj5 

def i_ValidRack (N : Nat) (stops1 : List Int) : Option Bool :=
  bif decide ((List.length stops1 : Int) > 12) then
  some false
  else
  withK (some true) fun (kj5 : Option Bool) =>
  i_ValidRack_l1 kj5 stops1 N 0

def i_StopsFor_l1 (kj23 : (List Int) → Int → Option ((List Int) × Int)) (widths1 : List Int) (gap5 : Int) : Nat → (List Int) → Int → Int → Option ((List Int) × Int)
  | 0, _, _, _ => none
  | N + 1, l25, at27, x28 =>
    bif decide (x28 < (List.length widths1 : Int)) then
    (idx widths1 x28).bind fun e30 =>
    (app l25 [at27]).bind fun l36 =>
    i_StopsFor_l1 kj23 widths1 gap5 N l36 (w64 (at27 + (w64 (e30 + gap5)))) (w64 (x28 + 1))
    else
    kj23 l25 at27

def i_StopsFor (N : Nat) (widths1 : List Int) (left4 : Int) (gap5 : Int) : Option ((List Int) × Int) :=
  (i_areWidths N widths1).bind fun r6 =>
  (orO (!r6) ((i_isColumn left4).bind fun r11 =>
  some (!r11))).bind fun t8 =>
  (orO t8 ((i_between gap5 1 120).bind fun r16 =>
  some (!r16))).bind fun t13 =>
  bif t13 then
  some ([], 2)
  else
  withK (fun (l20 : List Int) (at22 : Int) =>
  (i_ValidRack N l20).bind fun r39 =>
  (orO (!r39) (some (decide ((w64 (at22 - gap5)) > 120)))).bind fun t41 =>
  bif t41 then
  some ([], 5)
  else
  some (l20, 0)) fun (kj23 : (List Int) → Int → Option ((List Int) × Int)) =>
  i_StopsFor_l1 kj23 widths1 gap5 N [] left4 0

def s_l08Columns_l1 (kj4 : Option Bool) (widths1 : List Int) : Nat → Int → Option Bool
  | 0, _ => none
  | N + 1, i6 =>
    bif decide (i6 < (List.length widths1 : Int)) then
    (idx widths1 i6).bind fun e8 =>
    (s_l00In e8 0 120).bind fun r13 =>
    bif !r13 then
    some false
    else
    s_l08Columns_l1 kj4 widths1 N (w64 (i6 + 1))
    else
    kj4 

def s_l08Columns (N : Nat) (widths1 : List Int) : Option Bool :=
  withK ((s_l00In (List.length widths1 : Int) 1 12).bind fun r16 =>
  some r16) fun (kj4 : Option Bool) =>
  s_l08Columns_l1 kj4 widths1 N 0

def s_l00Rises_l1 (kj6 : Option Bool) (list1 : List Int) (low4 : Int) (high5 : Int) : Nat → Int → Option Bool
  | 0, _ => none
  | N + 1, i8 =>
    bif decide (i8 < (List.length list1 : Int)) then
    (idx list1 i8).bind fun e10 =>
    (s_l00In e10 low4 high5).bind fun r15 =>
    (orO (!r15) ((andO (decide (i8 > 0)) ((idx list1 (w64 (i8 - 1))).bind fun e23 =>
    (idx list1 i8).bind fun e28 =>
    some (decide (e23 ≥ e28)))).bind fun t20 =>
    some t20)).bind fun t17 =>
    bif t17 then
    some false
    else
    s_l00Rises_l1 kj6 list1 low4 high5 N (w64 (i8 + 1))
    else
    kj6 

def s_l00Rises (N : Nat) (list1 : List Int) (low4 : Int) (high5 : Int) : Option Bool :=
  withK (some true) fun (kj6 : Option Bool) =>
  s_l00Rises_l1 kj6 list1 low4 high5 N 0

def s_l08Ok (N : Nat) (stops1 : List Int) : Option Bool :=
  (andO (decide ((List.length stops1 : Int) ≤ 12)) ((s_l00Rises N stops1 0 119).bind fun r7 =>
  some r7)).bind fun t4 =>
  some t4

def s_StopsFor_l1 (kj23 : (List Int) → Int → Option ((List Int) × Int)) (widths1 : List Int) (gap5 : Int) : Nat → (List Int) → Int → Int → Option ((List Int) × Int)
  | 0, _, _, _ => none
  | N + 1, l25, at27, i28 =>
    bif decide (i28 < (List.length widths1 : Int)) then
    (app l25 [at27]).bind fun l31 =>
    (idx widths1 i28).bind fun e34 =>
    s_StopsFor_l1 kj23 widths1 gap5 N l31 (w64 (at27 + (w64 (e34 + gap5)))) (w64 (i28 + 1))
    else
    kj23 l25 at27

def s_StopsFor (N : Nat) (widths1 : List Int) (left4 : Int) (gap5 : Int) : Option ((List Int) × Int) :=
  (s_l08Columns N widths1).bind fun r6 =>
  (orO (!r6) ((s_l00In left4 0 119).bind fun r11 =>
  some (!r11))).bind fun t8 =>
  (orO t8 ((s_l00In gap5 1 120).bind fun r16 =>
  some (!r16))).bind fun t13 =>
  bif t13 then
  some ([], 2)
  else
  withK (fun (l20 : List Int) (at22 : Int) =>
  (orO (decide ((w64 (at22 - gap5)) > 120)) ((s_l08Ok N l20).bind fun r42 =>
  some (!r42))).bind fun t39 =>
  bif t39 then
  some ([], 5)
  else
  some (l20, 0)) fun (kj23 : (List Int) → Int → Option ((List Int) × Int)) =>
  s_StopsFor_l1 kj23 widths1 gap5 N [] left4 0

def s_DrawWidestGap (N : Nat) (code1 : List UInt8) : Option ((List Int) × Int × Int) :=
  (s_l00From code1).bind fun r4 =>
  (s_l08DrawWidths N (L00Src.mk code1 r4.at_ r4.seed)).bind fun r7 =>
  (s_l00Src_pick (L00Src.mk code1 r7.2.at_ r7.2.seed) 20).bind fun r10 =>
  withK (fun (x12 : Int) (x13 : Int) (left14 : Int) =>
  (s_l00Src_one (L00Src.mk code1 x12 x13) 10).bind fun r23 =>
  bif r23.1 then
  (s_l00Src_among (L00Src.mk code1 r23.2.at_ r23.2.seed) [(-1), left14, 120, 121]).bind fun r27 =>
  some (r7.1, left14, r27.1)
  else
  (s_l00Src_pick (L00Src.mk code1 r23.2.at_ r23.2.seed) 80).bind fun r29 =>
  some (r7.1, left14, w64 (left14 + r29.1))) fun (kj15 : Int → Int → Int → Option ((List Int) × Int × Int)) =>
  (s_l00Src_one (L00Src.mk code1 r10.2.at_ r10.2.seed) 10).bind fun r17 =>
  bif r17.1 then
  (s_l00Src_among (L00Src.mk code1 r17.2.at_ r17.2.seed) [(-1), 0, 120, 121]).bind fun r21 =>
  kj15 r21.2.at_ r21.2.seed r21.1
  else
  kj15 r17.2.at_ r17.2.seed r10.1

def i_WidestGap_l1 (kj20 : Int → Option (Int × Int)) (widths1 : List Int) : Nat → Int → Int → Option (Int × Int)
  | 0, _, _ => none
  | N + 1, room22, x23 =>
    bif decide (x23 < (List.length widths1 : Int)) then
    (idx widths1 x23).bind fun e25 =>
    i_WidestGap_l1 kj20 widths1 N (w64 (room22 - e25)) (w64 (x23 + 1))
    else
    kj20 room22

def i_WidestGap (N : Nat) (widths1 : List Int) (left4 : Int) (right5 : Int) : Option (Int × Int) :=
  (i_areWidths N widths1).bind fun r6 =>
  (orO (!r6) (some (decide (left4 < 0)))).bind fun t8 =>
  (orO t8 (some (decide (left4 > right5)))).bind fun t11 =>
  (orO t11 (some (decide (right5 > 120)))).bind fun t14 =>
  bif t14 then
  some (0, 2)
  else
  bif ((List.length widths1 : Int) == 1) then
  some (0, 6)
  else
  withK (fun (room19 : Int) =>
  bif decide (room19 < (w64 ((List.length widths1 : Int) - 1))) then
  some (0, 5)
  else
  (quoO room19 (w64 ((List.length widths1 : Int) - 1))).bind fun q31 =>
  some (q31, 0)) fun (kj20 : Int → Option (Int × Int)) =>
  i_WidestGap_l1 kj20 widths1 N (w64 (right5 - left4)) 0

def s_l00Sum_l1 (kj5 : Int → Option Int) (list1 : List Int) : Nat → Int → Int → Option Int
  | 0, _, _ => none
  | N + 1, sum7, i8 =>
    bif decide (i8 < (List.length list1 : Int)) then
    (idx list1 i8).bind fun e10 =>
    s_l00Sum_l1 kj5 list1 N (w64 (sum7 + e10)) (w64 (i8 + 1))
    else
    kj5 sum7

def s_l00Sum (N : Nat) (list1 : List Int) : Option Int :=
  withK (fun (sum4 : Int) =>
  some sum4) fun (kj5 : Int → Option Int) =>
  s_l00Sum_l1 kj5 list1 N 0 0

def s_WidestGap (N : Nat) (widths1 : List Int) (left4 : Int) (right5 : Int) : Option (Int × Int) :=
  (s_l08Columns N widths1).bind fun r6 =>
  (orO (!r6) ((s_l00In left4 0 120).bind fun r11 =>
  some (!r11))).bind fun t8 =>
  (orO t8 ((s_l00In right5 left4 120).bind fun r16 =>
  some (!r16))).bind fun t13 =>
  bif t13 then
  some (0, 2)
  else
  bif ((List.length widths1 : Int) == 1) then
  some (0, 6)
  else
  (s_l00Sum N widths1).bind fun r20 =>
  bif decide ((w64 ((w64 (right5 - left4)) - r20)) < (w64 ((List.length widths1 : Int) - 1))) then
  some (0, 5)
  else
  (quoO (w64 ((w64 (right5 - left4)) - r20)) (w64 ((List.length widths1 : Int) - 1))).bind fun q23 =>
  some (q23, 0)

def s_l08DrawNumber (s1 : L00Src) : Option (Str × L00Src) :=
  (s_l00Src_text (L00Src.mk s1.code s1.at_ s1.seed) ([[48], [49, 50], [45, 51], [52, 46, 53, 48], [49, 48, 48, 46, 48, 53], [45, 48, 46, 53], [55, 46, 49, 50, 53], [49, 50, 51, 52, 53, 54], [], [45], [49, 46], [46, 53], [49, 46, 50, 46, 51], [120], [49, 50, 51, 52, 53, 54, 55, 56, 57, 48, 49, 50, 51, 52, 53, 54, 55, 56, 57, 48, 49, 50, 51, 52, 53, 54, 46, 55, 56, 57], [49, 50, 51, 52, 53, 54, 55, 56, 57, 48, 49, 50, 51, 52, 53, 54, 55, 56, 57, 48, 49, 50, 51, 52, 53, 54, 55, 46, 56, 57, 48, 49]] : List Str)).bind fun r6 =>
  some (r6.1, (L00Src.mk s1.code r6.2.at_ r6.2.seed))

def s_DrawAlignNumbers_l1 (kj24 : Int → Int → (List Str) → Option (List Str)) (code1 : List UInt8) : Nat → Int → Int → (List Str) → Int → Option (List Str)
  | 0, _, _, _, _ => none
  | N + 1, x26, x27, l28, k30 =>
    bif decide (k30 > 0) then
    (s_l00Src_text (L00Src.mk code1 x26 x27) ([[48], [49, 50], [45, 51], [52, 46, 53, 48], [49, 48, 48, 46, 48, 53], [45, 48, 46, 53]] : List Str)).bind fun r33 =>
    (app l28 [r33.1]).bind fun l36 =>
    s_DrawAlignNumbers_l1 kj24 code1 N r33.2.at_ r33.2.seed l36 (w64 (k30 - 1))
    else
    kj24 x26 x27 l28

def s_DrawAlignNumbers (N : Nat) (code1 : List UInt8) : Option (List Str) :=
  (s_l00From code1).bind fun r4 =>
  (s_l00Src_pick (L00Src.mk code1 r4.at_ r4.seed) 6).bind fun r8 =>
  withK (fun (x10 : Int) (x11 : Int) (n12 : Int) =>
  withK (fun (x20 : Int) (x21 : Int) (l22 : List Str) =>
  withK (fun (l39 : List Str) =>
  some l39) fun (kj40 : (List Str) → Option (List Str)) =>
  (bif decide (n12 > 0) then (s_l00Src_one (L00Src.mk code1 x20 x21) 4).bind fun r46 =>
  some (r46.1, (L00Src.mk code1 r46.2.at_ r46.2.seed)) else some (false, (L00Src.mk code1 x20 x21))).bind fun x44 =>
  bif x44.1 then
  (s_l08DrawNumber (L00Src.mk code1 x44.2.at_ x44.2.seed)).bind fun r49 =>
  (idx l22 0).bind fun e51 =>
  kj40 (List.set l22 (Int.toNat 0) r49.1)
  else
  kj40 l22) fun (kj24 : Int → Int → (List Str) → Option (List Str)) =>
  s_DrawAlignNumbers_l1 kj24 code1 N x10 x11 [] n12) fun (kj13 : Int → Int → Int → Option (List Str)) =>
  (s_l00Src_one (L00Src.mk code1 r8.2.at_ r8.2.seed) 20).bind fun r15 =>
  bif r15.1 then
  (s_l00Src_pick (L00Src.mk code1 r15.2.at_ r15.2.seed) 2).bind fun r18 =>
  kj13 r18.2.at_ r18.2.seed (w64 (40 + r18.1))
  else
  kj13 r15.2.at_ r15.2.seed r8.1

def i_isDigit (b1 : UInt8) : Option Bool :=
  (andO (decide (b1 ≥ (48 : UInt8))) (some (decide (b1 ≤ (57 : UInt8))))).bind fun t2 =>
  some t2

def i_pointOf_l1 (kj13 : Int → Int → Option (Int × Bool)) (s1 : Str) : Nat → Int → Int → Int → Option (Int × Bool)
  | 0, _, _, _ => none
  | N + 1, point15, digits16, i17 =>
    bif decide (i17 < (List.length s1 : Int)) then
    withK (fun (point19 : Int) (digits20 : Int) =>
    i_pointOf_l1 kj13 s1 N point19 digits20 (w64 (i17 + 1))) fun (kj21 : Int → Int → Option (Int × Bool)) =>
    (idx s1 i17).bind fun c23 =>
    (i_isDigit c23).bind fun r25 =>
    bif r25 then
    kj21 point15 (w64 (digits16 + 1))
    else
    (idx s1 i17).bind fun c28 =>
    (andO (c28 == (46 : UInt8)) (some (decide (point15 < 0)))).bind fun t30 =>
    (andO t30 (some (decide (digits16 > 0)))).bind fun t33 =>
    bif t33 then
    kj21 i17 0
    else
    some (0, false)
    else
    kj13 point15 digits16

def i_pointOf (N : Nat) (s1 : Str) : Option (Int × Bool) :=
  withK (fun (start2 : Int) =>
  withK (fun (point11 : Int) (digits12 : Int) =>
  bif (digits12 == 0) then
  some (0, false)
  else
  withK (fun (point38 : Int) =>
  some (point38, true)) fun (kj39 : Int → Option (Int × Bool)) =>
  bif decide (point11 < 0) then
  kj39 (List.length s1 : Int)
  else
  kj39 point11) fun (kj13 : Int → Int → Option (Int × Bool)) =>
  i_pointOf_l1 kj13 s1 N (-1) 0 start2) fun (kj3 : Int → Option (Int × Bool)) =>
  (andO (decide ((List.length s1 : Int) > 0)) ((idx s1 0).bind fun c8 =>
  some (c8 == (45 : UInt8)))).bind fun t5 =>
  bif t5 then
  kj3 1
  else
  kj3 0

def i_AlignNumbers_l1 (kj5 : Option ((List Str) × Int)) (list1 : List Str) : Nat → Int → Option ((List Str) × Int)
  | 0, _ => none
  | N + 1, x7 =>
    bif decide (x7 < (List.length list1 : Int)) then
    (idx list1 x7).bind fun e9 =>
    bif decide ((List.length e9 : Int) > 30) then
    some ([], 2)
    else
    i_AlignNumbers_l1 kj5 list1 N (w64 (x7 + 1))
    else
    kj5 

def i_AlignNumbers_l2 (kj19 : (List Int) → Int → Option ((List Str) × Int)) (list1 : List Str) : Nat → (List Int) → Int → Int → Option ((List Str) × Int)
  | 0, _, _, _ => none
  | N + 1, l21, most23, x24 =>
    bif decide (x24 < (List.length list1 : Int)) then
    (idx list1 x24).bind fun e26 =>
    (i_pointOf N e26).bind fun r31 =>
    bif !r31.2 then
    some ([], 7)
    else
    (app l21 [r31.1]).bind fun l35 =>
    i_AlignNumbers_l2 kj19 list1 N l35 (imax most23 r31.1) (w64 (x24 + 1))
    else
    kj19 l21 most23

def i_AlignNumbers_l3 (kj41 : (List Str) → Option ((List Str) × Int)) (list1 : List Str) (l16 : List Int) (most18 : Int) : Nat → (List Str) → Int → Option ((List Str) × Int)
  | 0, _, _ => none
  | N + 1, l43, x45 =>
    bif decide (x45 < (List.length list1 : Int)) then
    (idx list1 x45).bind fun e47 =>
    (idx l16 x45).bind fun e52 =>
    (i_repeat N [32] (w64 (most18 - e52))).bind fun r54 =>
    (cat r54 e47).bind fun s56 =>
    (app l43 [s56]).bind fun l59 =>
    i_AlignNumbers_l3 kj41 list1 l16 most18 N l59 (w64 (x45 + 1))
    else
    kj41 l43

def i_AlignNumbers (N : Nat) (list1 : List Str) : Option ((List Str) × Int) :=
  bif decide ((List.length list1 : Int) > 40) then
  some ([], 2)
  else
  withK (withK (fun (l16 : List Int) (most18 : Int) =>
  withK (fun (l39 : List Str) =>
  some (l39, 0)) fun (kj41 : (List Str) → Option ((List Str) × Int)) =>
  i_AlignNumbers_l3 kj41 list1 l16 most18 N [] 0) fun (kj19 : (List Int) → Int → Option ((List Str) × Int)) =>
  i_AlignNumbers_l2 kj19 list1 N [] 0 0) fun (kj5 : Option ((List Str) × Int)) =>
  i_AlignNumbers_l1 kj5 list1 N 0

def s_l01Split_l1 (kj7 : (List Str) → Int → Option (List Str)) (s1 : Str) (by2 : UInt8) : Nat → (List Str) → Int → Int → Option (List Str)
  | 0, _, _, _ => none
  | N + 1, l9, from11, i12 =>
    bif decide (i12 < (List.length s1 : Int)) then
    withK (fun (l14 : List Str) (from16 : Int) =>
    s_l01Split_l1 kj7 s1 by2 N l14 from16 (w64 (i12 + 1))) fun (kj17 : (List Str) → Int → Option (List Str)) =>
    (idx s1 i12).bind fun c19 =>
    bif (c19 == by2) then
    (sub s1 from11 i12).bind fun s22 =>
    (app l9 [s22]).bind fun l25 =>
    kj17 l25 (w64 (i12 + 1))
    else
    kj17 l9 from11
    else
    kj7 l9 from11

def s_l01Split (N : Nat) (s1 : Str) (by2 : UInt8) : Option (List Str) :=
  withK (fun (l4 : List Str) (from6 : Int) =>
  (sub s1 from6 (List.length s1 : Int)).bind fun s28 =>
  (app l4 [s28]).bind fun l31 =>
  some l31) fun (kj7 : (List Str) → Int → Option (List Str)) =>
  s_l01Split_l1 kj7 s1 by2 N [] 0 0

def s_l01Digit (c1 : UInt8) : Option Bool :=
  (andO (decide (c1 ≥ (48 : UInt8))) (some (decide (c1 ≤ (57 : UInt8))))).bind fun t2 =>
  some t2

def s_l08Number_l2 (kj20 : Option Bool) (r13 : (List Str)) (i18 : Int) : Nat → Int → Option Bool
  | 0, _ => none
  | N + 1, k25 =>
    (idx r13 i18).bind fun e26 =>
    bif decide (k25 < (List.length e26 : Int)) then
    (idx r13 i18).bind fun e29 =>
    (idx e29 k25).bind fun c31 =>
    (s_l01Digit c31).bind fun r33 =>
    bif !r33 then
    some false
    else
    s_l08Number_l2 kj20 r13 i18 N (w64 (k25 + 1))
    else
    kj20 

def s_l08Number_l1 (kj16 : Option Bool) (r13 : (List Str)) : Nat → Int → Option Bool
  | 0, _ => none
  | N + 1, i18 =>
    bif decide (i18 < (List.length r13 : Int)) then
    withK (s_l08Number_l1 kj16 r13 N (w64 (i18 + 1))) fun (kj20 : Option Bool) =>
    (idx r13 i18).bind fun e22 =>
    bif (e22 == []) then
    some false
    else
    s_l08Number_l2 kj20 r13 i18 N 0
    else
    kj16 

def s_l08Number (N : Nat) (s1 : Str) : Option Bool :=
  withK (fun (s2 : Str) =>
  (s_l01Split N s2 46).bind fun r13 =>
  withK (some (decide ((List.length r13 : Int) ≤ 2))) fun (kj16 : Option Bool) =>
  s_l08Number_l1 kj16 r13 N 0) fun (kj3 : Str → Option Bool) =>
  (andO (decide ((List.length s1 : Int) > 0)) ((idx s1 0).bind fun c8 =>
  some (c8 == (45 : UInt8)))).bind fun t5 =>
  bif t5 then
  (sub s1 1 (List.length s1 : Int)).bind fun s11 =>
  kj3 s11
  else
  kj3 s1

def s_l08Point_l1 (kj2 : Option Int) (s1 : Str) : Nat → Int → Option Int
  | 0, _ => none
  | N + 1, i4 =>
    bif decide (i4 < (List.length s1 : Int)) then
    (idx s1 i4).bind fun c6 =>
    bif (c6 == (46 : UInt8)) then
    some i4
    else
    s_l08Point_l1 kj2 s1 N (w64 (i4 + 1))
    else
    kj2 

def s_l08Point (N : Nat) (s1 : Str) : Option Int :=
  withK (some (List.length s1 : Int)) fun (kj2 : Option Int) =>
  s_l08Point_l1 kj2 s1 N 0

def s_AlignNumbers_l1 (kj4 : Option ((List Str) × Int)) (list1 : List Str) : Nat → Int → Option ((List Str) × Int)
  | 0, _ => none
  | N + 1, i6 =>
    bif decide (i6 < (List.length list1 : Int)) then
    (idx list1 i6).bind fun e8 =>
    bif decide ((List.length e8 : Int) > 30) then
    some ([], 2)
    else
    s_AlignNumbers_l1 kj4 list1 N (w64 (i6 + 1))
    else
    kj4 

def s_AlignNumbers_l2 (kj16 : Int → Option ((List Str) × Int)) (list1 : List Str) : Nat → Int → Int → Option ((List Str) × Int)
  | 0, _, _ => none
  | N + 1, most18, i19 =>
    bif decide (i19 < (List.length list1 : Int)) then
    (idx list1 i19).bind fun e21 =>
    (s_l08Number N e21).bind fun r26 =>
    bif !r26 then
    some ([], 7)
    else
    (idx list1 i19).bind fun e29 =>
    (s_l08Point N e29).bind fun r34 =>
    (s_l00Max most18 r34).bind fun r36 =>
    s_AlignNumbers_l2 kj16 list1 N r36 (w64 (i19 + 1))
    else
    kj16 most18

def s_AlignNumbers_l3 (kj41 : (List Str) → Option ((List Str) × Int)) (list1 : List Str) (most15 : Int) : Nat → (List Str) → Int → Option ((List Str) × Int)
  | 0, _, _ => none
  | N + 1, l43, i45 =>
    bif decide (i45 < (List.length list1 : Int)) then
    (idx list1 i45).bind fun e47 =>
    (s_l08Point N e47).bind fun r52 =>
    (s_l08Blanks N (w64 (most15 - r52))).bind fun r54 =>
    (idx list1 i45).bind fun e56 =>
    (cat r54 e56).bind fun s61 =>
    (app l43 [s61]).bind fun l64 =>
    s_AlignNumbers_l3 kj41 list1 most15 N l64 (w64 (i45 + 1))
    else
    kj41 l43

def s_AlignNumbers (N : Nat) (list1 : List Str) : Option ((List Str) × Int) :=
  withK (bif decide ((List.length list1 : Int) > 40) then
  some ([], 2)
  else
  withK (fun (most15 : Int) =>
  withK (fun (l39 : List Str) =>
  some (l39, 0)) fun (kj41 : (List Str) → Option ((List Str) × Int)) =>
  s_AlignNumbers_l3 kj41 list1 most15 N [] 0) fun (kj16 : Int → Option ((List Str) × Int)) =>
  s_AlignNumbers_l2 kj16 list1 N 0 0) fun (kj4 : Option ((List Str) × Int)) =>
  s_AlignNumbers_l1 kj4 list1 N 0

def s_DrawDecimalStart (code1 : List UInt8) : Option (Str × Int) :=
  (s_l00From code1).bind fun r4 =>
  (s_l08DrawNumber (L00Src.mk code1 r4.at_ r4.seed)).bind fun r7 =>
  (s_l00Src_one (L00Src.mk code1 r7.2.at_ r7.2.seed) 10).bind fun r9 =>
  bif r9.1 then
  (s_l00Src_among (L00Src.mk code1 r9.2.at_ r9.2.seed) [(-1), 0, 119, 120]).bind fun r13 =>
  some (r7.1, r13.1)
  else
  (s_l00Src_pick (L00Src.mk code1 r9.2.at_ r9.2.seed) 20).bind fun r15 =>
  some (r7.1, r15.1)

def i_DecimalStart (N : Nat) (number1 : Str) (column2 : Int) : Option (Int × Int) :=
  (i_isColumn column2).bind fun r3 =>
  (orO (!r3) (some (decide ((List.length number1 : Int) > 30)))).bind fun t5 =>
  bif t5 then
  some (0, 2)
  else
  (i_pointOf N number1).bind fun r9 =>
  bif !r9.2 then
  some (0, 7)
  else
  bif decide (r9.1 > column2) then
  some (0, 5)
  else
  some (w64 (column2 - r9.1), 0)

def s_DecimalStart (N : Nat) (number1 : Str) (column2 : Int) : Option (Int × Int) :=
  (s_l00In column2 0 119).bind fun r3 =>
  (orO (!r3) (some (decide ((List.length number1 : Int) > 30)))).bind fun t5 =>
  bif t5 then
  some (0, 2)
  else
  (s_l08Number N number1).bind fun r9 =>
  bif !r9 then
  some (0, 7)
  else
  (s_l08Point N number1).bind fun r12 =>
  bif decide ((w64 (column2 - r12)) < 0) then
  some (0, 5)
  else
  some (w64 (column2 - r12), 0)

def w_f6texts_l1 (kj8 : Option Bool) (a1 : List Str) (b4 : List Str) : Nat → Int → Option Bool
  | 0, _ => none
  | N + 1, i10 =>
    bif decide (i10 < (List.length a1 : Int)) then
    (idx a1 i10).bind fun e12 =>
    (idx b4 i10).bind fun e17 =>
    bif (e12 != e17) then
    some false
    else
    w_f6texts_l1 kj8 a1 b4 N (w64 (i10 + 1))
    else
    kj8 

def w_f6texts (N : Nat) (a1 : List Str) (b4 : List Str) : Option Bool :=
  bif ((List.length a1 : Int) != (List.length b4 : Int)) then
  some false
  else
  withK (some true) fun (kj8 : Option Bool) =>
  w_f6texts_l1 kj8 a1 b4 N 0

def w_f6ints_l1 (kj8 : Option Bool) (a1 : List Int) (b4 : List Int) : Nat → Int → Option Bool
  | 0, _ => none
  | N + 1, i10 =>
    bif decide (i10 < (List.length a1 : Int)) then
    (idx a1 i10).bind fun e12 =>
    (idx b4 i10).bind fun e17 =>
    bif (e12 != e17) then
    some false
    else
    w_f6ints_l1 kj8 a1 b4 N (w64 (i10 + 1))
    else
    kj8 

def w_f6ints (N : Nat) (a1 : List Int) (b4 : List Int) : Option Bool :=
  bif ((List.length a1 : Int) != (List.length b4 : Int)) then
  some false
  else
  withK (some true) fun (kj8 : Option Bool) =>
  w_f6ints_l1 kj8 a1 b4 N 0

def w_f6sum_l1 (kj5 : Int → Option Int) (list1 : List Int) : Nat → Int → Int → Option Int
  | 0, _, _ => none
  | N + 1, sum7, i8 =>
    bif decide (i8 < (List.length list1 : Int)) then
    (idx list1 i8).bind fun e10 =>
    w_f6sum_l1 kj5 list1 N (w64 (sum7 + e10)) (w64 (i8 + 1))
    else
    kj5 sum7

def w_f6sum (N : Nat) (list1 : List Int) : Option Int :=
  withK (fun (sum4 : Int) =>
  some sum4) fun (kj5 : Int → Option Int) =>
  w_f6sum_l1 kj5 list1 N 0 0

def w_f6point_l1 (kj2 : Option Int) (s1 : Str) : Nat → Int → Option Int
  | 0, _ => none
  | N + 1, i4 =>
    bif decide (i4 < (List.length s1 : Int)) then
    (idx s1 i4).bind fun c6 =>
    bif (c6 == (46 : UInt8)) then
    some i4
    else
    w_f6point_l1 kj2 s1 N (w64 (i4 + 1))
    else
    kj2 

def w_f6point (N : Nat) (s1 : Str) : Option Int :=
  withK (some (List.length s1 : Int)) fun (kj2 : Option Int) =>
  w_f6point_l1 kj2 s1 N 0

def w_FnTableColumns_l1 (kj96 : Option Bool) (r23 : (List Int) × Int × Int) (r29 : (List Int) × Int) : Nat → Int → Option Bool
  | 0, _ => none
  | N + 1, i99 =>
    bif decide (i99 < (List.length r29.1 : Int)) then
    (idx r29.1 i99).bind fun e101 =>
    (idx r29.1 (w64 (i99 - 1))).bind fun e103 =>
    (idx r23.1 (w64 (i99 - 1))).bind fun e105 =>
    bif ((w64 (e101 - e103)) != (w64 (e105 + r23.2.2))) then
    some false
    else
    w_FnTableColumns_l1 kj96 r23 r29 N (w64 (i99 + 1))
    else
    kj96 

def w_FnTableColumns_l2 (kj122 : Option Bool) (r45 : (List Str) × Int) : Nat → Int → Option Bool
  | 0, _ => none
  | N + 1, i125 =>
    bif decide (i125 < (List.length r45.1 : Int)) then
    (idx r45.1 i125).bind fun e127 =>
    (w_f6point N e127).bind fun r129 =>
    (idx r45.1 0).bind fun e131 =>
    (w_f6point N e131).bind fun r133 =>
    bif (r129 != r133) then
    some false
    else
    w_FnTableColumns_l2 kj122 r45 N (w64 (i125 + 1))
    else
    kj122 

def w_FnTableColumns_l3 (kj137 : Option Bool) (r7 : (List (List Str)) × Str × Int) (r14 : (List Str) × Int) (r20 : (List Int) × Int) : Nat → Int → Option Bool
  | 0, _ => none
  | N + 1, i139 =>
    bif decide (i139 < (List.length r14.1 : Int)) then
    (idx r14.1 i139).bind fun e141 =>
    (w_f6sum N r20.1).bind fun r143 =>
    bif ((List.length e141 : Int) != (w64 (r143 + (w64 (r7.2.2 * (w64 ((List.length r20.1 : Int) - 1))))))) then
    some false
    else
    w_FnTableColumns_l3 kj137 r7 r14 r20 N (w64 (i139 + 1))
    else
    kj137 

def w_FnTableColumns (N : Nat) (code1 : List UInt8) : Option Bool :=
  (w_f6big code1).bind fun r4 =>
  bif r4 then
  some true
  else
  (s_DrawTableLines N code1).bind fun r7 =>
  (i_TableLines N r7.1 r7.2.1 r7.2.2).bind fun r11 =>
  (s_TableLines N r7.1 r7.2.1 r7.2.2).bind fun r14 =>
  (i_ColumnWidths N r7.1).bind fun r17 =>
  (s_ColumnWidths N r7.1).bind fun r20 =>
  (s_DrawStopsFor N code1).bind fun r23 =>
  (i_StopsFor N r23.1 r23.2.1 r23.2.2).bind fun r26 =>
  (s_StopsFor N r23.1 r23.2.1 r23.2.2).bind fun r29 =>
  (s_DrawWidestGap N code1).bind fun r32 =>
  (i_WidestGap N r32.1 r32.2.1 r32.2.2).bind fun r35 =>
  (s_WidestGap N r32.1 r32.2.1 r32.2.2).bind fun r37 =>
  (s_DrawAlignNumbers N code1).bind fun r39 =>
  (i_AlignNumbers N r39).bind fun r42 =>
  (s_AlignNumbers N r39).bind fun r45 =>
  (s_DrawDecimalStart code1).bind fun r48 =>
  (i_DecimalStart N r48.1 r48.2).bind fun r50 =>
  (s_DecimalStart N r48.1 r48.2).bind fun r52 =>
  (orO (r11.2 != r14.2) ((w_f6texts N r11.1 r14.1).bind fun r57 =>
  some (!r57))).bind fun t54 =>
  (orO t54 (some (r17.2 != r20.2))).bind fun t59 =>
  (orO t59 ((w_f6ints N r17.1 r20.1).bind fun r65 =>
  some (!r65))).bind fun t62 =>
  (orO t62 (some (r26.2 != r29.2))).bind fun t67 =>
  (orO t67 ((w_f6ints N r26.1 r29.1).bind fun r73 =>
  some (!r73))).bind fun t70 =>
  (orO t70 (some (r35.2 != r37.2))).bind fun t75 =>
  (orO t75 (some (r35.1 != r37.1))).bind fun t78 =>
  (orO t78 (some (r42.2 != r45.2))).bind fun t81 =>
  (orO t81 ((w_f6texts N r42.1 r45.1).bind fun r87 =>
  some (!r87))).bind fun t84 =>
  (orO t84 (some (r50.2 != r52.2))).bind fun t89 =>
  (orO t89 (some (r50.1 != r52.1))).bind fun t92 =>
  bif t92 then
  some false
  else
  withK (withK (withK (bif (r11.2 != 0) then
  some true
  else
  withK (some ((List.length r14.1 : Int) == (List.length r7.1 : Int))) fun (kj137 : Option Bool) =>
  w_FnTableColumns_l3 kj137 r7 r14 r20 N 0) fun (kj122 : Option Bool) =>
  bif (r42.2 == 0) then
  w_FnTableColumns_l2 kj122 r45 N 0
  else
  kj122 ) fun (kj108 : Option Bool) =>
  bif (r35.2 == 0) then
  (w_f6sum N r32.1).bind fun r111 =>
  (orO (decide ((w64 (r111 + (w64 ((w64 ((List.length r32.1 : Int) - 1)) * r35.1)))) > (w64 (r32.2.2 - r32.2.1)))) ((w_f6sum N r32.1).bind fun r116 =>
  some (decide ((w64 (r116 + (w64 ((w64 ((List.length r32.1 : Int) - 1)) * (w64 (r35.1 + 1)))))) ≤ (w64 (r32.2.2 - r32.2.1)))))).bind fun t113 =>
  (orO t113 (some (decide (r35.1 < 1)))).bind fun t118 =>
  bif t118 then
  some false
  else
  kj108 
  else
  kj108 ) fun (kj96 : Option Bool) =>
  bif (r26.2 == 0) then
  w_FnTableColumns_l1 kj96 r23 r29 N 1
  else
  kj96 

end Go.Proofs.Ytpmanofdlhlkdaa
