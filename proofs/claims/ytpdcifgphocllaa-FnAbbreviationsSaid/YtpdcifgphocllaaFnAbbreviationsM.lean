/-
  Plain functions that compute what the Go functions compute. No conditions.
-/
import Derived.Test.YtpdcifgphocllaaSortMore
namespace Go.Proofs.Ytpdcifgphocllaa
set_option linter.unusedVariables false
set_option linter.unusedSimpArgs false

structure Abbr where
  short : Str
  long : Str

def Abbr.beq (x y : Abbr) : Bool := x.short == y.short && (x.long == y.long)

structure L00Src where
  code : List UInt8
  at_ : Int
  seed : Int



def w_f6big (code1 : List UInt8) : Option Bool :=
  some (decide ((List.length code1 : Int) > 4096))

def s_l00From (code1 : List UInt8) : Option L00Src :=
  some (L00Src.mk code1 0 0)

def s_l00Src_next (s1 : L00Src) : Option (Int × L00Src) :=
  withK (fun (b5 : Int) =>
  bif decide ((w64 (s1.at_ + 1)) ≤ (List.length s1.code : Int)) then
  some (b5, (L00Src.mk s1.code (w64 (s1.at_ + 1)) (IntKind.u64.wrap ((IntKind.u64.wrap ((IntKind.u64.wrap (s1.seed * 6364136223846793005)) + (IntKind.u64.wrap b5))) + 1442695040888963407))))
  else
  some (w64 (uand (ushr (IntKind.u64.wrap ((IntKind.u64.wrap ((IntKind.u64.wrap (s1.seed * 6364136223846793005)) + (IntKind.u64.wrap b5))) + 1442695040888963407)) 40) 255), (L00Src.mk s1.code (w64 (s1.at_ + 1)) (IntKind.u64.wrap ((IntKind.u64.wrap ((IntKind.u64.wrap (s1.seed * 6364136223846793005)) + (IntKind.u64.wrap b5))) + 1442695040888963407))))) fun (kj6 : Int → Option (Int × L00Src)) =>
  bif decide (s1.at_ < (List.length s1.code : Int)) then
  (idx s1.code s1.at_).bind fun e9 =>
  kj6 (UInt8.toNat e9 : Int)
  else
  kj6 0

def s_l00Src_pick (s1 : L00Src) (n5 : Int) : Option (Int × L00Src) :=
  bif decide (n5 ≤ 1) then
  some (0, (L00Src.mk s1.code s1.at_ s1.seed))
  else
  (s_l00Src_next (L00Src.mk s1.code s1.at_ s1.seed)).bind fun r7 =>
  withK (fun (x9 : Int) (x10 : Int) (x11 : Int) =>
  (remO x11 n5).bind fun q17 =>
  some (q17, (L00Src.mk s1.code x9 x10))) fun (kj12 : Int → Int → Int → Option (Int × L00Src)) =>
  bif decide (n5 > 200) then
  (s_l00Src_next (L00Src.mk s1.code r7.2.at_ r7.2.seed)).bind fun r15 =>
  kj12 r15.2.at_ r15.2.seed (w64 ((w64 (r7.1 * 256)) + r15.1))
  else
  kj12 r7.2.at_ r7.2.seed r7.1

def s_l00Src_text (s1 : L00Src) (list5 : List Str) : Option (Str × L00Src) :=
  (s_l00Src_pick (L00Src.mk s1.code s1.at_ s1.seed) (List.length list5 : Int)).bind fun r8 =>
  (idx list5 r8.1).bind fun e10 =>
  some (e10, (L00Src.mk s1.code r8.2.at_ r8.2.seed))

def s_l16New (s1 : L00Src) : Option (Abbr × L00Src) :=
  (s_l00Src_text (L00Src.mk s1.code s1.at_ s1.seed) ([[97], [97, 99, 99], [97, 110], [99, 111], [108, 101, 116], [109, 114], [113], [116, 119], [119, 100]] : List Str)).bind fun r7 =>
  (s_l00Src_text (L00Src.mk s1.code r7.2.at_ r7.2.seed) ([[97, 99, 99, 111, 117, 110, 116], [97, 99, 99], [108, 101, 116, 116, 101, 114], [116, 121, 112, 101, 119, 114, 105, 116, 101, 114], [119, 111, 114, 100], [99, 111, 109, 112, 97, 110, 121], [109, 105, 115, 116, 101, 114], [108, 101, 116]] : List Str)).bind fun r11 =>
  some ((Abbr.mk ((Abbr.mk r7.1 []).short) r11.1), (L00Src.mk s1.code r11.2.at_ r11.2.seed))

def s_l01Small (c1 : UInt8) : Option Bool :=
  (andO (decide (c1 ≥ (97 : UInt8))) (some (decide (c1 ≤ (122 : UInt8))))).bind fun t2 =>
  some t2

def s_l00In (n1 : Int) (low2 : Int) (high3 : Int) : Option Bool :=
  (andO (decide (n1 ≥ low2)) (some (decide (n1 ≤ high3)))).bind fun t4 =>
  some t4

def s_l16Word_l1 (kj3 : Option Bool) (s1 : Str) : Nat → Int → Option Bool
  | 0, _ => none
  | N + 1, i5 =>
    bif decide (i5 < (List.length s1 : Int)) then
    (idx s1 i5).bind fun c7 =>
    (s_l01Small c7).bind fun r9 =>
    bif !r9 then
    some false
    else
    s_l16Word_l1 kj3 s1 N (w64 (i5 + 1))
    else
    kj3 

def s_l16Word (N : Nat) (s1 : Str) (most2 : Int) : Option Bool :=
  withK ((s_l00In (List.length s1 : Int) 1 most2).bind fun r12 =>
  some r12) fun (kj3 : Option Bool) =>
  s_l16Word_l1 kj3 s1 N 0

def s_l16One (N : Nat) (x1 : Abbr) : Option Bool :=
  (s_l16Word N x1.short 8).bind fun r4 =>
  (andO r4 ((s_l16Word N x1.long 30).bind fun r9 =>
  some r9)).bind fun t6 =>
  (andO t6 (some (decide ((List.length x1.short : Int) < (List.length x1.long : Int))))).bind fun t11 =>
  some t11

def s_l16Ok_l1 (kj4 : Option Bool) (list1 : List Abbr) : Nat → Int → Option Bool
  | 0, _ => none
  | N + 1, i6 =>
    bif decide (i6 < (List.length list1 : Int)) then
    (idx list1 i6).bind fun e8 =>
    (s_l16One N e8).bind fun r13 =>
    (orO (!r13) ((andO (decide (i6 > 0)) ((idx list1 (w64 (i6 - 1))).bind fun e21 =>
    (idx list1 i6).bind fun e26 =>
    some (!ltL e21.short e26.short))).bind fun t18 =>
    some t18)).bind fun t15 =>
    bif t15 then
    some false
    else
    s_l16Ok_l1 kj4 list1 N (w64 (i6 + 1))
    else
    kj4 

def s_l16Ok (N : Nat) (list1 : List Abbr) : Option Bool :=
  withK (some (decide ((List.length list1 : Int) ≤ 30))) fun (kj4 : Option Bool) =>
  s_l16Ok_l1 kj4 list1 N 0

def s_l16Short_l1 (kj5 : Option Int) (list1 : List Abbr) (short4 : Str) : Nat → Int → Option Int
  | 0, _ => none
  | N + 1, i7 =>
    bif decide (i7 < (List.length list1 : Int)) then
    (idx list1 i7).bind fun e9 =>
    bif (e9.short == short4) then
    some i7
    else
    s_l16Short_l1 kj5 list1 short4 N (w64 (i7 + 1))
    else
    kj5 

def s_l16Short (N : Nat) (list1 : List Abbr) (short4 : Str) : Option Int :=
  withK (some (-1)) fun (kj5 : Option Int) =>
  s_l16Short_l1 kj5 list1 short4 N 0

def s_AddAbbr_l1 (kj17 : Int → Option ((List Abbr) × Int)) (list1 : List Abbr) (x4 : Abbr) : Nat → Int → Option ((List Abbr) × Int)
  | 0, _ => none
  | N + 1, k19 =>
    (andO (decide (k19 > 0)) ((idx list1 (w64 (k19 - 1))).bind fun e23 =>
    some (!(ltL e23.short x4.short || e23.short == x4.short)))).bind fun t20 =>
    bif t20 then
    s_AddAbbr_l1 kj17 list1 x4 N (w64 (k19 - 1))
    else
    kj17 k19

def s_AddAbbr (N : Nat) (list1 : List Abbr) (x4 : Abbr) : Option ((List Abbr) × Int) :=
  (s_l16Ok N list1).bind fun r6 =>
  bif !r6 then
  some ([], 1)
  else
  (s_l16One N (Abbr.mk x4.short x4.long)).bind fun r9 =>
  bif !r9 then
  some ([], 2)
  else
  (s_l16Short N list1 x4.short).bind fun r12 =>
  bif decide (r12 ≥ 0) then
  some ([], 4)
  else
  bif decide ((List.length list1 : Int) ≥ 30) then
  some ([], 5)
  else
  withK (fun (k16 : Int) =>
  (sub list1 0 k16).bind fun l30 =>
  (app [] l30).bind fun l35 =>
  (app l35 [x4]).bind fun l39 =>
  (sub list1 k16 (List.length list1 : Int)).bind fun l42 =>
  (app l39 l42).bind fun l47 =>
  some (l47, 0)) fun (kj17 : Int → Option ((List Abbr) × Int)) =>
  s_AddAbbr_l1 kj17 list1 x4 N (List.length list1 : Int)

def s_l16Draw_l1 (kj10 : Int → Int → (List Abbr) → Option ((List Abbr) × L00Src)) (s1 : L00Src) : Nat → Int → Int → (List Abbr) → Int → Option ((List Abbr) × L00Src)
  | 0, _, _, _, _ => none
  | N + 1, x14, x15, l16, k18 =>
    bif decide (k18 > 0) then
    withK (fun (l20 : List Abbr) (x22 : Int) (x23 : Int) =>
    s_l16Draw_l1 kj10 s1 N x22 x23 l20 (w64 (k18 - 1))) fun (kj24 : (List Abbr) → Int → Int → Option ((List Abbr) × L00Src)) =>
    (s_l16New (L00Src.mk s1.code x14 x15)).bind fun r26 =>
    (s_AddAbbr N l16 r26.1).bind fun r29 =>
    bif (r29.2 == 0) then
    kj24 r29.1 r26.2.at_ r26.2.seed
    else
    kj24 l16 r26.2.at_ r26.2.seed
    else
    kj10 x14 x15 l16

def s_l16Draw (N : Nat) (s1 : L00Src) : Option ((List Abbr) × L00Src) :=
  withK (fun (x6 : Int) (x7 : Int) (l8 : List Abbr) =>
  some (l8, (L00Src.mk s1.code x6 x7))) fun (kj10 : Int → Int → (List Abbr) → Option ((List Abbr) × L00Src)) =>
  (s_l00Src_pick (L00Src.mk s1.code s1.at_ s1.seed) 9).bind fun r12 =>
  s_l16Draw_l1 kj10 s1 N r12.2.at_ r12.2.seed [] r12.1

def s_l16Bent_l1 (kj12 : Int → Int → (List Abbr) → Option ((List Abbr) × L00Src)) (r34 : Int × L00Src) : Nat → (List Abbr) → Int → Option ((List Abbr) × L00Src)
  | 0, _, _ => none
  | N + 1, l36, k38 =>
    bif decide (k38 > 0) then
    (app l36 [(Abbr.mk [(97 : UInt8) + (UInt8.ofInt (Int.tdiv (UInt8.toNat (UInt8.ofInt (List.length l36 : Int)) : Int) 26)), (97 : UInt8) + (UInt8.ofInt (Int.tmod (UInt8.toNat (UInt8.ofInt (List.length l36 : Int)) : Int) 26))] [119, 111, 114, 100])]).bind fun l42 =>
    s_l16Bent_l1 kj12 r34 N l42 (w64 (k38 - 1))
    else
    kj12 r34.2.at_ r34.2.seed l36

def s_l16Bent (N : Nat) (s1 : L00Src) : Option ((List Abbr) × L00Src) :=
  (s_l16Draw N (L00Src.mk s1.code s1.at_ s1.seed)).bind fun r5 =>
  withK (fun (x8 : Int) (x9 : Int) (l10 : List Abbr) =>
  some (l10, (L00Src.mk s1.code x8 x9))) fun (kj12 : Int → Int → (List Abbr) → Option ((List Abbr) × L00Src)) =>
  (s_l00Src_pick (L00Src.mk s1.code r5.2.at_ r5.2.seed) 20).bind fun r14 =>
  bif (r14.1 == 0) then
  (s_l00Src_text (L00Src.mk s1.code r14.2.at_ r14.2.seed) ([[], [122, 122], [90], [122, 122, 122, 122, 122, 122, 122, 122], [122, 122, 122, 122, 122, 122, 122, 122, 122]] : List Str)).bind fun r18 =>
  (app r5.1 [(Abbr.mk r18.1 [122, 122, 122, 122, 122, 122, 122, 122, 122, 122, 122, 122, 122])]).bind fun l21 =>
  kj12 r18.2.at_ r18.2.seed l21
  else
  bif (r14.1 == 1) then
  (s_l00Src_text (L00Src.mk s1.code r14.2.at_ r14.2.seed) ([[122, 122], [122, 122, 122], [97, 98, 99, 100, 101, 102, 103, 104, 105, 106, 107, 108, 109, 110, 111, 112, 113, 114, 115, 116, 117, 118, 119, 120, 121, 122, 97, 98, 99, 100], [97, 98, 99, 100, 101, 102, 103, 104, 105, 106, 107, 108, 109, 110, 111, 112, 113, 114, 115, 116, 117, 118, 119, 120, 121, 122, 97, 98, 99, 100, 101]] : List Str)).bind fun r26 =>
  (app r5.1 [(Abbr.mk [122, 122] r26.1)]).bind fun l29 =>
  kj12 r26.2.at_ r26.2.seed l29
  else
  bif (r14.1 == 2) then
  (s_l00Src_pick (L00Src.mk s1.code r14.2.at_ r14.2.seed) 2).bind fun r34 =>
  s_l16Bent_l1 kj12 r34 N [] (w64 (30 + r34.1))
  else
  kj12 r14.2.at_ r14.2.seed r5.1

def s_l00Src_one (s1 : L00Src) (n5 : Int) : Option (Bool × L00Src) :=
  (s_l00Src_pick (L00Src.mk s1.code s1.at_ s1.seed) n5).bind fun r6 =>
  some ((r6.1 == 0), (L00Src.mk s1.code r6.2.at_ r6.2.seed))

def s_l16Join_l1 (kj5 : Str → Option Str) (words1 : List Str) : Nat → Str → Int → Option Str
  | 0, _, _ => none
  | N + 1, out7, i8 =>
    bif decide (i8 < (List.length words1 : Int)) then
    withK (fun (out10 : Str) =>
    (idx words1 i8).bind fun e16 =>
    (cat out10 e16).bind fun s21 =>
    s_l16Join_l1 kj5 words1 N s21 (w64 (i8 + 1))) fun (kj11 : Str → Option Str) =>
    bif decide (i8 > 0) then
    (cat out7 [32]).bind fun s14 =>
    kj11 s14
    else
    kj11 out7
    else
    kj5 out7

def s_l16Join (N : Nat) (words1 : List Str) : Option Str :=
  withK (fun (out4 : Str) =>
  some out4) fun (kj5 : Str → Option Str) =>
  s_l16Join_l1 kj5 words1 N [] 0

def s_l16DrawText_l1 (kj13 : Int → Int → (List Str) → Option (Str × L00Src)) (s1 : L00Src) (list5 : List Abbr) : Nat → Int → Int → (List Str) → Int → Option (Str × L00Src)
  | 0, _, _, _, _ => none
  | N + 1, x17, x18, l19, k21 =>
    bif decide (k21 > 0) then
    (s_l00Src_text (L00Src.mk s1.code x17 x18) ([[97, 99, 99, 111, 117, 110, 116], [108, 101, 116, 116, 101, 114], [116, 121, 112, 101, 119, 114, 105, 116, 101, 114], [119, 111, 114, 100], [99, 111, 109, 112, 97, 110, 121], [108, 101, 116], [116, 104, 101], [97]] : List Str)).bind fun r24 =>
    withK (fun (x26 : Int) (x27 : Int) (w28 : Str) =>
    (app l19 [w28]).bind fun l46 =>
    s_l16DrawText_l1 kj13 s1 list5 N x26 x27 l46 (w64 (k21 - 1))) fun (kj29 : Int → Int → Str → Option (Str × L00Src)) =>
    (bif decide ((List.length list5 : Int) > 0) then (s_l00Src_one (L00Src.mk s1.code r24.2.at_ r24.2.seed) 3).bind fun r35 =>
    some (r35.1, (L00Src.mk s1.code r35.2.at_ r35.2.seed)) else some (false, (L00Src.mk s1.code r24.2.at_ r24.2.seed))).bind fun x33 =>
    bif x33.1 then
    (s_l00Src_pick (L00Src.mk s1.code x33.2.at_ x33.2.seed) (List.length list5 : Int)).bind fun r38 =>
    (idx list5 r38.1).bind fun e40 =>
    kj29 r38.2.at_ r38.2.seed e40.short
    else
    kj29 x33.2.at_ x33.2.seed r24.1
    else
    kj13 x17 x18 l19

def s_l16DrawText_l2 (kj54 : Int → Int → Str → Option (Str × L00Src)) (r68 : Int × L00Src) : Nat → Str → Option (Str × L00Src)
  | 0, _ => none
  | N + 1, text70 =>
    bif decide ((List.length text70 : Int) < (w64 (200 + r68.1))) then
    bif ((List.length text70 : Int) == (w64 ((w64 (200 + r68.1)) - 1))) then
    (cat text70 [97]).bind fun s73 =>
    s_l16DrawText_l2 kj54 r68 N s73
    else
    (cat text70 [32, 97]).bind fun s75 =>
    s_l16DrawText_l2 kj54 r68 N s75
    else
    kj54 r68.2.at_ r68.2.seed text70

def s_l16DrawText (N : Nat) (s1 : L00Src) (list5 : List Abbr) : Option (Str × L00Src) :=
  withK (fun (x9 : Int) (x10 : Int) (l11 : List Str) =>
  (s_l16Join N l11).bind fun r49 =>
  withK (fun (x51 : Int) (x52 : Int) (text53 : Str) =>
  some (text53, (L00Src.mk s1.code x51 x52))) fun (kj54 : Int → Int → Str → Option (Str × L00Src)) =>
  (s_l00Src_pick (L00Src.mk s1.code x9 x10) 20).bind fun r56 =>
  bif (r56.1 == 0) then
  (s_l00Src_text (L00Src.mk s1.code r56.2.at_ r56.2.seed) ([[32], [32, 32, 120], [32, 88], [32, 120, 49]] : List Str)).bind fun r60 =>
  (cat r49 r60.1).bind fun s62 =>
  kj54 r60.2.at_ r60.2.seed s62
  else
  bif (r56.1 == 1) then
  (s_l16Join N ([[116, 121, 112, 101, 119, 114, 105, 116, 101, 114, 119, 111, 114, 100], [97, 98, 99, 100, 101, 102, 103, 104, 105, 106, 107, 108, 109, 110, 111, 112, 113, 114, 115, 116, 117, 118, 119, 120, 121, 122, 97, 98, 99, 100]] : List Str)).bind fun r66 =>
  (s_l00Src_pick (L00Src.mk s1.code r56.2.at_ r56.2.seed) 2).bind fun r68 =>
  s_l16DrawText_l2 kj54 r68 N r66
  else
  kj54 r56.2.at_ r56.2.seed r49) fun (kj13 : Int → Int → (List Str) → Option (Str × L00Src)) =>
  (s_l00Src_pick (L00Src.mk s1.code s1.at_ s1.seed) 9).bind fun r15 =>
  s_l16DrawText_l1 kj13 s1 list5 N r15.2.at_ r15.2.seed [] r15.1

def s_l16Both (N : Nat) (code1 : List UInt8) : Option ((List Abbr) × Str) :=
  (s_l00From code1).bind fun r4 =>
  (s_l16Bent N (L00Src.mk code1 r4.at_ r4.seed)).bind fun r7 =>
  (s_l16DrawText N (L00Src.mk code1 r7.2.at_ r7.2.seed) r7.1).bind fun r10 =>
  some (r7.1, r10.1)

def s_DrawShortenText (N : Nat) (code1 : List UInt8) : Option ((List Abbr) × Str) :=
  (s_l16Both N code1).bind fun r4 =>
  some (r4.1, r4.2)

def i_isSmallWord_l1 (kj2 : Option Bool) (s1 : Str) : Nat → Int → Option Bool
  | 0, _ => none
  | N + 1, x4 =>
    bif decide (x4 < (List.length s1 : Int)) then
    (idx s1 x4).bind fun c6 =>
    (orO (decide (c6 < (97 : UInt8))) ((idx s1 x4).bind fun c11 =>
    some (decide (c11 > (122 : UInt8))))).bind fun t8 =>
    bif t8 then
    some false
    else
    i_isSmallWord_l1 kj2 s1 N (w64 (x4 + 1))
    else
    kj2 

def i_isSmallWord (N : Nat) (s1 : Str) : Option Bool :=
  withK ((andO (decide ((List.length s1 : Int) ≥ 1)) (some (decide ((List.length s1 : Int) ≤ 30)))).bind fun t14 =>
  some t14) fun (kj2 : Option Bool) =>
  i_isSmallWord_l1 kj2 s1 N 0

def i_validAbbr (N : Nat) (x1 : Abbr) : Option Bool :=
  (i_isSmallWord N x1.short).bind fun r3 =>
  (andO r3 (some (decide ((List.length x1.short : Int) ≤ 8)))).bind fun t5 =>
  (andO t5 ((i_isSmallWord N x1.long).bind fun r11 =>
  some r11)).bind fun t8 =>
  (andO t8 (some (decide ((List.length x1.long : Int) > (List.length x1.short : Int))))).bind fun t13 =>
  some t13

def i_ValidAbbrs_l1 (kj4 : Option Bool) (list1 : List Abbr) : Nat → Int → Option Bool
  | 0, _ => none
  | N + 1, x6 =>
    bif decide (x6 < (List.length list1 : Int)) then
    (idx list1 x6).bind fun e8 =>
    (i_validAbbr N e8).bind fun r14 =>
    (orO (!r14) ((andO (decide (x6 > 0)) ((idx list1 (w64 (x6 - 1))).bind fun e22 =>
    some (ltL e8.short e22.short || e8.short == e22.short))).bind fun t19 =>
    some t19)).bind fun t16 =>
    bif t16 then
    some false
    else
    i_ValidAbbrs_l1 kj4 list1 N (w64 (x6 + 1))
    else
    kj4 

def i_ValidAbbrs (N : Nat) (list1 : List Abbr) : Option Bool :=
  withK (some (decide ((List.length list1 : Int) ≤ 30))) fun (kj4 : Option Bool) =>
  i_ValidAbbrs_l1 kj4 list1 N 0

def i_SplitWords_l1 (kj6 : (List Str) → Int → Option (List Str)) (s1 : Str) : Nat → (List Str) → Int → Int → Option (List Str)
  | 0, _, _, _ => none
  | N + 1, l8, start10, x11 =>
    bif decide (x11 < (List.length s1 : Int)) then
    withK (fun (l13 : List Str) (start15 : Int) =>
    i_SplitWords_l1 kj6 s1 N l13 start15 (w64 (x11 + 1))) fun (kj16 : (List Str) → Int → Option (List Str)) =>
    (idx s1 x11).bind fun c18 =>
    (andO (c18 == (32 : UInt8)) (some (decide (start10 ≥ 0)))).bind fun t20 =>
    bif t20 then
    (sub s1 start10 x11).bind fun s24 =>
    (app l8 [s24]).bind fun l27 =>
    kj16 l27 (-1)
    else
    (idx s1 x11).bind fun c30 =>
    (andO (c30 != (32 : UInt8)) (some (decide (start10 < 0)))).bind fun t32 =>
    bif t32 then
    kj16 l8 x11
    else
    kj16 l8 start10
    else
    kj6 l8 start10

def i_SplitWords (N : Nat) (s1 : Str) : Option (List Str) :=
  withK (fun (l3 : List Str) (start5 : Int) =>
  withK (fun (l36 : List Str) =>
  some l36) fun (kj38 : (List Str) → Option (List Str)) =>
  bif decide (start5 ≥ 0) then
  (sub s1 start5 (List.length s1 : Int)).bind fun s41 =>
  (app l3 [s41]).bind fun l44 =>
  kj38 l44
  else
  kj38 l3) fun (kj6 : (List Str) → Int → Option (List Str)) =>
  i_SplitWords_l1 kj6 s1 N [] (-1) 0

def i_noteWords_l1 (kj6 : Option ((List Str) × Bool)) (r3 : (List Str)) : Nat → Int → Option ((List Str) × Bool)
  | 0, _ => none
  | N + 1, x8 =>
    bif decide (x8 < (List.length r3 : Int)) then
    (idx r3 x8).bind fun e10 =>
    (i_isSmallWord N e10).bind fun r12 =>
    bif !r12 then
    some ([], false)
    else
    i_noteWords_l1 kj6 r3 N (w64 (x8 + 1))
    else
    kj6 

def i_noteWords (N : Nat) (text1 : Str) : Option ((List Str) × Bool) :=
  bif decide ((List.length text1 : Int) > 200) then
  some ([], false)
  else
  (i_SplitWords N text1).bind fun r3 =>
  withK ((joinO r3 [32]).bind fun r15 =>
  some (r3, (r15 == text1))) fun (kj6 : Option ((List Str) × Bool)) =>
  i_noteWords_l1 kj6 r3 N 0

def i_noteCode (N : Nat) (list1 : List Abbr) (text4 : Str) : Option ((List Str) × Int) :=
  (i_ValidAbbrs N list1).bind fun r5 =>
  bif !r5 then
  some ([], 1)
  else
  (i_noteWords N text4).bind fun r8 =>
  bif !r8.2 then
  some ([], 7)
  else
  some (r8.1, 0)

def i_longOf_l1 (kj5 : Option (Str × Bool)) (list1 : List Abbr) (word4 : Str) : Nat → Int → Option (Str × Bool)
  | 0, _ => none
  | N + 1, x7 =>
    bif decide (x7 < (List.length list1 : Int)) then
    (idx list1 x7).bind fun e9 =>
    bif (e9.short == word4) then
    some (e9.long, true)
    else
    i_longOf_l1 kj5 list1 word4 N (w64 (x7 + 1))
    else
    kj5 

def i_longOf (N : Nat) (list1 : List Abbr) (word4 : Str) : Option (Str × Bool) :=
  withK (some ([], false)) fun (kj5 : Option (Str × Bool)) =>
  i_longOf_l1 kj5 list1 word4 N 0

def i_ShortenText_l2 (kj27 : Str → Option (Str × Int)) (list1 : List Abbr) (e18 : Str) : Nat → Str → Int → Option (Str × Int)
  | 0, _, _ => none
  | N + 1, best29, x30 =>
    bif decide (x30 < (List.length list1 : Int)) then
    withK (fun (best32 : Str) =>
    i_ShortenText_l2 kj27 list1 e18 N best32 (w64 (x30 + 1))) fun (kj33 : Str → Option (Str × Int)) =>
    (idx list1 x30).bind fun e35 =>
    (andO (e35.long == e18) ((orO (best29 == []) (some (decide ((List.length e35.short : Int) < (List.length best29 : Int))))).bind fun t44 =>
    some t44)).bind fun t41 =>
    bif t41 then
    kj33 e35.short
    else
    kj33 best29
    else
    kj27 best29

def i_ShortenText_l1 (kj10 : (List Str) → Option (Str × Int)) (list1 : List Abbr) (r5 : (List Str) × Int) : Nat → (List Str) → Int → Option (Str × Int)
  | 0, _, _ => none
  | N + 1, l12, x13 =>
    bif decide (x13 < (List.length r5.1 : Int)) then
    withK (fun (l15 : List Str) =>
    i_ShortenText_l1 kj10 list1 r5 N l15 (w64 (x13 + 1))) fun (kj16 : (List Str) → Option (Str × Int)) =>
    (idx l12 x13).bind fun e18 =>
    withK (fun (best20 : Str) =>
    withK (fun (best26 : Str) =>
    bif (best26 == []) then
    some ([], 3)
    else
    (idx l12 x13).bind fun e49 =>
    kj16 (List.set l12 (Int.toNat x13) best26)) fun (kj27 : Str → Option (Str × Int)) =>
    i_ShortenText_l2 kj27 list1 e18 N best20 0) fun (kj21 : Str → Option (Str × Int)) =>
    (i_longOf N list1 e18).bind fun r23 =>
    bif !r23.2 then
    kj21 e18
    else
    kj21 []
    else
    kj10 l12

def i_ShortenText (N : Nat) (list1 : List Abbr) (text4 : Str) : Option (Str × Int) :=
  (i_noteCode N list1 text4).bind fun r5 =>
  bif (r5.2 != 0) then
  some ([], r5.2)
  else
  withK (fun (l9 : List Str) =>
  (joinO l9 [32]).bind fun r51 =>
  some (r51, 0)) fun (kj10 : (List Str) → Option (Str × Int)) =>
  i_ShortenText_l1 kj10 list1 r5 N r5.1 0

def s_l01Split_l1 (kj7 : (List Str) → Int → Option (List Str)) (s1 : Str) (by2 : UInt8) : Nat → (List Str) → Int → Int → Option (List Str)
  | 0, _, _, _ => none
  | N + 1, l9, from11, i12 =>
    bif decide (i12 < (List.length s1 : Int)) then
    withK (fun (l14 : List Str) (from16 : Int) =>
    s_l01Split_l1 kj7 s1 by2 N l14 from16 (w64 (i12 + 1))) fun (kj17 : (List Str) → Int → Option (List Str)) =>
    (idx s1 i12).bind fun c19 =>
    bif (c19 == by2) then
    (sub s1 from11 i12).bind fun s22 =>
    (app l9 [s22]).bind fun l25 =>
    kj17 l25 (w64 (i12 + 1))
    else
    kj17 l9 from11
    else
    kj7 l9 from11

def s_l01Split (N : Nat) (s1 : Str) (by2 : UInt8) : Option (List Str) :=
  withK (fun (l4 : List Str) (from6 : Int) =>
  (sub s1 from6 (List.length s1 : Int)).bind fun s28 =>
  (app l4 [s28]).bind fun l31 =>
  some l31) fun (kj7 : (List Str) → Int → Option (List Str)) =>
  s_l01Split_l1 kj7 s1 by2 N [] 0 0

def s_l16Words_l1 (kj7 : Option ((List Str) × Bool)) (r4 : (List Str)) : Nat → Int → Option ((List Str) × Bool)
  | 0, _ => none
  | N + 1, i9 =>
    bif decide (i9 < (List.length r4 : Int)) then
    (idx r4 i9).bind fun e11 =>
    (s_l16Word N e11 30).bind fun r13 =>
    bif !r13 then
    some ([], false)
    else
    s_l16Words_l1 kj7 r4 N (w64 (i9 + 1))
    else
    kj7 

def s_l16Words (N : Nat) (text1 : Str) : Option ((List Str) × Bool) :=
  bif (text1 == []) then
  some ([], true)
  else
  (s_l01Split N text1 32).bind fun r4 =>
  withK (some (r4, decide ((List.length text1 : Int) ≤ 200))) fun (kj7 : Option ((List Str) × Bool)) =>
  s_l16Words_l1 kj7 r4 N 0

def s_l16Code (N : Nat) (list1 : List Abbr) (text4 : Str) : Option ((List Str) × Int) :=
  (s_l16Ok N list1).bind fun r5 =>
  bif !r5 then
  some ([], 1)
  else
  (s_l16Words N text4).bind fun r8 =>
  bif !r8.2 then
  some ([], 7)
  else
  some (r8.1, 0)

def s_l16Best_l1 (kj12 : Str → Option Str) (list1 : List Abbr) (word4 : Str) : Nat → Str → Int → Option Str
  | 0, _, _ => none
  | N + 1, best14, i15 =>
    bif decide (i15 < (List.length list1 : Int)) then
    withK (fun (best17 : Str) =>
    s_l16Best_l1 kj12 list1 word4 N best17 (w64 (i15 + 1))) fun (kj18 : Str → Option Str) =>
    (idx list1 i15).bind fun e20 =>
    (andO (e20.long == word4) ((orO (best14 == []) (some (decide ((List.length e20.short : Int) < (List.length best14 : Int))))).bind fun t28 =>
    some t28)).bind fun t25 =>
    bif t25 then
    kj18 e20.short
    else
    kj18 best14
    else
    kj12 best14

def s_l16Best (N : Nat) (list1 : List Abbr) (word4 : Str) : Option Str :=
  withK (fun (best5 : Str) =>
  withK (fun (best11 : Str) =>
  some best11) fun (kj12 : Str → Option Str) =>
  s_l16Best_l1 kj12 list1 word4 N best5 0) fun (kj6 : Str → Option Str) =>
  (s_l16Short N list1 word4).bind fun r8 =>
  bif decide (r8 < 0) then
  kj6 word4
  else
  kj6 []

def s_l16Shorten_l1 (kj10 : (List Str) → Option ((List Str) × Bool)) (list1 : List Abbr) (words4 : List Str) : Nat → (List Str) → Int → Option ((List Str) × Bool)
  | 0, _, _ => none
  | N + 1, l12, i14 =>
    bif decide (i14 < (List.length words4 : Int)) then
    (idx words4 i14).bind fun e16 =>
    (s_l16Best N list1 e16).bind fun r21 =>
    bif (r21 == []) then
    some ([], false)
    else
    (app l12 [r21]).bind fun l25 =>
    s_l16Shorten_l1 kj10 list1 words4 N l25 (w64 (i14 + 1))
    else
    kj10 l12

def s_l16Shorten (N : Nat) (list1 : List Abbr) (words4 : List Str) : Option ((List Str) × Bool) :=
  withK (fun (l8 : List Str) =>
  some (l8, true)) fun (kj10 : (List Str) → Option ((List Str) × Bool)) =>
  s_l16Shorten_l1 kj10 list1 words4 N [] 0

def s_ShortenText (N : Nat) (list1 : List Abbr) (text4 : Str) : Option (Str × Int) :=
  (s_l16Code N list1 text4).bind fun r5 =>
  bif (r5.2 != 0) then
  some ([], r5.2)
  else
  (s_l16Shorten N list1 r5.1).bind fun r9 =>
  bif !r9.2 then
  some ([], 3)
  else
  (s_l16Join N r9.1).bind fun r13 =>
  some (r13, 0)

def i_SavedLetters (N : Nat) (list1 : List Abbr) (text4 : Str) : Option (Int × Int) :=
  (i_ShortenText N list1 text4).bind fun r5 =>
  bif (r5.2 != 0) then
  some (0, r5.2)
  else
  some (w64 ((List.length text4 : Int) - (List.length r5.1 : Int)), 0)

def s_SavedLetters (N : Nat) (list1 : List Abbr) (text4 : Str) : Option (Int × Int) :=
  (s_l16Code N list1 text4).bind fun r5 =>
  bif (r5.2 != 0) then
  some (0, r5.2)
  else
  (s_l16Shorten N list1 r5.1).bind fun r9 =>
  bif !r9.2 then
  some (0, 3)
  else
  (s_l16Join N r9.1).bind fun r13 =>
  some (w64 ((List.length text4 : Int) - (List.length r13 : Int)), 0)

def i_ExpandText_l1 (kj10 : (List Str) → Option (Str × Int)) (list1 : List Abbr) (r5 : (List Str) × Int) : Nat → (List Str) → Int → Option (Str × Int)
  | 0, _, _ => none
  | N + 1, l12, x13 =>
    bif decide (x13 < (List.length r5.1 : Int)) then
    withK (fun (l15 : List Str) =>
    i_ExpandText_l1 kj10 list1 r5 N l15 (w64 (x13 + 1))) fun (kj16 : (List Str) → Option (Str × Int)) =>
    (idx l12 x13).bind fun e18 =>
    (i_longOf N list1 e18).bind fun r20 =>
    bif r20.2 then
    (idx l12 x13).bind fun e23 =>
    kj16 (List.set l12 (Int.toNat x13) r20.1)
    else
    kj16 l12
    else
    kj10 l12

def i_ExpandText (N : Nat) (list1 : List Abbr) (text4 : Str) : Option (Str × Int) :=
  (i_noteCode N list1 text4).bind fun r5 =>
  bif (r5.2 != 0) then
  some ([], r5.2)
  else
  withK (fun (l9 : List Str) =>
  (joinO l9 [32]).bind fun r25 =>
  some (r25, 0)) fun (kj10 : (List Str) → Option (Str × Int)) =>
  i_ExpandText_l1 kj10 list1 r5 N r5.1 0

def s_ExpandText_l1 (kj12 : (List Str) → Option (Str × Int)) (list1 : List Abbr) (r5 : (List Str) × Int) : Nat → (List Str) → Int → Option (Str × Int)
  | 0, _, _ => none
  | N + 1, l14, i16 =>
    bif decide (i16 < (List.length r5.1 : Int)) then
    withK (fun (l18 : List Str) =>
    s_ExpandText_l1 kj12 list1 r5 N l18 (w64 (i16 + 1))) fun (kj20 : (List Str) → Option (Str × Int)) =>
    (idx r5.1 i16).bind fun e22 =>
    (s_l16Short N list1 e22).bind fun r24 =>
    bif decide (r24 ≥ 0) then
    (idx list1 r24).bind fun e27 =>
    (app l14 [e27.long]).bind fun l33 =>
    kj20 l33
    else
    (idx r5.1 i16).bind fun e36 =>
    (app l14 [e36]).bind fun l39 =>
    kj20 l39
    else
    kj12 l14

def s_ExpandText (N : Nat) (list1 : List Abbr) (text4 : Str) : Option (Str × Int) :=
  (s_l16Code N list1 text4).bind fun r5 =>
  bif (r5.2 != 0) then
  some ([], r5.2)
  else
  withK (fun (l10 : List Str) =>
  (s_l16Join N l10).bind fun r42 =>
  some (r42, 0)) fun (kj12 : (List Str) → Option (Str × Int)) =>
  s_ExpandText_l1 kj12 list1 r5 N [] 0

def i_UsefulAbbrs_c1 (i1 : Int) (mp6 : List (Str × Int)) (x7 : List Abbr) : Option Int :=
  (idx x7 i1).bind fun e12 =>
  (idx x7 i1).bind fun e17 =>
  (idx x7 i1).bind fun e22 =>
  some (w64 ((Option.getD (mgetO mp6 e12.long) (0 : Int)) * (w64 ((List.length e17.long : Int) - (List.length e22.short : Int)))))

def i_UsefulAbbrs_c2 (i1 : Int) (k2 : Int) (mp9 : List (Str × Int)) (x10 : List Abbr) (x15 : List Int) : Option Bool :=
  (idx x15 i1).bind fun e20 =>
  (i_UsefulAbbrs_c1 e20 mp9 x10).bind fun r25 =>
  (idx x15 k2).bind fun e27 =>
  (i_UsefulAbbrs_c1 e27 mp9 x10).bind fun r32 =>
  some (decide (r25 > r32))

def i_UsefulAbbrs_l1 (kj13 : (List (Str × Int)) → Option ((List Int) × Int)) (r6 : (List Str) × Int) : Nat → (List (Str × Int)) → Int → Option ((List Int) × Int)
  | 0, _, _ => none
  | N + 1, mp15, x16 =>
    bif decide (x16 < (List.length r6.1 : Int)) then
    (idx r6.1 x16).bind fun e18 =>
    i_UsefulAbbrs_l1 kj13 r6 N (msetV mp15 e18 (w64 ((Option.getD (mgetO mp15 e18) (0 : Int)) + 1))) (w64 (x16 + 1))
    else
    kj13 mp15

def i_UsefulAbbrs_l2 (kj26 : (List Int) → Option ((List Int) × Int)) (list1 : List Abbr) (mp12 : List (Str × Int)) : Nat → (List Int) → Int → Option ((List Int) × Int)
  | 0, _, _ => none
  | N + 1, l28, x30 =>
    bif decide (x30 < (List.length list1 : Int)) then
    withK (fun (l32 : List Int) =>
    i_UsefulAbbrs_l2 kj26 list1 mp12 N l32 (w64 (x30 + 1))) fun (kj34 : (List Int) → Option ((List Int) × Int)) =>
    (i_UsefulAbbrs_c1 x30 mp12 list1).bind fun r36 =>
    bif decide (r36 > 0) then
    (app l28 [x30]).bind fun l40 =>
    kj34 l40
    else
    kj34 l28
    else
    kj26 l28

def i_UsefulAbbrs (N : Nat) (list1 : List Abbr) (text4 : Str) : Option ((List Int) × Int) :=
  (i_noteCode N list1 text4).bind fun r6 =>
  bif (r6.2 != 0) then
  some ([], r6.2)
  else
  withK (fun (mp12 : List (Str × Int)) =>
  withK (fun (l24 : List Int) =>
  (srtS (fun i j dk => i_UsefulAbbrs_c2 i j mp12 list1 dk) l24).bind fun l44 =>
  some (l44, 0)) fun (kj26 : (List Int) → Option ((List Int) × Int)) =>
  i_UsefulAbbrs_l2 kj26 list1 mp12 N [] 0) fun (kj13 : (List (Str × Int)) → Option ((List Int) × Int)) =>
  i_UsefulAbbrs_l1 kj13 r6 N ([] : List (Str × Int)) 0

def s_l00Own (list1 : List Int) : Option (List Int) :=
  (app [] list1).bind fun l5 =>
  some l5

def s_UsefulAbbrs_l2 (kj23 : Int → Option ((List Int) × Int)) (list1 : List Abbr) (r5 : (List Str) × Int) (i16 : Int) : Nat → Int → Int → Option ((List Int) × Int)
  | 0, _, _ => none
  | N + 1, n25, k26 =>
    bif decide (k26 < (List.length r5.1 : Int)) then
    withK (fun (n28 : Int) =>
    s_UsefulAbbrs_l2 kj23 list1 r5 i16 N n28 (w64 (k26 + 1))) fun (kj29 : Int → Option ((List Int) × Int)) =>
    (idx r5.1 k26).bind fun e31 =>
    (idx list1 i16).bind fun e33 =>
    bif (e31 == e33.long) then
    (idx list1 i16).bind fun e39 =>
    (idx list1 i16).bind fun e44 =>
    kj29 (w64 (n25 + (w64 ((List.length e39.long : Int) - (List.length e44.short : Int)))))
    else
    kj29 n25
    else
    kj23 n25

def s_UsefulAbbrs_l1 (kj12 : (List Int) → Option ((List Int) × Int)) (list1 : List Abbr) (r5 : (List Str) × Int) : Nat → (List Int) → Int → Option ((List Int) × Int)
  | 0, _, _ => none
  | N + 1, l14, i16 =>
    bif decide (i16 < (List.length list1 : Int)) then
    withK (fun (l18 : List Int) =>
    s_UsefulAbbrs_l1 kj12 list1 r5 N l18 (w64 (i16 + 1))) fun (kj20 : (List Int) → Option ((List Int) × Int)) =>
    withK (fun (n22 : Int) =>
    (app l14 [n22]).bind fun l50 =>
    kj20 l50) fun (kj23 : Int → Option ((List Int) × Int)) =>
    s_UsefulAbbrs_l2 kj23 list1 r5 i16 N 0 0
    else
    kj12 l14

def s_UsefulAbbrs_l4 (kj70 : Int → Option ((List Int) × Int)) (l10 : List Int) (l58 : List Int) (i60 : Int) : Nat → Int → Option ((List Int) × Int)
  | 0, _ => none
  | N + 1, k72 =>
    (andO (decide (k72 > 0)) ((idx l58 (w64 (k72 - 1))).bind fun e76 =>
    (idx l10 e76).bind fun e78 =>
    (idx l10 i60).bind fun e80 =>
    some (decide (e78 < e80)))).bind fun t73 =>
    bif t73 then
    s_UsefulAbbrs_l4 kj70 l10 l58 i60 N (w64 (k72 - 1))
    else
    kj70 k72

def s_UsefulAbbrs_l3 (kj56 : (List Int) → Option ((List Int) × Int)) (list1 : List Abbr) (l10 : List Int) : Nat → (List Int) → Int → Option ((List Int) × Int)
  | 0, _, _ => none
  | N + 1, l58, i60 =>
    bif decide (i60 < (List.length list1 : Int)) then
    withK (fun (l62 : List Int) =>
    s_UsefulAbbrs_l3 kj56 list1 l10 N l62 (w64 (i60 + 1))) fun (kj64 : (List Int) → Option ((List Int) × Int)) =>
    (idx l10 i60).bind fun e66 =>
    bif (e66 == 0) then
    kj64 l58
    else
    withK (fun (k69 : Int) =>
    (sub l58 0 k69).bind fun l83 =>
    (s_l00Own l83).bind fun r85 =>
    (app r85 [i60]).bind fun l89 =>
    (sub l58 k69 (List.length l58 : Int)).bind fun l92 =>
    (app l89 l92).bind fun l94 =>
    kj64 l94) fun (kj70 : Int → Option ((List Int) × Int)) =>
    s_UsefulAbbrs_l4 kj70 l10 l58 i60 N (List.length l58 : Int)
    else
    kj56 l58

def s_UsefulAbbrs (N : Nat) (list1 : List Abbr) (text4 : Str) : Option ((List Int) × Int) :=
  (s_l16Code N list1 text4).bind fun r5 =>
  bif (r5.2 != 0) then
  some ([], r5.2)
  else
  withK (fun (l10 : List Int) =>
  withK (fun (l54 : List Int) =>
  some (l54, 0)) fun (kj56 : (List Int) → Option ((List Int) × Int)) =>
  s_UsefulAbbrs_l3 kj56 list1 l10 N [] 0) fun (kj12 : (List Int) → Option ((List Int) × Int)) =>
  s_UsefulAbbrs_l1 kj12 list1 r5 N [] 0

def i_DoubtfulAbbrs_l1 (kj9 : (List (Str × Bool)) → Option ((List Int) × Int)) (list1 : List Abbr) : Nat → (List (Str × Bool)) → Int → Option ((List Int) × Int)
  | 0, _, _ => none
  | N + 1, mp11, x12 =>
    bif decide (x12 < (List.length list1 : Int)) then
    (idx list1 x12).bind fun e14 =>
    i_DoubtfulAbbrs_l1 kj9 list1 N (mset mp11 e14.long true) (w64 (x12 + 1))
    else
    kj9 mp11

def i_DoubtfulAbbrs_l2 (kj23 : (List Int) → Option ((List Int) × Int)) (list1 : List Abbr) (mp8 : List (Str × Bool)) : Nat → (List Int) → Int → Option ((List Int) × Int)
  | 0, _, _ => none
  | N + 1, l25, x27 =>
    bif decide (x27 < (List.length list1 : Int)) then
    withK (fun (l29 : List Int) =>
    i_DoubtfulAbbrs_l2 kj23 list1 mp8 N l29 (w64 (x27 + 1))) fun (kj31 : (List Int) → Option ((List Int) × Int)) =>
    (idx list1 x27).bind fun e33 =>
    bif mget mp8 e33.short then
    (app l25 [x27]).bind fun l41 =>
    kj31 l41
    else
    kj31 l25
    else
    kj23 l25

def i_DoubtfulAbbrs (N : Nat) (list1 : List Abbr) : Option ((List Int) × Int) :=
  (i_ValidAbbrs N list1).bind fun r4 =>
  bif !r4 then
  some ([], 1)
  else
  withK (fun (mp8 : List (Str × Bool)) =>
  withK (fun (l21 : List Int) =>
  some (l21, 0)) fun (kj23 : (List Int) → Option ((List Int) × Int)) =>
  i_DoubtfulAbbrs_l2 kj23 list1 mp8 N [] 0) fun (kj9 : (List (Str × Bool)) → Option ((List Int) × Int)) =>
  i_DoubtfulAbbrs_l1 kj9 list1 N [] 0

def s_DoubtfulAbbrs_l2 (kj21 : Bool → Option ((List Int) × Int)) (list1 : List Abbr) (i14 : Int) : Nat → Bool → Int → Option ((List Int) × Int)
  | 0, _, _ => none
  | N + 1, found23, k24 =>
    bif decide (k24 < (List.length list1 : Int)) then
    (orO found23 ((idx list1 k24).bind fun e29 =>
    (idx list1 i14).bind fun e34 =>
    some (e29.long == e34.short))).bind fun t26 =>
    s_DoubtfulAbbrs_l2 kj21 list1 i14 N t26 (w64 (k24 + 1))
    else
    kj21 found23

def s_DoubtfulAbbrs_l1 (kj10 : (List Int) → Option ((List Int) × Int)) (list1 : List Abbr) : Nat → (List Int) → Int → Option ((List Int) × Int)
  | 0, _, _ => none
  | N + 1, l12, i14 =>
    bif decide (i14 < (List.length list1 : Int)) then
    withK (fun (l16 : List Int) =>
    s_DoubtfulAbbrs_l1 kj10 list1 N l16 (w64 (i14 + 1))) fun (kj18 : (List Int) → Option ((List Int) × Int)) =>
    withK (fun (found20 : Bool) =>
    bif found20 then
    (app l12 [i14]).bind fun l41 =>
    kj18 l41
    else
    kj18 l12) fun (kj21 : Bool → Option ((List Int) × Int)) =>
    s_DoubtfulAbbrs_l2 kj21 list1 i14 N false 0
    else
    kj10 l12

def s_DoubtfulAbbrs (N : Nat) (list1 : List Abbr) : Option ((List Int) × Int) :=
  (s_l16Ok N list1).bind fun r4 =>
  bif !r4 then
  some ([], 1)
  else
  withK (fun (l8 : List Int) =>
  some (l8, 0)) fun (kj10 : (List Int) → Option ((List Int) × Int)) =>
  s_DoubtfulAbbrs_l1 kj10 list1 N [] 0

def s_DrawAddAbbr (N : Nat) (code1 : List UInt8) : Option ((List Abbr) × Abbr) :=
  (s_l00From code1).bind fun r5 =>
  (s_l16Bent N (L00Src.mk code1 r5.at_ r5.seed)).bind fun r8 =>
  (s_l16New (L00Src.mk code1 r8.2.at_ r8.2.seed)).bind fun r11 =>
  withK (fun (x14 : Str) (x15 : Str) =>
  some (r8.1, (Abbr.mk x14 x15))) fun (kj16 : Str → Str → Option ((List Abbr) × Abbr)) =>
  bif decide ((List.length r8.1 : Int) ≥ 30) then
  kj16 ((Abbr.mk [122, 122] [122, 101, 98, 114, 97]).short) ((Abbr.mk [122, 122] [122, 101, 98, 114, 97]).long)
  else
  kj16 r11.1.short r11.1.long

def i_AddAbbr_l1 (kj13 : Int → Option ((List Abbr) × Int)) (list1 : List Abbr) (x4 : Abbr) : Nat → Int → Option ((List Abbr) × Int)
  | 0, _ => none
  | N + 1, at15 =>
    (andO (decide (at15 < (List.length list1 : Int))) ((idx list1 at15).bind fun e19 =>
    some (ltL e19.short x4.short))).bind fun t16 =>
    bif t16 then
    i_AddAbbr_l1 kj13 list1 x4 N (w64 (at15 + 1))
    else
    kj13 at15

def i_AddAbbr (N : Nat) (list1 : List Abbr) (x4 : Abbr) : Option ((List Abbr) × Int) :=
  (i_ValidAbbrs N list1).bind fun r6 =>
  bif !r6 then
  some ([], 1)
  else
  (i_validAbbr N x4).bind fun r9 =>
  bif !r9 then
  some ([], 2)
  else
  withK (fun (at12 : Int) =>
  (andO (decide (at12 < (List.length list1 : Int))) ((idx list1 at12).bind fun e28 =>
  some (e28.short == x4.short))).bind fun t25 =>
  bif t25 then
  some ([], 4)
  else
  bif ((List.length list1 : Int) == 30) then
  some ([], 5)
  else
  (sub list1 0 at12).bind fun l36 =>
  (app [] l36).bind fun l41 =>
  (app l41 [x4]).bind fun l45 =>
  (sub list1 at12 (List.length list1 : Int)).bind fun l48 =>
  (app l45 l48).bind fun l53 =>
  some (l53, 0)) fun (kj13 : Int → Option ((List Abbr) × Int)) =>
  i_AddAbbr_l1 kj13 list1 x4 N 0

def s_DrawAbbrText (code1 : List UInt8) : Option Abbr :=
  (s_l00From code1).bind fun r5 =>
  (s_l16New (L00Src.mk code1 r5.at_ r5.seed)).bind fun r8 =>
  some r8.1

def i_AbbrText (N : Nat) (x1 : Abbr) : Option Str :=
  (i_validAbbr N x1).bind fun r3 =>
  bif !r3 then
  some []
  else
  (cat x1.short [61]).bind fun s6 =>
  (cat s6 x1.long).bind fun s8 =>
  some s8

def i_ReadAbbr_l1 (kj5 : Str → Str → Option (Abbr × Bool)) (s1 : Str) : Nat → Str → Str → Int → Option (Abbr × Bool)
  | 0, _, _, _ => none
  | N + 1, x7, x8, x9 =>
    bif decide (x9 < (List.length s1 : Int)) then
    withK (fun (x11 : Str) (x12 : Str) =>
    i_ReadAbbr_l1 kj5 s1 N x11 x12 (w64 (x9 + 1))) fun (kj13 : Str → Str → Option (Abbr × Bool)) =>
    (idx s1 x9).bind fun c15 =>
    bif (c15 == (61 : UInt8)) then
    (sub s1 0 x9).bind fun s18 =>
    (sub s1 (w64 (x9 + 1)) (List.length s1 : Int)).bind fun s20 =>
    (i_validAbbr N (Abbr.mk s18 s20)).bind fun r23 =>
    bif r23 then
    some ((Abbr.mk s18 s20), true)
    else
    kj13 x7 x8
    else
    kj13 x7 x8
    else
    kj5 x7 x8

def i_ReadAbbr (N : Nat) (s1 : Str) : Option (Abbr × Bool) :=
  withK (fun (x3 : Str) (x4 : Str) =>
  some ((Abbr.mk [] []), false)) fun (kj5 : Str → Str → Option (Abbr × Bool)) =>
  i_ReadAbbr_l1 kj5 s1 N [] [] 0

def s_l01Spoil (s1 : L00Src) (t5 : Str) : Option (Str × L00Src) :=
  withK (fun (x6 : Int) (x7 : Int) (t8 : Str) =>
  some (t8, (L00Src.mk s1.code x6 x7))) fun (kj9 : Int → Int → Str → Option (Str × L00Src)) =>
  (s_l00Src_pick (L00Src.mk s1.code s1.at_ s1.seed) 5).bind fun r11 =>
  bif (r11.1 == 0) then
  (s_l00Src_pick (L00Src.mk s1.code r11.2.at_ r11.2.seed) (w64 ((List.length t5 : Int) + 1))).bind fun r14 =>
  (sub t5 0 r14.1).bind fun s16 =>
  (s_l00Src_text (L00Src.mk s1.code r14.2.at_ r14.2.seed) ([[32], [48], [45], [120], [49], [57], [46]] : List Str)).bind fun r19 =>
  (cat s16 r19.1).bind fun s21 =>
  (sub t5 r14.1 (List.length t5 : Int)).bind fun s23 =>
  (cat s21 s23).bind fun s25 =>
  kj9 r19.2.at_ r19.2.seed s25
  else
  bif (r11.1 == 1) then
  bif (t5 != []) then
  (s_l00Src_pick (L00Src.mk s1.code r11.2.at_ r11.2.seed) (List.length t5 : Int)).bind fun r29 =>
  (sub t5 0 r29.1).bind fun s31 =>
  (sub t5 (w64 (r29.1 + 1)) (List.length t5 : Int)).bind fun s33 =>
  (cat s31 s33).bind fun s35 =>
  kj9 r29.2.at_ r29.2.seed s35
  else
  kj9 r11.2.at_ r11.2.seed t5
  else
  kj9 r11.2.at_ r11.2.seed t5

def s_DrawReadAbbr (code1 : List UInt8) : Option Str :=
  (s_l00From code1).bind fun r4 =>
  (s_l16New (L00Src.mk code1 r4.at_ r4.seed)).bind fun r7 =>
  (cat r7.1.short [61]).bind fun s10 =>
  (cat s10 r7.1.long).bind fun s12 =>
  (s_l00Src_one (L00Src.mk code1 r7.2.at_ r7.2.seed) 3).bind fun r14 =>
  bif r14.1 then
  (s_l01Spoil (L00Src.mk code1 r14.2.at_ r14.2.seed) s12).bind fun r17 =>
  some r17.1
  else
  some s12

def s_ReadAbbr (N : Nat) (s1 : Str) : Option (Abbr × Bool) :=
  (s_l01Split N s1 61).bind fun r3 =>
  bif ((List.length r3 : Int) != 2) then
  some ((Abbr.mk [] []), false)
  else
  (idx r3 0).bind fun e7 =>
  (idx r3 1).bind fun e9 =>
  (s_l16One N (Abbr.mk ((Abbr.mk e7 e9).short) ((Abbr.mk e7 e9).long))).bind fun r12 =>
  bif !r12 then
  some ((Abbr.mk [] []), false)
  else
  some ((Abbr.mk e7 e9), true)

def s_DrawSameAbbrs (N : Nat) (code1 : List UInt8) : Option ((List Abbr) × (List Abbr)) :=
  (s_l00From code1).bind fun r4 =>
  (s_l16Draw N (L00Src.mk code1 r4.at_ r4.seed)).bind fun r7 =>
  (app [] r7.1).bind fun l11 =>
  withK (fun (x14 : Int) (x15 : Int) (l16 : List Abbr) =>
  withK (fun (l36 : List Abbr) =>
  some (r7.1, l36)) fun (kj38 : (List Abbr) → Option ((List Abbr) × (List Abbr))) =>
  (s_l00Src_one (L00Src.mk code1 x14 x15) 5).bind fun r40 =>
  bif r40.1 then
  (app l16 [(Abbr.mk [] [])]).bind fun l44 =>
  kj38 l44
  else
  kj38 l16) fun (kj17 : Int → Int → (List Abbr) → Option ((List Abbr) × (List Abbr))) =>
  (bif decide ((List.length l11 : Int) > 0) then (s_l00Src_one (L00Src.mk code1 r7.2.at_ r7.2.seed) 2).bind fun r23 =>
  some (r23.1, (L00Src.mk code1 r23.2.at_ r23.2.seed)) else some (false, (L00Src.mk code1 r7.2.at_ r7.2.seed))).bind fun x21 =>
  bif x21.1 then
  (idx l11 0).bind fun e26 =>
  (s_l00Src_text (L00Src.mk code1 x21.2.at_ x21.2.seed) ([[], [115]] : List Str)).bind fun r29 =>
  (cat e26.long r29.1).bind fun s31 =>
  (idx l11 0).bind fun e33 =>
  kj17 r29.2.at_ r29.2.seed (List.set l11 (Int.toNat 0) (Abbr.mk e33.short s31))
  else
  kj17 x21.2.at_ x21.2.seed l11

def w_f6ints_l1 (kj8 : Option Bool) (a1 : List Int) (b4 : List Int) : Nat → Int → Option Bool
  | 0, _ => none
  | N + 1, i10 =>
    bif decide (i10 < (List.length a1 : Int)) then
    (idx a1 i10).bind fun e12 =>
    (idx b4 i10).bind fun e17 =>
    bif (e12 != e17) then
    some false
    else
    w_f6ints_l1 kj8 a1 b4 N (w64 (i10 + 1))
    else
    kj8 

def w_f6ints (N : Nat) (a1 : List Int) (b4 : List Int) : Option Bool :=
  bif ((List.length a1 : Int) != (List.length b4 : Int)) then
  some false
  else
  withK (some true) fun (kj8 : Option Bool) =>
  w_f6ints_l1 kj8 a1 b4 N 0

def s_SameAbbrs_l1 (kj8 : Option Bool) (a1 : List Abbr) (b4 : List Abbr) : Nat → Int → Option Bool
  | 0, _ => none
  | N + 1, i10 =>
    bif decide (i10 < (List.length a1 : Int)) then
    (idx a1 i10).bind fun e12 =>
    (idx b4 i10).bind fun e17 =>
    bif !(Abbr.beq e12 e17) then
    some false
    else
    s_SameAbbrs_l1 kj8 a1 b4 N (w64 (i10 + 1))
    else
    kj8 

def s_SameAbbrs (N : Nat) (a1 : List Abbr) (b4 : List Abbr) : Option Bool :=
  bif ((List.length a1 : Int) != (List.length b4 : Int)) then
  some false
  else
  withK (some true) fun (kj8 : Option Bool) =>
  s_SameAbbrs_l1 kj8 a1 b4 N 0

def s_AbbrText (N : Nat) (x1 : Abbr) : Option Str :=
  (s_l16One N (Abbr.mk x1.short x1.long)).bind fun r3 =>
  bif !r3 then
  some []
  else
  (cat x1.short [61]).bind fun s6 =>
  (cat s6 x1.long).bind fun s8 =>
  some s8

def i_SameAbbrs_l1 (kj8 : Option Bool) (a1 : List Abbr) (b4 : List Abbr) : Nat → Int → Option Bool
  | 0, _ => none
  | N + 1, x10 =>
    bif decide (x10 < (List.length a1 : Int)) then
    (idx a1 x10).bind fun e12 =>
    (idx b4 x10).bind fun e17 =>
    bif !(Abbr.beq e12 e17) then
    some false
    else
    i_SameAbbrs_l1 kj8 a1 b4 N (w64 (x10 + 1))
    else
    kj8 

def i_SameAbbrs (N : Nat) (a1 : List Abbr) (b4 : List Abbr) : Option Bool :=
  bif ((List.length a1 : Int) != (List.length b4 : Int)) then
  some false
  else
  withK (some true) fun (kj8 : Option Bool) =>
  i_SameAbbrs_l1 kj8 a1 b4 N 0

def s_ValidAbbrs (N : Nat) (list1 : List Abbr) : Option Bool :=
  (s_l16Ok N list1).bind fun r4 =>
  some r4

def w_FnAbbreviations (N : Nat) (code1 : List UInt8) : Option Bool :=
  (w_f6big code1).bind fun r4 =>
  bif r4 then
  some true
  else
  (s_DrawShortenText N code1).bind fun r7 =>
  (i_ShortenText N r7.1 r7.2).bind fun r10 =>
  (s_ShortenText N r7.1 r7.2).bind fun r12 =>
  (i_SavedLetters N r7.1 r7.2).bind fun r14 =>
  (s_SavedLetters N r7.1 r7.2).bind fun r16 =>
  (i_ExpandText N r7.1 r7.2).bind fun r18 =>
  (s_ExpandText N r7.1 r7.2).bind fun r20 =>
  (i_UsefulAbbrs N r7.1 r7.2).bind fun r22 =>
  (s_UsefulAbbrs N r7.1 r7.2).bind fun r25 =>
  (i_DoubtfulAbbrs N r7.1).bind fun r28 =>
  (s_DoubtfulAbbrs N r7.1).bind fun r31 =>
  (s_DrawAddAbbr N code1).bind fun r34 =>
  (i_AddAbbr N r34.1 r34.2).bind fun r38 =>
  (s_AddAbbr N r34.1 r34.2).bind fun r41 =>
  (s_DrawAbbrText code1).bind fun r44 =>
  (i_AbbrText N r44).bind fun r47 =>
  (i_ReadAbbr N r47).bind fun r49 =>
  (s_DrawReadAbbr code1).bind fun r52 =>
  (i_ReadAbbr N r52).bind fun r54 =>
  (s_ReadAbbr N r52).bind fun r57 =>
  (s_DrawSameAbbrs N code1).bind fun r60 =>
  (orO (r10.2 != r12.2) (some (r10.1 != r12.1))).bind fun t64 =>
  (orO t64 (some (r14.2 != r16.2))).bind fun t67 =>
  (orO t67 (some (r14.1 != r16.1))).bind fun t70 =>
  (orO t70 (some (r18.2 != r20.2))).bind fun t73 =>
  (orO t73 (some (r18.1 != r20.1))).bind fun t76 =>
  (orO t76 (some (r22.2 != r25.2))).bind fun t79 =>
  (orO t79 ((w_f6ints N r22.1 r25.1).bind fun r85 =>
  some (!r85))).bind fun t82 =>
  (orO t82 (some (r28.2 != r31.2))).bind fun t87 =>
  (orO t87 ((w_f6ints N r28.1 r31.1).bind fun r93 =>
  some (!r93))).bind fun t90 =>
  (orO t90 (some (r38.2 != r41.2))).bind fun t95 =>
  (orO t95 ((s_SameAbbrs N r38.1 r41.1).bind fun r101 =>
  some (!r101))).bind fun t98 =>
  (orO t98 ((s_AbbrText N r44).bind fun r106 =>
  some (r47 != r106))).bind fun t103 =>
  (orO t103 (some (r49.2 != (r47 != [])))).bind fun t108 =>
  (orO t108 ((andO r49.2 (some (!(Abbr.beq r49.1 r44)))).bind fun t114 =>
  some t114)).bind fun t111 =>
  (orO t111 (some (r54.2 != r57.2))).bind fun t117 =>
  (orO t117 (some (!(Abbr.beq r54.1 r57.1)))).bind fun t120 =>
  (orO t120 ((i_SameAbbrs N r60.1 r60.2).bind fun r126 =>
  (s_SameAbbrs N r60.1 r60.2).bind fun r128 =>
  some (r126 != r128))).bind fun t123 =>
  (orO t123 ((i_ValidAbbrs N r7.1).bind fun r133 =>
  (s_ValidAbbrs N r7.1).bind fun r135 =>
  some (r133 != r135))).bind fun t130 =>
  bif t130 then
  some false
  else
  (andO (r38.2 == 0) ((orO ((List.length r41.1 : Int) != (w64 ((List.length r34.1 : Int) + 1))) ((i_ValidAbbrs N r38.1).bind fun r144 =>
  some (!r144))).bind fun t141 =>
  some t141)).bind fun t138 =>
  bif t138 then
  some false
  else
  bif (r10.2 != 0) then
  some true
  else
  (i_ExpandText N r7.1 r10.1).bind fun r148 =>
  (andO (r148.2 == 0) (some (r148.1 == r7.2))).bind fun t150 =>
  (andO t150 (some (decide ((List.length r10.1 : Int) ≤ (List.length r7.2 : Int))))).bind fun t153 =>
  (andO t153 (some (r14.1 == (w64 ((List.length r7.2 : Int) - (List.length r10.1 : Int)))))).bind fun t156 =>
  some t156

end Go.Proofs.Ytpdcifgphocllaa
