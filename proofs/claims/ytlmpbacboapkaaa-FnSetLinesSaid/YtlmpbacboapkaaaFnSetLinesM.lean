/-
  Plain functions that compute what the Go functions compute. No conditions.
-/
import Derived.Test.YtlmpbacboapkaaaBase2
namespace Go.Proofs.Ytlmpbacboapkaaa
set_option linter.unusedVariables false
set_option linter.unusedSimpArgs false

structure L00Src where
  code : List UInt8
  at_ : Int
  seed : Int



def w_a2Long (code1 : List UInt8) (more4 : List UInt8) : Option Bool :=
  (orO (decide ((List.length code1 : Int) > 3000)) (some (decide ((List.length more4 : Int) > 3000)))).bind fun t7 =>
  some t7

def s_l00From (code1 : List UInt8) : Option L00Src :=
  some (L00Src.mk code1 0 0)

def s_l00Src_next (s1 : L00Src) : Option (Int × L00Src) :=
  withK (fun (b5 : Int) =>
  bif decide ((w64 (s1.at_ + 1)) ≤ (List.length s1.code : Int)) then
  some (b5, (L00Src.mk s1.code (w64 (s1.at_ + 1)) (IntKind.u64.wrap ((IntKind.u64.wrap ((IntKind.u64.wrap (s1.seed * 6364136223846793005)) + (IntKind.u64.wrap b5))) + 1442695040888963407))))
  else
  some (w64 (uand (ushr (IntKind.u64.wrap ((IntKind.u64.wrap ((IntKind.u64.wrap (s1.seed * 6364136223846793005)) + (IntKind.u64.wrap b5))) + 1442695040888963407)) 40) 255), (L00Src.mk s1.code (w64 (s1.at_ + 1)) (IntKind.u64.wrap ((IntKind.u64.wrap ((IntKind.u64.wrap (s1.seed * 6364136223846793005)) + (IntKind.u64.wrap b5))) + 1442695040888963407))))) fun (kj6 : Int → Option (Int × L00Src)) =>
  bif decide (s1.at_ < (List.length s1.code : Int)) then
  (idx s1.code s1.at_).bind fun e9 =>
  kj6 (UInt8.toNat e9 : Int)
  else
  kj6 0

def s_l00Src_pick (s1 : L00Src) (n5 : Int) : Option (Int × L00Src) :=
  bif decide (n5 ≤ 1) then
  some (0, (L00Src.mk s1.code s1.at_ s1.seed))
  else
  (s_l00Src_next (L00Src.mk s1.code s1.at_ s1.seed)).bind fun r7 =>
  withK (fun (x9 : Int) (x10 : Int) (x11 : Int) =>
  (remO x11 n5).bind fun q17 =>
  some (q17, (L00Src.mk s1.code x9 x10))) fun (kj12 : Int → Int → Int → Option (Int × L00Src)) =>
  bif decide (n5 > 200) then
  (s_l00Src_next (L00Src.mk s1.code r7.2.at_ r7.2.seed)).bind fun r15 =>
  kj12 r15.2.at_ r15.2.seed (w64 ((w64 (r7.1 * 256)) + r15.1))
  else
  kj12 r7.2.at_ r7.2.seed r7.1

def s_l00Min (a1 : Int) (b2 : Int) : Option Int :=
  bif decide (a1 < b2) then
  some a1
  else
  some b2

def s_l09Draw_l2 (kj33 : Int → Int → (List UInt8) → Option ((List Str) × Int × L00Src)) (s1 : L00Src) : Nat → Int → Int → (List UInt8) → Int → Option ((List Str) × Int × L00Src)
  | 0, _, _, _, _ => none
  | N + 1, x39, x40, l41, n43 =>
    bif decide (n43 > 0) then
    (s_l00Src_pick (L00Src.mk s1.code x39 x40) 7).bind fun r45 =>
    (idx [97, 98, 99, 100, 101, 33, 126] r45.1).bind fun c47 =>
    (app l41 [c47]).bind fun l50 =>
    s_l09Draw_l2 kj33 s1 N r45.2.at_ r45.2.seed l50 (w64 (n43 - 1))
    else
    kj33 x39 x40 l41

def s_l09Draw_l1 (kj12 : Int → Int → (List Str) → Option ((List Str) × Int × L00Src)) (s1 : L00Src) (r5 : Int × L00Src) : Nat → Int → Int → (List Str) → Int → Option ((List Str) × Int × L00Src)
  | 0, _, _, _, _ => none
  | N + 1, x16, x17, l18, k20 =>
    bif decide (k20 > 0) then
    withK (fun (x22 : Int) (x23 : Int) (l24 : List Str) =>
    s_l09Draw_l1 kj12 s1 r5 N x22 x23 l24 (w64 (k20 - 1))) fun (kj26 : Int → Int → (List Str) → Option ((List Str) × Int × L00Src)) =>
    withK (fun (x29 : Int) (x30 : Int) (l31 : List UInt8) =>
    (app l18 [l31]).bind fun l54 =>
    kj26 x29 x30 l54) fun (kj33 : Int → Int → (List UInt8) → Option ((List Str) × Int × L00Src)) =>
    (s_l00Min (w64 (5 + r5.1)) 7).bind fun r35 =>
    (s_l00Src_pick (L00Src.mk s1.code x16 x17) r35).bind fun r37 =>
    s_l09Draw_l2 kj33 s1 N r37.2.at_ r37.2.seed [] (w64 (1 + r37.1))
    else
    kj12 x16 x17 l18

def s_l09Draw (N : Nat) (s1 : L00Src) : Option ((List Str) × Int × L00Src) :=
  (s_l00Src_pick (L00Src.mk s1.code s1.at_ s1.seed) 20).bind fun r5 =>
  withK (fun (x8 : Int) (x9 : Int) (l10 : List Str) =>
  some (l10, w64 (5 + r5.1), (L00Src.mk s1.code x8 x9))) fun (kj12 : Int → Int → (List Str) → Option ((List Str) × Int × L00Src)) =>
  (s_l00Src_pick (L00Src.mk s1.code r5.2.at_ r5.2.seed) 14).bind fun r14 =>
  s_l09Draw_l1 kj12 s1 r5 N r14.2.at_ r14.2.seed [] r14.1

def s_A2Words (N : Nat) (code1 : List UInt8) : Option ((List Str) × Int) :=
  (s_l00From code1).bind fun r4 =>
  (s_l09Draw N (L00Src.mk code1 r4.at_ r4.seed)).bind fun r7 =>
  some (r7.1, r7.2.1)

def s_l00Max (a1 : Int) (b2 : Int) : Option Int :=
  bif decide (a1 > b2) then
  some a1
  else
  some b2

def s_l09Long_l1 (kj5 : Int → Option Int) (words1 : List Str) : Nat → Int → Int → Option Int
  | 0, _, _ => none
  | N + 1, n7, i8 =>
    bif decide (i8 < (List.length words1 : Int)) then
    (idx words1 i8).bind fun e10 =>
    s_l09Long_l1 kj5 words1 N (w64 (n7 + (List.length e10 : Int))) (w64 (i8 + 1))
    else
    kj5 n7

def s_l09Long (N : Nat) (words1 : List Str) : Option Int :=
  withK (fun (n4 : Int) =>
  (s_l00Max 0 n4).bind fun r15 =>
  some r15) fun (kj5 : Int → Option Int) =>
  s_l09Long_l1 kj5 words1 N (w64 ((List.length words1 : Int) - 1)) 0

def s_l09First_l1 (kj8 : (List Int) → Option (List Int)) (words1 : List Str) (width4 : Int) : Nat → (List Int) → Int → Int → Option (List Int)
  | 0, _, _, _ => none
  | N + 1, l10, from12, i13 =>
    bif decide (i13 < (List.length words1 : Int)) then
    withK (fun (l15 : List Int) (from17 : Int) =>
    s_l09First_l1 kj8 words1 width4 N l15 from17 (w64 (i13 + 1))) fun (kj18 : (List Int) → Int → Option (List Int)) =>
    (sub words1 from12 (w64 (i13 + 1))).bind fun l20 =>
    (s_l09Long N l20).bind fun r25 =>
    bif decide (r25 > width4) then
    (app l10 [i13]).bind fun l29 =>
    kj18 l29 i13
    else
    kj18 l10 from12
    else
    kj8 l10

def s_l09First (N : Nat) (words1 : List Str) (width4 : Int) : Option (List Int) :=
  withK (fun (l6 : List Int) =>
  some l6) fun (kj8 : (List Int) → Option (List Int)) =>
  s_l09First_l1 kj8 words1 width4 N [] 0 1

def s_l00Src_one (s1 : L00Src) (n5 : Int) : Option (Bool × L00Src) :=
  (s_l00Src_pick (L00Src.mk s1.code s1.at_ s1.seed) n5).bind fun r6 =>
  some ((r6.1 == 0), (L00Src.mk s1.code r6.2.at_ r6.2.seed))

def s_l00Put_l1 (kj9 : (List Int) → Bool → Option (List Int)) (list1 : List Int) (n4 : Int) : Nat → (List Int) → Bool → Int → Option (List Int)
  | 0, _, _, _ => none
  | N + 1, l11, done13, i14 =>
    bif decide (i14 < (List.length list1 : Int)) then
    withK (fun (l16 : List Int) (done18 : Bool) =>
    (idx list1 i14).bind fun e40 =>
    (app l16 [e40]).bind fun l46 =>
    s_l00Put_l1 kj9 list1 n4 N l46 done18 (w64 (i14 + 1))) fun (kj19 : (List Int) → Bool → Option (List Int)) =>
    (andO (!done13) ((idx list1 i14).bind fun e24 =>
    some (decide (e24 ≥ n4)))).bind fun t21 =>
    bif t21 then
    (idx list1 i14).bind fun e30 =>
    bif decide (e30 > n4) then
    (app l11 [n4]).bind fun l37 =>
    kj19 l37 true
    else
    kj19 l11 true
    else
    kj19 l11 done13
    else
    kj9 l11 done13

def s_l00Put (N : Nat) (list1 : List Int) (n4 : Int) : Option (List Int) :=
  withK (fun (l6 : List Int) (done8 : Bool) =>
  withK (fun (l49 : List Int) =>
  some l49) fun (kj51 : (List Int) → Option (List Int)) =>
  bif !done8 then
  (app l6 [n4]).bind fun l55 =>
  kj51 l55
  else
  kj51 l6) fun (kj9 : (List Int) → Bool → Option (List Int)) =>
  s_l00Put_l1 kj9 list1 n4 N [] false 0

def s_A2Breaks_l1 (kj16 : (List Int) → Option (List Int)) (code1 : List UInt8) (words4 : List Str) : Nat → (List Int) → Int → Int → Int → Option (List Int)
  | 0, _, _, _, _ => none
  | N + 1, l18, x20, x21, i22 =>
    bif decide (i22 < (List.length words4 : Int)) then
    withK (fun (l24 : List Int) (x26 : Int) (x27 : Int) =>
    s_A2Breaks_l1 kj16 code1 words4 N l24 x26 x27 (w64 (i22 + 1))) fun (kj28 : (List Int) → Int → Int → Option (List Int)) =>
    (s_l00Src_one (L00Src.mk code1 x20 x21) 6).bind fun r30 =>
    bif r30.1 then
    (s_l00Put N l18 i22).bind fun r33 =>
    kj28 r33 r30.2.at_ r30.2.seed
    else
    kj28 l18 r30.2.at_ r30.2.seed
    else
    kj16 l18

def s_A2Breaks (N : Nat) (code1 : List UInt8) (words4 : List Str) (width7 : Int) : Option (List Int) :=
  (s_l00From code1).bind fun r8 =>
  (s_l09First N words4 width7).bind fun r11 =>
  withK (fun (l14 : List Int) =>
  some l14) fun (kj16 : (List Int) → Option (List Int)) =>
  s_A2Breaks_l1 kj16 code1 words4 N r11 r8.at_ r8.seed 1

def i_between (n1 : Int) (low2 : Int) (high3 : Int) : Option Bool :=
  (andO (decide (n1 ≥ low2)) (some (decide (n1 ≤ high3)))).bind fun t4 =>
  some t4

def i_isText_l1 (kj5 : Option Bool) (s1 : Str) (low2 : UInt8) : Nat → Int → Option Bool
  | 0, _ => none
  | N + 1, x7 =>
    bif decide (x7 < (List.length s1 : Int)) then
    (idx s1 x7).bind fun c9 =>
    (orO (decide (c9 < low2)) ((idx s1 x7).bind fun c14 =>
    some (decide (c14 > (126 : UInt8))))).bind fun t11 =>
    bif t11 then
    some false
    else
    i_isText_l1 kj5 s1 low2 N (w64 (x7 + 1))
    else
    kj5 

def i_isText (N : Nat) (s1 : Str) (low2 : UInt8) (most3 : Int) : Option Bool :=
  bif decide ((List.length s1 : Int) > most3) then
  some false
  else
  withK (some true) fun (kj5 : Option Bool) =>
  i_isText_l1 kj5 s1 low2 N 0

def i_ValidText_l1 (kj11 : Option Bool) (words1 : List Str) (width4 : Int) : Nat → Int → Option Bool
  | 0, _ => none
  | N + 1, x13 =>
    bif decide (x13 < (List.length words1 : Int)) then
    (idx words1 x13).bind fun e15 =>
    (orO ((List.length e15 : Int) == 0) ((i_isText N e15 33 width4).bind fun r23 =>
    some (!r23))).bind fun t20 =>
    bif t20 then
    some false
    else
    i_ValidText_l1 kj11 words1 width4 N (w64 (x13 + 1))
    else
    kj11 

def i_ValidText (N : Nat) (words1 : List Str) (width4 : Int) : Option Bool :=
  (i_between width4 1 80).bind fun r5 =>
  (orO (!r5) (some (decide ((List.length words1 : Int) > 40)))).bind fun t7 =>
  bif t7 then
  some false
  else
  withK (some true) fun (kj11 : Option Bool) =>
  i_ValidText_l1 kj11 words1 width4 N 0

def i_areBreaks_l1 (kj5 : Option Bool) (breaks1 : List Int) (words4 : Int) : Nat → Int → Option Bool
  | 0, _ => none
  | N + 1, x7 =>
    bif decide (x7 < (List.length breaks1 : Int)) then
    (idx breaks1 x7).bind fun e9 =>
    (i_between e9 1 (w64 (words4 - 1))).bind fun r14 =>
    (orO (!r14) ((andO (decide (x7 > 0)) ((idx breaks1 (w64 (x7 - 1))).bind fun e22 =>
    some (decide (e9 ≤ e22)))).bind fun t19 =>
    some t19)).bind fun t16 =>
    bif t16 then
    some false
    else
    i_areBreaks_l1 kj5 breaks1 words4 N (w64 (x7 + 1))
    else
    kj5 

def i_areBreaks (N : Nat) (breaks1 : List Int) (words4 : Int) : Option Bool :=
  withK (some true) fun (kj5 : Option Bool) =>
  i_areBreaks_l1 kj5 breaks1 words4 N 0

def i_linesBy_l1 (kj13 : (List (List Str)) → Int → Option (List (List Str))) (words1 : List Str) (breaks4 : List Int) : Nat → (List (List Str)) → Int → Int → Option (List (List Str))
  | 0, _, _, _ => none
  | N + 1, l15, start18, x19 =>
    bif decide (x19 < (List.length breaks4 : Int)) then
    (idx breaks4 x19).bind fun e21 =>
    (sub words1 start18 e21).bind fun l26 =>
    (app l15 ([l26] : List (List Str))).bind fun l32 =>
    i_linesBy_l1 kj13 words1 breaks4 N l32 e21 (w64 (x19 + 1))
    else
    kj13 l15 start18

def i_linesBy (N : Nat) (words1 : List Str) (breaks4 : List Int) : Option (List (List Str)) :=
  bif ((List.length words1 : Int) == 0) then
  some ([] : List (List Str))
  else
  withK (fun (l9 : List (List Str)) (start12 : Int) =>
  (sub words1 start12 (List.length words1 : Int)).bind fun l35 =>
  (app l9 ([l35] : List (List Str))).bind fun l41 =>
  some l41) fun (kj13 : (List (List Str)) → Int → Option (List (List Str))) =>
  i_linesBy_l1 kj13 words1 breaks4 N ([] : List (List Str)) 0 0

def i_lineLength_l1 (kj5 : Int → Option Int) (words1 : List Str) : Nat → Int → Int → Option Int
  | 0, _, _ => none
  | N + 1, n7, x8 =>
    bif decide (x8 < (List.length words1 : Int)) then
    (idx words1 x8).bind fun e10 =>
    i_lineLength_l1 kj5 words1 N (w64 (n7 + (List.length e10 : Int))) (w64 (x8 + 1))
    else
    kj5 n7

def i_lineLength (N : Nat) (words1 : List Str) : Option Int :=
  withK (fun (n4 : Int) =>
  some (imax n4 0)) fun (kj5 : Int → Option Int) =>
  i_lineLength_l1 kj5 words1 N (w64 ((List.length words1 : Int) - 1)) 0

def i_linesCode_l1 (kj14 : Option Int) (width4 : Int) (r16 : (List (List Str))) : Nat → Int → Option Int
  | 0, _ => none
  | N + 1, x20 =>
    bif decide (x20 < (List.length r16 : Int)) then
    (idx r16 x20).bind fun e23 =>
    (i_lineLength N e23).bind fun r27 =>
    bif decide (r27 > width4) then
    some 5
    else
    i_linesCode_l1 kj14 width4 r16 N (w64 (x20 + 1))
    else
    kj14 

def i_linesCode (N : Nat) (words1 : List Str) (width4 : Int) (breaks5 : List Int) : Option Int :=
  (i_ValidText N words1 width4).bind fun r8 =>
  bif !r8 then
  some 1
  else
  (i_areBreaks N breaks5 (List.length words1 : Int)).bind fun r11 =>
  bif !r11 then
  some 2
  else
  withK (some 0) fun (kj14 : Option Int) =>
  (i_linesBy N words1 breaks5).bind fun r16 =>
  i_linesCode_l1 kj14 width4 r16 N 0

def i_repeat_l1 (kj6 : (List UInt8) → Option Str) (s1 : Str) (n2 : Int) : Nat → (List UInt8) → Int → Option Str
  | 0, _, _ => none
  | N + 1, l8, x10 =>
    bif decide (x10 < (imax n2 0)) then
    (app l8 s1).bind fun l12 =>
    i_repeat_l1 kj6 s1 n2 N l12 (w64 (x10 + 1))
    else
    kj6 l8

def i_repeat (N : Nat) (s1 : Str) (n2 : Int) : Option Str :=
  withK (fun (l4 : List UInt8) =>
  some l4) fun (kj6 : (List UInt8) → Option Str) =>
  i_repeat_l1 kj6 s1 n2 N [] 0

def i_setLine_l1 (kj18 : Str → Option Str) (words1 : List Str) (width4 : Int) (r15 : Int) (l20 : List Str) : Nat → Str → Int → Option Str
  | 0, _, _ => none
  | N + 1, out25, x26 =>
    bif decide (x26 < (List.length l20 : Int)) then
    (idx l20 x26).bind fun e28 =>
    (quoO (w64 ((w64 (width4 - r15)) + (w64 ((List.length words1 : Int) - 1)))) (w64 ((List.length words1 : Int) - 1))).bind fun q33 =>
    withK (fun (own35 : Int) =>
    (i_repeat N [32] own35).bind fun r41 =>
    (cat r41 e28).bind fun s43 =>
    (cat out25 s43).bind fun s45 =>
    i_setLine_l1 kj18 words1 width4 r15 l20 N s45 (w64 (x26 + 1))) fun (kj36 : Int → Option Str) =>
    (remO (w64 ((w64 (width4 - r15)) + (w64 ((List.length words1 : Int) - 1)))) (w64 ((List.length words1 : Int) - 1))).bind fun q38 =>
    bif decide (x26 < q38) then
    kj36 (w64 (q33 + 1))
    else
    kj36 q33
    else
    kj18 out25

def i_setLine (N : Nat) (words1 : List Str) (width4 : Int) : Option Str :=
  (idx words1 0).bind fun e5 =>
  bif ((List.length words1 : Int) == 1) then
  (i_repeat N [32] (w64 (width4 - (List.length e5 : Int)))).bind fun r11 =>
  (cat e5 r11).bind fun s13 =>
  some s13
  else
  (i_lineLength N words1).bind fun r15 =>
  withK (fun (out17 : Str) =>
  some out17) fun (kj18 : Str → Option Str) =>
  (sub words1 1 (List.length words1 : Int)).bind fun l20 =>
  i_setLine_l1 kj18 words1 width4 r15 l20 N e5 0

def i_SetText_l1 (kj18 : (List Str) → Option ((List Str) × Int)) (width4 : Int) (r11 : (List (List Str))) : Nat → (List Str) → Int → Option ((List Str) × Int)
  | 0, _, _ => none
  | N + 1, l20, x22 =>
    bif decide (x22 < (List.length r11 : Int)) then
    withK (fun (l24 : List Str) =>
    i_SetText_l1 kj18 width4 r11 N l24 (w64 (x22 + 1))) fun (kj26 : (List Str) → Option ((List Str) × Int)) =>
    (idx r11 x22).bind fun e29 =>
    bif ((w64 (x22 + 1)) == (List.length r11 : Int)) then
    (joinO e29 [32]).bind fun r34 =>
    (app l20 [r34]).bind fun l37 =>
    kj26 l37
    else
    (i_setLine N e29 width4).bind fun r40 =>
    (app l20 [r40]).bind fun l43 =>
    kj26 l43
    else
    kj18 l20

def i_SetText (N : Nat) (words1 : List Str) (width4 : Int) (breaks5 : List Int) : Option ((List Str) × Int) :=
  (i_linesCode N words1 width4 breaks5).bind fun r8 =>
  bif (r8 != 0) then
  some ([], r8)
  else
  (i_linesBy N words1 breaks5).bind fun r11 =>
  withK (fun (l16 : List Str) =>
  some (l16, 0)) fun (kj18 : (List Str) → Option ((List Str) × Int)) =>
  i_SetText_l1 kj18 width4 r11 N [] 0

def i_SplitWords_l1 (kj6 : (List Str) → Int → Option (List Str)) (s1 : Str) : Nat → (List Str) → Int → Int → Option (List Str)
  | 0, _, _, _ => none
  | N + 1, l8, start10, x11 =>
    bif decide (x11 < (List.length s1 : Int)) then
    withK (fun (l13 : List Str) (start15 : Int) =>
    i_SplitWords_l1 kj6 s1 N l13 start15 (w64 (x11 + 1))) fun (kj16 : (List Str) → Int → Option (List Str)) =>
    (idx s1 x11).bind fun c18 =>
    (andO (c18 == (32 : UInt8)) (some (decide (start10 ≥ 0)))).bind fun t20 =>
    bif t20 then
    (sub s1 start10 x11).bind fun s24 =>
    (app l8 [s24]).bind fun l27 =>
    kj16 l27 (-1)
    else
    (idx s1 x11).bind fun c30 =>
    (andO (c30 != (32 : UInt8)) (some (decide (start10 < 0)))).bind fun t32 =>
    bif t32 then
    kj16 l8 x11
    else
    kj16 l8 start10
    else
    kj6 l8 start10

def i_SplitWords (N : Nat) (s1 : Str) : Option (List Str) :=
  withK (fun (l3 : List Str) (start5 : Int) =>
  withK (fun (l36 : List Str) =>
  some l36) fun (kj38 : (List Str) → Option (List Str)) =>
  bif decide (start5 ≥ 0) then
  (sub s1 start5 (List.length s1 : Int)).bind fun s41 =>
  (app l3 [s41]).bind fun l44 =>
  kj38 l44
  else
  kj38 l3) fun (kj6 : (List Str) → Int → Option (List Str)) =>
  i_SplitWords_l1 kj6 s1 N [] (-1) 0

def i_WordsOfLines_l1 (kj8 : (List Str) → Option ((List Str) × Int)) (lines1 : List Str) : Nat → (List Str) → Int → Option ((List Str) × Int)
  | 0, _, _ => none
  | N + 1, l10, x12 =>
    bif decide (x12 < (List.length lines1 : Int)) then
    (idx lines1 x12).bind fun e14 =>
    (i_isText N e14 32 80).bind fun r19 =>
    bif !r19 then
    some ([], 2)
    else
    (i_SplitWords N e14).bind fun r22 =>
    (app l10 r22).bind fun l25 =>
    i_WordsOfLines_l1 kj8 lines1 N l25 (w64 (x12 + 1))
    else
    kj8 l10

def i_WordsOfLines (N : Nat) (lines1 : List Str) : Option ((List Str) × Int) :=
  bif decide ((List.length lines1 : Int) > 40) then
  some ([], 2)
  else
  withK (fun (l6 : List Str) =>
  some (l6, 0)) fun (kj8 : (List Str) → Option ((List Str) × Int)) =>
  i_WordsOfLines_l1 kj8 lines1 N [] 0

def i_SetLine (N : Nat) (words1 : List Str) (width4 : Int) : Option (Str × Int) :=
  (i_ValidText N words1 width4).bind fun r5 =>
  bif !r5 then
  some ([], 1)
  else
  (i_lineLength N words1).bind fun r8 =>
  bif decide (r8 > width4) then
  some ([], 5)
  else
  bif ((List.length words1 : Int) == 0) then
  some ([], 3)
  else
  (i_setLine N words1 width4).bind fun r12 =>
  some (r12, 0)

def w_a2Even_l1 (kj5 : (List Int) → Option Bool) (line1 : Str) : Nat → (List Int) → Int → Bool → Int → Option Bool
  | 0, _, _, _, _ => none
  | N + 1, l7, n9, begun10, i11 =>
    bif decide (i11 < (List.length line1 : Int)) then
    withK (fun (l13 : List Int) (n15 : Int) (begun16 : Bool) =>
    w_a2Even_l1 kj5 line1 N l13 n15 begun16 (w64 (i11 + 1))) fun (kj17 : (List Int) → Int → Bool → Option Bool) =>
    (idx line1 i11).bind fun c19 =>
    bif (c19 == (32 : UInt8)) then
    kj17 l7 (w64 (n9 + 1)) begun10
    else
    withK (fun (l22 : List Int) =>
    kj17 l22 0 true) fun (kj24 : (List Int) → Option Bool) =>
    (andO (decide (n9 > 0)) (some begun10)).bind fun t26 =>
    bif t26 then
    (app l7 [n9]).bind fun l31 =>
    kj24 l31
    else
    kj24 l7
    else
    kj5 l7

def w_a2Even_l2 (kj34 : Option Bool) (l3 : List Int) : Nat → Int → Option Bool
  | 0, _ => none
  | N + 1, i36 =>
    bif decide (i36 < (List.length l3 : Int)) then
    (idx l3 i36).bind fun e38 =>
    (idx l3 (w64 (i36 - 1))).bind fun e40 =>
    (orO (decide (e38 > e40)) ((idx l3 0).bind fun e45 =>
    (idx l3 i36).bind fun e47 =>
    some (decide ((w64 (e45 - e47)) > 1)))).bind fun t42 =>
    bif t42 then
    some false
    else
    w_a2Even_l2 kj34 l3 N (w64 (i36 + 1))
    else
    kj34 

def w_a2Even (N : Nat) (line1 : Str) : Option Bool :=
  withK (fun (l3 : List Int) =>
  withK (some true) fun (kj34 : Option Bool) =>
  w_a2Even_l2 kj34 l3 N 1) fun (kj5 : (List Int) → Option Bool) =>
  w_a2Even_l1 kj5 line1 N [] 0 false 0

def w_FnSetLines_l1 (kj35 : Option Bool) (r10 : (List Str) × Int) (r19 : (List Str) × Int) : Nat → Int → Option Bool
  | 0, _ => none
  | N + 1, i37 =>
    bif decide (i37 < (List.length r10.1 : Int)) then
    (idx r19.1 i37).bind fun e39 =>
    (idx r10.1 i37).bind fun e41 =>
    bif (e39 != e41) then
    some false
    else
    w_FnSetLines_l1 kj35 r10 r19 N (w64 (i37 + 1))
    else
    kj35 

def w_FnSetLines_l2 (kj44 : Option Bool) (r10 : (List Str) × Int) (r16 : (List Str) × Int) : Nat → Int → Option Bool
  | 0, _ => none
  | N + 1, i46 =>
    bif decide ((w64 (i46 + 1)) < (List.length r16.1 : Int)) then
    (sub r16.1 i46 (w64 (i46 + 1))).bind fun l48 =>
    (i_WordsOfLines N l48).bind fun r50 =>
    (i_SetLine N r50.1 r10.2).bind fun r53 =>
    (orO (r50.2 != 0) ((idx r16.1 i46).bind fun e58 =>
    some ((List.length e58 : Int) != r10.2))).bind fun t55 =>
    (orO t55 (some (r53.2 != 0))).bind fun t60 =>
    (orO t60 ((idx r16.1 i46).bind fun e66 =>
    some (r53.1 != e66))).bind fun t63 =>
    (orO t63 ((idx r16.1 i46).bind fun e71 =>
    (w_a2Even N e71).bind fun r73 =>
    some (!r73))).bind fun t68 =>
    bif t68 then
    some false
    else
    w_FnSetLines_l2 kj44 r10 r16 N (w64 (i46 + 1))
    else
    kj44 

def w_FnSetLines (N : Nat) (code1 : List UInt8) (more4 : List UInt8) : Option Bool :=
  (w_a2Long code1 more4).bind fun r7 =>
  bif r7 then
  some true
  else
  (s_A2Words N code1).bind fun r10 =>
  (s_A2Breaks N more4 r10.1 r10.2).bind fun r13 =>
  (i_SetText N r10.1 r10.2 r13).bind fun r16 =>
  (i_WordsOfLines N r16.1).bind fun r19 =>
  (orO (r16.2 != 0) (some (r19.2 != 0))).bind fun t22 =>
  (orO t22 (some ((List.length r19.1 : Int) != (List.length r10.1 : Int)))).bind fun t25 =>
  (orO t25 ((andO (decide ((List.length r10.1 : Int) > 0)) (some ((List.length r16.1 : Int) != (w64 ((List.length r13 : Int) + 1))))).bind fun t31 =>
  some t31)).bind fun t28 =>
  bif t28 then
  some false
  else
  withK (withK (some true) fun (kj44 : Option Bool) =>
  w_FnSetLines_l2 kj44 r10 r16 N 0) fun (kj35 : Option Bool) =>
  w_FnSetLines_l1 kj35 r10 r19 N 0

end Go.Proofs.Ytlmpbacboapkaaa
