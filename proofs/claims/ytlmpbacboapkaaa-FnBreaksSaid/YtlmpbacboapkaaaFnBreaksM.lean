/-
  Plain functions that compute what the Go functions compute. No conditions.
-/
import Derived.Test.YtlmpbacboapkaaaBase2
namespace Go.Proofs.Ytlmpbacboapkaaa
set_option linter.unusedVariables false
set_option linter.unusedSimpArgs false

structure L00Src where
  code : List UInt8
  at_ : Int
  seed : Int



def w_a2Long (code1 : List UInt8) (more4 : List UInt8) : Option Bool :=
  (orO (decide ((List.length code1 : Int) > 3000)) (some (decide ((List.length more4 : Int) > 3000)))).bind fun t7 =>
  some t7

def s_l00From (code1 : List UInt8) : Option L00Src :=
  some (L00Src.mk code1 0 0)

def s_l00Src_next (s1 : L00Src) : Option (Int × L00Src) :=
  withK (fun (b5 : Int) =>
  bif decide ((w64 (s1.at_ + 1)) ≤ (List.length s1.code : Int)) then
  some (b5, (L00Src.mk s1.code (w64 (s1.at_ + 1)) (IntKind.u64.wrap ((IntKind.u64.wrap ((IntKind.u64.wrap (s1.seed * 6364136223846793005)) + (IntKind.u64.wrap b5))) + 1442695040888963407))))
  else
  some (w64 (uand (ushr (IntKind.u64.wrap ((IntKind.u64.wrap ((IntKind.u64.wrap (s1.seed * 6364136223846793005)) + (IntKind.u64.wrap b5))) + 1442695040888963407)) 40) 255), (L00Src.mk s1.code (w64 (s1.at_ + 1)) (IntKind.u64.wrap ((IntKind.u64.wrap ((IntKind.u64.wrap (s1.seed * 6364136223846793005)) + (IntKind.u64.wrap b5))) + 1442695040888963407))))) fun (kj6 : Int → Option (Int × L00Src)) =>
  bif decide (s1.at_ < (List.length s1.code : Int)) then
  (idx s1.code s1.at_).bind fun e9 =>
  kj6 (UInt8.toNat e9 : Int)
  else
  kj6 0

def s_l00Src_pick (s1 : L00Src) (n5 : Int) : Option (Int × L00Src) :=
  bif decide (n5 ≤ 1) then
  some (0, (L00Src.mk s1.code s1.at_ s1.seed))
  else
  (s_l00Src_next (L00Src.mk s1.code s1.at_ s1.seed)).bind fun r7 =>
  withK (fun (x9 : Int) (x10 : Int) (x11 : Int) =>
  (remO x11 n5).bind fun q17 =>
  some (q17, (L00Src.mk s1.code x9 x10))) fun (kj12 : Int → Int → Int → Option (Int × L00Src)) =>
  bif decide (n5 > 200) then
  (s_l00Src_next (L00Src.mk s1.code r7.2.at_ r7.2.seed)).bind fun r15 =>
  kj12 r15.2.at_ r15.2.seed (w64 ((w64 (r7.1 * 256)) + r15.1))
  else
  kj12 r7.2.at_ r7.2.seed r7.1

def s_l00Min (a1 : Int) (b2 : Int) : Option Int :=
  bif decide (a1 < b2) then
  some a1
  else
  some b2

def s_l09Draw_l2 (kj33 : Int → Int → (List UInt8) → Option ((List Str) × Int × L00Src)) (s1 : L00Src) : Nat → Int → Int → (List UInt8) → Int → Option ((List Str) × Int × L00Src)
  | 0, _, _, _, _ => none
  | N + 1, x39, x40, l41, n43 =>
    bif decide (n43 > 0) then
    (s_l00Src_pick (L00Src.mk s1.code x39 x40) 7).bind fun r45 =>
    (idx [97, 98, 99, 100, 101, 33, 126] r45.1).bind fun c47 =>
    (app l41 [c47]).bind fun l50 =>
    s_l09Draw_l2 kj33 s1 N r45.2.at_ r45.2.seed l50 (w64 (n43 - 1))
    else
    kj33 x39 x40 l41

def s_l09Draw_l1 (kj12 : Int → Int → (List Str) → Option ((List Str) × Int × L00Src)) (s1 : L00Src) (r5 : Int × L00Src) : Nat → Int → Int → (List Str) → Int → Option ((List Str) × Int × L00Src)
  | 0, _, _, _, _ => none
  | N + 1, x16, x17, l18, k20 =>
    bif decide (k20 > 0) then
    withK (fun (x22 : Int) (x23 : Int) (l24 : List Str) =>
    s_l09Draw_l1 kj12 s1 r5 N x22 x23 l24 (w64 (k20 - 1))) fun (kj26 : Int → Int → (List Str) → Option ((List Str) × Int × L00Src)) =>
    withK (fun (x29 : Int) (x30 : Int) (l31 : List UInt8) =>
    (app l18 [l31]).bind fun l54 =>
    kj26 x29 x30 l54) fun (kj33 : Int → Int → (List UInt8) → Option ((List Str) × Int × L00Src)) =>
    (s_l00Min (w64 (5 + r5.1)) 7).bind fun r35 =>
    (s_l00Src_pick (L00Src.mk s1.code x16 x17) r35).bind fun r37 =>
    s_l09Draw_l2 kj33 s1 N r37.2.at_ r37.2.seed [] (w64 (1 + r37.1))
    else
    kj12 x16 x17 l18

def s_l09Draw (N : Nat) (s1 : L00Src) : Option ((List Str) × Int × L00Src) :=
  (s_l00Src_pick (L00Src.mk s1.code s1.at_ s1.seed) 20).bind fun r5 =>
  withK (fun (x8 : Int) (x9 : Int) (l10 : List Str) =>
  some (l10, w64 (5 + r5.1), (L00Src.mk s1.code x8 x9))) fun (kj12 : Int → Int → (List Str) → Option ((List Str) × Int × L00Src)) =>
  (s_l00Src_pick (L00Src.mk s1.code r5.2.at_ r5.2.seed) 14).bind fun r14 =>
  s_l09Draw_l1 kj12 s1 r5 N r14.2.at_ r14.2.seed [] r14.1

def s_A2Words (N : Nat) (code1 : List UInt8) : Option ((List Str) × Int) :=
  (s_l00From code1).bind fun r4 =>
  (s_l09Draw N (L00Src.mk code1 r4.at_ r4.seed)).bind fun r7 =>
  some (r7.1, r7.2.1)

def s_l00Max (a1 : Int) (b2 : Int) : Option Int :=
  bif decide (a1 > b2) then
  some a1
  else
  some b2

def s_l09Long_l1 (kj5 : Int → Option Int) (words1 : List Str) : Nat → Int → Int → Option Int
  | 0, _, _ => none
  | N + 1, n7, i8 =>
    bif decide (i8 < (List.length words1 : Int)) then
    (idx words1 i8).bind fun e10 =>
    s_l09Long_l1 kj5 words1 N (w64 (n7 + (List.length e10 : Int))) (w64 (i8 + 1))
    else
    kj5 n7

def s_l09Long (N : Nat) (words1 : List Str) : Option Int :=
  withK (fun (n4 : Int) =>
  (s_l00Max 0 n4).bind fun r15 =>
  some r15) fun (kj5 : Int → Option Int) =>
  s_l09Long_l1 kj5 words1 N (w64 ((List.length words1 : Int) - 1)) 0

def s_l09First_l1 (kj8 : (List Int) → Option (List Int)) (words1 : List Str) (width4 : Int) : Nat → (List Int) → Int → Int → Option (List Int)
  | 0, _, _, _ => none
  | N + 1, l10, from12, i13 =>
    bif decide (i13 < (List.length words1 : Int)) then
    withK (fun (l15 : List Int) (from17 : Int) =>
    s_l09First_l1 kj8 words1 width4 N l15 from17 (w64 (i13 + 1))) fun (kj18 : (List Int) → Int → Option (List Int)) =>
    (sub words1 from12 (w64 (i13 + 1))).bind fun l20 =>
    (s_l09Long N l20).bind fun r25 =>
    bif decide (r25 > width4) then
    (app l10 [i13]).bind fun l29 =>
    kj18 l29 i13
    else
    kj18 l10 from12
    else
    kj8 l10

def s_l09First (N : Nat) (words1 : List Str) (width4 : Int) : Option (List Int) :=
  withK (fun (l6 : List Int) =>
  some l6) fun (kj8 : (List Int) → Option (List Int)) =>
  s_l09First_l1 kj8 words1 width4 N [] 0 1

def s_l00Src_one (s1 : L00Src) (n5 : Int) : Option (Bool × L00Src) :=
  (s_l00Src_pick (L00Src.mk s1.code s1.at_ s1.seed) n5).bind fun r6 =>
  some ((r6.1 == 0), (L00Src.mk s1.code r6.2.at_ r6.2.seed))

def s_l00Put_l1 (kj9 : (List Int) → Bool → Option (List Int)) (list1 : List Int) (n4 : Int) : Nat → (List Int) → Bool → Int → Option (List Int)
  | 0, _, _, _ => none
  | N + 1, l11, done13, i14 =>
    bif decide (i14 < (List.length list1 : Int)) then
    withK (fun (l16 : List Int) (done18 : Bool) =>
    (idx list1 i14).bind fun e40 =>
    (app l16 [e40]).bind fun l46 =>
    s_l00Put_l1 kj9 list1 n4 N l46 done18 (w64 (i14 + 1))) fun (kj19 : (List Int) → Bool → Option (List Int)) =>
    (andO (!done13) ((idx list1 i14).bind fun e24 =>
    some (decide (e24 ≥ n4)))).bind fun t21 =>
    bif t21 then
    (idx list1 i14).bind fun e30 =>
    bif decide (e30 > n4) then
    (app l11 [n4]).bind fun l37 =>
    kj19 l37 true
    else
    kj19 l11 true
    else
    kj19 l11 done13
    else
    kj9 l11 done13

def s_l00Put (N : Nat) (list1 : List Int) (n4 : Int) : Option (List Int) :=
  withK (fun (l6 : List Int) (done8 : Bool) =>
  withK (fun (l49 : List Int) =>
  some l49) fun (kj51 : (List Int) → Option (List Int)) =>
  bif !done8 then
  (app l6 [n4]).bind fun l55 =>
  kj51 l55
  else
  kj51 l6) fun (kj9 : (List Int) → Bool → Option (List Int)) =>
  s_l00Put_l1 kj9 list1 n4 N [] false 0

def s_A2Breaks_l1 (kj16 : (List Int) → Option (List Int)) (code1 : List UInt8) (words4 : List Str) : Nat → (List Int) → Int → Int → Int → Option (List Int)
  | 0, _, _, _, _ => none
  | N + 1, l18, x20, x21, i22 =>
    bif decide (i22 < (List.length words4 : Int)) then
    withK (fun (l24 : List Int) (x26 : Int) (x27 : Int) =>
    s_A2Breaks_l1 kj16 code1 words4 N l24 x26 x27 (w64 (i22 + 1))) fun (kj28 : (List Int) → Int → Int → Option (List Int)) =>
    (s_l00Src_one (L00Src.mk code1 x20 x21) 6).bind fun r30 =>
    bif r30.1 then
    (s_l00Put N l18 i22).bind fun r33 =>
    kj28 r33 r30.2.at_ r30.2.seed
    else
    kj28 l18 r30.2.at_ r30.2.seed
    else
    kj16 l18

def s_A2Breaks (N : Nat) (code1 : List UInt8) (words4 : List Str) (width7 : Int) : Option (List Int) :=
  (s_l00From code1).bind fun r8 =>
  (s_l09First N words4 width7).bind fun r11 =>
  withK (fun (l14 : List Int) =>
  some l14) fun (kj16 : (List Int) → Option (List Int)) =>
  s_A2Breaks_l1 kj16 code1 words4 N r11 r8.at_ r8.seed 1

def i_between (n1 : Int) (low2 : Int) (high3 : Int) : Option Bool :=
  (andO (decide (n1 ≥ low2)) (some (decide (n1 ≤ high3)))).bind fun t4 =>
  some t4

def i_isText_l1 (kj5 : Option Bool) (s1 : Str) (low2 : UInt8) : Nat → Int → Option Bool
  | 0, _ => none
  | N + 1, x7 =>
    bif decide (x7 < (List.length s1 : Int)) then
    (idx s1 x7).bind fun c9 =>
    (orO (decide (c9 < low2)) ((idx s1 x7).bind fun c14 =>
    some (decide (c14 > (126 : UInt8))))).bind fun t11 =>
    bif t11 then
    some false
    else
    i_isText_l1 kj5 s1 low2 N (w64 (x7 + 1))
    else
    kj5 

def i_isText (N : Nat) (s1 : Str) (low2 : UInt8) (most3 : Int) : Option Bool :=
  bif decide ((List.length s1 : Int) > most3) then
  some false
  else
  withK (some true) fun (kj5 : Option Bool) =>
  i_isText_l1 kj5 s1 low2 N 0

def i_ValidText_l1 (kj11 : Option Bool) (words1 : List Str) (width4 : Int) : Nat → Int → Option Bool
  | 0, _ => none
  | N + 1, x13 =>
    bif decide (x13 < (List.length words1 : Int)) then
    (idx words1 x13).bind fun e15 =>
    (orO ((List.length e15 : Int) == 0) ((i_isText N e15 33 width4).bind fun r23 =>
    some (!r23))).bind fun t20 =>
    bif t20 then
    some false
    else
    i_ValidText_l1 kj11 words1 width4 N (w64 (x13 + 1))
    else
    kj11 

def i_ValidText (N : Nat) (words1 : List Str) (width4 : Int) : Option Bool :=
  (i_between width4 1 80).bind fun r5 =>
  (orO (!r5) (some (decide ((List.length words1 : Int) > 40)))).bind fun t7 =>
  bif t7 then
  some false
  else
  withK (some true) fun (kj11 : Option Bool) =>
  i_ValidText_l1 kj11 words1 width4 N 0

def i_lineLength_l1 (kj5 : Int → Option Int) (words1 : List Str) : Nat → Int → Int → Option Int
  | 0, _, _ => none
  | N + 1, n7, x8 =>
    bif decide (x8 < (List.length words1 : Int)) then
    (idx words1 x8).bind fun e10 =>
    i_lineLength_l1 kj5 words1 N (w64 (n7 + (List.length e10 : Int))) (w64 (x8 + 1))
    else
    kj5 n7

def i_lineLength (N : Nat) (words1 : List Str) : Option Int :=
  withK (fun (n4 : Int) =>
  some (imax n4 0)) fun (kj5 : Int → Option Int) =>
  i_lineLength_l1 kj5 words1 N (w64 ((List.length words1 : Int) - 1)) 0

def i_BestBreaks_l2 (kj24 : (List Int) → (List Int) → Option ((List Int) × Int × Int)) (words1 : List Str) (width4 : Int) (i20 : Int) : Nat → (List Int) → (List Int) → Int → Option ((List Int) × Int × Int)
  | 0, _, _, _ => none
  | N + 1, l38, l39, k40 =>
    (andO (decide (k40 < (List.length words1 : Int))) ((sub words1 i20 k40).bind fun l44 =>
    (i_lineLength N l44).bind fun r49 =>
    some (decide (r49 ≤ width4)))).bind fun t41 =>
    bif t41 then
    withK (fun (l52 : List Int) (l53 : List Int) =>
    i_BestBreaks_l2 kj24 words1 width4 i20 N l52 l53 (w64 (k40 + 1))) fun (kj54 : (List Int) → (List Int) → Option ((List Int) × Int × Int)) =>
    (sub words1 i20 k40).bind fun l56 =>
    (i_lineLength N l56).bind fun r61 =>
    (idx l39 k40).bind fun e63 =>
    (idx l39 i20).bind fun e65 =>
    (orO (decide (e65 < 0)) ((idx l39 i20).bind fun e70 =>
    some (decide ((w64 ((w64 ((w64 (width4 - r61)) * (w64 (width4 - r61)))) + e63)) < e70)))).bind fun t67 =>
    bif t67 then
    (idx l39 i20).bind fun e73 =>
    (idx l38 i20).bind fun e75 =>
    kj54 (List.set l38 (Int.toNat i20) k40) (List.set l39 (Int.toNat i20) (w64 ((w64 ((w64 (width4 - r61)) * (w64 (width4 - r61)))) + e63)))
    else
    kj54 l38 l39
    else
    kj24 l38 l39

def i_BestBreaks_l1 (kj16 : (List Int) → (List Int) → Option ((List Int) × Int × Int)) (words1 : List Str) (width4 : Int) : Nat → (List Int) → (List Int) → Int → Option ((List Int) × Int × Int)
  | 0, _, _, _ => none
  | N + 1, l18, l19, i20 =>
    bif decide (i20 ≥ 0) then
    withK (fun (l22 : List Int) (l23 : List Int) =>
    i_BestBreaks_l1 kj16 words1 width4 N l22 l23 (w64 (i20 - 1))) fun (kj24 : (List Int) → (List Int) → Option ((List Int) × Int × Int)) =>
    (idx l18 i20).bind fun e26 =>
    (sub words1 i20 (List.length words1 : Int)).bind fun l28 =>
    (i_lineLength N l28).bind fun r33 =>
    bif decide (r33 ≤ width4) then
    kj24 (List.set l18 (Int.toNat i20) (List.length words1 : Int)) l19
    else
    (idx l19 i20).bind fun e36 =>
    i_BestBreaks_l2 kj24 words1 width4 i20 N (List.set l18 (Int.toNat i20) (List.length words1 : Int)) (List.set l19 (Int.toNat i20) (-1)) (w64 (i20 + 1))
    else
    kj16 l18 l19

def i_BestBreaks_l3 (kj80 : (List Int) → Option ((List Int) × Int × Int)) (words1 : List Str) (l14 : List Int) : Nat → (List Int) → Int → Option ((List Int) × Int × Int)
  | 0, _, _ => none
  | N + 1, l82, i84 =>
    (andO (decide (i84 < (List.length words1 : Int))) ((idx l14 i84).bind fun e88 =>
    some (decide (e88 < (List.length words1 : Int))))).bind fun t85 =>
    bif t85 then
    (idx l14 i84).bind fun e91 =>
    (app l82 [e91]).bind fun l94 =>
    (idx l14 i84).bind fun e97 =>
    i_BestBreaks_l3 kj80 words1 l14 N l94 e97
    else
    kj80 l82

def i_BestBreaks (N : Nat) (words1 : List Str) (width4 : Int) : Option ((List Int) × Int × Int) :=
  (i_ValidText N words1 width4).bind fun r5 =>
  bif !r5 then
  some ([], 0, 1)
  else
  (mk (w64 ((List.length words1 : Int) + 1)) (0 : Int)).bind fun l8 =>
  (mk (w64 ((List.length words1 : Int) + 1)) (0 : Int)).bind fun l11 =>
  withK (fun (l14 : List Int) (l15 : List Int) =>
  withK (fun (l78 : List Int) =>
  (idx l15 0).bind fun e99 =>
  some (l78, e99, 0)) fun (kj80 : (List Int) → Option ((List Int) × Int × Int)) =>
  i_BestBreaks_l3 kj80 words1 l14 N [] 0) fun (kj16 : (List Int) → (List Int) → Option ((List Int) × Int × Int)) =>
  i_BestBreaks_l1 kj16 words1 width4 N l11 l8 (w64 ((List.length words1 : Int) - 1))

def i_areBreaks_l1 (kj5 : Option Bool) (breaks1 : List Int) (words4 : Int) : Nat → Int → Option Bool
  | 0, _ => none
  | N + 1, x7 =>
    bif decide (x7 < (List.length breaks1 : Int)) then
    (idx breaks1 x7).bind fun e9 =>
    (i_between e9 1 (w64 (words4 - 1))).bind fun r14 =>
    (orO (!r14) ((andO (decide (x7 > 0)) ((idx breaks1 (w64 (x7 - 1))).bind fun e22 =>
    some (decide (e9 ≤ e22)))).bind fun t19 =>
    some t19)).bind fun t16 =>
    bif t16 then
    some false
    else
    i_areBreaks_l1 kj5 breaks1 words4 N (w64 (x7 + 1))
    else
    kj5 

def i_areBreaks (N : Nat) (breaks1 : List Int) (words4 : Int) : Option Bool :=
  withK (some true) fun (kj5 : Option Bool) =>
  i_areBreaks_l1 kj5 breaks1 words4 N 0

def i_linesBy_l1 (kj13 : (List (List Str)) → Int → Option (List (List Str))) (words1 : List Str) (breaks4 : List Int) : Nat → (List (List Str)) → Int → Int → Option (List (List Str))
  | 0, _, _, _ => none
  | N + 1, l15, start18, x19 =>
    bif decide (x19 < (List.length breaks4 : Int)) then
    (idx breaks4 x19).bind fun e21 =>
    (sub words1 start18 e21).bind fun l26 =>
    (app l15 ([l26] : List (List Str))).bind fun l32 =>
    i_linesBy_l1 kj13 words1 breaks4 N l32 e21 (w64 (x19 + 1))
    else
    kj13 l15 start18

def i_linesBy (N : Nat) (words1 : List Str) (breaks4 : List Int) : Option (List (List Str)) :=
  bif ((List.length words1 : Int) == 0) then
  some ([] : List (List Str))
  else
  withK (fun (l9 : List (List Str)) (start12 : Int) =>
  (sub words1 start12 (List.length words1 : Int)).bind fun l35 =>
  (app l9 ([l35] : List (List Str))).bind fun l41 =>
  some l41) fun (kj13 : (List (List Str)) → Int → Option (List (List Str))) =>
  i_linesBy_l1 kj13 words1 breaks4 N ([] : List (List Str)) 0 0

def i_linesCode_l1 (kj14 : Option Int) (width4 : Int) (r16 : (List (List Str))) : Nat → Int → Option Int
  | 0, _ => none
  | N + 1, x20 =>
    bif decide (x20 < (List.length r16 : Int)) then
    (idx r16 x20).bind fun e23 =>
    (i_lineLength N e23).bind fun r27 =>
    bif decide (r27 > width4) then
    some 5
    else
    i_linesCode_l1 kj14 width4 r16 N (w64 (x20 + 1))
    else
    kj14 

def i_linesCode (N : Nat) (words1 : List Str) (width4 : Int) (breaks5 : List Int) : Option Int :=
  (i_ValidText N words1 width4).bind fun r8 =>
  bif !r8 then
  some 1
  else
  (i_areBreaks N breaks5 (List.length words1 : Int)).bind fun r11 =>
  bif !r11 then
  some 2
  else
  withK (some 0) fun (kj14 : Option Int) =>
  (i_linesBy N words1 breaks5).bind fun r16 =>
  i_linesCode_l1 kj14 width4 r16 N 0

def i_BadnessOf_l1 (kj16 : Int → Option (Int × Int)) (width4 : Int) (r11 : (List (List Str))) : Nat → Int → Int → Option (Int × Int)
  | 0, _, _ => none
  | N + 1, sum18, i19 =>
    bif decide ((w64 (i19 + 1)) < (List.length r11 : Int)) then
    (idx r11 i19).bind fun e22 =>
    (i_lineLength N e22).bind fun r26 =>
    i_BadnessOf_l1 kj16 width4 r11 N (w64 (sum18 + (w64 ((w64 (width4 - r26)) * (w64 (width4 - r26)))))) (w64 (i19 + 1))
    else
    kj16 sum18

def i_BadnessOf (N : Nat) (words1 : List Str) (width4 : Int) (breaks5 : List Int) : Option (Int × Int) :=
  (i_linesCode N words1 width4 breaks5).bind fun r8 =>
  bif (r8 != 0) then
  some (0, r8)
  else
  (i_linesBy N words1 breaks5).bind fun r11 =>
  withK (fun (sum15 : Int) =>
  some (sum15, 0)) fun (kj16 : Int → Option (Int × Int)) =>
  i_BadnessOf_l1 kj16 width4 r11 N 0 0

def i_firstBreaks_l1 (kj8 : (List Int) → Option (List Int)) (words1 : List Str) (width4 : Int) : Nat → (List Int) → Int → Int → Option (List Int)
  | 0, _, _, _ => none
  | N + 1, l10, start12, x13 =>
    bif decide (x13 < (List.length words1 : Int)) then
    withK (fun (l15 : List Int) (start17 : Int) =>
    i_firstBreaks_l1 kj8 words1 width4 N l15 start17 (w64 (x13 + 1))) fun (kj18 : (List Int) → Int → Option (List Int)) =>
    (andO (decide (x13 > start12)) ((sub words1 start12 (w64 (x13 + 1))).bind fun l23 =>
    (i_lineLength N l23).bind fun r28 =>
    some (decide (r28 > width4)))).bind fun t20 =>
    bif t20 then
    (app l10 [x13]).bind fun l32 =>
    kj18 l32 x13
    else
    kj18 l10 start12
    else
    kj8 l10

def i_firstBreaks (N : Nat) (words1 : List Str) (width4 : Int) : Option (List Int) :=
  withK (fun (l6 : List Int) =>
  some l6) fun (kj8 : (List Int) → Option (List Int)) =>
  i_firstBreaks_l1 kj8 words1 width4 N [] 0 0

def i_FirstBreaks (N : Nat) (words1 : List Str) (width4 : Int) : Option ((List Int) × Int) :=
  (i_ValidText N words1 width4).bind fun r5 =>
  bif !r5 then
  some ([], 1)
  else
  (i_firstBreaks N words1 width4).bind fun r8 =>
  some (r8, 0)

def i_fewestLines (N : Nat) (words1 : List Str) (width4 : Int) : Option Int :=
  bif ((List.length words1 : Int) == 0) then
  some 0
  else
  (i_firstBreaks N words1 width4).bind fun r6 =>
  some (w64 ((List.length r6 : Int) + 1))

def i_FewestLines (N : Nat) (words1 : List Str) (width4 : Int) : Option (Int × Int) :=
  (i_ValidText N words1 width4).bind fun r5 =>
  bif !r5 then
  some (0, 1)
  else
  (i_fewestLines N words1 width4).bind fun r8 =>
  some (r8, 0)

def i_LeastWidth_l1 (kj11 : Option (Int × Int)) (words1 : List Str) (lines4 : Int) : Nat → Int → Option (Int × Int)
  | 0, _ => none
  | N + 1, width13 =>
    bif decide (width13 ≤ 80) then
    (i_ValidText N words1 width13).bind fun r15 =>
    (andO r15 ((i_fewestLines N words1 width13).bind fun r20 =>
    some (decide (r20 ≤ lines4)))).bind fun t17 =>
    bif t17 then
    some (width13, 0)
    else
    i_LeastWidth_l1 kj11 words1 lines4 N (w64 (width13 + 1))
    else
    kj11 

def i_LeastWidth (N : Nat) (words1 : List Str) (lines4 : Int) : Option (Int × Int) :=
  (i_ValidText N words1 80).bind fun r5 =>
  bif !r5 then
  some (0, 1)
  else
  (i_between lines4 1 40).bind fun r8 =>
  bif !r8 then
  some (0, 2)
  else
  withK (some (0, 5)) fun (kj11 : Option (Int × Int)) =>
  i_LeastWidth_l1 kj11 words1 lines4 N 1

def s_l00In (n1 : Int) (low2 : Int) (high3 : Int) : Option Bool :=
  (andO (decide (n1 ≥ low2)) (some (decide (n1 ≤ high3)))).bind fun t4 =>
  some t4

def s_l09Word_l1 (kj3 : Option Bool) (w1 : Str) : Nat → Int → Option Bool
  | 0, _ => none
  | N + 1, i5 =>
    bif decide (i5 < (List.length w1 : Int)) then
    (idx w1 i5).bind fun c7 =>
    (orO (decide (c7 < (33 : UInt8))) ((idx w1 i5).bind fun c12 =>
    some (decide (c12 > (126 : UInt8))))).bind fun t9 =>
    bif t9 then
    some false
    else
    s_l09Word_l1 kj3 w1 N (w64 (i5 + 1))
    else
    kj3 

def s_l09Word (N : Nat) (w1 : Str) (most2 : Int) : Option Bool :=
  withK ((s_l00In (List.length w1 : Int) 1 most2).bind fun r15 =>
  some r15) fun (kj3 : Option Bool) =>
  s_l09Word_l1 kj3 w1 N 0

def s_l09Ok_l1 (kj5 : Option Bool) (words1 : List Str) (width4 : Int) : Nat → Int → Option Bool
  | 0, _ => none
  | N + 1, i7 =>
    bif decide (i7 < (List.length words1 : Int)) then
    (idx words1 i7).bind fun e9 =>
    (s_l09Word N e9 width4).bind fun r14 =>
    bif !r14 then
    some false
    else
    s_l09Ok_l1 kj5 words1 width4 N (w64 (i7 + 1))
    else
    kj5 

def s_l09Ok (N : Nat) (words1 : List Str) (width4 : Int) : Option Bool :=
  withK ((andO (decide ((List.length words1 : Int) ≤ 40)) ((s_l00In width4 1 80).bind fun r20 =>
  some r20)).bind fun t17 =>
  some t17) fun (kj5 : Option Bool) =>
  s_l09Ok_l1 kj5 words1 width4 N 0

def s_FewestLines (N : Nat) (words1 : List Str) (width4 : Int) : Option (Int × Int) :=
  (s_l09Ok N words1 width4).bind fun r5 =>
  bif !r5 then
  some (0, 1)
  else
  bif ((List.length words1 : Int) == 0) then
  some (0, 0)
  else
  (s_l09First N words1 width4).bind fun r9 =>
  some (w64 ((List.length r9 : Int) + 1), 0)

def w_FnBreaks (N : Nat) (code1 : List UInt8) (more4 : List UInt8) : Option Bool :=
  (w_a2Long code1 more4).bind fun r7 =>
  bif r7 then
  some true
  else
  (s_A2Words N code1).bind fun r10 =>
  (s_A2Breaks N more4 r10.1 r10.2).bind fun r13 =>
  (i_BestBreaks N r10.1 r10.2).bind fun r16 =>
  (i_BadnessOf N r10.1 r10.2 r16.1).bind fun r19 =>
  (i_BadnessOf N r10.1 r10.2 r13).bind fun r21 =>
  (i_FirstBreaks N r10.1 r10.2).bind fun r23 =>
  (i_BadnessOf N r10.1 r10.2 r23.1).bind fun r26 =>
  (i_FewestLines N r10.1 r10.2).bind fun r28 =>
  (orO (r16.2.2 != 0) (some (r19.2 != 0))).bind fun t30 =>
  (orO t30 (some (r19.1 != r16.2.1))).bind fun t33 =>
  (orO t33 (some (r21.2 != 0))).bind fun t36 =>
  (orO t36 (some (decide (r21.1 < r16.2.1)))).bind fun t39 =>
  (orO t39 (some (r23.2 != 0))).bind fun t42 =>
  (orO t42 (some (r26.2 != 0))).bind fun t45 =>
  (orO t45 (some (r28.2 != 0))).bind fun t48 =>
  bif t48 then
  some false
  else
  bif ((List.length r10.1 : Int) == 0) then
  (andO (r28.1 == 0) (some ((List.length r16.1 : Int) == 0))).bind fun t53 =>
  (andO t53 (some ((List.length r23.1 : Int) == 0))).bind fun t56 =>
  some t56
  else
  (orO ((w64 ((List.length r23.1 : Int) + 1)) != r28.1) (some (decide ((w64 ((List.length r13 : Int) + 1)) < r28.1)))).bind fun t59 =>
  bif t59 then
  some false
  else
  (i_LeastWidth N r10.1 r28.1).bind fun r63 =>
  (orO (r63.2 != 0) (some (decide (r63.1 < 1)))).bind fun t65 =>
  (orO t65 (some (decide (r63.1 > r10.2)))).bind fun t68 =>
  bif t68 then
  some false
  else
  (i_FewestLines N r10.1 r63.1).bind fun r72 =>
  (orO (r72.2 != 0) (some (decide (r72.1 > r28.1)))).bind fun t74 =>
  bif t74 then
  some false
  else
  bif (r63.1 == 1) then
  some true
  else
  (s_FewestLines N r10.1 (w64 (r63.1 - 1))).bind fun r79 =>
  (orO (r79.2 == 1) ((andO (r79.2 == 0) (some (decide (r79.1 > r28.1)))).bind fun t84 =>
  some t84)).bind fun t81 =>
  some t81

end Go.Proofs.Ytlmpbacboapkaaa
