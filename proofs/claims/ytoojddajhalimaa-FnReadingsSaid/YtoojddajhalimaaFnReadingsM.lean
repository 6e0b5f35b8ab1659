/-
  Plain functions that compute what the Go functions compute. No conditions.
-/
import Derived.Test.YtoojddajhalimaaBase
namespace Go.Proofs.Ytoojddajhalimaa
set_option linter.unusedVariables false
set_option linter.unusedSimpArgs false

structure L00Src where
  code : List UInt8
  at_ : Int
  seed : Int



def w_a2Long (code1 : List UInt8) (more4 : List UInt8) : Option Bool :=
  (orO (decide ((List.length code1 : Int) > 3000)) (some (decide ((List.length more4 : Int) > 3000)))).bind fun t7 =>
  some t7

def s_l00From (code1 : List UInt8) : Option L00Src :=
  some (L00Src.mk code1 0 0)

def s_l00Src_next (s1 : L00Src) : Option (Int × L00Src) :=
  withK (fun (b5 : Int) =>
  bif decide ((w64 (s1.at_ + 1)) ≤ (List.length s1.code : Int)) then
  some (b5, (L00Src.mk s1.code (w64 (s1.at_ + 1)) (IntKind.u64.wrap ((IntKind.u64.wrap ((IntKind.u64.wrap (s1.seed * 6364136223846793005)) + (IntKind.u64.wrap b5))) + 1442695040888963407))))
  else
  some (w64 (uand (ushr (IntKind.u64.wrap ((IntKind.u64.wrap ((IntKind.u64.wrap (s1.seed * 6364136223846793005)) + (IntKind.u64.wrap b5))) + 1442695040888963407)) 40) 255), (L00Src.mk s1.code (w64 (s1.at_ + 1)) (IntKind.u64.wrap ((IntKind.u64.wrap ((IntKind.u64.wrap (s1.seed * 6364136223846793005)) + (IntKind.u64.wrap b5))) + 1442695040888963407))))) fun (k6 : Int → Option (Int × L00Src)) =>
  bif decide (s1.at_ < (List.length s1.code : Int)) then
  (idx s1.code s1.at_).bind fun e9 =>
  k6 (UInt8.toNat e9 : Int)
  else
  k6 0

def s_l00Src_pick (s1 : L00Src) (n5 : Int) : Option (Int × L00Src) :=
  bif decide (n5 ≤ 1) then
  some (0, (L00Src.mk s1.code s1.at_ s1.seed))
  else
  (s_l00Src_next (L00Src.mk s1.code s1.at_ s1.seed)).bind fun r7 =>
  withK (fun (x9 : Int) (x10 : Int) (x11 : Int) =>
  (remO x11 n5).bind fun q17 =>
  some (q17, (L00Src.mk s1.code x9 x10))) fun (k12 : Int → Int → Int → Option (Int × L00Src)) =>
  bif decide (n5 > 200) then
  (s_l00Src_next (L00Src.mk s1.code r7.2.at_ r7.2.seed)).bind fun r15 =>
  k12 r15.2.at_ r15.2.seed (w64 ((w64 (r7.1 * 256)) + r15.1))
  else
  k12 r7.2.at_ r7.2.seed r7.1

def s_l17Index_l1 (k5 : Option Int) (list1 : List Str) (s4 : Str) : Nat → Int → Option Int
  | 0, _ => none
  | N + 1, i7 =>
    bif decide (i7 < (List.length list1 : Int)) then
    (idx list1 i7).bind fun e9 =>
    bif (e9 == s4) then
    some i7
    else
    s_l17Index_l1 k5 list1 s4 N (w64 (i7 + 1))
    else
    k5 

def s_l17Index (N : Nat) (list1 : List Str) (s4 : Str) : Option Int :=
  withK (some (-1)) fun (k5 : Option Int) =>
  s_l17Index_l1 k5 list1 s4 N 0

def s_l17Draw_l2 (k33 : Int → Int → (List UInt8) → Option ((List Str) × L00Src)) (s1 : L00Src) : Nat → Int → Int → (List UInt8) → Int → Option ((List Str) × L00Src)
  | 0, _, _, _, _ => none
  | N + 1, x35, x36, l37, n39 =>
    bif decide (n39 > 0) then
    (s_l00Src_pick (L00Src.mk s1.code x35 x36) 3).bind fun r41 =>
    (idx [97, 97, 98] r41.1).bind fun c43 =>
    (app l37 [c43]).bind fun l46 =>
    s_l17Draw_l2 k33 s1 N r41.2.at_ r41.2.seed l46 (w64 (n39 - 1))
    else
    k33 x35 x36 l37

def s_l17Draw_l1 (k10 : Int → Int → (List Str) → Option ((List Str) × L00Src)) (s1 : L00Src) : Nat → Int → Int → (List Str) → Int → Option ((List Str) × L00Src)
  | 0, _, _, _, _ => none
  | N + 1, x14, x15, l16, k18 =>
    bif decide (k18 > 0) then
    withK (fun (x20 : Int) (x21 : Int) (l22 : List Str) =>
    s_l17Draw_l1 k10 s1 N x20 x21 l22 (w64 (k18 - 1))) fun (k25 : Int → Int → (List Str) → Option ((List Str) × L00Src)) =>
    withK (fun (x27 : Int) (x28 : Int) (l29 : List UInt8) =>
    (s_l17Index N l16 l29).bind fun r49 =>
    bif decide (r49 < 0) then
    (app l16 [l29]).bind fun l53 =>
    k25 x27 x28 l53
    else
    k25 x27 x28 l16) fun (k33 : Int → Int → (List UInt8) → Option ((List Str) × L00Src)) =>
    (s_l00Src_pick (L00Src.mk s1.code x14 x15) 4).bind fun r33 =>
    s_l17Draw_l2 k33 s1 N r33.2.at_ r33.2.seed [] (w64 (1 + r33.1))
    else
    k10 x14 x15 l16

def s_l17Draw (N : Nat) (s1 : L00Src) : Option ((List Str) × L00Src) :=
  withK (fun (x6 : Int) (x7 : Int) (l8 : List Str) =>
  some (l8, (L00Src.mk s1.code x6 x7))) fun (k10 : Int → Int → (List Str) → Option ((List Str) × L00Src)) =>
  (s_l00Src_pick (L00Src.mk s1.code s1.at_ s1.seed) 6).bind fun r12 =>
  s_l17Draw_l1 k10 s1 N r12.2.at_ r12.2.seed [] r12.1

def s_A2Code (N : Nat) (code1 : List UInt8) : Option (List Str) :=
  (s_l00From code1).bind fun r4 =>
  (s_l17Draw N (L00Src.mk code1 r4.at_ r4.seed)).bind fun r7 =>
  some r7.1

def s_A2Indices_l1 (k11 : (List Int) → Option (List Int)) (code1 : List UInt8) (n4 : Int) : Nat → Int → Int → (List Int) → Int → Option (List Int)
  | 0, _, _, _, _ => none
  | N + 1, x15, x16, l17, k19 =>
    (andO (decide (k19 > 0)) (some (decide (n4 > 0)))).bind fun t20 =>
    bif t20 then
    (s_l00Src_pick (L00Src.mk code1 x15 x16) n4).bind fun r24 =>
    (app l17 [r24.1]).bind fun l27 =>
    s_A2Indices_l1 k11 code1 n4 N r24.2.at_ r24.2.seed l27 (w64 (k19 - 1))
    else
    k11 l17

def s_A2Indices (N : Nat) (code1 : List UInt8) (n4 : Int) : Option (List Int) :=
  (s_l00From code1).bind fun r5 =>
  withK (fun (l9 : List Int) =>
  some l9) fun (k11 : (List Int) → Option (List Int)) =>
  (s_l00Src_pick (L00Src.mk code1 r5.at_ r5.seed) 9).bind fun r13 =>
  s_A2Indices_l1 k11 code1 n4 N r13.2.at_ r13.2.seed [] r13.1

def i_isText_l1 (k5 : Option Bool) (s1 : Str) (low2 : UInt8) : Nat → Int → Option Bool
  | 0, _ => none
  | N + 1, x7 =>
    bif decide (x7 < (List.length s1 : Int)) then
    (idx s1 x7).bind fun c9 =>
    (orO (decide (c9 < low2)) ((idx s1 x7).bind fun c14 =>
    some (decide (c14 > (126 : UInt8))))).bind fun t11 =>
    bif t11 then
    some false
    else
    i_isText_l1 k5 s1 low2 N (w64 (x7 + 1))
    else
    k5 

def i_isText (N : Nat) (s1 : Str) (low2 : UInt8) (most3 : Int) : Option Bool :=
  bif decide ((List.length s1 : Int) > most3) then
  some false
  else
  withK (some true) fun (k5 : Option Bool) =>
  i_isText_l1 k5 s1 low2 N 0

def i_ValidCode_l1 (k5 : Option Bool) (words1 : List Str) : Nat → (List (Str × Bool)) → Int → Option Bool
  | 0, _, _ => none
  | N + 1, mp7, x8 =>
    bif decide (x8 < (List.length words1 : Int)) then
    (idx words1 x8).bind fun e10 =>
    (orO (e10 == []) ((i_isText N e10 33 8).bind fun r18 =>
    some (!r18))).bind fun t15 =>
    (orO t15 (some (mget mp7 e10))).bind fun t20 =>
    bif t20 then
    some false
    else
    i_ValidCode_l1 k5 words1 N (mset mp7 e10 true) (w64 (x8 + 1))
    else
    k5 

def i_ValidCode (N : Nat) (words1 : List Str) : Option Bool :=
  withK (some (decide ((List.length words1 : Int) ≤ 10))) fun (k5 : Option Bool) =>
  i_ValidCode_l1 k5 words1 N [] 0

def i_between (n1 : Int) (low2 : Int) (high3 : Int) : Option Bool :=
  (andO (decide (n1 ≥ low2)) (some (decide (n1 ≤ high3)))).bind fun t4 =>
  some t4

def i_EncodeWords_l1 (k12 : Str → Option (Str × Int)) (words1 : List Str) (list4 : List Int) : Nat → Str → Int → Option (Str × Int)
  | 0, _, _ => none
  | N + 1, text14, x15 =>
    bif decide (x15 < (List.length list4 : Int)) then
    (idx list4 x15).bind fun e17 =>
    (i_between e17 0 (w64 ((List.length words1 : Int) - 1))).bind fun r22 =>
    bif !r22 then
    some ([], 2)
    else
    (idx words1 e17).bind fun e25 =>
    (cat text14 e25).bind fun s30 =>
    i_EncodeWords_l1 k12 words1 list4 N s30 (w64 (x15 + 1))
    else
    k12 text14

def i_EncodeWords (N : Nat) (words1 : List Str) (list4 : List Int) : Option (Str × Int) :=
  (i_ValidCode N words1).bind fun r7 =>
  bif !r7 then
  some ([], 1)
  else
  bif decide ((List.length list4 : Int) > 60) then
  some ([], 2)
  else
  withK (fun (text11 : Str) =>
  bif decide ((List.length text11 : Int) > 60) then
  some ([], 5)
  else
  some (text11, 0)) fun (k12 : Str → Option (Str × Int)) =>
  i_EncodeWords_l1 k12 words1 list4 N [] 0

def i_codeCode (N : Nat) (words1 : List Str) (text4 : Str) : Option Int :=
  (i_ValidCode N words1).bind fun r5 =>
  bif !r5 then
  some 1
  else
  (i_isText N text4 33 60).bind fun r8 =>
  bif !r8 then
  some 2
  else
  some 0

def stringslite_HasPrefix (s1 : Str) (prefix2 : Str) : Option Bool :=
  (andO (decide ((List.length s1 : Int) ≥ (List.length prefix2 : Int))) ((sub s1 0 (List.length prefix2 : Int)).bind fun s6 =>
  some (s6 == prefix2))).bind fun t3 =>
  some t3

def strings_HasPrefix (s1 : Str) (prefix2 : Str) : Option Bool :=
  (stringslite_HasPrefix s1 prefix2).bind fun r3 =>
  some r3

def i_fewest_l2 (k16 : (List Int) → Option (List Int)) (words1 : List Str) (text4 : Str) (i12 : Int) : Nat → (List Int) → Int → Option (List Int)
  | 0, _, _ => none
  | N + 1, l19, x20 =>
    bif decide (x20 < (List.length words1 : Int)) then
    withK (fun (l22 : List Int) =>
    i_fewest_l2 k16 words1 text4 i12 N l22 (w64 (x20 + 1))) fun (k25 : (List Int) → Option (List Int)) =>
    (idx words1 x20).bind fun e25 =>
    (sub text4 i12 (List.length text4 : Int)).bind fun s30 =>
    (strings_HasPrefix s30 e25).bind fun r32 =>
    (orO (!r32) ((idx l19 (w64 (i12 + (List.length e25 : Int)))).bind fun e37 =>
    some (decide (e37 < 0)))).bind fun t34 =>
    bif t34 then
    k25 l19
    else
    (idx l19 (w64 (i12 + (List.length e25 : Int)))).bind fun e40 =>
    (idx l19 i12).bind fun e42 =>
    (orO (decide (e42 < 0)) ((idx l19 i12).bind fun e47 =>
    some (decide ((w64 (e40 + 1)) < e47)))).bind fun t44 =>
    bif t44 then
    (idx l19 i12).bind fun e50 =>
    k25 (List.set l19 (Int.toNat i12) (w64 (e40 + 1)))
    else
    k25 l19
    else
    k16 l19

def i_fewest_l1 (k9 : (List Int) → Option (List Int)) (words1 : List Str) (text4 : Str) : Nat → (List Int) → Int → Option (List Int)
  | 0, _, _ => none
  | N + 1, l11, i12 =>
    bif decide (i12 ≥ 0) then
    withK (fun (l14 : List Int) =>
    i_fewest_l1 k9 words1 text4 N l14 (w64 (i12 - 1))) fun (k16 : (List Int) → Option (List Int)) =>
    (idx l11 i12).bind fun e17 =>
    i_fewest_l2 k16 words1 text4 i12 N (List.set l11 (Int.toNat i12) (-1)) 0
    else
    k9 l11

def i_fewest (N : Nat) (words1 : List Str) (text4 : Str) : Option (List Int) :=
  (mk (w64 ((List.length text4 : Int) + 1)) (0 : Int)).bind fun l5 =>
  withK (fun (l8 : List Int) =>
  some l8) fun (k9 : (List Int) → Option (List Int)) =>
  i_fewest_l1 k9 words1 text4 N l5 (w64 ((List.length text4 : Int) - 1))

def i_reading_l2 (k24 : (List Int) → Int → Option ((List Int) × Bool)) (words1 : List Str) (text4 : Str) (few5 : Bool) (r6 : (List Int)) : Nat → (List Int) → Int → Int → Option ((List Int) × Bool)
  | 0, _, _, _ => none
  | N + 1, l26, i28, x29 =>
    bif decide (x29 < (List.length words1 : Int)) then
    withK (fun (l31 : List Int) (i33 : Int) =>
    i_reading_l2 k24 words1 text4 few5 r6 N l31 i33 (w64 (x29 + 1))) fun (k36 : (List Int) → Int → Option ((List Int) × Bool)) =>
    (idx words1 x29).bind fun e36 =>
    (sub text4 i28 (List.length text4 : Int)).bind fun s41 =>
    (strings_HasPrefix s41 e36).bind fun r43 =>
    bif !r43 then
    k36 l26 i28
    else
    (idx r6 (w64 (i28 + (List.length e36 : Int)))).bind fun e46 =>
    (andO (decide (e46 ≥ 0)) ((orO (!few5) ((idx r6 i28).bind fun e54 =>
    some (e46 == (w64 (e54 - 1))))).bind fun t51 =>
    some t51)).bind fun t48 =>
    bif t48 then
    (app l26 [x29]).bind fun l58 =>
    k24 l58 (w64 (i28 + (List.length e36 : Int)))
    else
    k36 l26 i28
    else
    k24 l26 i28

def i_reading_l1 (k15 : (List Int) → Option ((List Int) × Bool)) (words1 : List Str) (text4 : Str) (few5 : Bool) (r6 : (List Int)) : Nat → (List Int) → Int → Option ((List Int) × Bool)
  | 0, _, _ => none
  | N + 1, l17, i19 =>
    withK (fun (l20 : List Int) (i22 : Int) =>
    i_reading_l1 k15 words1 text4 few5 r6 N l20 i22) fun (k24 : (List Int) → Int → Option ((List Int) × Bool)) =>
    bif decide (i19 < (List.length text4 : Int)) then
    i_reading_l2 k24 words1 text4 few5 r6 N l17 i19 0
    else
    k15 l17

def i_reading (N : Nat) (words1 : List Str) (text4 : Str) (few5 : Bool) : Option ((List Int) × Bool) :=
  (i_fewest N words1 text4).bind fun r6 =>
  (idx r6 0).bind fun e9 =>
  bif decide (e9 < 0) then
  some ([], false)
  else
  withK (fun (l13 : List Int) =>
  some (l13, true)) fun (k15 : (List Int) → Option ((List Int) × Bool)) =>
  i_reading_l1 k15 words1 text4 few5 r6 N [] 0

def i_FirstReading (N : Nat) (words1 : List Str) (text4 : Str) : Option ((List Int) × Int) :=
  (i_codeCode N words1 text4).bind fun r5 =>
  bif (r5 != 0) then
  some ([], r5)
  else
  (i_reading N words1 text4 false).bind fun r8 =>
  bif !r8.2 then
  some ([], 3)
  else
  some (r8.1, 0)

def i_FewestWords (N : Nat) (words1 : List Str) (text4 : Str) : Option ((List Int) × Int) :=
  (i_codeCode N words1 text4).bind fun r5 =>
  bif (r5 != 0) then
  some ([], r5)
  else
  (i_reading N words1 text4 true).bind fun r8 =>
  bif !r8.2 then
  some ([], 3)
  else
  some (r8.1, 0)

def w_FnReadings_l1 (k53 : Option Bool) (r13 : (List Int)) (r18 : (List Int) × Int) : Nat → Int → Option Bool
  | 0, _ => none
  | N + 1, i55 =>
    (andO (decide (i55 < (List.length r18.1 : Int))) (some (decide (i55 < (List.length r13 : Int))))).bind fun t56 =>
    bif t56 then
    (idx r18.1 i55).bind fun e60 =>
    (idx r13 i55).bind fun e62 =>
    bif (e60 != e62) then
    (idx r18.1 i55).bind fun e65 =>
    (idx r13 i55).bind fun e67 =>
    some (decide (e65 < e67))
    else
    w_FnReadings_l1 k53 r13 r18 N (w64 (i55 + 1))
    else
    k53 

def w_FnReadings (N : Nat) (code1 : List UInt8) (more4 : List UInt8) : Option Bool :=
  (w_a2Long code1 more4).bind fun r7 =>
  bif r7 then
  some true
  else
  (s_A2Code N code1).bind fun r10 =>
  (s_A2Indices N more4 (List.length r10 : Int)).bind fun r13 =>
  (i_EncodeWords N r10 r13).bind fun r16 =>
  (i_FirstReading N r10 r16.1).bind fun r18 =>
  (i_FewestWords N r10 r16.1).bind fun r21 =>
  (i_EncodeWords N r10 r18.1).bind fun r24 =>
  (i_EncodeWords N r10 r21.1).bind fun r26 =>
  (orO (r16.2 != 0) (some (r18.2 != 0))).bind fun t28 =>
  (orO t28 (some (r21.2 != 0))).bind fun t31 =>
  (orO t31 (some (r24.2 != 0))).bind fun t34 =>
  (orO t34 (some (r24.1 != r16.1))).bind fun t37 =>
  (orO t37 (some (r26.2 != 0))).bind fun t40 =>
  (orO t40 (some (r26.1 != r16.1))).bind fun t43 =>
  (orO t43 (some (decide ((List.length r21.1 : Int) > (List.length r13 : Int))))).bind fun t46 =>
  (orO t46 (some (decide ((List.length r21.1 : Int) > (List.length r18.1 : Int))))).bind fun t49 =>
  bif t49 then
  some false
  else
  withK (some ((List.length r18.1 : Int) == (List.length r13 : Int))) fun (k53 : Option Bool) =>
  w_FnReadings_l1 k53 r13 r18 N 0

def s_l00Src_one (s1 : L00Src) (n5 : Int) : Option (Bool × L00Src) :=
  (s_l00Src_pick (L00Src.mk s1.code s1.at_ s1.seed) n5).bind fun r6 =>
  some ((r6.1 == 0), (L00Src.mk s1.code r6.2.at_ r6.2.seed))

def s_l00Src_text (s1 : L00Src) (list5 : List Str) : Option (Str × L00Src) :=
  (s_l00Src_pick (L00Src.mk s1.code s1.at_ s1.seed) (List.length list5 : Int)).bind fun r8 =>
  (idx list5 r8.1).bind fun e10 =>
  some (e10, (L00Src.mk s1.code r8.2.at_ r8.2.seed))

end Go.Proofs.Ytoojddajhalimaa
