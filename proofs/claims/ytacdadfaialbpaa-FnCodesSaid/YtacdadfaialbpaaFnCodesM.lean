/-
  Plain functions that compute what the Go functions compute. No conditions.
-/
import Derived.Test.YtacdadfaialbpaaBase2
namespace Go.Proofs.Ytacdadfaialbpaa
set_option linter.unusedVariables false
set_option linter.unusedSimpArgs false

structure L00Src where
  code : List UInt8
  at_ : Int
  seed : Int

structure Ambiguity where
  text : Str
  rest : Str

def Ambiguity.beq (x y : Ambiguity) : Bool := x.text == y.text && (x.rest == y.rest)



def w_a2Long (code1 : List UInt8) (more4 : List UInt8) : Option Bool :=
  (orO (decide ((List.length code1 : Int) > 3000)) (some (decide ((List.length more4 : Int) > 3000)))).bind fun t7 =>
  some t7

def s_l00From (code1 : List UInt8) : Option L00Src :=
  some (L00Src.mk code1 0 0)

def s_l00Src_next (s1 : L00Src) : Option (Int × L00Src) :=
  withK (fun (b5 : Int) =>
  bif decide ((w64 (s1.at_ + 1)) ≤ (List.length s1.code : Int)) then
  some (b5, (L00Src.mk s1.code (w64 (s1.at_ + 1)) (IntKind.u64.wrap ((IntKind.u64.wrap ((IntKind.u64.wrap (s1.seed * 6364136223846793005)) + (IntKind.u64.wrap b5))) + 1442695040888963407))))
  else
  some (w64 (uand (ushr (IntKind.u64.wrap ((IntKind.u64.wrap ((IntKind.u64.wrap (s1.seed * 6364136223846793005)) + (IntKind.u64.wrap b5))) + 1442695040888963407)) 40) 255), (L00Src.mk s1.code (w64 (s1.at_ + 1)) (IntKind.u64.wrap ((IntKind.u64.wrap ((IntKind.u64.wrap (s1.seed * 6364136223846793005)) + (IntKind.u64.wrap b5))) + 1442695040888963407))))) fun (kj6 : Int → Option (Int × L00Src)) =>
  bif decide (s1.at_ < (List.length s1.code : Int)) then
  (idx s1.code s1.at_).bind fun e9 =>
  kj6 (UInt8.toNat e9 : Int)
  else
  kj6 0

def s_l00Src_pick (s1 : L00Src) (n5 : Int) : Option (Int × L00Src) :=
  bif decide (n5 ≤ 1) then
  some (0, (L00Src.mk s1.code s1.at_ s1.seed))
  else
  (s_l00Src_next (L00Src.mk s1.code s1.at_ s1.seed)).bind fun r7 =>
  withK (fun (x9 : Int) (x10 : Int) (x11 : Int) =>
  (remO x11 n5).bind fun q17 =>
  some (q17, (L00Src.mk s1.code x9 x10))) fun (kj12 : Int → Int → Int → Option (Int × L00Src)) =>
  bif decide (n5 > 200) then
  (s_l00Src_next (L00Src.mk s1.code r7.2.at_ r7.2.seed)).bind fun r15 =>
  kj12 r15.2.at_ r15.2.seed (w64 ((w64 (r7.1 * 256)) + r15.1))
  else
  kj12 r7.2.at_ r7.2.seed r7.1

def s_l17Index_l1 (kj5 : Option Int) (list1 : List Str) (s4 : Str) : Nat → Int → Option Int
  | 0, _ => none
  | N + 1, i7 =>
    bif decide (i7 < (List.length list1 : Int)) then
    (idx list1 i7).bind fun e9 =>
    bif (e9 == s4) then
    some i7
    else
    s_l17Index_l1 kj5 list1 s4 N (w64 (i7 + 1))
    else
    kj5 

def s_l17Index (N : Nat) (list1 : List Str) (s4 : Str) : Option Int :=
  withK (some (-1)) fun (kj5 : Option Int) =>
  s_l17Index_l1 kj5 list1 s4 N 0

def s_l17Draw_l2 (kj31 : Int → Int → (List UInt8) → Option ((List Str) × L00Src)) (s1 : L00Src) : Nat → Int → Int → (List UInt8) → Int → Option ((List Str) × L00Src)
  | 0, _, _, _, _ => none
  | N + 1, x35, x36, l37, n39 =>
    bif decide (n39 > 0) then
    (s_l00Src_pick (L00Src.mk s1.code x35 x36) 3).bind fun r41 =>
    (idx [97, 97, 98] r41.1).bind fun c43 =>
    (app l37 [c43]).bind fun l46 =>
    s_l17Draw_l2 kj31 s1 N r41.2.at_ r41.2.seed l46 (w64 (n39 - 1))
    else
    kj31 x35 x36 l37

def s_l17Draw_l1 (kj10 : Int → Int → (List Str) → Option ((List Str) × L00Src)) (s1 : L00Src) : Nat → Int → Int → (List Str) → Int → Option ((List Str) × L00Src)
  | 0, _, _, _, _ => none
  | N + 1, x14, x15, l16, k18 =>
    bif decide (k18 > 0) then
    withK (fun (x20 : Int) (x21 : Int) (l22 : List Str) =>
    s_l17Draw_l1 kj10 s1 N x20 x21 l22 (w64 (k18 - 1))) fun (kj24 : Int → Int → (List Str) → Option ((List Str) × L00Src)) =>
    withK (fun (x27 : Int) (x28 : Int) (l29 : List UInt8) =>
    (s_l17Index N l16 l29).bind fun r49 =>
    bif decide (r49 < 0) then
    (app l16 [l29]).bind fun l53 =>
    kj24 x27 x28 l53
    else
    kj24 x27 x28 l16) fun (kj31 : Int → Int → (List UInt8) → Option ((List Str) × L00Src)) =>
    (s_l00Src_pick (L00Src.mk s1.code x14 x15) 4).bind fun r33 =>
    s_l17Draw_l2 kj31 s1 N r33.2.at_ r33.2.seed [] (w64 (1 + r33.1))
    else
    kj10 x14 x15 l16

def s_l17Draw (N : Nat) (s1 : L00Src) : Option ((List Str) × L00Src) :=
  withK (fun (x6 : Int) (x7 : Int) (l8 : List Str) =>
  some (l8, (L00Src.mk s1.code x6 x7))) fun (kj10 : Int → Int → (List Str) → Option ((List Str) × L00Src)) =>
  (s_l00Src_pick (L00Src.mk s1.code s1.at_ s1.seed) 6).bind fun r12 =>
  s_l17Draw_l1 kj10 s1 N r12.2.at_ r12.2.seed [] r12.1

def s_A2Code (N : Nat) (code1 : List UInt8) : Option (List Str) :=
  (s_l00From code1).bind fun r4 =>
  (s_l17Draw N (L00Src.mk code1 r4.at_ r4.seed)).bind fun r7 =>
  some r7.1

def i_isText_l1 (kj5 : Option Bool) (s1 : Str) (low2 : UInt8) : Nat → Int → Option Bool
  | 0, _ => none
  | N + 1, x7 =>
    bif decide (x7 < (List.length s1 : Int)) then
    (idx s1 x7).bind fun c9 =>
    (orO (decide (c9 < low2)) ((idx s1 x7).bind fun c14 =>
    some (decide (c14 > (126 : UInt8))))).bind fun t11 =>
    bif t11 then
    some false
    else
    i_isText_l1 kj5 s1 low2 N (w64 (x7 + 1))
    else
    kj5 

def i_isText (N : Nat) (s1 : Str) (low2 : UInt8) (most3 : Int) : Option Bool :=
  bif decide ((List.length s1 : Int) > most3) then
  some false
  else
  withK (some true) fun (kj5 : Option Bool) =>
  i_isText_l1 kj5 s1 low2 N 0

def i_ValidCode_l1 (kj5 : Option Bool) (words1 : List Str) : Nat → (List (Str × Bool)) → Int → Option Bool
  | 0, _, _ => none
  | N + 1, mp7, x8 =>
    bif decide (x8 < (List.length words1 : Int)) then
    (idx words1 x8).bind fun e10 =>
    (orO (e10 == []) ((i_isText N e10 33 8).bind fun r18 =>
    some (!r18))).bind fun t15 =>
    (orO t15 (some (mget mp7 e10))).bind fun t20 =>
    bif t20 then
    some false
    else
    i_ValidCode_l1 kj5 words1 N (mset mp7 e10 true) (w64 (x8 + 1))
    else
    kj5 

def i_ValidCode (N : Nat) (words1 : List Str) : Option Bool :=
  withK (some (decide ((List.length words1 : Int) ≤ 10))) fun (kj5 : Option Bool) =>
  i_ValidCode_l1 kj5 words1 N [] 0

def stringslite_HasPrefix (s1 : Str) (prefix2 : Str) : Option Bool :=
  (andO (decide ((List.length s1 : Int) ≥ (List.length prefix2 : Int))) ((sub s1 0 (List.length prefix2 : Int)).bind fun s6 =>
  some (s6 == prefix2))).bind fun t3 =>
  some t3

def strings_HasPrefix (s1 : Str) (prefix2 : Str) : Option Bool :=
  (stringslite_HasPrefix s1 prefix2).bind fun r3 =>
  some r3

def i_firstRests_l2 (kj15 : (List Ambiguity) → Option (List Ambiguity)) (words1 : List Str) (x11 : Int) (e17 : Str) : Nat → (List Ambiguity) → Int → Option (List Ambiguity)
  | 0, _, _ => none
  | N + 1, l22, x24 =>
    bif decide (x24 < (List.length words1 : Int)) then
    withK (fun (l26 : List Ambiguity) =>
    i_firstRests_l2 kj15 words1 x11 e17 N l26 (w64 (x24 + 1))) fun (kj28 : (List Ambiguity) → Option (List Ambiguity)) =>
    (idx words1 x24).bind fun e30 =>
    (andO (x11 != x24) ((strings_HasPrefix e30 e17).bind fun r38 =>
    some r38)).bind fun t35 =>
    bif t35 then
    (sub e30 (List.length e17 : Int) (List.length e30 : Int)).bind fun s41 =>
    (app l22 [(Ambiguity.mk e30 s41)]).bind fun l44 =>
    kj28 l44
    else
    kj28 l22
    else
    kj15 l22

def i_firstRests_l1 (kj7 : (List Ambiguity) → Option (List Ambiguity)) (words1 : List Str) : Nat → (List Ambiguity) → Int → Option (List Ambiguity)
  | 0, _, _ => none
  | N + 1, l9, x11 =>
    bif decide (x11 < (List.length words1 : Int)) then
    withK (fun (l13 : List Ambiguity) =>
    i_firstRests_l1 kj7 words1 N l13 (w64 (x11 + 1))) fun (kj15 : (List Ambiguity) → Option (List Ambiguity)) =>
    (idx words1 x11).bind fun e17 =>
    i_firstRests_l2 kj15 words1 x11 e17 N l9 0
    else
    kj7 l9

def i_firstRests (N : Nat) (words1 : List Str) : Option (List Ambiguity) :=
  withK (fun (l5 : List Ambiguity) =>
  some l5) fun (kj7 : (List Ambiguity) → Option (List Ambiguity)) =>
  i_firstRests_l1 kj7 words1 N [] 0

def i_IsPrefixFree (N : Nat) (words1 : List Str) : Option (Bool × Int) :=
  (i_ValidCode N words1).bind fun r4 =>
  bif !r4 then
  some (false, 1)
  else
  (i_firstRests N words1).bind fun r7 =>
  some (((List.length r7 : Int) == 0), 0)

def i_isLess (a1 : Str) (b2 : Str) : Option Bool :=
  bif ((List.length a1 : Int) != (List.length b2 : Int)) then
  some (decide ((List.length a1 : Int) < (List.length b2 : Int)))
  else
  some (ltL a1 b2)

def i_ambiguity_after (a1 : Ambiguity) (w2 : Str) : Option (Ambiguity × Bool) :=
  (strings_HasPrefix a1.rest w2).bind fun r5 =>
  bif r5 then
  (sub a1.rest (List.length w2 : Int) (List.length a1.rest : Int)).bind fun s8 =>
  some ((Ambiguity.mk a1.text s8), true)
  else
  (strings_HasPrefix w2 a1.rest).bind fun r10 =>
  bif r10 then
  (sub w2 (List.length a1.rest : Int) (List.length w2 : Int)).bind fun s13 =>
  (cat a1.text s13).bind fun s15 =>
  some ((Ambiguity.mk s15 s13), true)
  else
  some ((Ambiguity.mk [] []), false)

def i_restTexts_l2 (kj21 : Int → Option (List (Str × Str))) (l12 : List Ambiguity) : Nat → Int → Int → Option (List (Str × Str))
  | 0, _, _ => none
  | N + 1, best23, x24 =>
    bif decide (x24 < (List.length l12 : Int)) then
    withK (fun (best26 : Int) =>
    i_restTexts_l2 kj21 l12 N best26 (w64 (x24 + 1))) fun (kj27 : Int → Option (List (Str × Str))) =>
    (idx l12 x24).bind fun e29 =>
    (idx l12 best23).bind fun e32 =>
    (i_isLess e29.text e32.text).bind fun r34 =>
    bif r34 then
    kj27 x24
    else
    kj27 best23
    else
    kj21 best23

def i_restTexts_l3 (kj17 : (List (Str × Str)) → (List Ambiguity) → Option (List (Str × Str))) (words1 : List Str) (mp11 : List (Str × Str)) (e37 : Ambiguity) : Nat → (List Ambiguity) → Int → Option (List (Str × Str))
  | 0, _, _ => none
  | N + 1, l50, x52 =>
    bif decide (x52 < (List.length words1 : Int)) then
    withK (fun (l54 : List Ambiguity) =>
    i_restTexts_l3 kj17 words1 mp11 e37 N l54 (w64 (x52 + 1))) fun (kj56 : (List Ambiguity) → Option (List (Str × Str))) =>
    (idx words1 x52).bind fun e58 =>
    (i_ambiguity_after e37 e58).bind fun r63 =>
    bif r63.2 then
    (app l50 [r63.1]).bind fun l68 =>
    kj56 l68
    else
    kj56 l50
    else
    kj17 (msetV mp11 e37.rest e37.text) l50

def i_restTexts_l1 (kj9 : (List (Str × Str)) → Option (List (Str × Str))) (words1 : List Str) : Nat → (List (Str × Str)) → (List Ambiguity) → Option (List (Str × Str))
  | 0, _, _ => none
  | N + 1, mp11, l12 =>
    withK (fun (mp14 : List (Str × Str)) (l15 : List Ambiguity) =>
    i_restTexts_l1 kj9 words1 N mp14 l15) fun (kj17 : (List (Str × Str)) → (List Ambiguity) → Option (List (Str × Str))) =>
    bif decide ((List.length l12 : Int) > 0) then
    withK (fun (best20 : Int) =>
    (idx l12 best20).bind fun e37 =>
    (sub l12 0 best20).bind fun l40 =>
    (sub l12 (w64 (best20 + 1)) (List.length l12 : Int)).bind fun l42 =>
    (cutO l12 l40 l42).bind fun l44 =>
    bif (Option.isSome (mgetO mp11 e37.rest)) then
    kj17 mp11 l44
    else
    bif (e37.rest == []) then
    kj17 (msetV mp11 e37.rest e37.text) l44
    else
    i_restTexts_l3 kj17 words1 mp11 e37 N l44 0) fun (kj21 : Int → Option (List (Str × Str))) =>
    i_restTexts_l2 kj21 l12 N 0 0
    else
    kj9 mp11

def i_restTexts (N : Nat) (words1 : List Str) : Option (List (Str × Str)) :=
  (i_firstRests N words1).bind fun r4 =>
  withK (fun (mp8 : List (Str × Str)) =>
  some mp8) fun (kj9 : (List (Str × Str)) → Option (List (Str × Str))) =>
  i_restTexts_l1 kj9 words1 N ([] : List (Str × Str)) r4

def i_IsUnique (N : Nat) (words1 : List Str) : Option (Bool × Int) :=
  (i_ValidCode N words1).bind fun r4 =>
  bif !r4 then
  some (false, 1)
  else
  (i_restTexts N words1).bind fun r7 =>
  some (!(Option.isSome (mgetO r7 [])), 0)

def i_RestsOf_r1  : List (Str × Str) → (List Str) → Option (List Str)
  | [], l17 => some l17
  | y23 :: l_, l17 => Option.bind (
      (app l17 [y23.1]).bind fun l29 =>
      some l29) fun z_ => i_RestsOf_r1 l_ z_

noncomputable def i_RestsOf (N : Nat) (words1 : List Str) : Option ((List Str) × Int) :=
  (i_ValidCode N words1).bind fun r4 =>
  bif !r4 then
  some ([], 1)
  else
  withK (fun (l8 : List Str) =>
  (srtTO l8).bind fun l32 =>
  some (l32, 0)) fun (kj10 : (List Str) → Option ((List Str) × Int)) =>
  (i_restTexts N words1).bind fun r12 =>
  ordO (fun l_ => Option.bind (i_RestsOf_r1 l_ []) fun l17 =>
  kj10 l17) r12

def i_TwoReadings (N : Nat) (words1 : List Str) : Option (Str × Int) :=
  (i_ValidCode N words1).bind fun r4 =>
  bif !r4 then
  some ([], 1)
  else
  (i_restTexts N words1).bind fun r7 =>
  bif !(Option.isSome (mgetO r7 [])) then
  some ([], 3)
  else
  some ((Option.getD (mgetO r7 []) ([] : Str)), 0)

def i_LongestRest_r1  : List (Str × Str) → Int → Option Int
  | [], most16 => some most16
  | y21 :: l_, most16 => Option.bind (
      some (imax most16 (List.length y21.1 : Int))) fun z_ => i_LongestRest_r1 l_ z_

noncomputable def i_LongestRest (N : Nat) (words1 : List Str) : Option (Int × Int) :=
  (i_ValidCode N words1).bind fun r4 =>
  bif !r4 then
  some (0, 1)
  else
  (i_restTexts N words1).bind fun r7 =>
  bif (Option.isSome (mgetO r7 [])) then
  some (0, 9)
  else
  withK (fun (most11 : Int) =>
  some (most11, 0)) fun (kj12 : Int → Option (Int × Int)) =>
  ordO (fun l_ => Option.bind (i_LongestRest_r1 l_ 0) fun most16 =>
  kj12 most16) r7

def w_a2HasText_l1 (kj5 : Option Bool) (list1 : List Str) (s4 : Str) : Nat → Int → Option Bool
  | 0, _ => none
  | N + 1, i7 =>
    bif decide (i7 < (List.length list1 : Int)) then
    (idx list1 i7).bind fun e9 =>
    bif (e9 == s4) then
    some true
    else
    w_a2HasText_l1 kj5 list1 s4 N (w64 (i7 + 1))
    else
    kj5 

def w_a2HasText (N : Nat) (list1 : List Str) (s4 : Str) : Option Bool :=
  withK (some false) fun (kj5 : Option Bool) =>
  w_a2HasText_l1 kj5 list1 s4 N 0

def i_codeCode (N : Nat) (words1 : List Str) (text4 : Str) : Option Int :=
  (i_ValidCode N words1).bind fun r5 =>
  bif !r5 then
  some 1
  else
  (i_isText N text4 33 60).bind fun r8 =>
  bif !r8 then
  some 2
  else
  some 0

def i_CountReadings_l2 (kj20 : (List Int) → Option (Int × Int)) (words1 : List Str) (text4 : Str) (i17 : Int) : Nat → (List Int) → Int → Option (Int × Int)
  | 0, _, _ => none
  | N + 1, l22, x23 =>
    bif decide (x23 < (List.length words1 : Int)) then
    withK (fun (l25 : List Int) =>
    i_CountReadings_l2 kj20 words1 text4 i17 N l25 (w64 (x23 + 1))) fun (kj26 : (List Int) → Option (Int × Int)) =>
    (idx words1 x23).bind fun e28 =>
    (sub text4 i17 (List.length text4 : Int)).bind fun s33 =>
    (strings_HasPrefix s33 e28).bind fun r35 =>
    bif r35 then
    (idx l22 i17).bind fun e38 =>
    (idx l22 (w64 (i17 + (List.length e28 : Int)))).bind fun e40 =>
    (idx l22 i17).bind fun e42 =>
    kj26 (List.set l22 (Int.toNat i17) (w64 (e38 + e40)))
    else
    kj26 l22
    else
    kj20 l22

def i_CountReadings_l1 (kj14 : (List Int) → Option (Int × Int)) (words1 : List Str) (text4 : Str) : Nat → (List Int) → Int → Option (Int × Int)
  | 0, _, _ => none
  | N + 1, l16, i17 =>
    bif decide (i17 ≥ 0) then
    withK (fun (l19 : List Int) =>
    i_CountReadings_l1 kj14 words1 text4 N l19 (w64 (i17 - 1))) fun (kj20 : (List Int) → Option (Int × Int)) =>
    i_CountReadings_l2 kj20 words1 text4 i17 N l16 0
    else
    kj14 l16

def i_CountReadings (N : Nat) (words1 : List Str) (text4 : Str) : Option (Int × Int) :=
  (i_codeCode N words1 text4).bind fun r5 =>
  bif (r5 != 0) then
  some (0, r5)
  else
  (mk (w64 ((List.length text4 : Int) + 1)) (0 : Int)).bind fun l8 =>
  (idx l8 (List.length text4 : Int)).bind fun e11 =>
  withK (fun (l13 : List Int) =>
  (idx l13 0).bind fun e45 =>
  some (e45, 0)) fun (kj14 : (List Int) → Option (Int × Int)) =>
  i_CountReadings_l1 kj14 words1 text4 N (List.set l8 (Int.toNat (List.length text4 : Int)) 1) (w64 ((List.length text4 : Int) - 1))

def s_A2Indices_l1 (kj11 : (List Int) → Option (List Int)) (code1 : List UInt8) (n4 : Int) : Nat → Int → Int → (List Int) → Int → Option (List Int)
  | 0, _, _, _, _ => none
  | N + 1, x15, x16, l17, k19 =>
    (andO (decide (k19 > 0)) (some (decide (n4 > 0)))).bind fun t20 =>
    bif t20 then
    (s_l00Src_pick (L00Src.mk code1 x15 x16) n4).bind fun r24 =>
    (app l17 [r24.1]).bind fun l27 =>
    s_A2Indices_l1 kj11 code1 n4 N r24.2.at_ r24.2.seed l27 (w64 (k19 - 1))
    else
    kj11 l17

def s_A2Indices (N : Nat) (code1 : List UInt8) (n4 : Int) : Option (List Int) :=
  (s_l00From code1).bind fun r5 =>
  withK (fun (l9 : List Int) =>
  some l9) fun (kj11 : (List Int) → Option (List Int)) =>
  (s_l00Src_pick (L00Src.mk code1 r5.at_ r5.seed) 9).bind fun r13 =>
  s_A2Indices_l1 kj11 code1 n4 N r13.2.at_ r13.2.seed [] r13.1

def i_between (n1 : Int) (low2 : Int) (high3 : Int) : Option Bool :=
  (andO (decide (n1 ≥ low2)) (some (decide (n1 ≤ high3)))).bind fun t4 =>
  some t4

def i_EncodeWords_l1 (kj12 : Str → Option (Str × Int)) (words1 : List Str) (list4 : List Int) : Nat → Str → Int → Option (Str × Int)
  | 0, _, _ => none
  | N + 1, text14, x15 =>
    bif decide (x15 < (List.length list4 : Int)) then
    (idx list4 x15).bind fun e17 =>
    (i_between e17 0 (w64 ((List.length words1 : Int) - 1))).bind fun r22 =>
    bif !r22 then
    some ([], 2)
    else
    (idx words1 e17).bind fun e25 =>
    (cat text14 e25).bind fun s30 =>
    i_EncodeWords_l1 kj12 words1 list4 N s30 (w64 (x15 + 1))
    else
    kj12 text14

def i_EncodeWords (N : Nat) (words1 : List Str) (list4 : List Int) : Option (Str × Int) :=
  (i_ValidCode N words1).bind fun r7 =>
  bif !r7 then
  some ([], 1)
  else
  bif decide ((List.length list4 : Int) > 60) then
  some ([], 2)
  else
  withK (fun (text11 : Str) =>
  bif decide ((List.length text11 : Int) > 60) then
  some ([], 5)
  else
  some (text11, 0)) fun (kj12 : Str → Option (Str × Int)) =>
  i_EncodeWords_l1 kj12 words1 list4 N [] 0

def w_FnCodes_l1 (kj52 : Int → Option Bool) (r17 : (List Str) × Int) : Nat → Int → Int → Option Bool
  | 0, _, _ => none
  | N + 1, most54, i55 =>
    bif decide (i55 < (List.length r17.1 : Int)) then
    (andO (decide (i55 > 0)) ((idx r17.1 (w64 (i55 - 1))).bind fun e60 =>
    (idx r17.1 i55).bind fun e62 =>
    some (!ltL e60 e62))).bind fun t57 =>
    bif t57 then
    some false
    else
    (idx r17.1 i55).bind fun e65 =>
    w_FnCodes_l1 kj52 r17 N (imax most54 (List.length e65 : Int)) (w64 (i55 + 1))
    else
    kj52 most54

def w_FnCodes_l2 (kj71 : Option Bool) (r10 : (List Str)) (r20 : Str × Int) : Nat → Int → Option Bool
  | 0, _ => none
  | N + 1, i83 =>
    bif decide (i83 < (List.length r20.1 : Int)) then
    (sub r20.1 0 i83).bind fun s85 =>
    (i_CountReadings N r10 s85).bind fun r87 =>
    (orO (r87.2 != 0) (some (decide (r87.1 > 1)))).bind fun t89 =>
    bif t89 then
    some false
    else
    w_FnCodes_l2 kj71 r10 r20 N (w64 (i83 + 1))
    else
    kj71 

noncomputable def w_FnCodes (N : Nat) (code1 : List UInt8) (more4 : List UInt8) : Option Bool :=
  (w_a2Long code1 more4).bind fun r7 =>
  bif r7 then
  some true
  else
  (s_A2Code N code1).bind fun r10 =>
  (i_IsPrefixFree N r10).bind fun r13 =>
  (i_IsUnique N r10).bind fun r15 =>
  (i_RestsOf N r10).bind fun r17 =>
  (i_TwoReadings N r10).bind fun r20 =>
  (i_LongestRest N r10).bind fun r22 =>
  (orO (r13.2 != 0) (some (r15.2 != 0))).bind fun t24 =>
  (orO t24 (some (r17.2 != 0))).bind fun t27 =>
  (orO t27 ((andO r13.1 (some (!r15.1))).bind fun t33 =>
  some t33)).bind fun t30 =>
  (orO t30 (some (r13.1 != ((List.length r17.1 : Int) == 0)))).bind fun t36 =>
  (orO t36 (some (r15.1 != (r20.2 == 3)))).bind fun t39 =>
  (orO t39 (some (r15.1 != (r22.2 == 0)))).bind fun t42 =>
  (orO t42 ((w_a2HasText N r17.1 []).bind fun r48 =>
  some (r15.1 == r48))).bind fun t45 =>
  bif t45 then
  some false
  else
  withK (fun (most51 : Int) =>
  (andO r15.1 (some (r22.1 != most51))).bind fun t67 =>
  bif t67 then
  some false
  else
  withK ((s_A2Indices N more4 (List.length r10 : Int)).bind fun r93 =>
  (i_EncodeWords N r10 r93).bind fun r96 =>
  bif (r96.2 != 0) then
  some false
  else
  (i_CountReadings N r10 r96.1).bind fun r99 =>
  (andO (r99.2 == 0) (some (decide (r99.1 ≥ 1)))).bind fun t101 =>
  (andO t101 ((orO (!r15.1) (some (r99.1 == 1))).bind fun t107 =>
  some t107)).bind fun t104 =>
  some t104) fun (kj71 : Option Bool) =>
  (andO (r20.2 == 0) (some (decide ((List.length r20.1 : Int) ≤ 60)))).bind fun t73 =>
  bif t73 then
  (i_CountReadings N r10 r20.1).bind fun r77 =>
  (orO (r77.2 != 0) (some (decide (r77.1 < 2)))).bind fun t79 =>
  bif t79 then
  some false
  else
  w_FnCodes_l2 kj71 r10 r20 N 0
  else
  kj71 ) fun (kj52 : Int → Option Bool) =>
  w_FnCodes_l1 kj52 r17 N 0 0

end Go.Proofs.Ytacdadfaialbpaa
