/-
  Plain functions that compute what the Go functions compute. No conditions.
-/
import Derived.Test.YtoojddajhalimaaBase
namespace Go.Proofs.Ytoojddajhalimaa
set_option linter.unusedVariables false
set_option linter.unusedSimpArgs false

structure L00Src where
  code : List UInt8
  at_ : Int
  seed : Int



def w_f6big (code1 : List UInt8) : Option Bool :=
  some (decide ((List.length code1 : Int) > 4096))

def s_l00From (code1 : List UInt8) : Option L00Src :=
  some (L00Src.mk code1 0 0)

def s_l00Src_next (s1 : L00Src) : Option (Int × L00Src) :=
  withK (fun (b5 : Int) =>
  bif decide ((w64 (s1.at_ + 1)) ≤ (List.length s1.code : Int)) then
  some (b5, (L00Src.mk s1.code (w64 (s1.at_ + 1)) (IntKind.u64.wrap ((IntKind.u64.wrap ((IntKind.u64.wrap (s1.seed * 6364136223846793005)) + (IntKind.u64.wrap b5))) + 1442695040888963407))))
  else
  some (w64 (uand (ushr (IntKind.u64.wrap ((IntKind.u64.wrap ((IntKind.u64.wrap (s1.seed * 6364136223846793005)) + (IntKind.u64.wrap b5))) + 1442695040888963407)) 40) 255), (L00Src.mk s1.code (w64 (s1.at_ + 1)) (IntKind.u64.wrap ((IntKind.u64.wrap ((IntKind.u64.wrap (s1.seed * 6364136223846793005)) + (IntKind.u64.wrap b5))) + 1442695040888963407))))) fun (k6 : Int → Option (Int × L00Src)) =>
  bif decide (s1.at_ < (List.length s1.code : Int)) then
  (idx s1.code s1.at_).bind fun e9 =>
  k6 (UInt8.toNat e9 : Int)
  else
  k6 0

def s_l00Src_pick (s1 : L00Src) (n5 : Int) : Option (Int × L00Src) :=
  bif decide (n5 ≤ 1) then
  some (0, (L00Src.mk s1.code s1.at_ s1.seed))
  else
  (s_l00Src_next (L00Src.mk s1.code s1.at_ s1.seed)).bind fun r7 =>
  withK (fun (x9 : Int) (x10 : Int) (x11 : Int) =>
  (remO x11 n5).bind fun q17 =>
  some (q17, (L00Src.mk s1.code x9 x10))) fun (k12 : Int → Int → Int → Option (Int × L00Src)) =>
  bif decide (n5 > 200) then
  (s_l00Src_next (L00Src.mk s1.code r7.2.at_ r7.2.seed)).bind fun r15 =>
  k12 r15.2.at_ r15.2.seed (w64 ((w64 (r7.1 * 256)) + r15.1))
  else
  k12 r7.2.at_ r7.2.seed r7.1

def s_l00Src_text (s1 : L00Src) (list5 : List Str) : Option (Str × L00Src) :=
  (s_l00Src_pick (L00Src.mk s1.code s1.at_ s1.seed) (List.length list5 : Int)).bind fun r8 =>
  (idx list5 r8.1).bind fun e10 =>
  some (e10, (L00Src.mk s1.code r8.2.at_ r8.2.seed))

def s_l01Small (c1 : UInt8) : Option Bool :=
  (andO (decide (c1 ≥ (97 : UInt8))) (some (decide (c1 ≤ (122 : UInt8))))).bind fun t2 =>
  some t2

def s_l00In (n1 : Int) (low2 : Int) (high3 : Int) : Option Bool :=
  (andO (decide (n1 ≥ low2)) (some (decide (n1 ≤ high3)))).bind fun t4 =>
  some t4

def s_l16Word_l1 (k3 : Option Bool) (s1 : Str) : Nat → Int → Option Bool
  | 0, _ => none
  | N + 1, i5 =>
    bif decide (i5 < (List.length s1 : Int)) then
    (idx s1 i5).bind fun c7 =>
    (s_l01Small c7).bind fun r9 =>
    bif !r9 then
    some false
    else
    s_l16Word_l1 k3 s1 N (w64 (i5 + 1))
    else
    k3 

def s_l16Word (N : Nat) (s1 : Str) (most2 : Int) : Option Bool :=
  withK ((s_l00In (List.length s1 : Int) 1 most2).bind fun r12 =>
  some r12) fun (k3 : Option Bool) =>
  s_l16Word_l1 k3 s1 N 0

def s_l16List_l2 (k9 : Option Bool) (words1 : List Str) (i6 : Int) : Nat → Int → Option Bool
  | 0, _ => none
  | N + 1, k18 =>
    bif decide (k18 < i6) then
    (idx words1 k18).bind fun e20 =>
    (idx words1 i6).bind fun e25 =>
    bif (e20 == e25) then
    some false
    else
    s_l16List_l2 k9 words1 i6 N (w64 (k18 + 1))
    else
    k9 

def s_l16List_l1 (k4 : Option Bool) (words1 : List Str) : Nat → Int → Option Bool
  | 0, _ => none
  | N + 1, i6 =>
    bif decide (i6 < (List.length words1 : Int)) then
    withK (s_l16List_l1 k4 words1 N (w64 (i6 + 1))) fun (k9 : Option Bool) =>
    (idx words1 i6).bind fun e10 =>
    (s_l16Word N e10 30).bind fun r15 =>
    bif !r15 then
    some false
    else
    s_l16List_l2 k9 words1 i6 N 0
    else
    k4 

def s_l16List (N : Nat) (words1 : List Str) : Option Bool :=
  withK (some (decide ((List.length words1 : Int) ≤ 30))) fun (k4 : Option Bool) =>
  s_l16List_l1 k4 words1 N 0

def s_l16DrawWords_l1 (k10 : Int → Int → (List Str) → Option ((List Str) × L00Src)) (s1 : L00Src) : Nat → Int → Int → (List Str) → Int → Option ((List Str) × L00Src)
  | 0, _, _, _, _ => none
  | N + 1, x14, x15, l16, k18 =>
    bif decide (k18 > 0) then
    withK (fun (x20 : Int) (x21 : Int) (l22 : List Str) =>
    s_l16DrawWords_l1 k10 s1 N x20 x21 l22 (w64 (k18 - 1))) fun (k25 : Int → Int → (List Str) → Option ((List Str) × L00Src)) =>
    (s_l00Src_text (L00Src.mk s1.code x14 x15) [[98, 97, 114], [98, 97, 114, 107], [98, 97, 114, 110], [98, 97, 115, 101], [98, 101, 108, 108], [99, 97, 114, 114, 105, 97, 103, 101], [99, 97, 114, 98, 111, 110], [99, 97, 114, 100], [99, 97, 114, 101], [107, 101, 121]]).bind fun r27 =>
    (app [] l16).bind fun l30 =>
    (app l30 [r27.1]).bind fun l34 =>
    (s_l16List N l34).bind fun r37 =>
    bif r37 then
    (app l16 [r27.1]).bind fun l41 =>
    k25 r27.2.at_ r27.2.seed l41
    else
    k25 r27.2.at_ r27.2.seed l16
    else
    k10 x14 x15 l16

def s_l16DrawWords_l2 (k48 : Int → Int → (List Str) → Option ((List Str) × L00Src)) (r62 : Int × L00Src) : Nat → (List Str) → Int → Option ((List Str) × L00Src)
  | 0, _, _ => none
  | N + 1, l64, k66 =>
    bif decide (k66 > 0) then
    (app l64 [[(97 : UInt8) + (UInt8.ofInt (Int.tdiv (UInt8.toNat (UInt8.ofInt (List.length l64 : Int)) : Int) 26)), (97 : UInt8) + (UInt8.ofInt (Int.tmod (UInt8.toNat (UInt8.ofInt (List.length l64 : Int)) : Int) 26))]]).bind fun l70 =>
    s_l16DrawWords_l2 k48 r62 N l70 (w64 (k66 - 1))
    else
    k48 r62.2.at_ r62.2.seed l64

def s_l16DrawWords (N : Nat) (s1 : L00Src) : Option ((List Str) × L00Src) :=
  withK (fun (x6 : Int) (x7 : Int) (l8 : List Str) =>
  withK (fun (x44 : Int) (x45 : Int) (l46 : List Str) =>
  some (l46, (L00Src.mk s1.code x44 x45))) fun (k48 : Int → Int → (List Str) → Option ((List Str) × L00Src)) =>
  (s_l00Src_pick (L00Src.mk s1.code x6 x7) 20).bind fun r50 =>
  bif (r50.1 == 0) then
  (s_l00Src_text (L00Src.mk s1.code r50.2.at_ r50.2.seed) [[], [66, 97, 114], [97, 98, 99, 100, 101, 102, 103, 104, 105, 106, 107, 108, 109, 110, 111, 112, 113, 114, 115, 116, 117, 118, 119, 120, 121, 122, 97, 98, 99, 100], [97, 98, 99, 100, 101, 102, 103, 104, 105, 106, 107, 108, 109, 110, 111, 112, 113, 114, 115, 116, 117, 118, 119, 120, 121, 122, 97, 98, 99, 100, 101]]).bind fun r54 =>
  (app l8 [r54.1]).bind fun l57 =>
  k48 r54.2.at_ r54.2.seed l57
  else
  bif (r50.1 == 1) then
  (s_l00Src_pick (L00Src.mk s1.code r50.2.at_ r50.2.seed) 2).bind fun r62 =>
  s_l16DrawWords_l2 k48 r62 N [] (w64 (30 + r62.1))
  else
  k48 r50.2.at_ r50.2.seed l8) fun (k10 : Int → Int → (List Str) → Option ((List Str) × L00Src)) =>
  (s_l00Src_pick (L00Src.mk s1.code s1.at_ s1.seed) 9).bind fun r12 =>
  s_l16DrawWords_l1 k10 s1 N r12.2.at_ r12.2.seed [] r12.1

def s_DrawShortestStarts (N : Nat) (code1 : List UInt8) : Option (List Str) :=
  (s_l00From code1).bind fun r4 =>
  (s_l16DrawWords N (L00Src.mk code1 r4.at_ r4.seed)).bind fun r7 =>
  some r7.1

def i_isSmallWord_l1 (k2 : Option Bool) (s1 : Str) : Nat → Int → Option Bool
  | 0, _ => none
  | N + 1, x4 =>
    bif decide (x4 < (List.length s1 : Int)) then
    (idx s1 x4).bind fun c6 =>
    (orO (decide (c6 < (97 : UInt8))) ((idx s1 x4).bind fun c11 =>
    some (decide (c11 > (122 : UInt8))))).bind fun t8 =>
    bif t8 then
    some false
    else
    i_isSmallWord_l1 k2 s1 N (w64 (x4 + 1))
    else
    k2 

def i_isSmallWord (N : Nat) (s1 : Str) : Option Bool :=
  withK ((andO (decide ((List.length s1 : Int) ≥ 1)) (some (decide ((List.length s1 : Int) ≤ 30)))).bind fun t14 =>
  some t14) fun (k2 : Option Bool) =>
  i_isSmallWord_l1 k2 s1 N 0

def i_areDifferentWords_l1 (k5 : Option Bool) (words1 : List Str) : Nat → (List (Str × Bool)) → Int → Option Bool
  | 0, _, _ => none
  | N + 1, mp7, x8 =>
    bif decide (x8 < (List.length words1 : Int)) then
    (idx words1 x8).bind fun e10 =>
    (i_isSmallWord N e10).bind fun r15 =>
    (orO (!r15) (some (mget mp7 e10))).bind fun t17 =>
    bif t17 then
    some false
    else
    i_areDifferentWords_l1 k5 words1 N (mset mp7 e10 true) (w64 (x8 + 1))
    else
    k5 

def i_areDifferentWords (N : Nat) (words1 : List Str) : Option Bool :=
  withK (some (decide ((List.length words1 : Int) ≤ 30))) fun (k5 : Option Bool) =>
  i_areDifferentWords_l1 k5 words1 N [] 0

def stringslite_HasPrefix (s1 : Str) (prefix2 : Str) : Option Bool :=
  (andO (decide ((List.length s1 : Int) ≥ (List.length prefix2 : Int))) ((sub s1 0 (List.length prefix2 : Int)).bind fun s6 =>
  some (s6 == prefix2))).bind fun t3 =>
  some t3

def strings_HasPrefix (s1 : Str) (prefix2 : Str) : Option Bool :=
  (stringslite_HasPrefix s1 prefix2).bind fun r3 =>
  some r3

def i_ShortestStarts_l3 (k35 : Int → Option ((List Str) × Int)) (x14 : Int) (e20 : Str) (x29 : Int) (e34 : Str) : Nat → Int → Option ((List Str) × Int)
  | 0, _ => none
  | N + 1, size39 =>
    (andO (x29 != x14) (some (decide (size39 < (List.length e20 : Int))))).bind fun t40 =>
    (andO t40 ((sub e20 0 size39).bind fun s46 =>
    (strings_HasPrefix e34 s46).bind fun r48 =>
    some r48)).bind fun t43 =>
    bif t43 then
    i_ShortestStarts_l3 k35 x14 e20 x29 e34 N (w64 (size39 + 1))
    else
    k35 size39

def i_ShortestStarts_l2 (k28 : Int → Option ((List Str) × Int)) (words1 : List Str) (x14 : Int) (e20 : Str) : Nat → Int → Int → Option ((List Str) × Int)
  | 0, _, _ => none
  | N + 1, size28, x29 =>
    bif decide (x29 < (List.length words1 : Int)) then
    withK (fun (size31 : Int) =>
    i_ShortestStarts_l2 k28 words1 x14 e20 N size31 (w64 (x29 + 1))) fun (k35 : Int → Option ((List Str) × Int)) =>
    (idx words1 x29).bind fun e34 =>
    i_ShortestStarts_l3 k35 x14 e20 x29 e34 N size28
    else
    k28 size28

def i_ShortestStarts_l1 (k10 : (List Str) → Option ((List Str) × Int)) (words1 : List Str) : Nat → (List Str) → Int → Option ((List Str) × Int)
  | 0, _, _ => none
  | N + 1, l12, x14 =>
    bif decide (x14 < (List.length words1 : Int)) then
    withK (fun (l16 : List Str) =>
    i_ShortestStarts_l1 k10 words1 N l16 (w64 (x14 + 1))) fun (k19 : (List Str) → Option ((List Str) × Int)) =>
    (idx words1 x14).bind fun e20 =>
    withK (fun (size25 : Int) =>
    (sub e20 0 size25).bind fun s51 =>
    (app l12 [s51]).bind fun l54 =>
    k19 l54) fun (k28 : Int → Option ((List Str) × Int)) =>
    i_ShortestStarts_l2 k28 words1 x14 e20 N 1 0
    else
    k10 l12

def i_ShortestStarts (N : Nat) (words1 : List Str) : Option ((List Str) × Int) :=
  (i_areDifferentWords N words1).bind fun r4 =>
  bif !r4 then
  some ([], 1)
  else
  withK (fun (l8 : List Str) =>
  some (l8, 0)) fun (k10 : (List Str) → Option ((List Str) × Int)) =>
  i_ShortestStarts_l1 k10 words1 N [] 0

def s_l16Starts (word1 : Str) (start2 : Str) : Option Bool :=
  (andO (decide ((List.length word1 : Int) ≥ (List.length start2 : Int))) ((sub word1 0 (List.length start2 : Int)).bind fun s6 =>
  some (s6 == start2))).bind fun t3 =>
  some t3

def s_l16Count_l1 (k6 : Int → Option Int) (words1 : List Str) (start4 : Str) : Nat → Int → Int → Option Int
  | 0, _, _ => none
  | N + 1, n8, i9 =>
    bif decide (i9 < (List.length words1 : Int)) then
    withK (fun (n11 : Int) =>
    s_l16Count_l1 k6 words1 start4 N n11 (w64 (i9 + 1))) fun (k13 : Int → Option Int) =>
    (idx words1 i9).bind fun e14 =>
    (s_l16Starts e14 start4).bind fun r19 =>
    bif r19 then
    k13 (w64 (n8 + 1))
    else
    k13 n8
    else
    k6 n8

def s_l16Count (N : Nat) (words1 : List Str) (start4 : Str) : Option Int :=
  withK (fun (n5 : Int) =>
  some n5) fun (k6 : Int → Option Int) =>
  s_l16Count_l1 k6 words1 start4 N 0 0

def s_ShortestStarts_l2 (k23 : Int → Option ((List Str) × Int)) (words1 : List Str) (i14 : Int) : Nat → Int → Option ((List Str) × Int)
  | 0, _ => none
  | N + 1, n23 =>
    (idx words1 i14).bind fun e24 =>
    (andO (decide (n23 < (List.length e24 : Int))) ((idx words1 i14).bind fun e32 =>
    (sub e32 0 n23).bind fun s37 =>
    (s_l16Count N words1 s37).bind fun r39 =>
    some (decide (r39 > 1)))).bind fun t29 =>
    bif t29 then
    s_ShortestStarts_l2 k23 words1 i14 N (w64 (n23 + 1))
    else
    k23 n23

def s_ShortestStarts_l1 (k10 : (List Str) → Option ((List Str) × Int)) (words1 : List Str) : Nat → (List Str) → Int → Option ((List Str) × Int)
  | 0, _, _ => none
  | N + 1, l12, i14 =>
    bif decide (i14 < (List.length words1 : Int)) then
    withK (fun (l16 : List Str) =>
    s_ShortestStarts_l1 k10 words1 N l16 (w64 (i14 + 1))) fun (k19 : (List Str) → Option ((List Str) × Int)) =>
    withK (fun (n20 : Int) =>
    (idx words1 i14).bind fun e42 =>
    (sub e42 0 n20).bind fun s47 =>
    (app l12 [s47]).bind fun l50 =>
    k19 l50) fun (k23 : Int → Option ((List Str) × Int)) =>
    s_ShortestStarts_l2 k23 words1 i14 N 1
    else
    k10 l12

def s_ShortestStarts (N : Nat) (words1 : List Str) : Option ((List Str) × Int) :=
  (s_l16List N words1).bind fun r4 =>
  bif !r4 then
  some ([], 1)
  else
  withK (fun (l8 : List Str) =>
  some (l8, 0)) fun (k10 : (List Str) → Option ((List Str) × Int)) =>
  s_ShortestStarts_l1 k10 words1 N [] 0

def s_DrawWordFor (N : Nat) (code1 : List UInt8) : Option ((List Str) × Str) :=
  (s_l00From code1).bind fun r4 =>
  (s_l16DrawWords N (L00Src.mk code1 r4.at_ r4.seed)).bind fun r7 =>
  (s_l00Src_text (L00Src.mk code1 r7.2.at_ r7.2.seed) [[98], [98, 97], [98, 97, 114], [98, 97, 114, 107], [99, 97], [99, 97, 114], [107], [122], [], [75]]).bind fun r11 =>
  some (r7.1, r11.1)

def i_WordFor_l1 (k14 : (List Str) → Option (Str × Int)) (words1 : List Str) (start4 : Str) : Nat → (List Str) → Int → Option (Str × Int)
  | 0, _, _ => none
  | N + 1, l16, x18 =>
    bif decide (x18 < (List.length words1 : Int)) then
    withK (fun (l20 : List Str) =>
    i_WordFor_l1 k14 words1 start4 N l20 (w64 (x18 + 1))) fun (k23 : (List Str) → Option (Str × Int)) =>
    (idx words1 x18).bind fun e24 =>
    bif (e24 == start4) then
    some (e24, 0)
    else
    (strings_HasPrefix e24 start4).bind fun r30 =>
    bif r30 then
    (app l16 [e24]).bind fun l34 =>
    k23 l34
    else
    k23 l16
    else
    k14 l16

def i_WordFor (N : Nat) (words1 : List Str) (start4 : Str) : Option (Str × Int) :=
  (i_areDifferentWords N words1).bind fun r5 =>
  bif !r5 then
  some ([], 1)
  else
  (i_isSmallWord N start4).bind fun r8 =>
  bif !r8 then
  some ([], 2)
  else
  withK (fun (l12 : List Str) =>
  bif ((List.length l12 : Int) == 0) then
  some ([], 3)
  else
  bif ((List.length l12 : Int) == 1) then
  (idx l12 0).bind fun e39 =>
  some (e39, 0)
  else
  some ([], 9)) fun (k14 : (List Str) → Option (Str × Int)) =>
  i_WordFor_l1 k14 words1 start4 N [] 0

def s_WordFor_l1 (k12 : Str → Option (Str × Int)) (words1 : List Str) (start4 : Str) : Nat → Str → Int → Option (Str × Int)
  | 0, _, _ => none
  | N + 1, found14, i15 =>
    bif decide (i15 < (List.length words1 : Int)) then
    withK (fun (found17 : Str) =>
    s_WordFor_l1 k12 words1 start4 N found17 (w64 (i15 + 1))) fun (k19 : Str → Option (Str × Int)) =>
    (idx words1 i15).bind fun e20 =>
    bif (e20 == start4) then
    some (start4, 0)
    else
    (idx words1 i15).bind fun e26 =>
    (s_l16Starts e26 start4).bind fun r31 =>
    bif r31 then
    (idx words1 i15).bind fun e34 =>
    k19 e34
    else
    k19 found14
    else
    k12 found14

def s_WordFor (N : Nat) (words1 : List Str) (start4 : Str) : Option (Str × Int) :=
  (s_l16List N words1).bind fun r5 =>
  bif !r5 then
  some ([], 1)
  else
  (s_l16Word N start4 30).bind fun r8 =>
  bif !r8 then
  some ([], 2)
  else
  withK (fun (found11 : Str) =>
  (s_l16Count N words1 start4).bind fun r39 =>
  bif (r39 == 0) then
  some ([], 3)
  else
  bif decide (r39 > 1) then
  some ([], 9)
  else
  some (found11, 0)) fun (k12 : Str → Option (Str × Int)) =>
  s_WordFor_l1 k12 words1 start4 N [] 0

def w_f6texts_l1 (k8 : Option Bool) (a1 : List Str) (b4 : List Str) : Nat → Int → Option Bool
  | 0, _ => none
  | N + 1, i10 =>
    bif decide (i10 < (List.length a1 : Int)) then
    (idx a1 i10).bind fun e12 =>
    (idx b4 i10).bind fun e17 =>
    bif (e12 != e17) then
    some false
    else
    w_f6texts_l1 k8 a1 b4 N (w64 (i10 + 1))
    else
    k8 

def w_f6texts (N : Nat) (a1 : List Str) (b4 : List Str) : Option Bool :=
  bif ((List.length a1 : Int) != (List.length b4 : Int)) then
  some false
  else
  withK (some true) fun (k8 : Option Bool) =>
  w_f6texts_l1 k8 a1 b4 N 0

def w_FnWordStarts_l1 (k45 : Option Bool) (r7 : (List Str)) (r13 : (List Str) × Int) : Nat → Int → Option Bool
  | 0, _ => none
  | N + 1, i47 =>
    bif decide (i47 < (List.length r7 : Int)) then
    withK (w_FnWordStarts_l1 k45 r7 r13 N (w64 (i47 + 1))) fun (k50 : Option Bool) =>
    (idx r13.1 i47).bind fun e51 =>
    (i_WordFor N r7 e51).bind fun r53 =>
    (orO (r53.2 != 0) ((idx r7 i47).bind fun e58 =>
    some (r53.1 != e58))).bind fun t55 =>
    bif t55 then
    some false
    else
    (idx r13.1 i47).bind fun e61 =>
    bif decide ((List.length e61 : Int) < 2) then
    k50 
    else
    (idx r13.1 i47).bind fun e64 =>
    (sub e64 0 (w64 ((List.length e61 : Int) - 1))).bind fun s66 =>
    (i_WordFor N r7 s66).bind fun r68 =>
    bif (r68.2 == 3) then
    some false
    else
    k50 
    else
    k45 

def w_FnWordStarts (N : Nat) (code1 : List UInt8) : Option Bool :=
  (w_f6big code1).bind fun r4 =>
  bif r4 then
  some true
  else
  (s_DrawShortestStarts N code1).bind fun r7 =>
  (i_ShortestStarts N r7).bind fun r10 =>
  (s_ShortestStarts N r7).bind fun r13 =>
  (s_DrawWordFor N code1).bind fun r16 =>
  (i_WordFor N r16.1 r16.2).bind fun r19 =>
  (s_WordFor N r16.1 r16.2).bind fun r21 =>
  (orO (r10.2 != r13.2) ((w_f6texts N r10.1 r13.1).bind fun r26 =>
  some (!r26))).bind fun t23 =>
  (orO t23 (some (r19.2 != r21.2))).bind fun t28 =>
  (orO t28 (some (r19.1 != r21.1))).bind fun t31 =>
  bif t31 then
  some false
  else
  (andO (r19.2 == 0) ((orO (decide ((List.length r19.1 : Int) < (List.length r16.2 : Int))) ((sub r19.1 0 (List.length r16.2 : Int)).bind fun s41 =>
  some (s41 != r16.2))).bind fun t38 =>
  some t38)).bind fun t35 =>
  bif t35 then
  some false
  else
  bif (r10.2 != 0) then
  some true
  else
  withK (some true) fun (k45 : Option Bool) =>
  w_FnWordStarts_l1 k45 r7 r13 N 0

def s_l00Src_one (s1 : L00Src) (n5 : Int) : Option (Bool × L00Src) :=
  (s_l00Src_pick (L00Src.mk s1.code s1.at_ s1.seed) n5).bind fun r6 =>
  some ((r6.1 == 0), (L00Src.mk s1.code r6.2.at_ r6.2.seed))

end Go.Proofs.Ytoojddajhalimaa
