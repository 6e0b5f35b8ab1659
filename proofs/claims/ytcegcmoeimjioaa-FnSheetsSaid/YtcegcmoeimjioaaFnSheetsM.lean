/-
  Plain functions that compute what the Go functions compute. No conditions.
-/
import Derived.Test.YtcegcmoeimjioaaBase
namespace Go.Proofs.Ytcegcmoeimjioaa
set_option linter.unusedVariables false
set_option linter.unusedSimpArgs false

structure L00Src where
  code : List UInt8
  at_ : Int
  seed : Int



def w_a2Long (code1 : List UInt8) (more4 : List UInt8) : Option Bool :=
  (orO (decide ((List.length code1 : Int) > 3000)) (some (decide ((List.length more4 : Int) > 3000)))).bind fun t7 =>
  some t7

def s_l00From (code1 : List UInt8) : Option L00Src :=
  some (L00Src.mk code1 0 0)

def s_l00Src_next (s1 : L00Src) : Option (Int × L00Src) :=
  withK (fun (b5 : Int) =>
  bif decide ((w64 (s1.at_ + 1)) ≤ (List.length s1.code : Int)) then
  some (b5, (L00Src.mk s1.code (w64 (s1.at_ + 1)) (IntKind.u64.wrap ((IntKind.u64.wrap ((IntKind.u64.wrap (s1.seed * 6364136223846793005)) + (IntKind.u64.wrap b5))) + 1442695040888963407))))
  else
  some (w64 (uand (ushr (IntKind.u64.wrap ((IntKind.u64.wrap ((IntKind.u64.wrap (s1.seed * 6364136223846793005)) + (IntKind.u64.wrap b5))) + 1442695040888963407)) 40) 255), (L00Src.mk s1.code (w64 (s1.at_ + 1)) (IntKind.u64.wrap ((IntKind.u64.wrap ((IntKind.u64.wrap (s1.seed * 6364136223846793005)) + (IntKind.u64.wrap b5))) + 1442695040888963407))))) fun (kj6 : Int → Option (Int × L00Src)) =>
  bif decide (s1.at_ < (List.length s1.code : Int)) then
  (idx s1.code s1.at_).bind fun e9 =>
  kj6 (UInt8.toNat e9 : Int)
  else
  kj6 0

def s_l00Src_pick (s1 : L00Src) (n5 : Int) : Option (Int × L00Src) :=
  bif decide (n5 ≤ 1) then
  some (0, (L00Src.mk s1.code s1.at_ s1.seed))
  else
  (s_l00Src_next (L00Src.mk s1.code s1.at_ s1.seed)).bind fun r7 =>
  withK (fun (x9 : Int) (x10 : Int) (x11 : Int) =>
  (remO x11 n5).bind fun q17 =>
  some (q17, (L00Src.mk s1.code x9 x10))) fun (kj12 : Int → Int → Int → Option (Int × L00Src)) =>
  bif decide (n5 > 200) then
  (s_l00Src_next (L00Src.mk s1.code r7.2.at_ r7.2.seed)).bind fun r15 =>
  kj12 r15.2.at_ r15.2.seed (w64 ((w64 (r7.1 * 256)) + r15.1))
  else
  kj12 r7.2.at_ r7.2.seed r7.1

def s_A2Worn_l1 (kj10 : (List Int) → Option (List Int)) (code1 : List UInt8) : Nat → Int → Int → (List Int) → Int → Option (List Int)
  | 0, _, _, _, _ => none
  | N + 1, x14, x15, l16, k18 =>
    bif decide (k18 > 0) then
    (s_l00Src_pick (L00Src.mk code1 x14 x15) 12).bind fun r20 =>
    (app l16 [r20.1]).bind fun l23 =>
    s_A2Worn_l1 kj10 code1 N r20.2.at_ r20.2.seed l23 (w64 (k18 - 1))
    else
    kj10 l16

def s_A2Worn (N : Nat) (code1 : List UInt8) : Option (List Int) :=
  (s_l00From code1).bind fun r4 =>
  withK (fun (l8 : List Int) =>
  some l8) fun (kj10 : (List Int) → Option (List Int)) =>
  (s_l00Src_pick (L00Src.mk code1 r4.at_ r4.seed) 7).bind fun r12 =>
  s_A2Worn_l1 kj10 code1 N r12.2.at_ r12.2.seed [] r12.1

def w_a2At (code1 : List UInt8) (at4 : Int) (n5 : Int) : Option Int :=
  (orO (decide (at4 ≥ (List.length code1 : Int))) (some (decide (n5 < 1)))).bind fun t6 =>
  bif t6 then
  some 0
  else
  (idx code1 at4).bind fun e10 =>
  (remO (UInt8.toNat e10 : Int) n5).bind fun q15 =>
  some q15

def i_between (n1 : Int) (low2 : Int) (high3 : Int) : Option Bool :=
  (andO (decide (n1 ≥ low2)) (some (decide (n1 ≤ high3)))).bind fun t4 =>
  some t4

def i_areWorn_l1 (kj4 : Option Bool) (worn1 : List Int) : Nat → Int → Option Bool
  | 0, _ => none
  | N + 1, x6 =>
    bif decide (x6 < (List.length worn1 : Int)) then
    (idx worn1 x6).bind fun e8 =>
    (i_between e8 0 100000).bind fun r13 =>
    bif !r13 then
    some false
    else
    i_areWorn_l1 kj4 worn1 N (w64 (x6 + 1))
    else
    kj4 

def i_areWorn (N : Nat) (worn1 : List Int) : Option Bool :=
  withK (some (decide ((List.length worn1 : Int) ≤ 12))) fun (kj4 : Option Bool) =>
  i_areWorn_l1 kj4 worn1 N 0

def i_evenly_c1 (i1 : Int) (k2 : Int) (x3 : List Int) (x8 : List Int) : Option Bool :=
  (idx x8 i1).bind fun e13 =>
  (idx x3 e13).bind fun e18 =>
  (idx x8 k2).bind fun e23 =>
  (idx x3 e23).bind fun e28 =>
  some (decide (e18 < e28))

def i_evenly_l1 (kj10 : (List Int) → Option (List Int)) (worn1 : List Int) : Nat → (List Int) → Int → Option (List Int)
  | 0, _, _ => none
  | N + 1, l12, x14 =>
    bif decide (x14 < (List.length worn1 : Int)) then
    (app l12 [x14]).bind fun l17 =>
    i_evenly_l1 kj10 worn1 N l17 (w64 (x14 + 1))
    else
    kj10 l12

def i_evenly (N : Nat) (worn1 : List Int) : Option (List Int) :=
  withK (fun (l8 : List Int) =>
  (srtO (fun i j dk => i_evenly_c1 i j worn1 dk) l8).bind fun l21 =>
  some l21) fun (kj10 : (List Int) → Option (List Int)) =>
  i_evenly_l1 kj10 worn1 N [] 0

def i_WearSheets_l2 (kj24 : (List Int) → Option ((List Int) × Int)) (r26 : (List Int)) : Nat → (List Int) → Int → Option ((List Int) × Int)
  | 0, _, _ => none
  | N + 1, l29, x30 =>
    bif decide (x30 < (List.length r26 : Int)) then
    (idx r26 x30).bind fun e32 =>
    (idx l29 e32).bind fun e34 =>
    (idx l29 e32).bind fun e36 =>
    i_WearSheets_l2 kj24 r26 N (List.set l29 (Int.toNat e32) (w64 (e34 + (w64 ((List.length l29 : Int) - x30))))) (w64 (x30 + 1))
    else
    kj24 l29

def i_WearSheets_l1 (kj18 : (List Int) → Option ((List Int) × Int)) (typings4 : Int) : Nat → (List Int) → Int → Option ((List Int) × Int)
  | 0, _, _ => none
  | N + 1, l20, x21 =>
    bif decide (x21 < typings4) then
    withK (fun (l23 : List Int) =>
    i_WearSheets_l1 kj18 typings4 N l23 (w64 (x21 + 1))) fun (kj24 : (List Int) → Option ((List Int) × Int)) =>
    (i_evenly N l20).bind fun r26 =>
    i_WearSheets_l2 kj24 r26 N l20 0
    else
    kj18 l20

def i_WearSheets (N : Nat) (worn1 : List Int) (typings4 : Int) : Option ((List Int) × Int) :=
  (i_areWorn N worn1).bind fun r5 =>
  (orO (!r5) ((i_between typings4 0 1000).bind fun r10 =>
  some (!r10))).bind fun t7 =>
  bif t7 then
  some ([], 2)
  else
  (app [] worn1).bind fun l14 =>
  withK (fun (l17 : List Int) =>
  some (l17, 0)) fun (kj18 : (List Int) → Option ((List Int) × Int)) =>
  i_WearSheets_l1 kj18 typings4 N l14 0

def i_EvenSheets (N : Nat) (worn1 : List Int) : Option ((List Int) × Int) :=
  (i_areWorn N worn1).bind fun r4 =>
  bif !r4 then
  some ([], 2)
  else
  (i_evenly N worn1).bind fun r7 =>
  some (r7, 0)

def w_a2Sum_l1 (kj5 : Int → Option Int) (list1 : List Int) : Nat → Int → Int → Option Int
  | 0, _, _ => none
  | N + 1, sum7, i8 =>
    bif decide (i8 < (List.length list1 : Int)) then
    (idx list1 i8).bind fun e10 =>
    w_a2Sum_l1 kj5 list1 N (w64 (sum7 + e10)) (w64 (i8 + 1))
    else
    kj5 sum7

def w_a2Sum (N : Nat) (list1 : List Int) : Option Int :=
  withK (fun (sum4 : Int) =>
  some sum4) fun (kj5 : Int → Option Int) =>
  w_a2Sum_l1 kj5 list1 N 0 0

def w_a2Has_l1 (kj5 : Option Bool) (list1 : List Int) (n4 : Int) : Nat → Int → Option Bool
  | 0, _ => none
  | N + 1, i7 =>
    bif decide (i7 < (List.length list1 : Int)) then
    (idx list1 i7).bind fun e9 =>
    bif (e9 == n4) then
    some true
    else
    w_a2Has_l1 kj5 list1 n4 N (w64 (i7 + 1))
    else
    kj5 

def w_a2Has (N : Nat) (list1 : List Int) (n4 : Int) : Option Bool :=
  withK (some false) fun (kj5 : Option Bool) =>
  w_a2Has_l1 kj5 list1 n4 N 0

def w_a2Same_l1 (kj8 : Option Bool) (a1 : List Int) (b4 : List Int) : Nat → Int → Option Bool
  | 0, _ => none
  | N + 1, i10 =>
    bif decide (i10 < (List.length a1 : Int)) then
    (idx a1 i10).bind fun e12 =>
    (idx b4 i10).bind fun e17 =>
    bif (e12 != e17) then
    some false
    else
    w_a2Same_l1 kj8 a1 b4 N (w64 (i10 + 1))
    else
    kj8 

def w_a2Same (N : Nat) (a1 : List Int) (b4 : List Int) : Option Bool :=
  bif ((List.length a1 : Int) != (List.length b4 : Int)) then
  some false
  else
  withK (some true) fun (kj8 : Option Bool) =>
  w_a2Same_l1 kj8 a1 b4 N 0

def w_FnSheets_l1 (kj38 : Option Bool) (r10 : (List Int)) (r13 : Int) (r15 : (List Int) × Int) (r18 : (List Int) × Int) : Nat → Int → Option Bool
  | 0, _ => none
  | N + 1, i40 =>
    bif decide (i40 < (List.length r18.1 : Int)) then
    (idx r18.1 i40).bind fun e42 =>
    (orO (decide (e42 < 0)) ((idx r18.1 i40).bind fun e47 =>
    some (decide (e47 ≥ (List.length r10 : Int))))).bind fun t44 =>
    (orO t44 ((sub r18.1 0 i40).bind fun l52 =>
    (idx r18.1 i40).bind fun e54 =>
    (w_a2Has N l52 e54).bind fun r56 =>
    some r56)).bind fun t49 =>
    (orO t49 ((idx r15.1 i40).bind fun e61 =>
    (idx r10 i40).bind fun e63 =>
    some (decide (e61 < (w64 (e63 + r13)))))).bind fun t58 =>
    bif t58 then
    some false
    else
    (andO (decide (i40 > 0)) ((idx r18.1 (w64 (i40 - 1))).bind fun e69 =>
    (idx r10 e69).bind fun e71 =>
    (idx r18.1 i40).bind fun e73 =>
    (idx r10 e73).bind fun e75 =>
    (orO (decide (e71 > e75)) ((idx r18.1 (w64 (i40 - 1))).bind fun e80 =>
    (idx r10 e80).bind fun e82 =>
    (idx r18.1 i40).bind fun e84 =>
    (idx r10 e84).bind fun e86 =>
    (andO (e82 == e86) ((idx r18.1 (w64 (i40 - 1))).bind fun e91 =>
    (idx r18.1 i40).bind fun e93 =>
    some (decide (e91 > e93)))).bind fun t88 =>
    some t88)).bind fun t77 =>
    some t77)).bind fun t66 =>
    bif t66 then
    some false
    else
    w_FnSheets_l1 kj38 r10 r13 r15 r18 N (w64 (i40 + 1))
    else
    kj38 

def w_FnSheets (N : Nat) (code1 : List UInt8) (more4 : List UInt8) : Option Bool :=
  (w_a2Long code1 more4).bind fun r7 =>
  bif r7 then
  some true
  else
  (s_A2Worn N code1).bind fun r10 =>
  (w_a2At more4 0 20).bind fun r13 =>
  (i_WearSheets N r10 r13).bind fun r15 =>
  (i_EvenSheets N r10).bind fun r18 =>
  (orO (r15.2 != 0) (some ((List.length r15.1 : Int) != (List.length r10 : Int)))).bind fun t21 =>
  (orO t21 ((w_a2Sum N r15.1).bind fun r27 =>
  (w_a2Sum N r10).bind fun r29 =>
  some (r27 != (w64 (r29 + (w64 (Int.tdiv (w64 ((w64 (r13 * (List.length r10 : Int))) * (w64 ((List.length r10 : Int) + 1)))) 2))))))).bind fun t24 =>
  (orO t24 (some (r18.2 != 0))).bind fun t31 =>
  (orO t31 (some ((List.length r18.1 : Int) != (List.length r10 : Int)))).bind fun t34 =>
  bif t34 then
  some false
  else
  withK (bif (r13 == 0) then
  (w_a2Same N r15.1 r10).bind fun r97 =>
  some r97
  else
  (i_WearSheets N r10 1).bind fun r99 =>
  (i_WearSheets N r99.1 (w64 (r13 - 1))).bind fun r102 =>
  (andO (r99.2 == 0) (some (r102.2 == 0))).bind fun t105 =>
  (andO t105 ((w_a2Same N r102.1 r15.1).bind fun r111 =>
  some r111)).bind fun t108 =>
  some t108) fun (kj38 : Option Bool) =>
  w_FnSheets_l1 kj38 r10 r13 r15 r18 N 0

end Go.Proofs.Ytcegcmoeimjioaa
