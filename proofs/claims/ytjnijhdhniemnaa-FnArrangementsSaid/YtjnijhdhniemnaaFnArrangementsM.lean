/-
  Plain functions that compute what the Go functions compute. No conditions.
-/
import Derived.Test.YtjnijhdhniemnaaBase
namespace Go.Proofs.Ytjnijhdhniemnaa
set_option linter.unusedVariables false
set_option linter.unusedSimpArgs false

structure Basket where
  bars : Int
  rise : Int
  fall : Int
  clear : Int
  near : Int

def Basket.beq (x y : Basket) : Bool := x.bars == y.bars && (x.rise == y.rise && (x.fall == y.fall && (x.clear == y.clear && (x.near == y.near))))

structure L00Src where
  code : List UInt8
  at_ : Int
  seed : Int



def w_a2Long (code1 : List UInt8) (more4 : List UInt8) : Option Bool :=
  (orO (decide ((List.length code1 : Int) > 3000)) (some (decide ((List.length more4 : Int) > 3000)))).bind fun t7 =>
  some t7

def s_l00From (code1 : List UInt8) : Option L00Src :=
  some (L00Src.mk code1 0 0)

def s_l00Src_next (s1 : L00Src) : Option (Int × L00Src) :=
  withK (fun (b5 : Int) =>
  bif decide ((w64 (s1.at_ + 1)) ≤ (List.length s1.code : Int)) then
  some (b5, (L00Src.mk s1.code (w64 (s1.at_ + 1)) (IntKind.u64.wrap ((IntKind.u64.wrap ((IntKind.u64.wrap (s1.seed * 6364136223846793005)) + (IntKind.u64.wrap b5))) + 1442695040888963407))))
  else
  some (w64 (uand (ushr (IntKind.u64.wrap ((IntKind.u64.wrap ((IntKind.u64.wrap (s1.seed * 6364136223846793005)) + (IntKind.u64.wrap b5))) + 1442695040888963407)) 40) 255), (L00Src.mk s1.code (w64 (s1.at_ + 1)) (IntKind.u64.wrap ((IntKind.u64.wrap ((IntKind.u64.wrap (s1.seed * 6364136223846793005)) + (IntKind.u64.wrap b5))) + 1442695040888963407))))) fun (kj6 : Int → Option (Int × L00Src)) =>
  bif decide (s1.at_ < (List.length s1.code : Int)) then
  (idx s1.code s1.at_).bind fun e9 =>
  kj6 (UInt8.toNat e9 : Int)
  else
  kj6 0

def s_l00Src_pick (s1 : L00Src) (n5 : Int) : Option (Int × L00Src) :=
  bif decide (n5 ≤ 1) then
  some (0, (L00Src.mk s1.code s1.at_ s1.seed))
  else
  (s_l00Src_next (L00Src.mk s1.code s1.at_ s1.seed)).bind fun r7 =>
  withK (fun (x9 : Int) (x10 : Int) (x11 : Int) =>
  (remO x11 n5).bind fun q17 =>
  some (q17, (L00Src.mk s1.code x9 x10))) fun (kj12 : Int → Int → Int → Option (Int × L00Src)) =>
  bif decide (n5 > 200) then
  (s_l00Src_next (L00Src.mk s1.code r7.2.at_ r7.2.seed)).bind fun r15 =>
  kj12 r15.2.at_ r15.2.seed (w64 ((w64 (r7.1 * 256)) + r15.1))
  else
  kj12 r7.2.at_ r7.2.seed r7.1

def s_l03Draw (s1 : L00Src) : Option (Basket × L00Src) :=
  (s_l00Src_pick (L00Src.mk s1.code s1.at_ s1.seed) 10).bind fun r6 =>
  (s_l00Src_pick (L00Src.mk s1.code r6.2.at_ r6.2.seed) 6).bind fun r9 =>
  (s_l00Src_pick (L00Src.mk s1.code r9.2.at_ r9.2.seed) 6).bind fun r11 =>
  (s_l00Src_pick (L00Src.mk s1.code r11.2.at_ r11.2.seed) 4).bind fun r13 =>
  (s_l00Src_pick (L00Src.mk s1.code r13.2.at_ r13.2.seed) 6).bind fun r15 =>
  some ((Basket.mk ((Basket.mk (w64 (2 + r6.1)) 0 0 0 0).bars) (w64 (1 + r9.1)) (w64 (1 + r11.1)) (w64 (1 + r13.1)) r15.1), (L00Src.mk s1.code r15.2.at_ r15.2.seed))

def s_A2Basket (code1 : List UInt8) : Option Basket :=
  (s_l00From code1).bind fun r5 =>
  (s_l03Draw (L00Src.mk code1 r5.at_ r5.seed)).bind fun r8 =>
  some (Basket.mk (w64 (r8.1.bars + 5)) r8.1.rise r8.1.fall r8.1.clear r8.1.near)

def s_l00Src_one (s1 : L00Src) (n5 : Int) : Option (Bool × L00Src) :=
  (s_l00Src_pick (L00Src.mk s1.code s1.at_ s1.seed) n5).bind fun r6 =>
  some ((r6.1 == 0), (L00Src.mk s1.code r6.2.at_ r6.2.seed))

def s_l05Draw_l2 (kj33 : (List Int) → Int → Int → Option ((List (List Int)) × L00Src)) (s1 : L00Src) (n5 : Int) : Nat → (List Int) → Int → Int → Int → Option ((List (List Int)) × L00Src)
  | 0, _, _, _, _ => none
  | N + 1, l35, x37, x38, k39 =>
    bif decide (k39 < n5) then
    withK (fun (x41 : Int) (x42 : Int) (l43 : List Int) =>
    s_l05Draw_l2 kj33 s1 n5 N l43 x41 x42 (w64 (k39 + 1))) fun (kj45 : Int → Int → (List Int) → Option ((List (List Int)) × L00Src)) =>
    (s_l00Src_one (L00Src.mk s1.code x37 x38) 2).bind fun r47 =>
    bif r47.1 then
    (app l35 [0]).bind fun l51 =>
    kj45 r47.2.at_ r47.2.seed l51
    else
    (s_l00Src_pick (L00Src.mk s1.code r47.2.at_ r47.2.seed) 20).bind fun r54 =>
    (app l35 [r54.1]).bind fun l57 =>
    kj45 r54.2.at_ r54.2.seed l57
    else
    kj33 l35 x37 x38

def s_l05Draw_l1 (kj12 : (List (List Int)) → Int → Int → Option ((List (List Int)) × L00Src)) (s1 : L00Src) (n5 : Int) : Nat → (List (List Int)) → Int → Int → Int → Option ((List (List Int)) × L00Src)
  | 0, _, _, _, _ => none
  | N + 1, l14, x17, x18, i19 =>
    bif decide (i19 < n5) then
    withK (fun (l21 : List (List Int)) (x24 : Int) (x25 : Int) =>
    s_l05Draw_l1 kj12 s1 n5 N l21 x24 x25 (w64 (i19 + 1))) fun (kj26 : (List (List Int)) → Int → Int → Option ((List (List Int)) × L00Src)) =>
    withK (fun (l29 : List Int) (x31 : Int) (x32 : Int) =>
    (app l14 ([l29] : List (List Int))).bind fun l64 =>
    kj26 l64 x31 x32) fun (kj33 : (List Int) → Int → Int → Option ((List (List Int)) × L00Src)) =>
    s_l05Draw_l2 kj33 s1 n5 N [] x17 x18 0
    else
    kj12 l14 x17 x18

def s_l05Draw (N : Nat) (s1 : L00Src) (n5 : Int) : Option ((List (List Int)) × L00Src) :=
  withK (fun (l7 : List (List Int)) (x10 : Int) (x11 : Int) =>
  some (l7, (L00Src.mk s1.code x10 x11))) fun (kj12 : (List (List Int)) → Int → Int → Option ((List (List Int)) × L00Src)) =>
  s_l05Draw_l1 kj12 s1 n5 N ([] : List (List Int)) s1.at_ s1.seed 0

def s_A2Pairs (N : Nat) (code1 : List UInt8) : Option (List (List Int)) :=
  (s_l00From code1).bind fun r4 =>
  (s_l00Src_pick (L00Src.mk code1 r4.at_ r4.seed) 4).bind fun r7 =>
  (s_l05Draw N (L00Src.mk code1 r7.2.at_ r7.2.seed) (w64 (2 + r7.1))).bind fun r9 =>
  some r9.1

def s_l00Own (list1 : List Int) : Option (List Int) :=
  (app [] list1).bind fun l5 =>
  some l5

def s_A2Places_l1 (kj11 : (List Int) → Option (List Int)) (code1 : List UInt8) (n4 : Int) : Nat → (List Int) → Int → Int → Int → Option (List Int)
  | 0, _, _, _, _ => none
  | N + 1, l13, x15, x16, i17 =>
    bif decide (i17 < n4) then
    (s_l00Src_pick (L00Src.mk code1 x15 x16) (w64 ((List.length l13 : Int) + 1))).bind fun r19 =>
    (sub l13 0 r19.1).bind fun l21 =>
    (s_l00Own l21).bind fun r23 =>
    (app r23 [i17]).bind fun l27 =>
    (sub l13 r19.1 (List.length l13 : Int)).bind fun l30 =>
    (app l27 l30).bind fun l32 =>
    s_A2Places_l1 kj11 code1 n4 N l32 r19.2.at_ r19.2.seed (w64 (i17 + 1))
    else
    kj11 l13

def s_A2Places (N : Nat) (code1 : List UInt8) (n4 : Int) : Option (List Int) :=
  (s_l00From code1).bind fun r5 =>
  withK (fun (l9 : List Int) =>
  some l9) fun (kj11 : (List Int) → Option (List Int)) =>
  s_A2Places_l1 kj11 code1 n4 N [] r5.at_ r5.seed 0

def i_between (n1 : Int) (low2 : Int) (high3 : Int) : Option Bool :=
  (andO (decide (n1 ≥ low2)) (some (decide (n1 ≤ high3)))).bind fun t4 =>
  some t4

def i_ValidBasket (b1 : Basket) : Option Bool :=
  (i_between b1.bars 2 60).bind fun r3 =>
  (andO r3 ((i_between b1.rise 1 100).bind fun r8 =>
  some r8)).bind fun t5 =>
  (andO t5 ((i_between b1.fall 1 100).bind fun r13 =>
  some r13)).bind fun t10 =>
  (andO t10 ((i_between b1.clear 1 100).bind fun r18 =>
  some r18)).bind fun t15 =>
  (andO t15 ((i_between b1.near 0 100).bind fun r23 =>
  some r23)).bind fun t20 =>
  some t20

def i_ValidPairs_l2 (kj11 : Option Bool) (e13 : List Int) : Nat → Int → Option Bool
  | 0, _ => none
  | N + 1, x21 =>
    bif decide (x21 < (List.length e13 : Int)) then
    (idx e13 x21).bind fun e23 =>
    (i_between e23 0 1000).bind fun r28 =>
    bif !r28 then
    some false
    else
    i_ValidPairs_l2 kj11 e13 N (w64 (x21 + 1))
    else
    kj11 

def i_ValidPairs_l1 (kj7 : Option Bool) (pairs1 : List (List Int)) : Nat → Int → Option Bool
  | 0, _ => none
  | N + 1, x9 =>
    bif decide (x9 < (List.length pairs1 : Int)) then
    withK (i_ValidPairs_l1 kj7 pairs1 N (w64 (x9 + 1))) fun (kj11 : Option Bool) =>
    (idx pairs1 x9).bind fun e13 =>
    bif ((List.length e13 : Int) != (List.length pairs1 : Int)) then
    some false
    else
    i_ValidPairs_l2 kj11 e13 N 0
    else
    kj7 

def i_ValidPairs (N : Nat) (pairs1 : List (List Int)) : Option Bool :=
  (i_between (List.length pairs1 : Int) 2 7).bind fun r4 =>
  bif !r4 then
  some false
  else
  withK (some true) fun (kj7 : Option Bool) =>
  i_ValidPairs_l1 kj7 pairs1 N 0

def i_Basket_hasBar (b1 : Basket) (bar2 : Int) : Option Bool :=
  (i_between bar2 0 (w64 (b1.bars - 1))).bind fun r4 =>
  some r4

def i_Basket_arranges_l1 (kj13 : Option Bool) (b1 : Basket) (places2 : List Int) : Nat → (List (Int × Bool)) → Int → Option Bool
  | 0, _, _ => none
  | N + 1, mp15, x16 =>
    bif decide (x16 < (List.length places2 : Int)) then
    (idx places2 x16).bind fun e18 =>
    (i_Basket_hasBar b1 e18).bind fun r23 =>
    (orO (!r23) (some (mgetI mp15 e18))).bind fun t25 =>
    bif t25 then
    some false
    else
    i_Basket_arranges_l1 kj13 b1 places2 N (msetI mp15 e18 true) (w64 (x16 + 1))
    else
    kj13 

def i_Basket_arranges (N : Nat) (b1 : Basket) (places2 : List Int) (least5 : Int) (most6 : Int) : Option Bool :=
  (orO (decide ((List.length places2 : Int) < least5)) (some (decide ((List.length places2 : Int) > most6)))).bind fun t8 =>
  bif t8 then
  some false
  else
  withK (some true) fun (kj13 : Option Bool) =>
  i_Basket_arranges_l1 kj13 b1 places2 N [] 0

def i_arrangeCode (N : Nat) (b1 : Basket) (pairs2 : List (List Int)) (places5 : List Int) : Option Int :=
  (i_ValidBasket b1).bind fun r9 =>
  (orO (!r9) ((i_ValidPairs N pairs2).bind fun r14 =>
  some (!r14))).bind fun t11 =>
  bif t11 then
  some 1
  else
  (i_Basket_arranges N b1 places5 (List.length pairs2 : Int) (List.length pairs2 : Int)).bind fun r17 =>
  bif !r17 then
  some 2
  else
  some 0

def i_absolute (n1 : Int) : Option Int :=
  bif decide (n1 < 0) then
  some (w64 (0 - n1))
  else
  some n1

def i_Basket_waits (b1 : Basket) (first2 : Int) (second3 : Int) : Option Int :=
  bif (first2 == second3) then
  some (w64 (b1.rise + b1.fall))
  else
  (i_absolute (w64 (first2 - second3))).bind fun r6 =>
  some (w64 (b1.clear + (imax (w64 (b1.near - r6)) 0)))

def i_Basket_cost_l2 (kj16 : Int → Option Int) (b1 : Basket) (places5 : List Int) (x13 : Int) (e18 : List Int) : Nat → Int → Int → Option Int
  | 0, _, _ => none
  | N + 1, sum25, x26 =>
    bif decide (x26 < (List.length e18 : Int)) then
    (idx e18 x26).bind fun e28 =>
    (idx places5 x13).bind fun e33 =>
    (idx places5 x26).bind fun e38 =>
    (i_Basket_waits b1 e33 e38).bind fun r43 =>
    i_Basket_cost_l2 kj16 b1 places5 x13 e18 N (w64 (sum25 + (w64 (e28 * r43)))) (w64 (x26 + 1))
    else
    kj16 sum25

def i_Basket_cost_l1 (kj10 : Int → Option Int) (b1 : Basket) (pairs2 : List (List Int)) (places5 : List Int) : Nat → Int → Int → Option Int
  | 0, _, _ => none
  | N + 1, sum12, x13 =>
    bif decide (x13 < (List.length pairs2 : Int)) then
    withK (fun (sum15 : Int) =>
    i_Basket_cost_l1 kj10 b1 pairs2 places5 N sum15 (w64 (x13 + 1))) fun (kj16 : Int → Option Int) =>
    (idx pairs2 x13).bind fun e18 =>
    i_Basket_cost_l2 kj16 b1 places5 x13 e18 N sum12 0
    else
    kj10 sum12

def i_Basket_cost (N : Nat) (b1 : Basket) (pairs2 : List (List Int)) (places5 : List Int) : Option Int :=
  withK (fun (sum9 : Int) =>
  some sum9) fun (kj10 : Int → Option Int) =>
  i_Basket_cost_l1 kj10 b1 pairs2 places5 N 0 0

def i_ArrangeCost (N : Nat) (b1 : Basket) (pairs2 : List (List Int)) (places5 : List Int) : Option (Int × Int) :=
  (i_arrangeCode N b1 pairs2 places5).bind fun r9 =>
  bif (r9 != 0) then
  some (0, r9)
  else
  (i_Basket_cost N b1 pairs2 places5).bind fun r12 =>
  some (r12, 0)

def i_ArrangeBound_l2 (kj21 : Int → Option (Int × Int)) (b1 : Basket) (x18 : Int) (e23 : List Int) : Nat → Int → Int → Option (Int × Int)
  | 0, _, _ => none
  | N + 1, sum30, x31 =>
    bif decide (x31 < (List.length e23 : Int)) then
    withK (fun (sum33 : Int) =>
    i_ArrangeBound_l2 kj21 b1 x18 e23 N sum33 (w64 (x31 + 1))) fun (kj34 : Int → Option (Int × Int)) =>
    (idx e23 x31).bind fun e36 =>
    bif (x18 == x31) then
    kj34 (w64 (sum30 + (w64 (e36 * (w64 (b1.rise + b1.fall))))))
    else
    kj34 (w64 (sum30 + (w64 (e36 * b1.clear))))
    else
    kj21 sum30

def i_ArrangeBound_l1 (kj15 : Int → Option (Int × Int)) (b1 : Basket) (pairs2 : List (List Int)) : Nat → Int → Int → Option (Int × Int)
  | 0, _, _ => none
  | N + 1, sum17, x18 =>
    bif decide (x18 < (List.length pairs2 : Int)) then
    withK (fun (sum20 : Int) =>
    i_ArrangeBound_l1 kj15 b1 pairs2 N sum20 (w64 (x18 + 1))) fun (kj21 : Int → Option (Int × Int)) =>
    (idx pairs2 x18).bind fun e23 =>
    i_ArrangeBound_l2 kj21 b1 x18 e23 N sum17 0
    else
    kj15 sum17

def i_ArrangeBound (N : Nat) (b1 : Basket) (pairs2 : List (List Int)) : Option (Int × Int) :=
  (i_ValidBasket b1).bind fun r6 =>
  (orO (!r6) ((i_ValidPairs N pairs2).bind fun r11 =>
  some (!r11))).bind fun t8 =>
  bif t8 then
  some (0, 1)
  else
  withK (fun (sum14 : Int) =>
  some (sum14, 0)) fun (kj15 : Int → Option (Int × Int)) =>
  i_ArrangeBound_l1 kj15 b1 pairs2 N 0 0

def i_MirrorArrange_l1 (kj15 : (List Int) → Option ((List Int) × Int)) (b1 : Basket) (places2 : List Int) : Nat → (List Int) → Int → Option ((List Int) × Int)
  | 0, _, _ => none
  | N + 1, l17, x19 =>
    bif decide (x19 < (List.length places2 : Int)) then
    (idx places2 x19).bind fun e21 =>
    (app l17 [w64 ((w64 (b1.bars - 1)) - e21)]).bind fun l27 =>
    i_MirrorArrange_l1 kj15 b1 places2 N l27 (w64 (x19 + 1))
    else
    kj15 l17

def i_MirrorArrange (N : Nat) (b1 : Basket) (places2 : List Int) : Option ((List Int) × Int) :=
  (i_ValidBasket b1).bind fun r6 =>
  bif !r6 then
  some ([], 1)
  else
  (i_Basket_arranges N b1 places2 1 7).bind fun r9 =>
  bif !r9 then
  some ([], 2)
  else
  withK (fun (l13 : List Int) =>
  some (l13, 0)) fun (kj15 : (List Int) → Option ((List Int) × Int)) =>
  i_MirrorArrange_l1 kj15 b1 places2 N [] 0

def i_swapped (list1 : List Int) (i4 : Int) (k5 : Int) : Option (List Int) :=
  (app [] list1).bind fun l7 =>
  (idx l7 k5).bind fun e10 =>
  (idx l7 i4).bind fun e12 =>
  (idx l7 i4).bind fun e14 =>
  (idx (List.set l7 (Int.toNat i4) e10) k5).bind fun e16 =>
  some (List.set (List.set l7 (Int.toNat i4) e10) (Int.toNat k5) e12)

def i_Basket_bestSwap_l2 (kj26 : Int → Int → Int → Bool → Option (Int × Int × Bool)) (b1 : Basket) (pairs2 : List (List Int)) (places5 : List Int) (x20 : Int) : Nat → Int → Int → Int → Bool → Int → Option (Int × Int × Bool)
  | 0, _, _, _, _, _ => none
  | N + 1, least28, first29, second30, found31, k32 =>
    bif decide (k32 < (List.length places5 : Int)) then
    withK (fun (least34 : Int) (first35 : Int) (second36 : Int) (found37 : Bool) =>
    i_Basket_bestSwap_l2 kj26 b1 pairs2 places5 x20 N least34 first35 second36 found37 (w64 (k32 + 1))) fun (kj38 : Int → Int → Int → Bool → Option (Int × Int × Bool)) =>
    (i_swapped places5 x20 k32).bind fun r40 =>
    (i_Basket_cost N b1 pairs2 r40).bind fun r43 =>
    bif decide (r43 < least28) then
    kj38 r43 x20 k32 true
    else
    kj38 least28 first29 second30 found31
    else
    kj26 least28 first29 second30 found31

def i_Basket_bestSwap_l1 (kj14 : Int → Int → Bool → Option (Int × Int × Bool)) (b1 : Basket) (pairs2 : List (List Int)) (places5 : List Int) : Nat → Int → Int → Int → Bool → Int → Option (Int × Int × Bool)
  | 0, _, _, _, _, _ => none
  | N + 1, least16, first17, second18, found19, x20 =>
    bif decide (x20 < (List.length places5 : Int)) then
    withK (fun (least22 : Int) (first23 : Int) (second24 : Int) (found25 : Bool) =>
    i_Basket_bestSwap_l1 kj14 b1 pairs2 places5 N least22 first23 second24 found25 (w64 (x20 + 1))) fun (kj26 : Int → Int → Int → Bool → Option (Int × Int × Bool)) =>
    i_Basket_bestSwap_l2 kj26 b1 pairs2 places5 x20 N least16 first17 second18 found19 (w64 (x20 + 1))
    else
    kj14 first17 second18 found19

def i_Basket_bestSwap (N : Nat) (b1 : Basket) (pairs2 : List (List Int)) (places5 : List Int) : Option (Int × Int × Bool) :=
  (i_Basket_cost N b1 pairs2 places5).bind fun r9 =>
  withK (fun (first11 : Int) (second12 : Int) (found13 : Bool) =>
  some (first11, second12, found13)) fun (kj14 : Int → Int → Bool → Option (Int × Int × Bool)) =>
  i_Basket_bestSwap_l1 kj14 b1 pairs2 places5 N r9 0 0 false 0

def i_ImproveArrange_l1 (b1 : Basket) (pairs2 : List (List Int)) : Nat → (List Int) → Option ((List Int) × Int)
  | 0, _ => none
  | N + 1, l16 =>
    (i_Basket_bestSwap N b1 pairs2 l16).bind fun r17 =>
    bif !r17.2.2 then
    some (l16, 0)
    else
    (idx l16 r17.2.1).bind fun e20 =>
    (idx l16 r17.1).bind fun e22 =>
    (idx l16 r17.1).bind fun e24 =>
    (idx (List.set l16 (Int.toNat r17.1) e20) r17.2.1).bind fun e26 =>
    i_ImproveArrange_l1 b1 pairs2 N (List.set (List.set l16 (Int.toNat r17.1) e20) (Int.toNat r17.2.1) e22)

def i_ImproveArrange (N : Nat) (b1 : Basket) (pairs2 : List (List Int)) (places5 : List Int) : Option ((List Int) × Int) :=
  (i_arrangeCode N b1 pairs2 places5).bind fun r9 =>
  bif (r9 != 0) then
  some ([], r9)
  else
  (app [] places5).bind fun l13 =>
  i_ImproveArrange_l1 b1 pairs2 N l13

def i_BestSwap (N : Nat) (b1 : Basket) (pairs2 : List (List Int)) (places5 : List Int) : Option (Int × Int × Int) :=
  (i_arrangeCode N b1 pairs2 places5).bind fun r9 =>
  bif (r9 != 0) then
  some (0, 0, r9)
  else
  (i_Basket_bestSwap N b1 pairs2 places5).bind fun r12 =>
  bif !r12.2.2 then
  some (0, 0, 3)
  else
  some (r12.1, r12.2.1, 0)

def i_SwapLetters (N : Nat) (b1 : Basket) (places2 : List Int) (i5 : Int) (k6 : Int) : Option ((List Int) × Int) :=
  (i_ValidBasket b1).bind fun r8 =>
  bif !r8 then
  some ([], 1)
  else
  (i_Basket_arranges N b1 places2 1 7).bind fun r11 =>
  (orO (!r11) ((i_between i5 0 (w64 ((List.length places2 : Int) - 1))).bind fun r16 =>
  some (!r16))).bind fun t13 =>
  (orO t13 ((i_between k6 0 (w64 ((List.length places2 : Int) - 1))).bind fun r21 =>
  some (!r21))).bind fun t18 =>
  bif t18 then
  some ([], 2)
  else
  (i_swapped places2 i5 k6).bind fun r24 =>
  some (r24, 0)

def w_a2Same_l1 (kj8 : Option Bool) (a1 : List Int) (b4 : List Int) : Nat → Int → Option Bool
  | 0, _ => none
  | N + 1, i10 =>
    bif decide (i10 < (List.length a1 : Int)) then
    (idx a1 i10).bind fun e12 =>
    (idx b4 i10).bind fun e17 =>
    bif (e12 != e17) then
    some false
    else
    w_a2Same_l1 kj8 a1 b4 N (w64 (i10 + 1))
    else
    kj8 

def w_a2Same (N : Nat) (a1 : List Int) (b4 : List Int) : Option Bool :=
  bif ((List.length a1 : Int) != (List.length b4 : Int)) then
  some false
  else
  withK (some true) fun (kj8 : Option Bool) =>
  w_a2Same_l1 kj8 a1 b4 N 0

def w_FnArrangements (N : Nat) (code1 : List UInt8) (more4 : List UInt8) : Option Bool :=
  (w_a2Long code1 more4).bind fun r7 =>
  bif r7 then
  some true
  else
  (s_A2Basket code1).bind fun r10 =>
  (s_A2Pairs N more4).bind fun r13 =>
  (s_A2Places N code1 (List.length r13 : Int)).bind fun r17 =>
  (i_ArrangeCost N r10 r13 r17).bind fun r20 =>
  (i_ArrangeBound N r10 r13).bind fun r22 =>
  (i_MirrorArrange N r10 r17).bind fun r24 =>
  (i_ArrangeCost N r10 r13 r24.1).bind fun r27 =>
  (i_ImproveArrange N r10 r13 r17).bind fun r29 =>
  (i_ArrangeCost N r10 r13 r29.1).bind fun r32 =>
  (i_BestSwap N r10 r13 r29.1).bind fun r34 =>
  (orO (r20.2 != 0) (some (r22.2 != 0))).bind fun t36 =>
  (orO t36 (some (decide (r22.1 > r20.1)))).bind fun t39 =>
  (orO t39 (some (r24.2 != 0))).bind fun t42 =>
  (orO t42 (some (r27.2 != 0))).bind fun t45 =>
  (orO t45 (some (r27.1 != r20.1))).bind fun t48 =>
  (orO t48 (some (r29.2 != 0))).bind fun t51 =>
  (orO t51 (some (r32.2 != 0))).bind fun t54 =>
  (orO t54 (some (decide (r32.1 > r20.1)))).bind fun t57 =>
  (orO t57 (some (r34.2.2 != 3))).bind fun t60 =>
  bif t60 then
  some false
  else
  (i_BestSwap N r10 r13 r17).bind fun r64 =>
  bif (r64.2.2 != 0) then
  (andO (r64.2.2 == 3) (some (r32.1 == r20.1))).bind fun t67 =>
  some t67
  else
  (orO (decide (r64.1 < 0)) (some (decide (r64.2.1 ≤ r64.1)))).bind fun t70 =>
  (orO t70 (some (decide (r64.2.1 ≥ (List.length r17 : Int))))).bind fun t73 =>
  bif t73 then
  some false
  else
  (i_SwapLetters N r10 r17 r64.1 r64.2.1).bind fun r77 =>
  (i_ArrangeCost N r10 r13 r77.1).bind fun r80 =>
  (i_SwapLetters N r10 r77.1 r64.1 r64.2.1).bind fun r82 =>
  (andO (r77.2 == 0) (some (r80.2 == 0))).bind fun t85 =>
  (andO t85 (some (decide (r80.1 < r20.1)))).bind fun t88 =>
  (andO t88 (some (decide (r32.1 ≤ r80.1)))).bind fun t91 =>
  (andO t91 (some (r82.2 == 0))).bind fun t94 =>
  (andO t94 ((w_a2Same N r82.1 r17).bind fun r100 =>
  some r100)).bind fun t97 =>
  some t97

end Go.Proofs.Ytjnijhdhniemnaa
