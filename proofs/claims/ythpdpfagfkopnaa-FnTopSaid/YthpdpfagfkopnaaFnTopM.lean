/-
  Plain functions that compute what the Go functions compute. No conditions.
-/
import Derived.Test.YthpdpfagfkopnaaBase2
namespace Go.Proofs.Ythpdpfagfkopnaa
set_option linter.unusedVariables false
set_option linter.unusedSimpArgs false

structure Basket where
  bars : Int
  rise : Int
  fall : Int
  clear : Int
  near : Int

def Basket.beq (x y : Basket) : Bool := x.bars == y.bars && (x.rise == y.rise && (x.fall == y.fall && (x.clear == y.clear && (x.near == y.near))))

structure L00Src where
  code : List UInt8
  at_ : Int
  seed : Int



def w_a2Long (code1 : List UInt8) (more4 : List UInt8) : Option Bool :=
  (orO (decide ((List.length code1 : Int) > 3000)) (some (decide ((List.length more4 : Int) > 3000)))).bind fun t7 =>
  some t7

def s_l00From (code1 : List UInt8) : Option L00Src :=
  some (L00Src.mk code1 0 0)

def s_l00Src_next (s1 : L00Src) : Option (Int × L00Src) :=
  withK (fun (b5 : Int) =>
  bif decide ((w64 (s1.at_ + 1)) ≤ (List.length s1.code : Int)) then
  some (b5, (L00Src.mk s1.code (w64 (s1.at_ + 1)) (IntKind.u64.wrap ((IntKind.u64.wrap ((IntKind.u64.wrap (s1.seed * 6364136223846793005)) + (IntKind.u64.wrap b5))) + 1442695040888963407))))
  else
  some (w64 (uand (ushr (IntKind.u64.wrap ((IntKind.u64.wrap ((IntKind.u64.wrap (s1.seed * 6364136223846793005)) + (IntKind.u64.wrap b5))) + 1442695040888963407)) 40) 255), (L00Src.mk s1.code (w64 (s1.at_ + 1)) (IntKind.u64.wrap ((IntKind.u64.wrap ((IntKind.u64.wrap (s1.seed * 6364136223846793005)) + (IntKind.u64.wrap b5))) + 1442695040888963407))))) fun (kj6 : Int → Option (Int × L00Src)) =>
  bif decide (s1.at_ < (List.length s1.code : Int)) then
  (idx s1.code s1.at_).bind fun e9 =>
  kj6 (UInt8.toNat e9 : Int)
  else
  kj6 0

def s_l00Src_pick (s1 : L00Src) (n5 : Int) : Option (Int × L00Src) :=
  bif decide (n5 ≤ 1) then
  some (0, (L00Src.mk s1.code s1.at_ s1.seed))
  else
  (s_l00Src_next (L00Src.mk s1.code s1.at_ s1.seed)).bind fun r7 =>
  withK (fun (x9 : Int) (x10 : Int) (x11 : Int) =>
  (remO x11 n5).bind fun q17 =>
  some (q17, (L00Src.mk s1.code x9 x10))) fun (kj12 : Int → Int → Int → Option (Int × L00Src)) =>
  bif decide (n5 > 200) then
  (s_l00Src_next (L00Src.mk s1.code r7.2.at_ r7.2.seed)).bind fun r15 =>
  kj12 r15.2.at_ r15.2.seed (w64 ((w64 (r7.1 * 256)) + r15.1))
  else
  kj12 r7.2.at_ r7.2.seed r7.1

def s_l03Draw (s1 : L00Src) : Option (Basket × L00Src) :=
  (s_l00Src_pick (L00Src.mk s1.code s1.at_ s1.seed) 10).bind fun r6 =>
  (s_l00Src_pick (L00Src.mk s1.code r6.2.at_ r6.2.seed) 6).bind fun r9 =>
  (s_l00Src_pick (L00Src.mk s1.code r9.2.at_ r9.2.seed) 6).bind fun r11 =>
  (s_l00Src_pick (L00Src.mk s1.code r11.2.at_ r11.2.seed) 4).bind fun r13 =>
  (s_l00Src_pick (L00Src.mk s1.code r13.2.at_ r13.2.seed) 6).bind fun r15 =>
  some ((Basket.mk ((Basket.mk (w64 (2 + r6.1)) 0 0 0 0).bars) (w64 (1 + r9.1)) (w64 (1 + r11.1)) (w64 (1 + r13.1)) r15.1), (L00Src.mk s1.code r15.2.at_ r15.2.seed))

def s_A2Basket (code1 : List UInt8) : Option Basket :=
  (s_l00From code1).bind fun r5 =>
  (s_l03Draw (L00Src.mk code1 r5.at_ r5.seed)).bind fun r8 =>
  some (Basket.mk (w64 (r8.1.bars + 5)) r8.1.rise r8.1.fall r8.1.clear r8.1.near)

def s_l00Src_one (s1 : L00Src) (n5 : Int) : Option (Bool × L00Src) :=
  (s_l00Src_pick (L00Src.mk s1.code s1.at_ s1.seed) n5).bind fun r6 =>
  some ((r6.1 == 0), (L00Src.mk s1.code r6.2.at_ r6.2.seed))

def s_l05Draw_l2 (kj33 : (List Int) → Int → Int → Option ((List (List Int)) × L00Src)) (s1 : L00Src) (n5 : Int) : Nat → (List Int) → Int → Int → Int → Option ((List (List Int)) × L00Src)
  | 0, _, _, _, _ => none
  | N + 1, l35, x37, x38, k39 =>
    bif decide (k39 < n5) then
    withK (fun (x41 : Int) (x42 : Int) (l43 : List Int) =>
    s_l05Draw_l2 kj33 s1 n5 N l43 x41 x42 (w64 (k39 + 1))) fun (kj45 : Int → Int → (List Int) → Option ((List (List Int)) × L00Src)) =>
    (s_l00Src_one (L00Src.mk s1.code x37 x38) 2).bind fun r47 =>
    bif r47.1 then
    (app l35 [0]).bind fun l51 =>
    kj45 r47.2.at_ r47.2.seed l51
    else
    (s_l00Src_pick (L00Src.mk s1.code r47.2.at_ r47.2.seed) 20).bind fun r54 =>
    (app l35 [r54.1]).bind fun l57 =>
    kj45 r54.2.at_ r54.2.seed l57
    else
    kj33 l35 x37 x38

def s_l05Draw_l1 (kj12 : (List (List Int)) → Int → Int → Option ((List (List Int)) × L00Src)) (s1 : L00Src) (n5 : Int) : Nat → (List (List Int)) → Int → Int → Int → Option ((List (List Int)) × L00Src)
  | 0, _, _, _, _ => none
  | N + 1, l14, x17, x18, i19 =>
    bif decide (i19 < n5) then
    withK (fun (l21 : List (List Int)) (x24 : Int) (x25 : Int) =>
    s_l05Draw_l1 kj12 s1 n5 N l21 x24 x25 (w64 (i19 + 1))) fun (kj26 : (List (List Int)) → Int → Int → Option ((List (List Int)) × L00Src)) =>
    withK (fun (l29 : List Int) (x31 : Int) (x32 : Int) =>
    (app l14 ([l29] : List (List Int))).bind fun l64 =>
    kj26 l64 x31 x32) fun (kj33 : (List Int) → Int → Int → Option ((List (List Int)) × L00Src)) =>
    s_l05Draw_l2 kj33 s1 n5 N [] x17 x18 0
    else
    kj12 l14 x17 x18

def s_l05Draw (N : Nat) (s1 : L00Src) (n5 : Int) : Option ((List (List Int)) × L00Src) :=
  withK (fun (l7 : List (List Int)) (x10 : Int) (x11 : Int) =>
  some (l7, (L00Src.mk s1.code x10 x11))) fun (kj12 : (List (List Int)) → Int → Int → Option ((List (List Int)) × L00Src)) =>
  s_l05Draw_l1 kj12 s1 n5 N ([] : List (List Int)) s1.at_ s1.seed 0

def s_A2Pairs (N : Nat) (code1 : List UInt8) : Option (List (List Int)) :=
  (s_l00From code1).bind fun r4 =>
  (s_l00Src_pick (L00Src.mk code1 r4.at_ r4.seed) 4).bind fun r7 =>
  (s_l05Draw N (L00Src.mk code1 r7.2.at_ r7.2.seed) (w64 (2 + r7.1))).bind fun r9 =>
  some r9.1

def i_between (n1 : Int) (low2 : Int) (high3 : Int) : Option Bool :=
  (andO (decide (n1 ≥ low2)) (some (decide (n1 ≤ high3)))).bind fun t4 =>
  some t4

def i_ValidBasket (b1 : Basket) : Option Bool :=
  (i_between b1.bars 2 60).bind fun r3 =>
  (andO r3 ((i_between b1.rise 1 100).bind fun r8 =>
  some r8)).bind fun t5 =>
  (andO t5 ((i_between b1.fall 1 100).bind fun r13 =>
  some r13)).bind fun t10 =>
  (andO t10 ((i_between b1.clear 1 100).bind fun r18 =>
  some r18)).bind fun t15 =>
  (andO t15 ((i_between b1.near 0 100).bind fun r23 =>
  some r23)).bind fun t20 =>
  some t20

def i_ValidPairs_l2 (kj11 : Option Bool) (e13 : List Int) : Nat → Int → Option Bool
  | 0, _ => none
  | N + 1, x21 =>
    bif decide (x21 < (List.length e13 : Int)) then
    (idx e13 x21).bind fun e23 =>
    (i_between e23 0 1000).bind fun r28 =>
    bif !r28 then
    some false
    else
    i_ValidPairs_l2 kj11 e13 N (w64 (x21 + 1))
    else
    kj11 

def i_ValidPairs_l1 (kj7 : Option Bool) (pairs1 : List (List Int)) : Nat → Int → Option Bool
  | 0, _ => none
  | N + 1, x9 =>
    bif decide (x9 < (List.length pairs1 : Int)) then
    withK (i_ValidPairs_l1 kj7 pairs1 N (w64 (x9 + 1))) fun (kj11 : Option Bool) =>
    (idx pairs1 x9).bind fun e13 =>
    bif ((List.length e13 : Int) != (List.length pairs1 : Int)) then
    some false
    else
    i_ValidPairs_l2 kj11 e13 N 0
    else
    kj7 

def i_ValidPairs (N : Nat) (pairs1 : List (List Int)) : Option Bool :=
  (i_between (List.length pairs1 : Int) 2 7).bind fun r4 =>
  bif !r4 then
  some false
  else
  withK (some true) fun (kj7 : Option Bool) =>
  i_ValidPairs_l1 kj7 pairs1 N 0

def i_absolute (n1 : Int) : Option Int :=
  bif decide (n1 < 0) then
  some (w64 (0 - n1))
  else
  some n1

def i_Basket_waits (b1 : Basket) (first2 : Int) (second3 : Int) : Option Int :=
  bif (first2 == second3) then
  some (w64 (b1.rise + b1.fall))
  else
  (i_absolute (w64 (first2 - second3))).bind fun r6 =>
  some (w64 (b1.clear + (imax (w64 (b1.near - r6)) 0)))

def i_Basket_cost_l2 (kj16 : Int → Option Int) (b1 : Basket) (places5 : List Int) (x13 : Int) (e18 : List Int) : Nat → Int → Int → Option Int
  | 0, _, _ => none
  | N + 1, sum25, x26 =>
    bif decide (x26 < (List.length e18 : Int)) then
    (idx e18 x26).bind fun e28 =>
    (idx places5 x13).bind fun e33 =>
    (idx places5 x26).bind fun e38 =>
    (i_Basket_waits b1 e33 e38).bind fun r43 =>
    i_Basket_cost_l2 kj16 b1 places5 x13 e18 N (w64 (sum25 + (w64 (e28 * r43)))) (w64 (x26 + 1))
    else
    kj16 sum25

def i_Basket_cost_l1 (kj10 : Int → Option Int) (b1 : Basket) (pairs2 : List (List Int)) (places5 : List Int) : Nat → Int → Int → Option Int
  | 0, _, _ => none
  | N + 1, sum12, x13 =>
    bif decide (x13 < (List.length pairs2 : Int)) then
    withK (fun (sum15 : Int) =>
    i_Basket_cost_l1 kj10 b1 pairs2 places5 N sum15 (w64 (x13 + 1))) fun (kj16 : Int → Option Int) =>
    (idx pairs2 x13).bind fun e18 =>
    i_Basket_cost_l2 kj16 b1 places5 x13 e18 N sum12 0
    else
    kj10 sum12

def i_Basket_cost (N : Nat) (b1 : Basket) (pairs2 : List (List Int)) (places5 : List Int) : Option Int :=
  withK (fun (sum9 : Int) =>
  some sum9) fun (kj10 : Int → Option Int) =>
  i_Basket_cost_l1 kj10 b1 pairs2 places5 N 0 0

def i_nextPermutation_l1 (kj4 : Int → Option (Bool × (List Int))) (list1 : List Int) : Nat → Int → Option (Bool × (List Int))
  | 0, _ => none
  | N + 1, i6 =>
    (andO (decide (i6 ≥ 0)) ((idx list1 i6).bind fun e10 =>
    (idx list1 (w64 (i6 + 1))).bind fun e12 =>
    some (decide (e10 ≥ e12)))).bind fun t7 =>
    bif t7 then
    i_nextPermutation_l1 kj4 list1 N (w64 (i6 - 1))
    else
    kj4 i6

def i_nextPermutation_l2 (kj17 : Int → Option (Bool × (List Int))) (list1 : List Int) (i3 : Int) : Nat → Int → Option (Bool × (List Int))
  | 0, _ => none
  | N + 1, k19 =>
    (idx list1 k19).bind fun e20 =>
    (idx list1 i3).bind fun e22 =>
    bif decide (e20 ≤ e22) then
    i_nextPermutation_l2 kj17 list1 i3 N (w64 (k19 - 1))
    else
    kj17 k19

def i_nextPermutation_l3 (kj35 : (List Int) → Option (Bool × (List Int))) : Nat → (List Int) → Int → Int → Option (Bool × (List Int))
  | 0, _, _, _ => none
  | N + 1, l37, a38, b39 =>
    bif decide (a38 < b39) then
    (idx l37 b39).bind fun e41 =>
    (idx l37 a38).bind fun e43 =>
    (idx l37 a38).bind fun e45 =>
    (idx (List.set l37 (Int.toNat a38) e41) b39).bind fun e47 =>
    i_nextPermutation_l3 kj35 N (List.set (List.set l37 (Int.toNat a38) e41) (Int.toNat b39) e43) (w64 (a38 + 1)) (w64 (b39 - 1))
    else
    kj35 l37

def i_nextPermutation (N : Nat) (list1 : List Int) : Option (Bool × (List Int)) :=
  withK (fun (i3 : Int) =>
  bif decide (i3 < 0) then
  some (false, list1)
  else
  withK (fun (k16 : Int) =>
  (idx list1 k16).bind fun e25 =>
  (idx list1 i3).bind fun e27 =>
  (idx list1 i3).bind fun e29 =>
  (idx (List.set list1 (Int.toNat i3) e25) k16).bind fun e31 =>
  withK (fun (l34 : List Int) =>
  some (true, l34)) fun (kj35 : (List Int) → Option (Bool × (List Int))) =>
  i_nextPermutation_l3 kj35 N (List.set (List.set list1 (Int.toNat i3) e25) (Int.toNat k16) e27) (w64 (i3 + 1)) (w64 ((List.length (List.set (List.set list1 (Int.toNat i3) e25) (Int.toNat k16) e27) : Int) - 1))) fun (kj17 : Int → Option (Bool × (List Int))) =>
  i_nextPermutation_l2 kj17 list1 i3 N (w64 ((List.length list1 : Int) - 1))) fun (kj4 : Int → Option (Bool × (List Int))) =>
  i_nextPermutation_l1 kj4 list1 N (w64 ((List.length list1 : Int) - 2))

def i_BestArrange_l1 (kj18 : (List Int) → Option ((List Int) × Int × Int)) (pairs2 : List (List Int)) : Nat → (List Int) → Int → Option ((List Int) × Int × Int)
  | 0, _, _ => none
  | N + 1, l20, x22 =>
    bif decide (x22 < (List.length pairs2 : Int)) then
    (app l20 [x22]).bind fun l25 =>
    i_BestArrange_l1 kj18 pairs2 N l25 (w64 (x22 + 1))
    else
    kj18 l20

def i_BestArrange_l2 (kj37 : (List Int) → Int → Option ((List Int) × Int × Int)) (b1 : Basket) (pairs2 : List (List Int)) : Nat → (List Int) → (List Int) → Int → Option ((List Int) × Int × Int)
  | 0, _, _, _ => none
  | N + 1, l39, l41, least42 =>
    (i_nextPermutation N l41).bind fun r43 =>
    bif r43.1 then
    (i_Basket_cost N b1 pairs2 r43.2).bind fun r46 =>
    bif decide (r46 < least42) then
    (app [] r43.2).bind fun l50 =>
    i_BestArrange_l2 kj37 b1 pairs2 N l50 r43.2 r46
    else
    i_BestArrange_l2 kj37 b1 pairs2 N l39 r43.2 least42
    else
    kj37 l39 least42

def i_BestArrange (N : Nat) (b1 : Basket) (pairs2 : List (List Int)) : Option ((List Int) × Int × Int) :=
  (i_ValidBasket b1).bind fun r6 =>
  (orO (!r6) ((i_ValidPairs N pairs2).bind fun r11 =>
  some (!r11))).bind fun t8 =>
  bif t8 then
  some ([], 0, 1)
  else
  bif decide (b1.bars < (List.length pairs2 : Int)) then
  some ([], 0, 5)
  else
  withK (fun (l16 : List Int) =>
  (app [] l16).bind fun l29 =>
  (i_Basket_cost N b1 pairs2 l16).bind fun r32 =>
  withK (fun (l34 : List Int) (least36 : Int) =>
  some (l34, least36, 0)) fun (kj37 : (List Int) → Int → Option ((List Int) × Int × Int)) =>
  i_BestArrange_l2 kj37 b1 pairs2 N l29 l16 r32) fun (kj18 : (List Int) → Option ((List Int) × Int × Int)) =>
  i_BestArrange_l1 kj18 pairs2 N [] 0

def i_Basket_hasBar (b1 : Basket) (bar2 : Int) : Option Bool :=
  (i_between bar2 0 (w64 (b1.bars - 1))).bind fun r4 =>
  some r4

def i_Basket_arranges_l1 (kj13 : Option Bool) (b1 : Basket) (places2 : List Int) : Nat → (List (Int × Bool)) → Int → Option Bool
  | 0, _, _ => none
  | N + 1, mp15, x16 =>
    bif decide (x16 < (List.length places2 : Int)) then
    (idx places2 x16).bind fun e18 =>
    (i_Basket_hasBar b1 e18).bind fun r23 =>
    (orO (!r23) (some (mgetI mp15 e18))).bind fun t25 =>
    bif t25 then
    some false
    else
    i_Basket_arranges_l1 kj13 b1 places2 N (msetI mp15 e18 true) (w64 (x16 + 1))
    else
    kj13 

def i_Basket_arranges (N : Nat) (b1 : Basket) (places2 : List Int) (least5 : Int) (most6 : Int) : Option Bool :=
  (orO (decide ((List.length places2 : Int) < least5)) (some (decide ((List.length places2 : Int) > most6)))).bind fun t8 =>
  bif t8 then
  some false
  else
  withK (some true) fun (kj13 : Option Bool) =>
  i_Basket_arranges_l1 kj13 b1 places2 N [] 0

def i_arrangeCode (N : Nat) (b1 : Basket) (pairs2 : List (List Int)) (places5 : List Int) : Option Int :=
  (i_ValidBasket b1).bind fun r9 =>
  (orO (!r9) ((i_ValidPairs N pairs2).bind fun r14 =>
  some (!r14))).bind fun t11 =>
  bif t11 then
  some 1
  else
  (i_Basket_arranges N b1 places5 (List.length pairs2 : Int) (List.length pairs2 : Int)).bind fun r17 =>
  bif !r17 then
  some 2
  else
  some 0

def i_ArrangeCost (N : Nat) (b1 : Basket) (pairs2 : List (List Int)) (places5 : List Int) : Option (Int × Int) :=
  (i_arrangeCode N b1 pairs2 places5).bind fun r9 =>
  bif (r9 != 0) then
  some (0, r9)
  else
  (i_Basket_cost N b1 pairs2 places5).bind fun r12 =>
  some (r12, 0)

def s_l00Own (list1 : List Int) : Option (List Int) :=
  (app [] list1).bind fun l5 =>
  some l5

def s_A2Places_l1 (kj11 : (List Int) → Option (List Int)) (code1 : List UInt8) (n4 : Int) : Nat → (List Int) → Int → Int → Int → Option (List Int)
  | 0, _, _, _, _ => none
  | N + 1, l13, x15, x16, i17 =>
    bif decide (i17 < n4) then
    (s_l00Src_pick (L00Src.mk code1 x15 x16) (w64 ((List.length l13 : Int) + 1))).bind fun r19 =>
    (sub l13 0 r19.1).bind fun l21 =>
    (s_l00Own l21).bind fun r23 =>
    (app r23 [i17]).bind fun l27 =>
    (sub l13 r19.1 (List.length l13 : Int)).bind fun l30 =>
    (app l27 l30).bind fun l32 =>
    s_A2Places_l1 kj11 code1 n4 N l32 r19.2.at_ r19.2.seed (w64 (i17 + 1))
    else
    kj11 l13

def s_A2Places (N : Nat) (code1 : List UInt8) (n4 : Int) : Option (List Int) :=
  (s_l00From code1).bind fun r5 =>
  withK (fun (l9 : List Int) =>
  some l9) fun (kj11 : (List Int) → Option (List Int)) =>
  s_A2Places_l1 kj11 code1 n4 N [] r5.at_ r5.seed 0

def s_A2Row_l2 (kj30 : Int → Int → (List UInt8) → Option Str) (r32 : Int × L00Src) : Nat → (List UInt8) → Int → Option Str
  | 0, _, _ => none
  | N + 1, l34, n36 =>
    bif decide (n36 > 0) then
    (app l34 [32]).bind fun l39 =>
    s_A2Row_l2 kj30 r32 N l39 (w64 (n36 - 1))
    else
    kj30 r32.2.at_ r32.2.seed l34

def s_A2Row_l1 (kj10 : (List UInt8) → Option Str) (code1 : List UInt8) : Nat → Int → Int → (List UInt8) → Int → Option Str
  | 0, _, _, _, _ => none
  | N + 1, x14, x15, l16, k18 =>
    bif decide (k18 > 0) then
    withK (fun (x20 : Int) (x21 : Int) (l22 : List UInt8) =>
    s_A2Row_l1 kj10 code1 N x20 x21 l22 (w64 (k18 - 1))) fun (kj24 : Int → Int → (List UInt8) → Option Str) =>
    withK (fun (x26 : Int) (x27 : Int) (l28 : List UInt8) =>
    (s_l00Src_pick (L00Src.mk code1 x26 x27) 6).bind fun r42 =>
    (idx [97, 98, 99, 39, 35, 62] r42.1).bind fun c44 =>
    (app l28 [c44]).bind fun l47 =>
    kj24 r42.2.at_ r42.2.seed l47) fun (kj30 : Int → Int → (List UInt8) → Option Str) =>
    (s_l00Src_pick (L00Src.mk code1 x14 x15) 7).bind fun r32 =>
    s_A2Row_l2 kj30 r32 N l16 r32.1
    else
    kj10 l16

def s_A2Row (N : Nat) (code1 : List UInt8) : Option Str :=
  (s_l00From code1).bind fun r4 =>
  withK (fun (l8 : List UInt8) =>
  some l8) fun (kj10 : (List UInt8) → Option Str) =>
  (s_l00Src_pick (L00Src.mk code1 r4.at_ r4.seed) 4).bind fun r12 =>
  s_A2Row_l1 kj10 code1 N r12.2.at_ r12.2.seed [] r12.1

def s_A2Stops_l1 (kj10 : (List Int) → Option (List Int)) (code1 : List UInt8) : Nat → Int → Int → (List Int) → Int → Int → Option (List Int)
  | 0, _, _, _, _, _ => none
  | N + 1, x14, x15, l16, at18, k19 =>
    bif decide (k19 > 0) then
    (s_l00Src_pick (L00Src.mk code1 x14 x15) 7).bind fun r21 =>
    (app l16 [w64 (at18 + (w64 (1 + r21.1)))]).bind fun l24 =>
    s_A2Stops_l1 kj10 code1 N r21.2.at_ r21.2.seed l24 (w64 (at18 + (w64 (1 + r21.1)))) (w64 (k19 - 1))
    else
    kj10 l16

def s_A2Stops (N : Nat) (code1 : List UInt8) : Option (List Int) :=
  (s_l00From code1).bind fun r4 =>
  withK (fun (l8 : List Int) =>
  some l8) fun (kj10 : (List Int) → Option (List Int)) =>
  (s_l00Src_pick (L00Src.mk code1 r4.at_ r4.seed) 4).bind fun r12 =>
  s_A2Stops_l1 kj10 code1 N r12.2.at_ r12.2.seed [] 0 r12.1

def i_ValidStops_l1 (kj5 : Option Bool) (stops1 : List Int) : Nat → Int → Option Bool
  | 0, _ => none
  | N + 1, x7 =>
    bif decide (x7 < (List.length stops1 : Int)) then
    (idx stops1 x7).bind fun e9 =>
    (i_between e9 1 30).bind fun r14 =>
    (orO (!r14) ((andO (decide (x7 > 0)) ((idx stops1 (w64 (x7 - 1))).bind fun e22 =>
    some (decide (e9 ≤ e22)))).bind fun t19 =>
    some t19)).bind fun t16 =>
    bif t16 then
    some false
    else
    i_ValidStops_l1 kj5 stops1 N (w64 (x7 + 1))
    else
    kj5 

def i_ValidStops (N : Nat) (stops1 : List Int) : Option Bool :=
  bif decide ((List.length stops1 : Int) > 6) then
  some false
  else
  withK (some true) fun (kj5 : Option Bool) =>
  i_ValidStops_l1 kj5 stops1 N 0

def i_isText_l1 (kj5 : Option Bool) (s1 : Str) (low2 : UInt8) : Nat → Int → Option Bool
  | 0, _ => none
  | N + 1, x7 =>
    bif decide (x7 < (List.length s1 : Int)) then
    (idx s1 x7).bind fun c9 =>
    (orO (decide (c9 < low2)) ((idx s1 x7).bind fun c14 =>
    some (decide (c14 > (126 : UInt8))))).bind fun t11 =>
    bif t11 then
    some false
    else
    i_isText_l1 kj5 s1 low2 N (w64 (x7 + 1))
    else
    kj5 

def i_isText (N : Nat) (s1 : Str) (low2 : UInt8) (most3 : Int) : Option Bool :=
  bif decide ((List.length s1 : Int) > most3) then
  some false
  else
  withK (some true) fun (kj5 : Option Bool) =>
  i_isText_l1 kj5 s1 low2 N 0

def i_isRow (N : Nat) (row1 : Str) : Option Bool :=
  (i_isText N row1 32 30).bind fun r2 =>
  (andO r2 ((orO (row1 == []) ((idx row1 (w64 ((List.length row1 : Int) - 1))).bind fun c10 =>
  some (c10 != (32 : UInt8)))).bind fun t7 =>
  some t7)).bind fun t4 =>
  some t4

def i_moved_l1 (kj8 : Option (Int × Bool)) (stops1 : List Int) (column4 : Int) : Nat → Int → Option (Int × Bool)
  | 0, _ => none
  | N + 1, x10 =>
    bif decide (x10 < (List.length stops1 : Int)) then
    (idx stops1 x10).bind fun e12 =>
    bif decide (e12 > column4) then
    some (e12, true)
    else
    i_moved_l1 kj8 stops1 column4 N (w64 (x10 + 1))
    else
    kj8 

def i_moved (N : Nat) (stops1 : List Int) (column4 : Int) (move5 : UInt8) : Option (Int × Bool) :=
  bif (move5 == (62 : UInt8)) then
  some (w64 (column4 + 1), decide (column4 < 30))
  else
  bif (move5 == (60 : UInt8)) then
  some (w64 (column4 - 1), decide (column4 > 0))
  else
  withK (some (0, false)) fun (kj8 : Option (Int × Bool)) =>
  i_moved_l1 kj8 stops1 column4 N 0

def i_distances_l1 (kj8 : (List Int) → Option (List Int)) : Nat → (List Int) → Int → Option (List Int)
  | 0, _, _ => none
  | N + 1, l10, x11 =>
    bif decide (x11 < 31) then
    (idx l10 x11).bind fun e13 =>
    i_distances_l1 kj8 N (List.set l10 (Int.toNat x11) (-1)) (w64 (x11 + 1))
    else
    kj8 l10

def i_distances_l4 (kj40 : (List Int) → Option (List Int)) (stops1 : List Int) (far22 : Int) (x30 : Int) : Nat → (List Int) → Int → Option (List Int)
  | 0, _, _ => none
  | N + 1, l43, x44 =>
    bif decide (x44 < (List.length [35, 60, 62] : Int)) then
    withK (fun (l46 : List Int) =>
    i_distances_l4 kj40 stops1 far22 x30 N l46 (w64 (x44 + 1))) fun (kj47 : (List Int) → Option (List Int)) =>
    (idx [35, 60, 62] x44).bind fun e49 =>
    (i_moved N stops1 x30 e49).bind fun r51 =>
    (andO r51.2 ((idx l43 r51.1).bind fun e56 =>
    some (e56 == far22))).bind fun t53 =>
    bif t53 then
    (idx l43 x30).bind fun e59 =>
    kj47 (List.set l43 (Int.toNat x30) (w64 (far22 + 1)))
    else
    kj47 l43
    else
    kj40 l43

def i_distances_l3 (kj26 : (List Int) → Bool → Option (List Int)) (stops1 : List Int) (far22 : Int) : Nat → (List Int) → Bool → Int → Option (List Int)
  | 0, _, _, _ => none
  | N + 1, l28, changed29, x30 =>
    bif decide (x30 < 31) then
    withK (fun (l32 : List Int) (changed33 : Bool) =>
    i_distances_l3 kj26 stops1 far22 N l32 changed33 (w64 (x30 + 1))) fun (kj34 : (List Int) → Bool → Option (List Int)) =>
    (idx l28 x30).bind fun e36 =>
    bif decide (e36 ≥ 0) then
    kj34 l28 changed29
    else
    withK (fun (l39 : List Int) =>
    (orO changed29 ((idx l39 x30).bind fun e64 =>
    some (decide (e64 ≥ 0)))).bind fun t61 =>
    kj34 l39 t61) fun (kj40 : (List Int) → Option (List Int)) =>
    i_distances_l4 kj40 stops1 far22 x30 N l28 0
    else
    kj26 l28 changed29

def i_distances_l2 (kj18 : (List Int) → Option (List Int)) (stops1 : List Int) : Nat → (List Int) → Bool → Int → Option (List Int)
  | 0, _, _, _ => none
  | N + 1, l20, changed21, far22 =>
    bif changed21 then
    withK (fun (l24 : List Int) (changed25 : Bool) =>
    i_distances_l2 kj18 stops1 N l24 changed25 (w64 (far22 + 1))) fun (kj26 : (List Int) → Bool → Option (List Int)) =>
    i_distances_l3 kj26 stops1 far22 N l20 false 0
    else
    kj18 l20

def i_distances (N : Nat) (stops1 : List Int) (to4 : Int) : Option (List Int) :=
  withK (fun (l7 : List Int) =>
  (idx l7 to4).bind fun e15 =>
  withK (fun (l17 : List Int) =>
  (chkA 31 l17).bind fun l66 =>
  some l17) fun (kj18 : (List Int) → Option (List Int)) =>
  i_distances_l2 kj18 stops1 N (List.set l7 (Int.toNat to4) 0) true 0) fun (kj8 : (List Int) → Option (List Int)) =>
  i_distances_l1 kj8 N (List.replicate 31 (0 : Int)) 0

def i_planBetween_l2 (kj22 : (List UInt8) → Int → Option Str) (stops1 : List Int) (r6 : (List Int)) : Nat → (List UInt8) → Int → Int → Option Str
  | 0, _, _, _ => none
  | N + 1, l26, from28, x29 =>
    bif decide (x29 < (List.length [35, 60, 62] : Int)) then
    (idx [35, 60, 62] x29).bind fun e31 =>
    (i_moved N stops1 from28 e31).bind fun r33 =>
    (andO r33.2 ((idx r6 r33.1).bind fun e38 =>
    (idx r6 from28).bind fun e40 =>
    some (e38 == (w64 (e40 - 1))))).bind fun t35 =>
    bif t35 then
    (app l26 [e31]).bind fun l44 =>
    kj22 l44 r33.1
    else
    i_planBetween_l2 kj22 stops1 r6 N l26 from28 (w64 (x29 + 1))
    else
    kj22 l26 from28

def i_planBetween_l1 (kj14 : (List UInt8) → Option Str) (stops1 : List Int) (to5 : Int) (r6 : (List Int)) : Nat → (List UInt8) → Int → Option Str
  | 0, _, _ => none
  | N + 1, l16, from18 =>
    withK (fun (l19 : List UInt8) (from21 : Int) =>
    i_planBetween_l1 kj14 stops1 to5 r6 N l19 from21) fun (kj22 : (List UInt8) → Int → Option Str) =>
    bif (from18 != to5) then
    i_planBetween_l2 kj22 stops1 r6 N l16 from18 0
    else
    kj14 l16

def i_planBetween (N : Nat) (stops1 : List Int) (from4 : Int) (to5 : Int) : Option Str :=
  (i_distances N stops1 to5).bind fun r6 =>
  (chkA 31 r6).bind fun l9 =>
  withK (fun (l12 : List UInt8) =>
  some l12) fun (kj14 : (List UInt8) → Option Str) =>
  i_planBetween_l1 kj14 stops1 to5 r6 N [] from4

def i_rowPlan_l1 (kj7 : Str → Int → Option (Str × Int)) (stops1 : List Int) (row4 : Str) : Nat → Str → Int → Int → Int → Option (Str × Int)
  | 0, _, _, _, _ => none
  | N + 1, plan9, moves10, at11, x12 =>
    bif decide (x12 < (List.length row4 : Int)) then
    withK (fun (plan14 : Str) (moves15 : Int) (at16 : Int) =>
    i_rowPlan_l1 kj7 stops1 row4 N plan14 moves15 at16 (w64 (x12 + 1))) fun (kj17 : Str → Int → Int → Option (Str × Int)) =>
    (idx row4 x12).bind fun c19 =>
    bif (c19 == (32 : UInt8)) then
    kj17 plan9 moves10 at11
    else
    (i_planBetween N stops1 at11 x12).bind fun r22 =>
    (cat r22 [39]).bind fun s24 =>
    (sub row4 x12 (w64 (x12 + 1))).bind fun s26 =>
    (cat s24 s26).bind fun s28 =>
    (cat plan9 s28).bind fun s30 =>
    kj17 s30 (w64 (moves10 + (List.length r22 : Int))) (w64 (x12 + 1))
    else
    kj7 plan9 moves10

def i_rowPlan (N : Nat) (stops1 : List Int) (row4 : Str) : Option (Str × Int) :=
  withK (fun (plan5 : Str) (moves6 : Int) =>
  some (plan5, moves6)) fun (kj7 : Str → Int → Option (Str × Int)) =>
  i_rowPlan_l1 kj7 stops1 row4 N [] 0 0 0

def i_RowPlan (N : Nat) (stops1 : List Int) (row4 : Str) : Option (Str × Int) :=
  (i_ValidStops N stops1).bind fun r5 =>
  bif !r5 then
  some ([], 1)
  else
  (i_isRow N row4).bind fun r8 =>
  bif !r8 then
  some ([], 2)
  else
  (i_rowPlan N stops1 row4).bind fun r11 =>
  some (r11.1, 0)

def i_isLetter (N : Nat) (s1 : Str) : Option Bool :=
  (andO ((List.length s1 : Int) == 1) ((i_isText N s1 33 1).bind fun r5 =>
  some r5)).bind fun t2 =>
  some t2

def i_RunPlan_l2 (kj52 : (List UInt8) → Option (Str × Int)) (column16 : Int) : Nat → (List UInt8) → Option (Str × Int)
  | 0, _ => none
  | N + 1, l54 =>
    bif decide ((List.length l54 : Int) ≤ column16) then
    (app l54 [32]).bind fun l58 =>
    i_RunPlan_l2 kj52 column16 N l58
    else
    kj52 l54

def i_RunPlan_l1 (kj12 : (List UInt8) → Option (Str × Int)) (stops1 : List Int) (plan4 : Str) : Nat → (List UInt8) → Int → Int → Option (Str × Int)
  | 0, _, _, _ => none
  | N + 1, l14, column16, i17 =>
    bif decide (i17 < (List.length plan4 : Int)) then
    withK (fun (l19 : List UInt8) (column21 : Int) (i22 : Int) =>
    i_RunPlan_l1 kj12 stops1 plan4 N l19 column21 (w64 (i22 + 1))) fun (kj23 : (List UInt8) → Int → Int → Option (Str × Int)) =>
    (idx plan4 i17).bind fun c25 =>
    withK (fun (x27 : Bool) =>
    bif x27 then
    (idx plan4 i17).bind fun c33 =>
    (i_moved N stops1 column16 c33).bind fun r35 =>
    bif !r35.2 then
    some ([], 7)
    else
    kj23 l14 r35.1 i17
    else
    bif (c25 == (39 : UInt8)) then
    (orO (decide ((w64 (i17 + 1)) ≥ (List.length plan4 : Int))) ((sub plan4 (w64 (i17 + 1)) (w64 ((w64 (i17 + 1)) + 1))).bind fun s42 =>
    (i_isLetter N s42).bind fun r44 =>
    some (!r44))).bind fun t39 =>
    (orO t39 (some (decide (column16 ≥ 30)))).bind fun t46 =>
    bif t46 then
    some ([], 7)
    else
    withK (fun (l50 : List UInt8) =>
    (idx l50 column16).bind fun e61 =>
    bif (e61 != (32 : UInt8)) then
    some ([], 7)
    else
    (idx plan4 (w64 (i17 + 1))).bind fun c64 =>
    (idx l50 column16).bind fun e66 =>
    kj23 (List.set l50 (Int.toNat column16) c64) (w64 (column16 + 1)) (w64 (i17 + 1))) fun (kj52 : (List UInt8) → Option (Str × Int)) =>
    i_RunPlan_l2 kj52 column16 N l14
    else
    some ([], 7)) fun (kj28 : Bool → Option (Str × Int)) =>
    bif (c25 == (62 : UInt8)) then
    kj28 (c25 == (62 : UInt8))
    else
    bif (c25 == (60 : UInt8)) then
    kj28 (c25 == (60 : UInt8))
    else
    kj28 (c25 == (35 : UInt8))
    else
    kj12 l14

def i_RunPlan (N : Nat) (stops1 : List Int) (plan4 : Str) : Option (Str × Int) :=
  (i_ValidStops N stops1).bind fun r5 =>
  bif !r5 then
  some ([], 1)
  else
  bif decide ((List.length plan4 : Int) > 200) then
  some ([], 7)
  else
  withK (fun (l10 : List UInt8) =>
  some (l10, 0)) fun (kj12 : (List UInt8) → Option (Str × Int)) =>
  i_RunPlan_l1 kj12 stops1 plan4 N [] 0 0

def i_PlanMoves_l1 (kj4 : Int → Option (Int × Int)) (plan1 : Str) : Nat → Int → Int → Option (Int × Int)
  | 0, _, _ => none
  | N + 1, moves6, i7 =>
    bif decide (i7 < (List.length plan1 : Int)) then
    withK (fun (moves9 : Int) (i10 : Int) =>
    i_PlanMoves_l1 kj4 plan1 N moves9 (w64 (i10 + 1))) fun (kj11 : Int → Int → Option (Int × Int)) =>
    (idx plan1 i7).bind fun c13 =>
    withK (fun (x15 : Bool) =>
    bif x15 then
    kj11 (w64 (moves6 + 1)) i7
    else
    bif (c13 == (39 : UInt8)) then
    (orO (decide ((w64 (i7 + 1)) ≥ (List.length plan1 : Int))) ((sub plan1 (w64 (i7 + 1)) (w64 ((w64 (i7 + 1)) + 1))).bind fun s25 =>
    (i_isLetter N s25).bind fun r27 =>
    some (!r27))).bind fun t22 =>
    bif t22 then
    some (0, 7)
    else
    kj11 moves6 (w64 (i7 + 1))
    else
    some (0, 7)) fun (kj16 : Bool → Option (Int × Int)) =>
    bif (c13 == (62 : UInt8)) then
    kj16 (c13 == (62 : UInt8))
    else
    bif (c13 == (60 : UInt8)) then
    kj16 (c13 == (60 : UInt8))
    else
    kj16 (c13 == (35 : UInt8))
    else
    kj4 moves6

def i_PlanMoves (N : Nat) (plan1 : Str) : Option (Int × Int) :=
  bif decide ((List.length plan1 : Int) > 200) then
  some (0, 7)
  else
  withK (fun (moves3 : Int) =>
  some (moves3, 0)) fun (kj4 : Int → Option (Int × Int)) =>
  i_PlanMoves_l1 kj4 plan1 N 0 0

def i_rowsCode_l1 (kj5 : Option Int) (rows1 : List Str) : Nat → Int → Option Int
  | 0, _ => none
  | N + 1, x7 =>
    bif decide (x7 < (List.length rows1 : Int)) then
    (idx rows1 x7).bind fun e9 =>
    (i_isRow N e9).bind fun r14 =>
    bif !r14 then
    some 2
    else
    i_rowsCode_l1 kj5 rows1 N (w64 (x7 + 1))
    else
    kj5 

def i_rowsCode (N : Nat) (rows1 : List Str) : Option Int :=
  bif decide ((List.length rows1 : Int) > 12) then
  some 1
  else
  withK (some 0) fun (kj5 : Option Int) =>
  i_rowsCode_l1 kj5 rows1 N 0

def i_pageMoves_l1 (kj8 : Int → Option Int) (stops1 : List Int) (rows4 : List Str) : Nat → Int → Int → Option Int
  | 0, _, _ => none
  | N + 1, sum10, x11 =>
    bif decide (x11 < (List.length rows4 : Int)) then
    (idx rows4 x11).bind fun e13 =>
    (i_rowPlan N stops1 e13).bind fun r18 =>
    i_pageMoves_l1 kj8 stops1 rows4 N (w64 (sum10 + r18.2)) (w64 (x11 + 1))
    else
    kj8 sum10

def i_pageMoves (N : Nat) (stops1 : List Int) (rows4 : List Str) : Option Int :=
  withK (fun (sum7 : Int) =>
  some sum7) fun (kj8 : Int → Option Int) =>
  i_pageMoves_l1 kj8 stops1 rows4 N 0 0

def i_PageMoves (N : Nat) (stops1 : List Int) (rows4 : List Str) : Option (Int × Int) :=
  (i_ValidStops N stops1).bind fun r7 =>
  bif !r7 then
  some (0, 1)
  else
  (i_rowsCode N rows4).bind fun r10 =>
  bif (r10 != 0) then
  some (0, r10)
  else
  (i_pageMoves N stops1 rows4).bind fun r13 =>
  some (r13, 0)

def i_BestStops_l2 (kj25 : (List (List Int)) → Option ((List Int) × Int × Int)) (many4 : Int) (first20 : Int) : Nat → (List (List Int)) → Int → Option ((List Int) × Int × Int)
  | 0, _, _ => none
  | N + 1, l41, second44 =>
    (andO (many4 == 2) (some (decide (second44 ≤ 30)))).bind fun t45 =>
    bif t45 then
    (app l41 ([[first20, second44]] : List (List Int))).bind fun l54 =>
    i_BestStops_l2 kj25 many4 first20 N l54 (w64 (second44 + 1))
    else
    kj25 l41

def i_BestStops_l1 (kj15 : (List (List Int)) → Option ((List Int) × Int × Int)) (many4 : Int) : Nat → (List (List Int)) → Int → Option ((List Int) × Int × Int)
  | 0, _, _ => none
  | N + 1, l17, first20 =>
    bif decide (first20 ≤ 30) then
    withK (fun (l22 : List (List Int)) =>
    i_BestStops_l1 kj15 many4 N l22 (w64 (first20 + 1))) fun (kj25 : (List (List Int)) → Option ((List Int) × Int × Int)) =>
    withK (fun (l27 : List (List Int)) =>
    i_BestStops_l2 kj25 many4 first20 N l27 (w64 (first20 + 1))) fun (kj30 : (List (List Int)) → Option ((List Int) × Int × Int)) =>
    bif (many4 == 1) then
    (app l17 ([[first20]] : List (List Int))).bind fun l38 =>
    kj30 l38
    else
    kj30 l17
    else
    kj15 l17

def i_BestStops_l3 (kj70 : (List Int) → Int → Option ((List Int) × Int × Int)) (rows1 : List Str) (l57 : List (List Int)) : Nat → (List Int) → Int → Int → Option ((List Int) × Int × Int)
  | 0, _, _, _ => none
  | N + 1, l72, least74, x75 =>
    bif decide (x75 < (List.length l57 : Int)) then
    withK (fun (l77 : List Int) (least79 : Int) =>
    i_BestStops_l3 kj70 rows1 l57 N l77 least79 (w64 (x75 + 1))) fun (kj80 : (List Int) → Int → Option ((List Int) × Int × Int)) =>
    (idx l57 x75).bind fun e83 =>
    (i_pageMoves N e83 rows1).bind fun r87 =>
    (orO (decide (least74 < 0)) (some (decide (r87 < least74)))).bind fun t89 =>
    bif t89 then
    kj80 e83 r87
    else
    kj80 l72 least74
    else
    kj70 l72 least74

def i_BestStops (N : Nat) (rows1 : List Str) (many4 : Int) : Option ((List Int) × Int × Int) :=
  (i_rowsCode N rows1).bind fun r5 =>
  bif (r5 != 0) then
  some ([], 0, r5)
  else
  (i_between many4 0 2).bind fun r8 =>
  bif !r8 then
  some ([], 0, 2)
  else
  withK (fun (l12 : List (List Int)) =>
  withK (fun (l57 : List (List Int)) =>
  withK (fun (l67 : List Int) (least69 : Int) =>
  some (l67, least69, 0)) fun (kj70 : (List Int) → Int → Option ((List Int) × Int × Int)) =>
  i_BestStops_l3 kj70 rows1 l57 N ([] : List Int) (-1) 0) fun (kj60 : (List (List Int)) → Option ((List Int) × Int × Int)) =>
  bif (many4 == 0) then
  kj60 ([[]] : List (List Int))
  else
  kj60 l12) fun (kj15 : (List (List Int)) → Option ((List Int) × Int × Int)) =>
  i_BestStops_l1 kj15 many4 N ([] : List (List Int)) 1

def s_l19Draw_l1 (kj10 : Int → Int → (List UInt8) → Option (Str × L00Src)) (s1 : L00Src) : Nat → Int → Int → (List UInt8) → Int → Option (Str × L00Src)
  | 0, _, _, _, _ => none
  | N + 1, x14, x15, l16, k18 =>
    bif decide (k18 > 0) then
    (s_l00Src_pick (L00Src.mk s1.code x14 x15) 6).bind fun r20 =>
    (idx [97, 101, 104, 110, 116, 32] r20.1).bind fun c22 =>
    (app l16 [c22]).bind fun l25 =>
    s_l19Draw_l1 kj10 s1 N r20.2.at_ r20.2.seed l25 (w64 (k18 - 1))
    else
    kj10 x14 x15 l16

def s_l19Draw (N : Nat) (s1 : L00Src) : Option (Str × L00Src) :=
  withK (fun (x6 : Int) (x7 : Int) (l8 : List UInt8) =>
  some (l8, (L00Src.mk s1.code x6 x7))) fun (kj10 : Int → Int → (List UInt8) → Option (Str × L00Src)) =>
  (s_l00Src_pick (L00Src.mk s1.code s1.at_ s1.seed) 12).bind fun r12 =>
  s_l19Draw_l1 kj10 s1 N r12.2.at_ r12.2.seed [] r12.1

def s_l19Near_l1 (kj13 : Int → Int → (List UInt8) → Option (Str × L00Src)) (s1 : L00Src) : Nat → Int → Int → (List UInt8) → Int → Option (Str × L00Src)
  | 0, _, _, _, _ => none
  | N + 1, x17, x18, l19, k21 =>
    (andO (decide (k21 > 0)) (some (decide ((List.length l19 : Int) > 1)))).bind fun t22 =>
    bif t22 then
    withK (fun (x26 : Int) (x27 : Int) (l28 : List UInt8) =>
    s_l19Near_l1 kj13 s1 N x26 x27 l28 (w64 (k21 - 1))) fun (kj30 : Int → Int → (List UInt8) → Option (Str × L00Src)) =>
    (s_l00Src_pick (L00Src.mk s1.code x17 x18) (w64 ((List.length l19 : Int) - 1))).bind fun r32 =>
    (s_l00Src_pick (L00Src.mk s1.code r32.2.at_ r32.2.seed) 4).bind fun r34 =>
    bif (r34.1 == 0) then
    (s_l00Src_pick (L00Src.mk s1.code r34.2.at_ r34.2.seed) 4).bind fun r37 =>
    (idx [120, 121, 97, 101] r37.1).bind fun c39 =>
    (idx l19 r32.1).bind fun e41 =>
    kj30 r37.2.at_ r37.2.seed (List.set l19 (Int.toNat r32.1) c39)
    else
    bif (r34.1 == 1) then
    (idx l19 r32.1).bind fun e44 =>
    (idx l19 (w64 (r32.1 + 1))).bind fun e46 =>
    (idx l19 r32.1).bind fun e48 =>
    (idx (List.set l19 (Int.toNat r32.1) e46) (w64 (r32.1 + 1))).bind fun e50 =>
    kj30 r34.2.at_ r34.2.seed (List.set (List.set l19 (Int.toNat r32.1) e46) (Int.toNat (w64 (r32.1 + 1))) e44)
    else
    bif (r34.1 == 2) then
    (sub l19 0 r32.1).bind fun l54 =>
    (app [] l54).bind fun l56 =>
    (sub l19 (w64 (r32.1 + 1)) (List.length l19 : Int)).bind fun l59 =>
    (app l56 l59).bind fun l61 =>
    kj30 r34.2.at_ r34.2.seed l61
    else
    (sub l19 0 r32.1).bind fun l65 =>
    (app [] l65).bind fun l67 =>
    (s_l00Src_pick (L00Src.mk s1.code r34.2.at_ r34.2.seed) 2).bind fun r70 =>
    (idx [113, 116] r70.1).bind fun c72 =>
    (app l67 [c72]).bind fun l75 =>
    (sub l19 r32.1 (List.length l19 : Int)).bind fun l78 =>
    (app l75 l78).bind fun l80 =>
    kj30 r70.2.at_ r70.2.seed l80
    else
    kj13 x17 x18 l19

def s_l19Near (N : Nat) (s1 : L00Src) (want5 : Str) : Option (Str × L00Src) :=
  (app ([] : Str) want5).bind fun l6 =>
  withK (fun (x9 : Int) (x10 : Int) (l11 : List UInt8) =>
  some (l11, (L00Src.mk s1.code x9 x10))) fun (kj13 : Int → Int → (List UInt8) → Option (Str × L00Src)) =>
  (s_l00Src_pick (L00Src.mk s1.code s1.at_ s1.seed) 4).bind fun r15 =>
  s_l19Near_l1 kj13 s1 N r15.2.at_ r15.2.seed l6 r15.1

def s_A2Typed (N : Nat) (code1 : List UInt8) : Option (Str × Str) :=
  (s_l00From code1).bind fun r4 =>
  (s_l19Draw N (L00Src.mk code1 r4.at_ r4.seed)).bind fun r7 =>
  (s_l19Near N (L00Src.mk code1 r7.2.at_ r7.2.seed) r7.1).bind fun r9 =>
  some (r7.1, r9.1)

def i_isTyped (N : Nat) (s1 : Str) : Option Bool :=
  (i_isText N s1 32 60).bind fun r2 =>
  some r2

def i_stepAt (want1 : Str) (typed2 : Str) (step3 : UInt8) : Option (Int × Int × Int × Bool) :=
  (andO (want1 != []) (some (typed2 != []))).bind fun t4 =>
  bif (step3 == (61 : UInt8)) then
  (andO t4 ((idx want1 0).bind fun c11 =>
  (idx typed2 0).bind fun c13 =>
  some (c11 == c13))).bind fun t8 =>
  some (1, 1, 0, t8)
  else
  bif (step3 == (120 : UInt8)) then
  (andO t4 ((idx want1 0).bind fun c19 =>
  (idx typed2 0).bind fun c21 =>
  some (c19 != c21))).bind fun t16 =>
  some (1, 1, 1, t16)
  else
  bif (step3 == (45 : UInt8)) then
  some (1, 0, 1, (want1 != []))
  else
  bif (step3 == (43 : UInt8)) then
  some (0, 1, 1, (typed2 != []))
  else
  bif (step3 == (126 : UInt8)) then
  (andO (decide ((List.length want1 : Int) > 1)) (some (decide ((List.length typed2 : Int) > 1)))).bind fun t26 =>
  (andO t26 ((idx want1 0).bind fun c32 =>
  (idx want1 1).bind fun c34 =>
  some (c32 != c34))).bind fun t29 =>
  (andO t29 ((idx want1 0).bind fun c39 =>
  (idx typed2 1).bind fun c41 =>
  some (c39 == c41))).bind fun t36 =>
  (andO t36 ((idx want1 1).bind fun c46 =>
  (idx typed2 0).bind fun c48 =>
  some (c46 == c48))).bind fun t43 =>
  some (2, 2, 1, t43)
  else
  some (0, 0, 0, false)

def i_leastFrom_l1 (kj8 : (List (List Int)) → Option (List (List Int))) (typed2 : Str) (l3 : List (List Int)) : Nat → (List (List Int)) → Int → Option (List (List Int))
  | 0, _, _ => none
  | N + 1, l10, x12 =>
    bif decide (x12 < (List.length l3 : Int)) then
    (mk (w64 ((List.length typed2 : Int) + 1)) (0 : Int)).bind fun l15 =>
    (idx l10 x12).bind fun e18 =>
    i_leastFrom_l1 kj8 typed2 l3 N (List.set l10 (Int.toNat x12) l15) (w64 (x12 + 1))
    else
    kj8 l10

def i_leastFrom_l4 (kj39 : Int → Option (List (List Int))) (want1 : Str) (typed2 : Str) (i27 : Int) (l32 : List (List Int)) (k33 : Int) : Nat → Int → Int → Option (List (List Int))
  | 0, _, _ => none
  | N + 1, best42, x43 =>
    bif decide (x43 < (List.length [43, 45, 61, 120, 126] : Int)) then
    withK (fun (best45 : Int) =>
    i_leastFrom_l4 kj39 want1 typed2 i27 l32 k33 N best45 (w64 (x43 + 1))) fun (kj46 : Int → Option (List (List Int))) =>
    (idx [43, 45, 61, 120, 126] x43).bind fun e48 =>
    (sub want1 i27 (List.length want1 : Int)).bind fun s50 =>
    (sub typed2 k33 (List.length typed2 : Int)).bind fun s52 =>
    (i_stepAt s50 s52 e48).bind fun r54 =>
    (andO r54.2.2.2 ((orO (decide (best42 < 0)) ((idx l32 (w64 (i27 + r54.1))).bind fun e63 =>
    (idx e63 (w64 (k33 + r54.2.1))).bind fun e67 =>
    some (decide ((w64 (e67 + r54.2.2.1)) < best42)))).bind fun t60 =>
    some t60)).bind fun t57 =>
    bif t57 then
    (idx l32 (w64 (i27 + r54.1))).bind fun e71 =>
    (idx e71 (w64 (k33 + r54.2.1))).bind fun e75 =>
    kj46 (w64 (e75 + r54.2.2.1))
    else
    kj46 best42
    else
    kj39 best42

def i_leastFrom_l3 (kj30 : (List (List Int)) → Option (List (List Int))) (want1 : Str) (typed2 : Str) (i27 : Int) : Nat → (List (List Int)) → Int → Option (List (List Int))
  | 0, _, _ => none
  | N + 1, l32, k33 =>
    bif decide (k33 ≥ 0) then
    withK (fun (l35 : List (List Int)) =>
    i_leastFrom_l3 kj30 want1 typed2 i27 N l35 (w64 (k33 - 1))) fun (kj36 : (List (List Int)) → Option (List (List Int))) =>
    withK (fun (best38 : Int) =>
    (idx l32 i27).bind fun e78 =>
    (idx e78 k33).bind fun e82 =>
    kj36 (List.set l32 (Int.toNat i27) (List.set e78 (Int.toNat k33) (imax best38 0)))) fun (kj39 : Int → Option (List (List Int))) =>
    i_leastFrom_l4 kj39 want1 typed2 i27 l32 k33 N (-1) 0
    else
    kj30 l32

def i_leastFrom_l2 (kj24 : (List (List Int)) → Option (List (List Int))) (want1 : Str) (typed2 : Str) : Nat → (List (List Int)) → Int → Option (List (List Int))
  | 0, _, _ => none
  | N + 1, l26, i27 =>
    bif decide (i27 ≥ 0) then
    withK (fun (l29 : List (List Int)) =>
    i_leastFrom_l2 kj24 want1 typed2 N l29 (w64 (i27 - 1))) fun (kj30 : (List (List Int)) → Option (List (List Int))) =>
    i_leastFrom_l3 kj30 want1 typed2 i27 N l26 (List.length typed2 : Int)
    else
    kj24 l26

def i_leastFrom (N : Nat) (want1 : Str) (typed2 : Str) : Option (List (List Int)) :=
  (mk (w64 ((List.length want1 : Int) + 1)) ([] : List Int)).bind fun l3 =>
  withK (fun (l6 : List (List Int)) =>
  withK (fun (l23 : List (List Int)) =>
  some l23) fun (kj24 : (List (List Int)) → Option (List (List Int))) =>
  i_leastFrom_l2 kj24 want1 typed2 N l6 (List.length want1 : Int)) fun (kj8 : (List (List Int)) → Option (List (List Int))) =>
  i_leastFrom_l1 kj8 typed2 l3 N l3 0

def i_alignment_l2 (kj20 : (List UInt8) → Int → Int → Option Str) (want1 : Str) (typed2 : Str) (r3 : (List (List Int))) : Nat → (List UInt8) → Int → Int → Int → Option Str
  | 0, _, _, _, _ => none
  | N + 1, l27, i29, k30, x31 =>
    bif decide (x31 < (List.length [43, 45, 61, 120, 126] : Int)) then
    (idx [43, 45, 61, 120, 126] x31).bind fun e33 =>
    (sub want1 i29 (List.length want1 : Int)).bind fun s35 =>
    (sub typed2 k30 (List.length typed2 : Int)).bind fun s37 =>
    (i_stepAt s35 s37 e33).bind fun r39 =>
    (andO r39.2.2.2 ((idx r3 (w64 (i29 + r39.1))).bind fun e45 =>
    (idx e45 (w64 (k30 + r39.2.1))).bind fun e49 =>
    (idx r3 i29).bind fun e51 =>
    (idx e51 k30).bind fun e55 =>
    some ((w64 (e49 + r39.2.2.1)) == e55))).bind fun t42 =>
    bif t42 then
    (app l27 [e33]).bind fun l59 =>
    kj20 l59 (w64 (i29 + r39.1)) (w64 (k30 + r39.2.1))
    else
    i_alignment_l2 kj20 want1 typed2 r3 N l27 i29 k30 (w64 (x31 + 1))
    else
    kj20 l27 i29 k30

def i_alignment_l1 (kj10 : (List UInt8) → Option Str) (want1 : Str) (typed2 : Str) (r3 : (List (List Int))) : Nat → (List UInt8) → Int → Int → Option Str
  | 0, _, _, _ => none
  | N + 1, l12, i14, k15 =>
    withK (fun (l16 : List UInt8) (i18 : Int) (k19 : Int) =>
    i_alignment_l1 kj10 want1 typed2 r3 N l16 i18 k19) fun (kj20 : (List UInt8) → Int → Int → Option Str) =>
    (orO (decide (i14 < (List.length want1 : Int))) (some (decide (k15 < (List.length typed2 : Int))))).bind fun t22 =>
    bif t22 then
    i_alignment_l2 kj20 want1 typed2 r3 N l12 i14 k15 0
    else
    kj10 l12

def i_alignment (N : Nat) (want1 : Str) (typed2 : Str) : Option Str :=
  (i_leastFrom N want1 typed2).bind fun r3 =>
  withK (fun (l8 : List UInt8) =>
  some l8) fun (kj10 : (List UInt8) → Option Str) =>
  i_alignment_l1 kj10 want1 typed2 r3 N [] 0 0

def i_AlignTexts (N : Nat) (want1 : Str) (typed2 : Str) : Option (Str × Int) :=
  (i_isTyped N want1).bind fun r3 =>
  (orO (!r3) ((i_isTyped N typed2).bind fun r8 =>
  some (!r8))).bind fun t5 =>
  bif t5 then
  some ([], 2)
  else
  (i_alignment N want1 typed2).bind fun r11 =>
  some (r11, 0)

def i_areSteps_l1 (kj2 : Option Bool) (steps1 : Str) : Nat → Int → Option Bool
  | 0, _ => none
  | N + 1, x4 =>
    bif decide (x4 < (List.length steps1 : Int)) then
    (idx steps1 x4).bind fun c6 =>
    withK (fun (x8 : Bool) =>
    bif x8 then
    i_areSteps_l1 kj2 steps1 N (w64 (x4 + 1))
    else
    some false) fun (kj9 : Bool → Option Bool) =>
    bif (c6 == (61 : UInt8)) then
    kj9 (c6 == (61 : UInt8))
    else
    bif (c6 == (120 : UInt8)) then
    kj9 (c6 == (120 : UInt8))
    else
    bif (c6 == (45 : UInt8)) then
    kj9 (c6 == (45 : UInt8))
    else
    bif (c6 == (43 : UInt8)) then
    kj9 (c6 == (43 : UInt8))
    else
    kj9 (c6 == (126 : UInt8))
    else
    kj2 

def i_areSteps (N : Nat) (steps1 : Str) : Option Bool :=
  withK (some (decide ((List.length steps1 : Int) ≤ 120))) fun (kj2 : Option Bool) =>
  i_areSteps_l1 kj2 steps1 N 0

def i_aligns_l1 (kj6 : Int → Int → Option Bool) (want1 : Str) (typed2 : Str) (steps3 : Str) : Nat → Int → Int → Int → Option Bool
  | 0, _, _, _ => none
  | N + 1, i8, k9, x10 =>
    bif decide (x10 < (List.length steps3 : Int)) then
    (sub want1 i8 (List.length want1 : Int)).bind fun s12 =>
    (sub typed2 k9 (List.length typed2 : Int)).bind fun s14 =>
    (idx steps3 x10).bind fun c16 =>
    (i_stepAt s12 s14 c16).bind fun r18 =>
    bif !r18.2.2.2 then
    some false
    else
    i_aligns_l1 kj6 want1 typed2 steps3 N (w64 (i8 + r18.1)) (w64 (k9 + r18.2.1)) (w64 (x10 + 1))
    else
    kj6 i8 k9

def i_aligns (N : Nat) (want1 : Str) (typed2 : Str) (steps3 : Str) : Option Bool :=
  withK (fun (i4 : Int) (k5 : Int) =>
  (andO (i4 == (List.length want1 : Int)) (some (k5 == (List.length typed2 : Int)))).bind fun t21 =>
  some t21) fun (kj6 : Int → Int → Option Bool) =>
  i_aligns_l1 kj6 want1 typed2 steps3 N 0 0 0

def i_IsAlignment (N : Nat) (want1 : Str) (typed2 : Str) (steps3 : Str) : Option (Bool × Int) :=
  (i_isTyped N want1).bind fun r4 =>
  (orO (!r4) ((i_isTyped N typed2).bind fun r9 =>
  some (!r9))).bind fun t6 =>
  bif t6 then
  some (false, 2)
  else
  (i_areSteps N steps3).bind fun r12 =>
  bif !r12 then
  some (false, 7)
  else
  (i_aligns N want1 typed2 steps3).bind fun r15 =>
  some (r15, 0)

def i_LeastErrors (N : Nat) (want1 : Str) (typed2 : Str) : Option (Int × Int) :=
  (i_isTyped N want1).bind fun r3 =>
  (orO (!r3) ((i_isTyped N typed2).bind fun r8 =>
  some (!r8))).bind fun t5 =>
  bif t5 then
  some (0, 2)
  else
  (i_leastFrom N want1 typed2).bind fun r11 =>
  (idx r11 0).bind fun e16 =>
  (idx e16 0).bind fun e20 =>
  some (e20, 0)

def i_countByte_l1 (kj4 : Int → Option Int) (s1 : Str) (b2 : UInt8) : Nat → Int → Int → Option Int
  | 0, _, _ => none
  | N + 1, n6, x7 =>
    bif decide (x7 < (List.length s1 : Int)) then
    withK (fun (n9 : Int) =>
    i_countByte_l1 kj4 s1 b2 N n9 (w64 (x7 + 1))) fun (kj10 : Int → Option Int) =>
    (idx s1 x7).bind fun c12 =>
    bif (c12 == b2) then
    kj10 (w64 (n6 + 1))
    else
    kj10 n6
    else
    kj4 n6

def i_countByte (N : Nat) (s1 : Str) (b2 : UInt8) : Option Int :=
  withK (fun (n3 : Int) =>
  some n3) fun (kj4 : Int → Option Int) =>
  i_countByte_l1 kj4 s1 b2 N 0 0

def i_ErrorsIn_l1 (kj8 : (List Int) → Option ((List Int) × Int)) (steps1 : Str) : Nat → (List Int) → Int → Option ((List Int) × Int)
  | 0, _, _ => none
  | N + 1, l11, x13 =>
    bif decide (x13 < (List.length [43, 45, 120, 126] : Int)) then
    (idx [43, 45, 120, 126] x13).bind fun e15 =>
    (i_countByte N steps1 e15).bind fun r17 =>
    (app l11 [r17]).bind fun l20 =>
    i_ErrorsIn_l1 kj8 steps1 N l20 (w64 (x13 + 1))
    else
    kj8 l11

def i_ErrorsIn (N : Nat) (steps1 : Str) : Option ((List Int) × Int) :=
  (i_areSteps N steps1).bind fun r2 =>
  bif !r2 then
  some ([], 7)
  else
  withK (fun (l6 : List Int) =>
  some (l6, 0)) fun (kj8 : (List Int) → Option ((List Int) × Int)) =>
  i_ErrorsIn_l1 kj8 steps1 N [] 0

def w_a2Sum_l1 (kj5 : Int → Option Int) (list1 : List Int) : Nat → Int → Int → Option Int
  | 0, _, _ => none
  | N + 1, sum7, i8 =>
    bif decide (i8 < (List.length list1 : Int)) then
    (idx list1 i8).bind fun e10 =>
    w_a2Sum_l1 kj5 list1 N (w64 (sum7 + e10)) (w64 (i8 + 1))
    else
    kj5 sum7

def w_a2Sum (N : Nat) (list1 : List Int) : Option Int :=
  withK (fun (sum4 : Int) =>
  some sum4) fun (kj5 : Int → Option Int) =>
  w_a2Sum_l1 kj5 list1 N 0 0

def w_a2Straight_l1 (kj4 : Int → Option Int) (a1 : Str) (b2 : Str) : Nat → Int → Int → Option Int
  | 0, _, _ => none
  | N + 1, n6, i7 =>
    (orO (decide (i7 < (List.length a1 : Int))) (some (decide (i7 < (List.length b2 : Int))))).bind fun t8 =>
    bif t8 then
    withK (fun (n12 : Int) =>
    w_a2Straight_l1 kj4 a1 b2 N n12 (w64 (i7 + 1))) fun (kj13 : Int → Option Int) =>
    (orO (decide (i7 ≥ (List.length a1 : Int))) (some (decide (i7 ≥ (List.length b2 : Int))))).bind fun t15 =>
    (orO t15 ((idx a1 i7).bind fun c21 =>
    (idx b2 i7).bind fun c23 =>
    some (c21 != c23))).bind fun t18 =>
    bif t18 then
    kj13 (w64 (n6 + 1))
    else
    kj13 n6
    else
    kj4 n6

def w_a2Straight (N : Nat) (a1 : Str) (b2 : Str) : Option Int :=
  withK (fun (n3 : Int) =>
  some n3) fun (kj4 : Int → Option Int) =>
  w_a2Straight_l1 kj4 a1 b2 N 0 0

def w_FnTop (N : Nat) (code1 : List UInt8) (more4 : List UInt8) : Option Bool :=
  (w_a2Long code1 more4).bind fun r7 =>
  bif r7 then
  some true
  else
  (s_A2Basket code1).bind fun r10 =>
  (s_A2Pairs N more4).bind fun r13 =>
  (i_BestArrange N r10 r13).bind fun r17 =>
  (i_ArrangeCost N r10 r13 r17.1).bind fun r20 =>
  (s_A2Places N code1 (List.length r13 : Int)).bind fun r22 =>
  (i_ArrangeCost N r10 r13 r22).bind fun r25 =>
  (orO (r17.2.2 != 0) (some (r20.2 != 0))).bind fun t27 =>
  (orO t27 (some (r20.1 != r17.2.1))).bind fun t30 =>
  (orO t30 (some (r25.2 != 0))).bind fun t33 =>
  (orO t33 (some (decide (r25.1 < r17.2.1)))).bind fun t36 =>
  bif t36 then
  some false
  else
  (s_A2Row N more4).bind fun r40 =>
  (s_A2Stops N code1).bind fun r42 =>
  withK (fun (l45 : List Int) =>
  (i_RowPlan N l45 r40).bind fun r53 =>
  (i_RunPlan N l45 r53.1).bind fun r55 =>
  (i_PlanMoves N r53.1).bind fun r57 =>
  (i_PageMoves N l45 [r40]).bind fun r60 =>
  (i_BestStops N [r40] (List.length l45 : Int)).bind fun r63 =>
  (orO (r53.2 != 0) (some (r55.2 != 0))).bind fun t66 =>
  (orO t66 (some (r55.1 != r40))).bind fun t69 =>
  (orO t69 (some (r57.2 != 0))).bind fun t72 =>
  (orO t72 (some (r60.2 != 0))).bind fun t75 =>
  (orO t75 (some (r60.1 != r57.1))).bind fun t78 =>
  (orO t78 (some (r63.2.2 != 0))).bind fun t81 =>
  (orO t81 (some (decide (r63.2.1 > r57.1)))).bind fun t84 =>
  bif t84 then
  some false
  else
  (s_A2Typed N more4).bind fun r88 =>
  (i_AlignTexts N r88.1 r88.2).bind fun r90 =>
  (i_IsAlignment N r88.1 r88.2 r90.1).bind fun r92 =>
  (i_LeastErrors N r88.1 r88.2).bind fun r94 =>
  (i_ErrorsIn N r90.1).bind fun r96 =>
  (andO (r90.2 == 0) (some (r92.2 == 0))).bind fun t99 =>
  (andO t99 (some r92.1)).bind fun t102 =>
  (andO t102 (some (r94.2 == 0))).bind fun t105 =>
  (andO t105 (some (r96.2 == 0))).bind fun t108 =>
  (andO t108 (some ((List.length r96.1 : Int) == 4))).bind fun t111 =>
  (andO t111 ((w_a2Sum N r96.1).bind fun r117 =>
  some (r117 == r94.1))).bind fun t114 =>
  (andO t114 ((w_a2Straight N r88.1 r88.2).bind fun r122 =>
  some (decide (r94.1 ≤ r122)))).bind fun t119 =>
  some t119) fun (kj47 : (List Int) → Option Bool) =>
  bif decide ((List.length r42 : Int) > 2) then
  (sub r42 0 2).bind fun l50 =>
  kj47 l50
  else
  kj47 r42

end Go.Proofs.Ythpdpfagfkopnaa
