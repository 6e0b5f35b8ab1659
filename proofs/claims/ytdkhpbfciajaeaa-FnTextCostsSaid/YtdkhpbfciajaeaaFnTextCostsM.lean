/-
  Plain functions that compute what the Go functions compute. No conditions.
-/
import Derived.Test.YtdkhpbfciajaeaaBase
namespace Go.Proofs.Ytdkhpbfciajaeaa
set_option linter.unusedVariables false
set_option linter.unusedSimpArgs false

structure Place where
  finger : Int
  row : Int
  effort : Int

def Place.beq (x y : Place) : Bool := x.finger == y.finger && (x.row == y.row && (x.effort == y.effort))

structure L00Src where
  code : List UInt8
  at_ : Int
  seed : Int



def w_a2Long (code1 : List UInt8) (more4 : List UInt8) : Option Bool :=
  (orO (decide ((List.length code1 : Int) > 3000)) (some (decide ((List.length more4 : Int) > 3000)))).bind fun t7 =>
  some t7

def s_l00From (code1 : List UInt8) : Option L00Src :=
  some (L00Src.mk code1 0 0)

def s_l00Src_next (s1 : L00Src) : Option (Int × L00Src) :=
  withK (fun (b5 : Int) =>
  bif decide ((w64 (s1.at_ + 1)) ≤ (List.length s1.code : Int)) then
  some (b5, (L00Src.mk s1.code (w64 (s1.at_ + 1)) (IntKind.u64.wrap ((IntKind.u64.wrap ((IntKind.u64.wrap (s1.seed * 6364136223846793005)) + (IntKind.u64.wrap b5))) + 1442695040888963407))))
  else
  some (w64 (uand (ushr (IntKind.u64.wrap ((IntKind.u64.wrap ((IntKind.u64.wrap (s1.seed * 6364136223846793005)) + (IntKind.u64.wrap b5))) + 1442695040888963407)) 40) 255), (L00Src.mk s1.code (w64 (s1.at_ + 1)) (IntKind.u64.wrap ((IntKind.u64.wrap ((IntKind.u64.wrap (s1.seed * 6364136223846793005)) + (IntKind.u64.wrap b5))) + 1442695040888963407))))) fun (kj6 : Int → Option (Int × L00Src)) =>
  bif decide (s1.at_ < (List.length s1.code : Int)) then
  (idx s1.code s1.at_).bind fun e9 =>
  kj6 (UInt8.toNat e9 : Int)
  else
  kj6 0

def s_l00Src_pick (s1 : L00Src) (n5 : Int) : Option (Int × L00Src) :=
  bif decide (n5 ≤ 1) then
  some (0, (L00Src.mk s1.code s1.at_ s1.seed))
  else
  (s_l00Src_next (L00Src.mk s1.code s1.at_ s1.seed)).bind fun r7 =>
  withK (fun (x9 : Int) (x10 : Int) (x11 : Int) =>
  (remO x11 n5).bind fun q17 =>
  some (q17, (L00Src.mk s1.code x9 x10))) fun (kj12 : Int → Int → Int → Option (Int × L00Src)) =>
  bif decide (n5 > 200) then
  (s_l00Src_next (L00Src.mk s1.code r7.2.at_ r7.2.seed)).bind fun r15 =>
  kj12 r15.2.at_ r15.2.seed (w64 ((w64 (r7.1 * 256)) + r15.1))
  else
  kj12 r7.2.at_ r7.2.seed r7.1

def s_l07Draw_l1 (kj10 : Int → Int → (List Place) → Option ((List Place) × L00Src)) (s1 : L00Src) : Nat → Int → Int → (List Place) → Int → Option ((List Place) × L00Src)
  | 0, _, _, _, _ => none
  | N + 1, x14, x15, l16, k18 =>
    bif decide (k18 > 0) then
    (s_l00Src_pick (L00Src.mk s1.code x14 x15) 8).bind fun r20 =>
    (s_l00Src_pick (L00Src.mk s1.code r20.2.at_ r20.2.seed) 4).bind fun r23 =>
    (s_l00Src_pick (L00Src.mk s1.code r23.2.at_ r23.2.seed) 6).bind fun r25 =>
    (app l16 [(Place.mk ((Place.mk r20.1 0 0).finger) r23.1 (w64 (1 + r25.1)))]).bind fun l28 =>
    s_l07Draw_l1 kj10 s1 N r25.2.at_ r25.2.seed l28 (w64 (k18 - 1))
    else
    kj10 x14 x15 l16

def s_l07Draw (N : Nat) (s1 : L00Src) : Option ((List Place) × L00Src) :=
  withK (fun (x6 : Int) (x7 : Int) (l8 : List Place) =>
  some (l8, (L00Src.mk s1.code x6 x7))) fun (kj10 : Int → Int → (List Place) → Option ((List Place) × L00Src)) =>
  (s_l00Src_pick (L00Src.mk s1.code s1.at_ s1.seed) 5).bind fun r12 =>
  s_l07Draw_l1 kj10 s1 N r12.2.at_ r12.2.seed [] (w64 (1 + r12.1))

def s_A2Board (N : Nat) (code1 : List UInt8) : Option (List Place) :=
  (s_l00From code1).bind fun r4 =>
  (s_l07Draw N (L00Src.mk code1 r4.at_ r4.seed)).bind fun r7 =>
  some r7.1

def s_l00Src_text (s1 : L00Src) (list5 : List Str) : Option (Str × L00Src) :=
  (s_l00Src_pick (L00Src.mk s1.code s1.at_ s1.seed) (List.length list5 : Int)).bind fun r8 =>
  (idx list5 r8.1).bind fun e10 =>
  some (e10, (L00Src.mk s1.code r8.2.at_ r8.2.seed))

def s_l00Min (a1 : Int) (b2 : Int) : Option Int :=
  bif decide (a1 < b2) then
  some a1
  else
  some b2

def s_l07Letters_l1 (kj18 : Int → Int → (List UInt8) → Option (Str × Str × L00Src)) (s1 : L00Src) (s11 : Str) : Nat → Int → Int → (List UInt8) → Int → Option (Str × Str × L00Src)
  | 0, _, _, _, _ => none
  | N + 1, x22, x23, l24, k26 =>
    (andO (decide (k26 > 0)) (some (decide ((List.length s11 : Int) > 0)))).bind fun t27 =>
    bif t27 then
    (s_l00Src_pick (L00Src.mk s1.code x22 x23) (List.length s11 : Int)).bind fun r31 =>
    (idx s11 r31.1).bind fun c33 =>
    (app l24 [c33]).bind fun l36 =>
    s_l07Letters_l1 kj18 s1 s11 N r31.2.at_ r31.2.seed l36 (w64 (k26 - 1))
    else
    kj18 x22 x23 l24

def s_l07Letters (N : Nat) (s1 : L00Src) (n5 : Int) : Option (Str × Str × L00Src) :=
  (s_l00Src_text (L00Src.mk s1.code s1.at_ s1.seed) [[97, 98, 99, 100, 101, 102], [102, 101, 100, 99, 98, 97], [101, 97, 116, 32, 115, 110], [122, 121, 120, 119, 118, 117]]).bind fun r7 =>
  (s_l00Min n5 6).bind fun r9 =>
  (sub r7.1 0 r9).bind fun s11 =>
  withK (fun (x14 : Int) (x15 : Int) (l16 : List UInt8) =>
  some (s11, l16, (L00Src.mk s1.code x14 x15))) fun (kj18 : Int → Int → (List UInt8) → Option (Str × Str × L00Src)) =>
  (s_l00Src_pick (L00Src.mk s1.code r7.2.at_ r7.2.seed) 20).bind fun r20 =>
  s_l07Letters_l1 kj18 s1 s11 N r20.2.at_ r20.2.seed [] r20.1

def s_A2Layout (N : Nat) (code1 : List UInt8) (n4 : Int) : Option (Str × Str) :=
  (s_l00From code1).bind fun r5 =>
  (s_l07Letters N (L00Src.mk code1 r5.at_ r5.seed) n4).bind fun r8 =>
  some (r8.1, r8.2.1)

def i_between (n1 : Int) (low2 : Int) (high3 : Int) : Option Bool :=
  (andO (decide (n1 ≥ low2)) (some (decide (n1 ≤ high3)))).bind fun t4 =>
  some t4

def i_ValidBoard_l1 (kj7 : Option Bool) (list1 : List Place) : Nat → Int → Option Bool
  | 0, _ => none
  | N + 1, x9 =>
    bif decide (x9 < (List.length list1 : Int)) then
    (idx list1 x9).bind fun e11 =>
    (i_between e11.finger 0 7).bind fun r17 =>
    (orO (!r17) ((i_between e11.row 0 3).bind fun r22 =>
    some (!r22))).bind fun t19 =>
    (orO t19 ((i_between e11.effort 0 50).bind fun r27 =>
    some (!r27))).bind fun t24 =>
    bif t24 then
    some false
    else
    i_ValidBoard_l1 kj7 list1 N (w64 (x9 + 1))
    else
    kj7 

def i_ValidBoard (N : Nat) (list1 : List Place) : Option Bool :=
  (i_between (List.length list1 : Int) 1 6).bind fun r4 =>
  bif !r4 then
  some false
  else
  withK (some true) fun (kj7 : Option Bool) =>
  i_ValidBoard_l1 kj7 list1 N 0

def i_isText_l1 (kj5 : Option Bool) (s1 : Str) (low2 : UInt8) : Nat → Int → Option Bool
  | 0, _ => none
  | N + 1, x7 =>
    bif decide (x7 < (List.length s1 : Int)) then
    (idx s1 x7).bind fun c9 =>
    (orO (decide (c9 < low2)) ((idx s1 x7).bind fun c14 =>
    some (decide (c14 > (126 : UInt8))))).bind fun t11 =>
    bif t11 then
    some false
    else
    i_isText_l1 kj5 s1 low2 N (w64 (x7 + 1))
    else
    kj5 

def i_isText (N : Nat) (s1 : Str) (low2 : UInt8) (most3 : Int) : Option Bool :=
  bif decide ((List.length s1 : Int) > most3) then
  some false
  else
  withK (some true) fun (kj5 : Option Bool) =>
  i_isText_l1 kj5 s1 low2 N 0

def i_isBoardLayout_l1 (kj12 : Option Bool) (layout4 : Str) : Nat → (List Bool) → Int → Option Bool
  | 0, _, _ => none
  | N + 1, l14, x15 =>
    bif decide (x15 < (List.length layout4 : Int)) then
    (idx layout4 x15).bind fun c17 =>
    (idx l14 (UInt8.toNat c17 : Int)).bind fun e19 =>
    bif e19 then
    some false
    else
    (idx layout4 x15).bind fun c22 =>
    (idx l14 (UInt8.toNat c22 : Int)).bind fun e24 =>
    i_isBoardLayout_l1 kj12 layout4 N (List.set l14 (Int.toNat (UInt8.toNat c22 : Int)) true) (w64 (x15 + 1))
    else
    kj12 

def i_isBoardLayout (N : Nat) (list1 : List Place) (layout4 : Str) : Option Bool :=
  (orO ((List.length layout4 : Int) != (List.length list1 : Int)) ((i_isText N layout4 32 6).bind fun r8 =>
  some (!r8))).bind fun t5 =>
  bif t5 then
  some false
  else
  withK (some true) fun (kj12 : Option Bool) =>
  i_isBoardLayout_l1 kj12 layout4 N (List.replicate 256 false) 0

def i_placesOf_l2 (kj17 : Int → Option ((List Int) × Bool)) (layout1 : Str) (text2 : Str) (x10 : Int) : Nat → Int → Int → Option ((List Int) × Bool)
  | 0, _, _ => none
  | N + 1, at19, x20 =>
    bif decide (x20 < (List.length layout1 : Int)) then
    withK (fun (at22 : Int) =>
    i_placesOf_l2 kj17 layout1 text2 x10 N at22 (w64 (x20 + 1))) fun (kj23 : Int → Option ((List Int) × Bool)) =>
    (idx layout1 x20).bind fun c25 =>
    (idx text2 x10).bind fun c27 =>
    bif (c25 == c27) then
    kj23 x20
    else
    kj23 at19
    else
    kj17 at19

def i_placesOf_l1 (kj6 : (List Int) → Option ((List Int) × Bool)) (layout1 : Str) (text2 : Str) : Nat → (List Int) → Int → Option ((List Int) × Bool)
  | 0, _, _ => none
  | N + 1, l8, x10 =>
    bif decide (x10 < (List.length text2 : Int)) then
    withK (fun (l12 : List Int) =>
    i_placesOf_l1 kj6 layout1 text2 N l12 (w64 (x10 + 1))) fun (kj14 : (List Int) → Option ((List Int) × Bool)) =>
    withK (fun (at16 : Int) =>
    bif decide (at16 < 0) then
    some ([], false)
    else
    (app l8 [at16]).bind fun l32 =>
    kj14 l32) fun (kj17 : Int → Option ((List Int) × Bool)) =>
    i_placesOf_l2 kj17 layout1 text2 x10 N (-1) 0
    else
    kj6 l8

def i_placesOf (N : Nat) (layout1 : Str) (text2 : Str) : Option ((List Int) × Bool) :=
  withK (fun (l4 : List Int) =>
  some (l4, decide ((List.length text2 : Int) ≤ 400))) fun (kj6 : (List Int) → Option ((List Int) × Bool)) =>
  i_placesOf_l1 kj6 layout1 text2 N [] 0

def i_strokesOf (N : Nat) (list1 : List Place) (layout4 : Str) (text5 : Str) : Option ((List Int) × Int) :=
  (i_ValidBoard N list1).bind fun r6 =>
  bif !r6 then
  some ([], 1)
  else
  (i_isBoardLayout N list1 layout4).bind fun r9 =>
  bif !r9 then
  some ([], 2)
  else
  (i_placesOf N layout4 text5).bind fun r12 =>
  bif !r12.2 then
  some ([], 2)
  else
  some (r12.1, 0)

def i_absolute (n1 : Int) : Option Int :=
  bif decide (n1 < 0) then
  some (w64 (0 - n1))
  else
  some n1

def i_Place_isLeft (p1 : Place) : Option Bool :=
  some (decide (p1.finger ≤ 3))

def i_strokeCost (list1 : List Place) (before4 : Int) (now5 : Int) : Option Int :=
  (idx list1 before4).bind fun e6 =>
  (idx list1 now5).bind fun e11 =>
  bif (before4 == now5) then
  some e11.effort
  else
  bif (e6.finger == e11.finger) then
  (i_absolute (w64 (e6.row - e11.row))).bind fun r21 =>
  some (w64 ((w64 (e11.effort + 10)) + (w64 (5 * r21))))
  else
  (i_Place_isLeft e6).bind fun r23 =>
  (i_Place_isLeft e11).bind fun r25 =>
  bif (r23 == r25) then
  some (w64 (e11.effort + 2))
  else
  some e11.effort

def i_placesCost_l1 (kj8 : Int → Option Int) (list1 : List Place) (places4 : List Int) : Nat → Int → Int → Option Int
  | 0, _, _ => none
  | N + 1, sum10, x11 =>
    bif decide (x11 < (List.length places4 : Int)) then
    withK (fun (sum13 : Int) =>
    i_placesCost_l1 kj8 list1 places4 N sum13 (w64 (x11 + 1))) fun (kj14 : Int → Option Int) =>
    (idx places4 x11).bind fun e16 =>
    bif (x11 == 0) then
    (idx list1 e16).bind fun e22 =>
    kj14 (w64 (sum10 + e22.effort))
    else
    (idx places4 (w64 (x11 - 1))).bind fun e27 =>
    (i_strokeCost list1 e27 e16).bind fun r32 =>
    kj14 (w64 (sum10 + r32))
    else
    kj8 sum10

def i_placesCost (N : Nat) (list1 : List Place) (places4 : List Int) : Option Int :=
  withK (fun (sum7 : Int) =>
  some sum7) fun (kj8 : Int → Option Int) =>
  i_placesCost_l1 kj8 list1 places4 N 0 0

def i_TextCost (N : Nat) (list1 : List Place) (layout4 : Str) (text5 : Str) : Option (Int × Int) :=
  (i_strokesOf N list1 layout4 text5).bind fun r6 =>
  bif (r6.2 != 0) then
  some (0, r6.2)
  else
  (i_placesCost N list1 r6.1).bind fun r10 =>
  some (r10, 0)

def i_BestLayout_c1 (i1 : Int) (k2 : Int) (x3 : List Int) : Option Bool :=
  (idx x3 i1).bind fun e8 =>
  (idx x3 k2).bind fun e13 =>
  some (decide (e8 < e13))

def i_nextPermutation_l1 (kj4 : Int → Option (Bool × (List Int))) (list1 : List Int) : Nat → Int → Option (Bool × (List Int))
  | 0, _ => none
  | N + 1, i6 =>
    (andO (decide (i6 ≥ 0)) ((idx list1 i6).bind fun e10 =>
    (idx list1 (w64 (i6 + 1))).bind fun e12 =>
    some (decide (e10 ≥ e12)))).bind fun t7 =>
    bif t7 then
    i_nextPermutation_l1 kj4 list1 N (w64 (i6 - 1))
    else
    kj4 i6

def i_nextPermutation_l2 (kj17 : Int → Option (Bool × (List Int))) (list1 : List Int) (i3 : Int) : Nat → Int → Option (Bool × (List Int))
  | 0, _ => none
  | N + 1, k19 =>
    (idx list1 k19).bind fun e20 =>
    (idx list1 i3).bind fun e22 =>
    bif decide (e20 ≤ e22) then
    i_nextPermutation_l2 kj17 list1 i3 N (w64 (k19 - 1))
    else
    kj17 k19

def i_nextPermutation_l3 (kj35 : (List Int) → Option (Bool × (List Int))) : Nat → (List Int) → Int → Int → Option (Bool × (List Int))
  | 0, _, _, _ => none
  | N + 1, l37, a38, b39 =>
    bif decide (a38 < b39) then
    (idx l37 b39).bind fun e41 =>
    (idx l37 a38).bind fun e43 =>
    (idx l37 a38).bind fun e45 =>
    (idx (List.set l37 (Int.toNat a38) e41) b39).bind fun e47 =>
    i_nextPermutation_l3 kj35 N (List.set (List.set l37 (Int.toNat a38) e41) (Int.toNat b39) e43) (w64 (a38 + 1)) (w64 (b39 - 1))
    else
    kj35 l37

def i_nextPermutation (N : Nat) (list1 : List Int) : Option (Bool × (List Int)) :=
  withK (fun (i3 : Int) =>
  bif decide (i3 < 0) then
  some (false, list1)
  else
  withK (fun (k16 : Int) =>
  (idx list1 k16).bind fun e25 =>
  (idx list1 i3).bind fun e27 =>
  (idx list1 i3).bind fun e29 =>
  (idx (List.set list1 (Int.toNat i3) e25) k16).bind fun e31 =>
  withK (fun (l34 : List Int) =>
  some (true, l34)) fun (kj35 : (List Int) → Option (Bool × (List Int))) =>
  i_nextPermutation_l3 kj35 N (List.set (List.set list1 (Int.toNat i3) e25) (Int.toNat k16) e27) (w64 (i3 + 1)) (w64 ((List.length (List.set (List.set list1 (Int.toNat i3) e25) (Int.toNat k16) e27) : Int) - 1))) fun (kj17 : Int → Option (Bool × (List Int))) =>
  i_nextPermutation_l2 kj17 list1 i3 N (w64 ((List.length list1 : Int) - 1))) fun (kj4 : Int → Option (Bool × (List Int))) =>
  i_nextPermutation_l1 kj4 list1 N (w64 ((List.length list1 : Int) - 2))

def i_BestLayout_l1 (kj15 : (List Int) → Option (Str × Int × Int)) (letters4 : Str) : Nat → (List Int) → Int → Option (Str × Int × Int)
  | 0, _, _ => none
  | N + 1, l17, x19 =>
    bif decide (x19 < (List.length letters4 : Int)) then
    (idx letters4 x19).bind fun c21 =>
    (app l17 [(UInt8.toNat c21 : Int)]).bind fun l24 =>
    i_BestLayout_l1 kj15 letters4 N l24 (w64 (x19 + 1))
    else
    kj15 l17

def i_BestLayout_l3 (kj37 : (List UInt8) → Option (Str × Int × Int)) (l31 : List Int) : Nat → (List UInt8) → Int → Option (Str × Int × Int)
  | 0, _, _ => none
  | N + 1, l39, x41 =>
    bif decide (x41 < (List.length l31 : Int)) then
    (idx l31 x41).bind fun e43 =>
    (app l39 [UInt8.ofInt e43]).bind fun l46 =>
    i_BestLayout_l3 kj37 l31 N l46 (w64 (x41 + 1))
    else
    kj37 l39

def i_BestLayout_l2 (list1 : List Place) (text5 : Str) : Nat → (List Int) → Str → Int → Option (Str × Int × Int)
  | 0, _, _, _ => none
  | N + 1, l31, best32, least33 =>
    withK (fun (l35 : List UInt8) =>
    (i_placesOf N l35 text5).bind fun r49 =>
    withK (fun (best52 : Str) (least53 : Int) =>
    (i_nextPermutation N l31).bind fun r62 =>
    bif !r62.1 then
    some (best52, least53, 0)
    else
    i_BestLayout_l2 list1 text5 N r62.2 best52 least53) fun (kj54 : Str → Int → Option (Str × Int × Int)) =>
    (i_placesCost N list1 r49.1).bind fun r56 =>
    (orO (decide (least33 < 0)) (some (decide (r56 < least33)))).bind fun t58 =>
    bif t58 then
    kj54 l35 r56
    else
    kj54 best32 least33) fun (kj37 : (List UInt8) → Option (Str × Int × Int)) =>
    i_BestLayout_l3 kj37 l31 N [] 0

def i_BestLayout (N : Nat) (list1 : List Place) (letters4 : Str) (text5 : Str) : Option (Str × Int × Int) :=
  (i_strokesOf N list1 letters4 text5).bind fun r6 =>
  bif (r6.2 != 0) then
  some ([], 0, r6.2)
  else
  withK (fun (l13 : List Int) =>
  (srtO (fun i j dk => i_BestLayout_c1 i j dk) l13).bind fun l29 =>
  i_BestLayout_l2 list1 text5 N l29 [] (-1)) fun (kj15 : (List Int) → Option (Str × Int × Int)) =>
  i_BestLayout_l1 kj15 letters4 N [] 0

def i_HandsOf_l1 (kj11 : Int → Option (Int × Int × Int)) (list1 : List Place) (r6 : (List Int) × Int) : Nat → Int → Int → Option (Int × Int × Int)
  | 0, _, _ => none
  | N + 1, left13, x14 =>
    bif decide (x14 < (List.length r6.1 : Int)) then
    withK (fun (left16 : Int) =>
    i_HandsOf_l1 kj11 list1 r6 N left16 (w64 (x14 + 1))) fun (kj17 : Int → Option (Int × Int × Int)) =>
    (idx r6.1 x14).bind fun e19 =>
    (idx list1 e19).bind fun e21 =>
    (i_Place_isLeft e21).bind fun r26 =>
    bif r26 then
    kj17 (w64 (left13 + 1))
    else
    kj17 left13
    else
    kj11 left13

def i_HandsOf (N : Nat) (list1 : List Place) (layout4 : Str) (text5 : Str) : Option (Int × Int × Int) :=
  (i_strokesOf N list1 layout4 text5).bind fun r6 =>
  bif (r6.2 != 0) then
  some (0, 0, r6.2)
  else
  withK (fun (left10 : Int) =>
  some (left10, w64 ((List.length r6.1 : Int) - left10), 0)) fun (kj11 : Int → Option (Int × Int × Int)) =>
  i_HandsOf_l1 kj11 list1 r6 N 0 0

def i_FingersOf_l1 (kj14 : (List Int) → Option ((List Int) × Int)) (list1 : List Place) (r6 : (List Int) × Int) : Nat → (List Int) → Int → Option ((List Int) × Int)
  | 0, _, _ => none
  | N + 1, l16, x17 =>
    bif decide (x17 < (List.length r6.1 : Int)) then
    (idx r6.1 x17).bind fun e19 =>
    (idx list1 e19).bind fun e21 =>
    (idx l16 e21.finger).bind fun e26 =>
    (idx l16 e21.finger).bind fun e28 =>
    i_FingersOf_l1 kj14 list1 r6 N (List.set l16 (Int.toNat e21.finger) (w64 (e26 + 1))) (w64 (x17 + 1))
    else
    kj14 l16

def i_FingersOf (N : Nat) (list1 : List Place) (layout4 : Str) (text5 : Str) : Option ((List Int) × Int) :=
  (i_strokesOf N list1 layout4 text5).bind fun r6 =>
  bif (r6.2 != 0) then
  some ([], r6.2)
  else
  (mk 8 (0 : Int)).bind fun l10 =>
  withK (fun (l13 : List Int) =>
  some (l13, 0)) fun (kj14 : (List Int) → Option ((List Int) × Int)) =>
  i_FingersOf_l1 kj14 list1 r6 N l10 0

def i_AlternationsOf_l1 (kj11 : Int → Option (Int × Int)) (list1 : List Place) (r6 : (List Int) × Int) : Nat → Int → Int → Option (Int × Int)
  | 0, _, _ => none
  | N + 1, n13, i14 =>
    bif decide (i14 < (List.length r6.1 : Int)) then
    withK (fun (n16 : Int) =>
    i_AlternationsOf_l1 kj11 list1 r6 N n16 (w64 (i14 + 1))) fun (kj17 : Int → Option (Int × Int)) =>
    (idx r6.1 (w64 (i14 - 1))).bind fun e19 =>
    (idx list1 e19).bind fun e21 =>
    (i_Place_isLeft e21).bind fun r26 =>
    (idx r6.1 i14).bind fun e28 =>
    (idx list1 e28).bind fun e30 =>
    (i_Place_isLeft e30).bind fun r35 =>
    bif (r26 != r35) then
    kj17 (w64 (n13 + 1))
    else
    kj17 n13
    else
    kj11 n13

def i_AlternationsOf (N : Nat) (list1 : List Place) (layout4 : Str) (text5 : Str) : Option (Int × Int) :=
  (i_strokesOf N list1 layout4 text5).bind fun r6 =>
  bif (r6.2 != 0) then
  some (0, r6.2)
  else
  withK (fun (n10 : Int) =>
  some (n10, 0)) fun (kj11 : Int → Option (Int × Int)) =>
  i_AlternationsOf_l1 kj11 list1 r6 N 0 1

def w_a2Sum_l1 (kj5 : Int → Option Int) (list1 : List Int) : Nat → Int → Int → Option Int
  | 0, _, _ => none
  | N + 1, sum7, i8 =>
    bif decide (i8 < (List.length list1 : Int)) then
    (idx list1 i8).bind fun e10 =>
    w_a2Sum_l1 kj5 list1 N (w64 (sum7 + e10)) (w64 (i8 + 1))
    else
    kj5 sum7

def w_a2Sum (N : Nat) (list1 : List Int) : Option Int :=
  withK (fun (sum4 : Int) =>
  some sum4) fun (kj5 : Int → Option Int) =>
  w_a2Sum_l1 kj5 list1 N 0 0

def w_a2Index_l1 (kj3 : Option Int) (s1 : Str) (c2 : UInt8) : Nat → Int → Option Int
  | 0, _ => none
  | N + 1, i5 =>
    bif decide (i5 < (List.length s1 : Int)) then
    (idx s1 i5).bind fun c7 =>
    bif (c7 == c2) then
    some i5
    else
    w_a2Index_l1 kj3 s1 c2 N (w64 (i5 + 1))
    else
    kj3 

def w_a2Index (N : Nat) (s1 : Str) (c2 : UInt8) : Option Int :=
  withK (some 0) fun (kj3 : Option Int) =>
  w_a2Index_l1 kj3 s1 c2 N 0

def i_StrokeCost (N : Nat) (list1 : List Place) (before4 : Int) (now5 : Int) : Option (Int × Int) :=
  (i_ValidBoard N list1).bind fun r6 =>
  bif !r6 then
  some (0, 1)
  else
  (i_between before4 0 (w64 ((List.length list1 : Int) - 1))).bind fun r9 =>
  (orO (!r9) ((i_between now5 0 (w64 ((List.length list1 : Int) - 1))).bind fun r14 =>
  some (!r14))).bind fun t11 =>
  bif t11 then
  some (0, 2)
  else
  (i_strokeCost list1 before4 now5).bind fun r17 =>
  some (r17, 0)

def w_FnTextCosts_l1 (kj70 : Int → Int → Option Bool) (r10 : (List Place)) (r13 : Str × Str) : Nat → Int → Int → Int → Option Bool
  | 0, _, _, _ => none
  | N + 1, sum72, changes73, i74 =>
    bif decide (i74 < (List.length r13.2 : Int)) then
    withK (fun (sum76 : Int) (changes77 : Int) =>
    w_FnTextCosts_l1 kj70 r10 r13 N sum76 changes77 (w64 (i74 + 1))) fun (kj78 : Int → Int → Option Bool) =>
    (idx r13.2 i74).bind fun c80 =>
    (w_a2Index N r13.1 c80).bind fun r82 =>
    bif (i74 == 0) then
    (idx r10 r82).bind fun e85 =>
    kj78 e85.effort changes73
    else
    (idx r13.2 (w64 (i74 - 1))).bind fun c87 =>
    (w_a2Index N r13.1 c87).bind fun r89 =>
    (i_StrokeCost N r10 r89 r82).bind fun r91 =>
    bif (r91.2 != 0) then
    some false
    else
    (idx r10 r89).bind fun e94 =>
    (idx r10 r82).bind fun e96 =>
    bif ((decide (e94.finger ≤ 3)) != (decide (e96.finger ≤ 3))) then
    kj78 (w64 (sum72 + r91.1)) (w64 (changes73 + 1))
    else
    kj78 (w64 (sum72 + r91.1)) changes73
    else
    kj70 sum72 changes73

def w_FnTextCosts (N : Nat) (code1 : List UInt8) (more4 : List UInt8) : Option Bool :=
  (w_a2Long code1 more4).bind fun r7 =>
  bif r7 then
  some true
  else
  (s_A2Board N code1).bind fun r10 =>
  (s_A2Layout N more4 (List.length r10 : Int)).bind fun r13 =>
  (i_TextCost N r10 r13.1 r13.2).bind fun r15 =>
  (i_BestLayout N r10 r13.1 r13.2).bind fun r17 =>
  (i_TextCost N r10 r17.1 r13.2).bind fun r19 =>
  (i_HandsOf N r10 r13.1 r13.2).bind fun r21 =>
  (i_FingersOf N r10 r13.1 r13.2).bind fun r23 =>
  (i_AlternationsOf N r10 r13.1 r13.2).bind fun r26 =>
  (orO (r15.2 != 0) (some (r17.2.2 != 0))).bind fun t28 =>
  (orO t28 (some (decide (r17.2.1 > r15.1)))).bind fun t31 =>
  (orO t31 (some (r19.2 != 0))).bind fun t34 =>
  (orO t34 (some (r19.1 != r17.2.1))).bind fun t37 =>
  (orO t37 (some (r21.2.2 != 0))).bind fun t40 =>
  (orO t40 (some ((w64 (r21.1 + r21.2.1)) != (List.length r13.2 : Int)))).bind fun t43 =>
  (orO t43 (some (r23.2 != 0))).bind fun t46 =>
  (orO t46 (some ((List.length r23.1 : Int) != 8))).bind fun t49 =>
  (orO t49 ((w_a2Sum N r23.1).bind fun r55 =>
  some (r55 != (List.length r13.2 : Int)))).bind fun t52 =>
  (orO t52 ((sub r23.1 0 4).bind fun l60 =>
  (w_a2Sum N l60).bind fun r62 =>
  some (r62 != r21.1))).bind fun t57 =>
  (orO t57 (some (r26.2 != 0))).bind fun t64 =>
  bif t64 then
  some false
  else
  withK (fun (sum68 : Int) (changes69 : Int) =>
  (andO (sum68 == r15.1) (some (changes69 == r26.1))).bind fun t99 =>
  some t99) fun (kj70 : Int → Int → Option Bool) =>
  w_FnTextCosts_l1 kj70 r10 r13 N 0 0 0

end Go.Proofs.Ytdkhpbfciajaeaa
