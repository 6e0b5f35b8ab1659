/-
  Plain functions that compute what the Go functions compute. No conditions.
-/
import Derived.Test.YtoojddajhalimaaDoorBase
namespace Go.Proofs.YtoojddajhalimaaDoor
set_option linter.unusedVariables false
set_option linter.unusedSimpArgs false

structure Ribbon where
  spots : Int
  ink : Int
  takes : Int

def Ribbon.beq (x y : Ribbon) : Bool := x.spots == y.spots && (x.ink == y.ink && (x.takes == y.takes))

structure L00Src where
  code : List UInt8
  at_ : Int
  seed : Int



def w_f6big (code1 : List UInt8) : Option Bool :=
  some (decide ((List.length code1 : Int) > 4096))

def s_l00From (code1 : List UInt8) : Option L00Src :=
  some (L00Src.mk code1 0 0)

def s_l00Src_next (s1 : L00Src) : Option (Int × L00Src) :=
  withK (fun (b5 : Int) =>
  bif decide ((w64 (s1.at_ + 1)) ≤ (List.length s1.code : Int)) then
  some (b5, (L00Src.mk s1.code (w64 (s1.at_ + 1)) (IntKind.u64.wrap ((IntKind.u64.wrap ((IntKind.u64.wrap (s1.seed * 6364136223846793005)) + (IntKind.u64.wrap b5))) + 1442695040888963407))))
  else
  some (w64 (uand (ushr (IntKind.u64.wrap ((IntKind.u64.wrap ((IntKind.u64.wrap (s1.seed * 6364136223846793005)) + (IntKind.u64.wrap b5))) + 1442695040888963407)) 40) 255), (L00Src.mk s1.code (w64 (s1.at_ + 1)) (IntKind.u64.wrap ((IntKind.u64.wrap ((IntKind.u64.wrap (s1.seed * 6364136223846793005)) + (IntKind.u64.wrap b5))) + 1442695040888963407))))) fun (kj6 : Int → Option (Int × L00Src)) =>
  bif decide (s1.at_ < (List.length s1.code : Int)) then
  (idx s1.code s1.at_).bind fun e9 =>
  kj6 (UInt8.toNat e9 : Int)
  else
  kj6 0

def s_l00Src_pick (s1 : L00Src) (n5 : Int) : Option (Int × L00Src) :=
  bif decide (n5 ≤ 1) then
  some (0, (L00Src.mk s1.code s1.at_ s1.seed))
  else
  (s_l00Src_next (L00Src.mk s1.code s1.at_ s1.seed)).bind fun r7 =>
  withK (fun (x9 : Int) (x10 : Int) (x11 : Int) =>
  (remO x11 n5).bind fun q17 =>
  some (q17, (L00Src.mk s1.code x9 x10))) fun (kj12 : Int → Int → Int → Option (Int × L00Src)) =>
  bif decide (n5 > 200) then
  (s_l00Src_next (L00Src.mk s1.code r7.2.at_ r7.2.seed)).bind fun r15 =>
  kj12 r15.2.at_ r15.2.seed (w64 ((w64 (r7.1 * 256)) + r15.1))
  else
  kj12 r7.2.at_ r7.2.seed r7.1

def s_l14Draw (s1 : L00Src) : Option (Ribbon × L00Src) :=
  (s_l00Src_pick (L00Src.mk s1.code s1.at_ s1.seed) 20).bind fun r6 =>
  (s_l00Src_pick (L00Src.mk s1.code r6.2.at_ r6.2.seed) 80).bind fun r9 =>
  (s_l00Src_pick (L00Src.mk s1.code r9.2.at_ r9.2.seed) 15).bind fun r11 =>
  some ((Ribbon.mk ((Ribbon.mk (w64 (2 + r6.1)) 20 0).spots) (w64 (20 + r9.1)) (w64 (1 + r11.1))), (L00Src.mk s1.code r11.2.at_ r11.2.seed))

def s_l00Src_among (s1 : L00Src) (list5 : List Int) : Option (Int × L00Src) :=
  (s_l00Src_pick (L00Src.mk s1.code s1.at_ s1.seed) (List.length list5 : Int)).bind fun r8 =>
  (idx list5 r8.1).bind fun e10 =>
  some (e10, (L00Src.mk s1.code r8.2.at_ r8.2.seed))

def s_l14Bent (s1 : L00Src) : Option (Ribbon × L00Src) :=
  (s_l14Draw (L00Src.mk s1.code s1.at_ s1.seed)).bind fun r6 =>
  withK (fun (x9 : Int) (x10 : Int) (x11 : Int) (x12 : Int) (x13 : Int) =>
  some ((Ribbon.mk x11 x12 x13), (L00Src.mk s1.code x9 x10))) fun (kj14 : Int → Int → Int → Int → Int → Option (Ribbon × L00Src)) =>
  (s_l00Src_pick (L00Src.mk s1.code r6.2.at_ r6.2.seed) 24).bind fun r16 =>
  bif (r16.1 == 0) then
  (s_l00Src_among (L00Src.mk s1.code r16.2.at_ r16.2.seed) [1, 2, 200, 201, (-9223372036854775808)]).bind fun r20 =>
  kj14 r20.2.at_ r20.2.seed r20.1 r6.1.ink r6.1.takes
  else
  bif (r16.1 == 1) then
  (s_l00Src_among (L00Src.mk s1.code r16.2.at_ r16.2.seed) [0, r6.1.takes, 1000, 1001]).bind fun r24 =>
  kj14 r24.2.at_ r24.2.seed r6.1.spots r24.1 r6.1.takes
  else
  bif (r16.1 == 2) then
  (s_l00Src_among (L00Src.mk s1.code r16.2.at_ r16.2.seed) [0, 1, r6.1.ink, w64 (r6.1.ink + 1)]).bind fun r28 =>
  kj14 r28.2.at_ r28.2.seed r6.1.spots r6.1.ink r28.1
  else
  kj14 r16.2.at_ r16.2.seed r6.1.spots r6.1.ink r6.1.takes

def s_l00Src_one (s1 : L00Src) (n5 : Int) : Option (Bool × L00Src) :=
  (s_l00Src_pick (L00Src.mk s1.code s1.at_ s1.seed) n5).bind fun r6 =>
  some ((r6.1 == 0), (L00Src.mk s1.code r6.2.at_ r6.2.seed))

def s_l14Strokes (s1 : L00Src) : Option (Int × L00Src) :=
  (s_l00Src_one (L00Src.mk s1.code s1.at_ s1.seed) 10).bind fun r5 =>
  bif r5.1 then
  (s_l00Src_among (L00Src.mk s1.code r5.2.at_ r5.2.seed) [(-1), 0, 100000, 100001, 9223372036854775807]).bind fun r9 =>
  some (r9.1, (L00Src.mk s1.code r9.2.at_ r9.2.seed))
  else
  (s_l00Src_pick (L00Src.mk s1.code r5.2.at_ r5.2.seed) 200).bind fun r11 =>
  some (r11.1, (L00Src.mk s1.code r11.2.at_ r11.2.seed))

def s_l14Both (code1 : List UInt8) : Option (Ribbon × Int) :=
  (s_l00From code1).bind fun r5 =>
  (s_l14Bent (L00Src.mk code1 r5.at_ r5.seed)).bind fun r8 =>
  (s_l14Strokes (L00Src.mk code1 r8.2.at_ r8.2.seed)).bind fun r11 =>
  some (r8.1, r11.1)

def s_DrawUsesOf (code1 : List UInt8) : Option (Ribbon × Int) :=
  (s_l14Both code1).bind fun r5 =>
  some (r5.1, r5.2)

def i_between (n1 : Int) (low2 : Int) (high3 : Int) : Option Bool :=
  (andO (decide (n1 ≥ low2)) (some (decide (n1 ≤ high3)))).bind fun t4 =>
  some t4

def i_ValidRibbon (r1 : Ribbon) : Option Bool :=
  (i_between r1.spots 2 200).bind fun r3 =>
  (andO r3 ((i_between r1.ink 1 1000).bind fun r8 =>
  some r8)).bind fun t5 =>
  (andO t5 ((i_between r1.takes 1 r1.ink).bind fun r13 =>
  some r13)).bind fun t10 =>
  some t10

def i_isUse (n1 : Int) : Option Bool :=
  (i_between n1 0 100000).bind fun r2 =>
  some r2

def i_Ribbon_period (r1 : Ribbon) : Option Int :=
  some (w64 (2 * (w64 (r1.spots - 1))))

def i_Ribbon_isEnd (r1 : Ribbon) (spot2 : Int) : Option Bool :=
  (orO (spot2 == 0) (some (spot2 == (w64 (r1.spots - 1))))).bind fun t4 =>
  some t4

def i_Ribbon_uses (r1 : Ribbon) (spot2 : Int) (strokes3 : Int) : Option Int :=
  (i_Ribbon_period r1).bind fun r5 =>
  (quoO strokes3 r5).bind fun q7 =>
  (i_Ribbon_period r1).bind fun r9 =>
  (remO strokes3 r9).bind fun q11 =>
  withK (fun (n13 : Int) =>
  (i_Ribbon_isEnd r1 spot2).bind fun r17 =>
  bif r17 then
  some n13
  else
  withK (fun (n20 : Int) =>
  some n20) fun (kj21 : Int → Option Int) =>
  (i_Ribbon_period r1).bind fun r23 =>
  bif decide ((w64 (r23 - spot2)) < q11) then
  kj21 (w64 ((w64 (n13 + q7)) + 1))
  else
  kj21 (w64 (n13 + q7))) fun (kj14 : Int → Option Int) =>
  bif decide (spot2 < q11) then
  kj14 (w64 (q7 + 1))
  else
  kj14 q7

def i_UsesOf_l1 (kj13 : (List Int) → Option ((List Int) × Int)) (r1 : Ribbon) (strokes2 : Int) : Nat → (List Int) → Int → Option ((List Int) × Int)
  | 0, _, _ => none
  | N + 1, l15, x17 =>
    bif decide (x17 < r1.spots) then
    (i_Ribbon_uses r1 x17 strokes2).bind fun r19 =>
    (app l15 [r19]).bind fun l22 =>
    i_UsesOf_l1 kj13 r1 strokes2 N l22 (w64 (x17 + 1))
    else
    kj13 l15

def i_UsesOf (N : Nat) (r1 : Ribbon) (strokes2 : Int) : Option ((List Int) × Int) :=
  (i_ValidRibbon r1).bind fun r4 =>
  bif !r4 then
  some ([], 1)
  else
  (i_isUse strokes2).bind fun r7 =>
  bif !r7 then
  some ([], 2)
  else
  withK (fun (l11 : List Int) =>
  some (l11, 0)) fun (kj13 : (List Int) → Option ((List Int) × Int)) =>
  i_UsesOf_l1 kj13 r1 strokes2 N [] 0

def s_l00In (n1 : Int) (low2 : Int) (high3 : Int) : Option Bool :=
  (andO (decide (n1 ≥ low2)) (some (decide (n1 ≤ high3)))).bind fun t4 =>
  some t4

def s_l14Ok (r1 : Ribbon) : Option Bool :=
  (s_l00In r1.spots 2 200).bind fun r3 =>
  (andO r3 ((s_l00In r1.ink 1 1000).bind fun r8 =>
  some r8)).bind fun t5 =>
  (andO t5 ((s_l00In r1.takes 1 r1.ink).bind fun r13 =>
  some r13)).bind fun t10 =>
  some t10

def s_l14Code (r1 : Ribbon) (strokes2 : Int) : Option Int :=
  (s_l14Ok r1).bind fun r4 =>
  bif !r4 then
  some 1
  else
  (s_l00In strokes2 0 100000).bind fun r7 =>
  bif !r7 then
  some 2
  else
  some 0

def s_l14Spot (r1 : Ribbon) (stroke2 : Int) : Option Int :=
  (remO stroke2 (w64 (2 * (w64 (r1.spots - 1))))).bind fun q4 =>
  bif decide (q4 ≥ r1.spots) then
  some (w64 ((w64 (2 * (w64 (r1.spots - 1)))) - q4))
  else
  some q4

def s_l14Before_l1 (kj15 : Int → Option Int) (r1 : Ribbon) (strokes2 : Int) (spot3 : Int) : Nat → Int → Int → Option Int
  | 0, _, _ => none
  | N + 1, uses17, k18 =>
    bif decide (k18 < strokes2) then
    withK (fun (uses20 : Int) =>
    s_l14Before_l1 kj15 r1 strokes2 spot3 N uses20 (w64 (k18 + 1))) fun (kj21 : Int → Option Int) =>
    (s_l14Spot r1 k18).bind fun r23 =>
    bif (r23 == spot3) then
    kj21 (w64 (uses17 + 1))
    else
    kj21 uses17
    else
    kj15 uses17

def s_l14Before (N : Nat) (r1 : Ribbon) (strokes2 : Int) (spot3 : Int) : Option Int :=
  (quoO strokes2 (w64 (2 * (w64 (r1.spots - 1))))).bind fun q5 =>
  withK (fun (uses7 : Int) =>
  withK (fun (uses14 : Int) =>
  some uses14) fun (kj15 : Int → Option Int) =>
  s_l14Before_l1 kj15 r1 strokes2 spot3 N uses7 (w64 (q5 * (w64 (2 * (w64 (r1.spots - 1))))))) fun (kj8 : Int → Option Int) =>
  (andO (decide (spot3 > 0)) (some (decide (spot3 < (w64 (r1.spots - 1)))))).bind fun t10 =>
  bif t10 then
  kj8 (w64 (2 * q5))
  else
  kj8 q5

def s_UsesOf_l1 (kj10 : (List Int) → Option ((List Int) × Int)) (r1 : Ribbon) (strokes2 : Int) : Nat → (List Int) → Int → Option ((List Int) × Int)
  | 0, _, _ => none
  | N + 1, l12, k14 =>
    bif decide (k14 < r1.spots) then
    (s_l14Before N r1 strokes2 k14).bind fun r16 =>
    (app l12 [r16]).bind fun l19 =>
    s_UsesOf_l1 kj10 r1 strokes2 N l19 (w64 (k14 + 1))
    else
    kj10 l12

def s_UsesOf (N : Nat) (r1 : Ribbon) (strokes2 : Int) : Option ((List Int) × Int) :=
  (s_l14Code r1 strokes2).bind fun r4 =>
  bif (r4 != 0) then
  some ([], r4)
  else
  withK (fun (l8 : List Int) =>
  some (l8, 0)) fun (kj10 : (List Int) → Option ((List Int) × Int)) =>
  s_UsesOf_l1 kj10 r1 strokes2 N [] 0

def i_Ribbon_spot (r1 : Ribbon) (stroke2 : Int) : Option Int :=
  (i_Ribbon_period r1).bind fun r4 =>
  (remO stroke2 r4).bind fun q6 =>
  bif decide (q6 ≥ r1.spots) then
  (i_Ribbon_period r1).bind fun r9 =>
  some (w64 (r9 - q6))
  else
  some q6

def i_SpotAt (r1 : Ribbon) (stroke2 : Int) : Option (Int × Int) :=
  (i_ValidRibbon r1).bind fun r4 =>
  bif !r4 then
  some (0, 1)
  else
  (i_isUse stroke2).bind fun r7 =>
  bif !r7 then
  some (0, 2)
  else
  (i_Ribbon_spot r1 stroke2).bind fun r10 =>
  some (r10, 0)

def s_SpotAt (r1 : Ribbon) (stroke2 : Int) : Option (Int × Int) :=
  (s_l14Code r1 stroke2).bind fun r4 =>
  bif (r4 != 0) then
  some (0, r4)
  else
  (s_l14Spot r1 stroke2).bind fun r7 =>
  some (r7, 0)

def i_TurnsIn (r1 : Ribbon) (strokes2 : Int) : Option (Int × Int) :=
  (i_ValidRibbon r1).bind fun r4 =>
  bif !r4 then
  some (0, 1)
  else
  (i_isUse strokes2).bind fun r7 =>
  bif !r7 then
  some (0, 2)
  else
  (i_Ribbon_uses r1 0 strokes2).bind fun r10 =>
  (i_Ribbon_uses r1 (w64 (r1.spots - 1)) strokes2).bind fun r12 =>
  some (imax (w64 ((w64 (r10 + r12)) - 1)) 0, 0)

def s_l00Max (a1 : Int) (b2 : Int) : Option Int :=
  bif decide (a1 > b2) then
  some a1
  else
  some b2

def s_TurnsIn (r1 : Ribbon) (strokes2 : Int) : Option (Int × Int) :=
  (s_l14Code r1 strokes2).bind fun r4 =>
  bif (r4 != 0) then
  some (0, r4)
  else
  (s_l00Max 0 (w64 (strokes2 - 1))).bind fun r7 =>
  (quoO r7 (w64 (r1.spots - 1))).bind fun q9 =>
  some (q9, 0)

def i_Ribbon_shade (r1 : Ribbon) (stroke2 : Int) : Option Int :=
  (i_Ribbon_spot r1 stroke2).bind fun r4 =>
  (i_Ribbon_uses r1 r4 stroke2).bind fun r6 =>
  some (imax (w64 (r1.ink - (w64 (r1.takes * r6)))) 0)

def i_ShadeAt (r1 : Ribbon) (stroke2 : Int) : Option (Int × Int) :=
  (i_ValidRibbon r1).bind fun r4 =>
  bif !r4 then
  some (0, 1)
  else
  (i_isUse stroke2).bind fun r7 =>
  bif !r7 then
  some (0, 2)
  else
  (i_Ribbon_shade r1 stroke2).bind fun r10 =>
  some (r10, 0)

def s_l14Shade (N : Nat) (r1 : Ribbon) (stroke2 : Int) : Option Int :=
  (s_l14Spot r1 stroke2).bind fun r4 =>
  (s_l14Before N r1 stroke2 r4).bind fun r6 =>
  (s_l00Max 0 (w64 (r1.ink - (w64 (r1.takes * r6))))).bind fun r8 =>
  some r8

def s_ShadeAt (N : Nat) (r1 : Ribbon) (stroke2 : Int) : Option (Int × Int) :=
  (s_l14Code r1 stroke2).bind fun r4 =>
  bif (r4 != 0) then
  some (0, r4)
  else
  (s_l14Shade N r1 stroke2).bind fun r7 =>
  some (r7, 0)

def w_f6ints_l1 (kj8 : Option Bool) (a1 : List Int) (b4 : List Int) : Nat → Int → Option Bool
  | 0, _ => none
  | N + 1, i10 =>
    bif decide (i10 < (List.length a1 : Int)) then
    (idx a1 i10).bind fun e12 =>
    (idx b4 i10).bind fun e17 =>
    bif (e12 != e17) then
    some false
    else
    w_f6ints_l1 kj8 a1 b4 N (w64 (i10 + 1))
    else
    kj8 

def w_f6ints (N : Nat) (a1 : List Int) (b4 : List Int) : Option Bool :=
  bif ((List.length a1 : Int) != (List.length b4 : Int)) then
  some false
  else
  withK (some true) fun (kj8 : Option Bool) =>
  w_f6ints_l1 kj8 a1 b4 N 0

def i_Decimal (n1 : Int) : Option Str :=
  (fmtI n1 10).bind fun r2 =>
  some r2

def i_RibbonText (r1 : Ribbon) : Option Str :=
  (i_ValidRibbon r1).bind fun r3 =>
  bif !r3 then
  some []
  else
  (i_Decimal r1.spots).bind fun r6 =>
  (cat r6 [32, 115, 112, 111, 116, 115, 32, 111, 102, 32]).bind fun s8 =>
  (i_Decimal r1.ink).bind fun r10 =>
  (cat s8 r10).bind fun s12 =>
  (cat s12 [32, 108, 101, 115, 115, 32]).bind fun s14 =>
  (i_Decimal r1.takes).bind fun r16 =>
  (cat s14 r16).bind fun s18 =>
  some s18

def s_l01Dec_l1 (kj5 : (List UInt8) → Option Str) : Nat → (List UInt8) → Int → Option Str
  | 0, _, _ => none
  | N + 1, l7, k9 =>
    bif (k9 != 0) then
    withK (fun (d11 : Int) =>
    (app [UInt8.ofInt (w64 (48 + d11))] l7).bind fun l16 =>
    s_l01Dec_l1 kj5 N l16 (w64 (Int.tdiv k9 10))) fun (kj12 : Int → Option Str) =>
    bif decide ((Int.tmod k9 10) < 0) then
    kj12 (w64 (0 - (Int.tmod k9 10)))
    else
    kj12 (Int.tmod k9 10)
    else
    kj5 l7

def s_l01Dec (N : Nat) (n1 : Int) : Option Str :=
  withK (fun (l3 : List UInt8) =>
  bif ((List.length l3 : Int) == 0) then
  some [48]
  else
  bif decide (n1 < 0) then
  (cat [45] l3).bind fun s21 =>
  some s21
  else
  some l3) fun (kj5 : (List UInt8) → Option Str) =>
  s_l01Dec_l1 kj5 N [] n1

def s_RibbonText (N : Nat) (r1 : Ribbon) : Option Str :=
  (s_l14Ok r1).bind fun r3 =>
  bif !r3 then
  some []
  else
  (s_l01Dec N r1.spots).bind fun r6 =>
  (cat r6 [32, 115, 112, 111, 116, 115, 32, 111, 102, 32]).bind fun s8 =>
  (s_l01Dec N r1.ink).bind fun r10 =>
  (cat s8 r10).bind fun s12 =>
  (cat s12 [32, 108, 101, 115, 115, 32]).bind fun s14 =>
  (s_l01Dec N r1.takes).bind fun r16 =>
  (cat s14 r16).bind fun s18 =>
  some s18

def s_ValidRibbon (r1 : Ribbon) : Option Bool :=
  (s_l14Ok r1).bind fun r3 =>
  some r3

def w_f6sum_l1 (kj5 : Int → Option Int) (list1 : List Int) : Nat → Int → Int → Option Int
  | 0, _, _ => none
  | N + 1, sum7, i8 =>
    bif decide (i8 < (List.length list1 : Int)) then
    (idx list1 i8).bind fun e10 =>
    w_f6sum_l1 kj5 list1 N (w64 (sum7 + e10)) (w64 (i8 + 1))
    else
    kj5 sum7

def w_f6sum (N : Nat) (list1 : List Int) : Option Int :=
  withK (fun (sum4 : Int) =>
  some sum4) fun (kj5 : Int → Option Int) =>
  w_f6sum_l1 kj5 list1 N 0 0

def w_FnRibbonSpots (N : Nat) (code1 : List UInt8) : Option Bool :=
  (w_f6big code1).bind fun r4 =>
  bif r4 then
  some true
  else
  (s_DrawUsesOf code1).bind fun r7 =>
  (i_UsesOf N r7.1 r7.2).bind fun r10 =>
  (s_UsesOf N r7.1 r7.2).bind fun r13 =>
  (i_SpotAt r7.1 r7.2).bind fun r16 =>
  (s_SpotAt r7.1 r7.2).bind fun r18 =>
  (i_TurnsIn r7.1 r7.2).bind fun r20 =>
  (s_TurnsIn r7.1 r7.2).bind fun r22 =>
  (i_ShadeAt r7.1 r7.2).bind fun r24 =>
  (s_ShadeAt N r7.1 r7.2).bind fun r26 =>
  (orO (r10.2 != r13.2) ((w_f6ints N r10.1 r13.1).bind fun r31 =>
  some (!r31))).bind fun t28 =>
  (orO t28 (some (r16.2 != r18.2))).bind fun t33 =>
  (orO t33 (some (r16.1 != r18.1))).bind fun t36 =>
  (orO t36 (some (r20.2 != r22.2))).bind fun t39 =>
  (orO t39 (some (r20.1 != r22.1))).bind fun t42 =>
  (orO t42 (some (r24.2 != r26.2))).bind fun t45 =>
  (orO t45 (some (r24.1 != r26.1))).bind fun t48 =>
  (orO t48 ((i_RibbonText r7.1).bind fun r54 =>
  (s_RibbonText N r7.1).bind fun r56 =>
  some (r54 != r56))).bind fun t51 =>
  (orO t51 ((i_ValidRibbon r7.1).bind fun r61 =>
  (s_ValidRibbon r7.1).bind fun r63 =>
  some (r61 != r63))).bind fun t58 =>
  bif t58 then
  some false
  else
  bif (r10.2 != 0) then
  some true
  else
  (w_f6sum N r13.1).bind fun r67 =>
  (orO (r67 != r7.2) (some (decide (r16.1 < 0)))).bind fun t69 =>
  (orO t69 (some (decide (r16.1 ≥ r7.1.spots)))).bind fun t72 =>
  (orO t72 ((idx r13.1 r16.1).bind fun e78 =>
  some (r24.1 != (imax 0 (w64 (r7.1.ink - (w64 (r7.1.takes * e78)))))))).bind fun t75 =>
  bif t75 then
  some false
  else
  bif (r7.2 == 0) then
  (andO (r16.1 == 0) (some (r20.1 == 0))).bind fun t82 =>
  some t82
  else
  (i_SpotAt r7.1 (w64 (r7.2 - 1))).bind fun r85 =>
  (i_TurnsIn r7.1 (w64 (r7.2 - 1))).bind fun r87 =>
  withK (fun (end89 : Int) =>
  (andO (r85.2 == 0) (some ((imax (w64 (r16.1 - r85.1)) (w64 (r85.1 - r16.1))) == 1))).bind fun t99 =>
  (andO t99 (some (r87.2 == 0))).bind fun t102 =>
  (andO t102 (some (r20.1 == (w64 (r87.1 + end89))))).bind fun t105 =>
  some t105) fun (kj90 : Int → Option Bool) =>
  (andO (decide (r7.2 > 1)) ((orO (r85.1 == 0) (some (r85.1 == (w64 (r7.1.spots - 1))))).bind fun t95 =>
  some t95)).bind fun t92 =>
  bif t92 then
  kj90 1
  else
  kj90 0

end Go.Proofs.YtoojddajhalimaaDoor
