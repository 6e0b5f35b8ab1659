/-
  Plain functions that compute what the Go functions compute. No conditions.
-/
import Derived.Test.YtoojddajhalimaaBase
namespace Go.Proofs.Ytoojddajhalimaa
set_option linter.unusedVariables false
set_option linter.unusedSimpArgs false

structure Ribbon where
  spots : Int
  ink : Int
  takes : Int

def Ribbon.beq (x y : Ribbon) : Bool := x.spots == y.spots && (x.ink == y.ink && (x.takes == y.takes))

structure L00Src where
  code : List UInt8
  at_ : Int
  seed : Int



def w_f6big (code1 : List UInt8) : Option Bool :=
  some (decide ((List.length code1 : Int) > 4096))

def s_l00From (code1 : List UInt8) : Option L00Src :=
  some (L00Src.mk code1 0 0)

def s_l00Src_next (s1 : L00Src) : Option (Int × L00Src) :=
  withK (fun (b5 : Int) =>
  bif decide ((w64 (s1.at_ + 1)) ≤ (List.length s1.code : Int)) then
  some (b5, (L00Src.mk s1.code (w64 (s1.at_ + 1)) (IntKind.u64.wrap ((IntKind.u64.wrap ((IntKind.u64.wrap (s1.seed * 6364136223846793005)) + (IntKind.u64.wrap b5))) + 1442695040888963407))))
  else
  some (w64 (uand (ushr (IntKind.u64.wrap ((IntKind.u64.wrap ((IntKind.u64.wrap (s1.seed * 6364136223846793005)) + (IntKind.u64.wrap b5))) + 1442695040888963407)) 40) 255), (L00Src.mk s1.code (w64 (s1.at_ + 1)) (IntKind.u64.wrap ((IntKind.u64.wrap ((IntKind.u64.wrap (s1.seed * 6364136223846793005)) + (IntKind.u64.wrap b5))) + 1442695040888963407))))) fun (kj6 : Int → Option (Int × L00Src)) =>
  bif decide (s1.at_ < (List.length s1.code : Int)) then
  (idx s1.code s1.at_).bind fun e9 =>
  kj6 (UInt8.toNat e9 : Int)
  else
  kj6 0

def s_l00Src_pick (s1 : L00Src) (n5 : Int) : Option (Int × L00Src) :=
  bif decide (n5 ≤ 1) then
  some (0, (L00Src.mk s1.code s1.at_ s1.seed))
  else
  (s_l00Src_next (L00Src.mk s1.code s1.at_ s1.seed)).bind fun r7 =>
  withK (fun (x9 : Int) (x10 : Int) (x11 : Int) =>
  (remO x11 n5).bind fun q17 =>
  some (q17, (L00Src.mk s1.code x9 x10))) fun (kj12 : Int → Int → Int → Option (Int × L00Src)) =>
  bif decide (n5 > 200) then
  (s_l00Src_next (L00Src.mk s1.code r7.2.at_ r7.2.seed)).bind fun r15 =>
  kj12 r15.2.at_ r15.2.seed (w64 ((w64 (r7.1 * 256)) + r15.1))
  else
  kj12 r7.2.at_ r7.2.seed r7.1

def s_l14Draw (s1 : L00Src) : Option (Ribbon × L00Src) :=
  (s_l00Src_pick (L00Src.mk s1.code s1.at_ s1.seed) 20).bind fun r6 =>
  (s_l00Src_pick (L00Src.mk s1.code r6.2.at_ r6.2.seed) 80).bind fun r9 =>
  (s_l00Src_pick (L00Src.mk s1.code r9.2.at_ r9.2.seed) 15).bind fun r11 =>
  some ((Ribbon.mk ((Ribbon.mk (w64 (2 + r6.1)) 20 0).spots) (w64 (20 + r9.1)) (w64 (1 + r11.1))), (L00Src.mk s1.code r11.2.at_ r11.2.seed))

def s_l00Src_among (s1 : L00Src) (list5 : List Int) : Option (Int × L00Src) :=
  (s_l00Src_pick (L00Src.mk s1.code s1.at_ s1.seed) (List.length list5 : Int)).bind fun r8 =>
  (idx list5 r8.1).bind fun e10 =>
  some (e10, (L00Src.mk s1.code r8.2.at_ r8.2.seed))

def s_l14Bent (s1 : L00Src) : Option (Ribbon × L00Src) :=
  (s_l14Draw (L00Src.mk s1.code s1.at_ s1.seed)).bind fun r6 =>
  withK (fun (x9 : Int) (x10 : Int) (x11 : Int) (x12 : Int) (x13 : Int) =>
  some ((Ribbon.mk x11 x12 x13), (L00Src.mk s1.code x9 x10))) fun (kj14 : Int → Int → Int → Int → Int → Option (Ribbon × L00Src)) =>
  (s_l00Src_pick (L00Src.mk s1.code r6.2.at_ r6.2.seed) 24).bind fun r16 =>
  bif (r16.1 == 0) then
  (s_l00Src_among (L00Src.mk s1.code r16.2.at_ r16.2.seed) [1, 2, 200, 201, (-9223372036854775808)]).bind fun r20 =>
  kj14 r20.2.at_ r20.2.seed r20.1 r6.1.ink r6.1.takes
  else
  bif (r16.1 == 1) then
  (s_l00Src_among (L00Src.mk s1.code r16.2.at_ r16.2.seed) [0, r6.1.takes, 1000, 1001]).bind fun r24 =>
  kj14 r24.2.at_ r24.2.seed r6.1.spots r24.1 r6.1.takes
  else
  bif (r16.1 == 2) then
  (s_l00Src_among (L00Src.mk s1.code r16.2.at_ r16.2.seed) [0, 1, r6.1.ink, w64 (r6.1.ink + 1)]).bind fun r28 =>
  kj14 r28.2.at_ r28.2.seed r6.1.spots r6.1.ink r28.1
  else
  kj14 r16.2.at_ r16.2.seed r6.1.spots r6.1.ink r6.1.takes

def s_l00Src_one (s1 : L00Src) (n5 : Int) : Option (Bool × L00Src) :=
  (s_l00Src_pick (L00Src.mk s1.code s1.at_ s1.seed) n5).bind fun r6 =>
  some ((r6.1 == 0), (L00Src.mk s1.code r6.2.at_ r6.2.seed))

def s_l14DrawLeast (s1 : L00Src) (r5 : Ribbon) : Option (Int × L00Src) :=
  (s_l00Src_one (L00Src.mk s1.code s1.at_ s1.seed) 8).bind fun r7 =>
  bif r7.1 then
  (s_l00Src_among (L00Src.mk s1.code r7.2.at_ r7.2.seed) [(-1), 0, 1, r5.ink, w64 (r5.ink + 1)]).bind fun r11 =>
  some (r11.1, (L00Src.mk s1.code r11.2.at_ r11.2.seed))
  else
  (s_l00Src_pick (L00Src.mk s1.code r7.2.at_ r7.2.seed) 40).bind fun r13 =>
  some (w64 (1 + r13.1), (L00Src.mk s1.code r13.2.at_ r13.2.seed))

def s_DrawStrokesUntil (code1 : List UInt8) : Option (Ribbon × Int) :=
  (s_l00From code1).bind fun r5 =>
  (s_l14Bent (L00Src.mk code1 r5.at_ r5.seed)).bind fun r8 =>
  (s_l00Src_one (L00Src.mk code1 r8.2.at_ r8.2.seed) 30).bind fun r11 =>
  bif r11.1 then
  some ((Ribbon.mk 200 1000 1), 1)
  else
  (s_l14DrawLeast (L00Src.mk code1 r11.2.at_ r11.2.seed) r8.1).bind fun r14 =>
  some (r8.1, r14.1)

def i_between (n1 : Int) (low2 : Int) (high3 : Int) : Option Bool :=
  (andO (decide (n1 ≥ low2)) (some (decide (n1 ≤ high3)))).bind fun t4 =>
  some t4

def i_ValidRibbon (r1 : Ribbon) : Option Bool :=
  (i_between r1.spots 2 200).bind fun r3 =>
  (andO r3 ((i_between r1.ink 1 1000).bind fun r8 =>
  some r8)).bind fun t5 =>
  (andO t5 ((i_between r1.takes 1 r1.ink).bind fun r13 =>
  some r13)).bind fun t10 =>
  some t10

def i_Ribbon_period (r1 : Ribbon) : Option Int :=
  some (w64 (2 * (w64 (r1.spots - 1))))

def i_Ribbon_spot (r1 : Ribbon) (stroke2 : Int) : Option Int :=
  (i_Ribbon_period r1).bind fun r4 =>
  (remO stroke2 r4).bind fun q6 =>
  bif decide (q6 ≥ r1.spots) then
  (i_Ribbon_period r1).bind fun r9 =>
  some (w64 (r9 - q6))
  else
  some q6

def i_Ribbon_isEnd (r1 : Ribbon) (spot2 : Int) : Option Bool :=
  (orO (spot2 == 0) (some (spot2 == (w64 (r1.spots - 1))))).bind fun t4 =>
  some t4

def i_Ribbon_uses (r1 : Ribbon) (spot2 : Int) (strokes3 : Int) : Option Int :=
  (i_Ribbon_period r1).bind fun r5 =>
  (quoO strokes3 r5).bind fun q7 =>
  (i_Ribbon_period r1).bind fun r9 =>
  (remO strokes3 r9).bind fun q11 =>
  withK (fun (n13 : Int) =>
  (i_Ribbon_isEnd r1 spot2).bind fun r17 =>
  bif r17 then
  some n13
  else
  withK (fun (n20 : Int) =>
  some n20) fun (kj21 : Int → Option Int) =>
  (i_Ribbon_period r1).bind fun r23 =>
  bif decide ((w64 (r23 - spot2)) < q11) then
  kj21 (w64 ((w64 (n13 + q7)) + 1))
  else
  kj21 (w64 (n13 + q7))) fun (kj14 : Int → Option Int) =>
  bif decide (spot2 < q11) then
  kj14 (w64 (q7 + 1))
  else
  kj14 q7

def i_Ribbon_shade (r1 : Ribbon) (stroke2 : Int) : Option Int :=
  (i_Ribbon_spot r1 stroke2).bind fun r4 =>
  (i_Ribbon_uses r1 r4 stroke2).bind fun r6 =>
  some (imax (w64 (r1.ink - (w64 (r1.takes * r6)))) 0)

def i_Ribbon_until_l1 (kj5 : Int → Option Int) (r1 : Ribbon) (least2 : Int) : Nat → Int → Option Int
  | 0, _ => none
  | N + 1, stroke7 =>
    (andO (decide (stroke7 ≤ 100000)) ((i_Ribbon_shade r1 stroke7).bind fun r11 =>
    some (decide (r11 ≥ least2)))).bind fun t8 =>
    bif t8 then
    i_Ribbon_until_l1 kj5 r1 least2 N (w64 (stroke7 + 1))
    else
    kj5 stroke7

def i_Ribbon_until (N : Nat) (r1 : Ribbon) (least2 : Int) : Option Int :=
  withK (fun (stroke4 : Int) =>
  some stroke4) fun (kj5 : Int → Option Int) =>
  i_Ribbon_until_l1 kj5 r1 least2 N 0

def i_StrokesUntil (N : Nat) (r1 : Ribbon) (least2 : Int) : Option (Int × Int) :=
  (i_ValidRibbon r1).bind fun r4 =>
  bif !r4 then
  some (0, 1)
  else
  (i_between least2 1 r1.ink).bind fun r7 =>
  bif !r7 then
  some (0, 2)
  else
  (i_Ribbon_until N r1 least2).bind fun r10 =>
  bif decide (r10 > 100000) then
  some (0, 5)
  else
  some (r10, 0)

def s_l00In (n1 : Int) (low2 : Int) (high3 : Int) : Option Bool :=
  (andO (decide (n1 ≥ low2)) (some (decide (n1 ≤ high3)))).bind fun t4 =>
  some t4

def s_l14Ok (r1 : Ribbon) : Option Bool :=
  (s_l00In r1.spots 2 200).bind fun r3 =>
  (andO r3 ((s_l00In r1.ink 1 1000).bind fun r8 =>
  some r8)).bind fun t5 =>
  (andO t5 ((s_l00In r1.takes 1 r1.ink).bind fun r13 =>
  some r13)).bind fun t10 =>
  some t10

def s_l14Least (r1 : Ribbon) (least2 : Int) : Option Int :=
  (s_l14Ok r1).bind fun r4 =>
  bif !r4 then
  some 1
  else
  (s_l00In least2 1 r1.ink).bind fun r7 =>
  bif !r7 then
  some 2
  else
  some 0

def s_l14Spot (r1 : Ribbon) (stroke2 : Int) : Option Int :=
  (remO stroke2 (w64 (2 * (w64 (r1.spots - 1))))).bind fun q4 =>
  bif decide (q4 ≥ r1.spots) then
  some (w64 ((w64 (2 * (w64 (r1.spots - 1)))) - q4))
  else
  some q4

def s_l00Max (a1 : Int) (b2 : Int) : Option Int :=
  bif decide (a1 > b2) then
  some a1
  else
  some b2

def s_l14Until_l1 (kj7 : Option Int) (r1 : Ribbon) (least2 : Int) : Nat → (List Int) → Int → Option Int
  | 0, _, _ => none
  | N + 1, l9, k10 =>
    bif decide (k10 ≤ 100000) then
    (s_l14Spot r1 k10).bind fun r12 =>
    (idx l9 r12).bind fun e14 =>
    (s_l00Max 0 (w64 (r1.ink - (w64 (r1.takes * e14))))).bind fun r16 =>
    bif decide (r16 < least2) then
    some k10
    else
    (idx l9 r12).bind fun e19 =>
    (idx l9 r12).bind fun e21 =>
    s_l14Until_l1 kj7 r1 least2 N (List.set l9 (Int.toNat r12) (w64 (e19 + 1))) (w64 (k10 + 1))
    else
    kj7 

def s_l14Until (N : Nat) (r1 : Ribbon) (least2 : Int) : Option Int :=
  (mk r1.spots (0 : Int)).bind fun l4 =>
  withK (some 100001) fun (kj7 : Option Int) =>
  s_l14Until_l1 kj7 r1 least2 N l4 0

def s_StrokesUntil (N : Nat) (r1 : Ribbon) (least2 : Int) : Option (Int × Int) :=
  (s_l14Least r1 least2).bind fun r4 =>
  bif (r4 != 0) then
  some (0, r4)
  else
  (s_l14Until N r1 least2).bind fun r7 =>
  bif decide (r7 > 100000) then
  some (0, 5)
  else
  some (r7, 0)

def s_l14Strokes (s1 : L00Src) : Option (Int × L00Src) :=
  (s_l00Src_one (L00Src.mk s1.code s1.at_ s1.seed) 10).bind fun r5 =>
  bif r5.1 then
  (s_l00Src_among (L00Src.mk s1.code r5.2.at_ r5.2.seed) [(-1), 0, 100000, 100001, 9223372036854775807]).bind fun r9 =>
  some (r9.1, (L00Src.mk s1.code r9.2.at_ r9.2.seed))
  else
  (s_l00Src_pick (L00Src.mk s1.code r5.2.at_ r5.2.seed) 200).bind fun r11 =>
  some (r11.1, (L00Src.mk s1.code r11.2.at_ r11.2.seed))

def s_l14DrawText_l1 (kj22 : Int → Int → (List UInt8) → Option (Str × L00Src)) (s1 : L00Src) : Nat → Int → Int → (List UInt8) → Int → Option (Str × L00Src)
  | 0, _, _, _, _ => none
  | N + 1, x24, x25, l26, k28 =>
    bif decide (k28 > 0) then
    (s_l00Src_pick (L00Src.mk s1.code x24 x25) 4).bind fun r30 =>
    (idx [97, 98, 32, 99] r30.1).bind fun c32 =>
    (app l26 [c32]).bind fun l35 =>
    s_l14DrawText_l1 kj22 s1 N r30.2.at_ r30.2.seed l35 (w64 (k28 - 1))
    else
    kj22 x24 x25 l26

def s_l14DrawText (N : Nat) (s1 : L00Src) : Option (Str × L00Src) :=
  (s_l00Src_pick (L00Src.mk s1.code s1.at_ s1.seed) 12).bind fun r6 =>
  withK (fun (x8 : Int) (x9 : Int) (n10 : Int) =>
  withK (fun (x18 : Int) (x19 : Int) (l20 : List UInt8) =>
  withK (fun (x38 : Int) (x39 : Int) (l40 : List UInt8) =>
  some (l40, (L00Src.mk s1.code x38 x39))) fun (kj41 : Int → Int → (List UInt8) → Option (Str × L00Src)) =>
  (bif decide (n10 > 0) then (s_l00Src_one (L00Src.mk s1.code x18 x19) 20).bind fun r47 =>
  some (r47.1, (L00Src.mk s1.code r47.2.at_ r47.2.seed)) else some (false, (L00Src.mk s1.code x18 x19))).bind fun x45 =>
  bif x45.1 then
  (idx l20 0).bind fun e50 =>
  kj41 x45.2.at_ x45.2.seed (List.set l20 (Int.toNat 0) 127)
  else
  kj41 x45.2.at_ x45.2.seed l20) fun (kj22 : Int → Int → (List UInt8) → Option (Str × L00Src)) =>
  s_l14DrawText_l1 kj22 s1 N x8 x9 [] n10) fun (kj11 : Int → Int → Int → Option (Str × L00Src)) =>
  (s_l00Src_one (L00Src.mk s1.code r6.2.at_ r6.2.seed) 20).bind fun r13 =>
  bif r13.1 then
  (s_l00Src_pick (L00Src.mk s1.code r13.2.at_ r13.2.seed) 2).bind fun r16 =>
  kj11 r16.2.at_ r16.2.seed (w64 (100 + r16.1))
  else
  kj11 r13.2.at_ r13.2.seed r6.1

def s_DrawPalestLetter (N : Nat) (code1 : List UInt8) : Option (Ribbon × Int × Str × Int) :=
  (s_l00From code1).bind fun r5 =>
  (s_l14Bent (L00Src.mk code1 r5.at_ r5.seed)).bind fun r8 =>
  (s_l14Strokes (L00Src.mk code1 r8.2.at_ r8.2.seed)).bind fun r11 =>
  (s_l14DrawText N (L00Src.mk code1 r11.2.at_ r11.2.seed)).bind fun r13 =>
  (s_l14DrawLeast (L00Src.mk code1 r13.2.at_ r13.2.seed) r8.1).bind fun r15 =>
  some (r8.1, r11.1, r13.1, r15.1)

def i_isUse (n1 : Int) : Option Bool :=
  (i_between n1 0 100000).bind fun r2 =>
  some r2

def i_isText_l1 (kj5 : Option Bool) (s1 : Str) (low2 : UInt8) : Nat → Int → Option Bool
  | 0, _ => none
  | N + 1, x7 =>
    bif decide (x7 < (List.length s1 : Int)) then
    (idx s1 x7).bind fun c9 =>
    (orO (decide (c9 < low2)) ((idx s1 x7).bind fun c14 =>
    some (decide (c14 > (126 : UInt8))))).bind fun t11 =>
    bif t11 then
    some false
    else
    i_isText_l1 kj5 s1 low2 N (w64 (x7 + 1))
    else
    kj5 

def i_isText (N : Nat) (s1 : Str) (low2 : UInt8) (most3 : Int) : Option Bool :=
  bif decide ((List.length s1 : Int) > most3) then
  some false
  else
  withK (some true) fun (kj5 : Option Bool) =>
  i_isText_l1 kj5 s1 low2 N 0

def i_shadesCode (N : Nat) (r1 : Ribbon) (done2 : Int) (text3 : Str) : Option Int :=
  (i_ValidRibbon r1).bind fun r5 =>
  bif !r5 then
  some 1
  else
  (i_isUse done2).bind fun r8 =>
  (orO (!r8) ((i_isText N text3 32 100).bind fun r13 =>
  some (!r13))).bind fun t10 =>
  bif t10 then
  some 2
  else
  some 0

def i_Ribbon_shades_l1 (kj8 : (List Int) → Option (List Int)) (r1 : Ribbon) (text3 : Str) : Nat → (List Int) → Int → Int → Option (List Int)
  | 0, _, _, _ => none
  | N + 1, l10, done12, x13 =>
    bif decide (x13 < (List.length text3 : Int)) then
    withK (fun (l15 : List Int) (done17 : Int) =>
    i_Ribbon_shades_l1 kj8 r1 text3 N l15 done17 (w64 (x13 + 1))) fun (kj18 : (List Int) → Int → Option (List Int)) =>
    (idx text3 x13).bind fun c20 =>
    bif (c20 == (32 : UInt8)) then
    (app l10 [0]).bind fun l24 =>
    kj18 l24 done12
    else
    (i_Ribbon_shade r1 done12).bind fun r27 =>
    (app l10 [r27]).bind fun l30 =>
    kj18 l30 (w64 (done12 + 1))
    else
    kj8 l10

def i_Ribbon_shades (N : Nat) (r1 : Ribbon) (done2 : Int) (text3 : Str) : Option (List Int) :=
  withK (fun (l6 : List Int) =>
  some l6) fun (kj8 : (List Int) → Option (List Int)) =>
  i_Ribbon_shades_l1 kj8 r1 text3 N [] done2 0

def i_PalestLetter_l1 (kj12 : Option (Int × Int)) (text3 : Str) (least4 : Int) (r14 : (List Int)) : Nat → Int → Option (Int × Int)
  | 0, _ => none
  | N + 1, x17 =>
    bif decide (x17 < (List.length r14 : Int)) then
    (idx r14 x17).bind fun e19 =>
    (idx text3 x17).bind fun c21 =>
    (andO (c21 != (32 : UInt8)) (some (decide (e19 < least4)))).bind fun t23 =>
    bif t23 then
    some (x17, 0)
    else
    i_PalestLetter_l1 kj12 text3 least4 r14 N (w64 (x17 + 1))
    else
    kj12 

def i_PalestLetter (N : Nat) (r1 : Ribbon) (done2 : Int) (text3 : Str) (least4 : Int) : Option (Int × Int) :=
  (i_shadesCode N r1 done2 text3).bind fun r6 =>
  bif (r6 != 0) then
  some (0, r6)
  else
  (i_between least4 1 r1.ink).bind fun r9 =>
  bif !r9 then
  some (0, 2)
  else
  withK (some (0, 3)) fun (kj12 : Option (Int × Int)) =>
  (i_Ribbon_shades N r1 done2 text3).bind fun r14 =>
  i_PalestLetter_l1 kj12 text3 least4 r14 N 0

def s_l14Code (r1 : Ribbon) (strokes2 : Int) : Option Int :=
  (s_l14Ok r1).bind fun r4 =>
  bif !r4 then
  some 1
  else
  (s_l00In strokes2 0 100000).bind fun r7 =>
  bif !r7 then
  some 2
  else
  some 0

def s_l00Text_l1 (kj3 : Option Bool) (s1 : Str) : Nat → Int → Option Bool
  | 0, _ => none
  | N + 1, i5 =>
    bif decide (i5 < (List.length s1 : Int)) then
    (idx s1 i5).bind fun c7 =>
    (orO (decide (c7 < (32 : UInt8))) ((idx s1 i5).bind fun c12 =>
    some (decide (c12 > (126 : UInt8))))).bind fun t9 =>
    bif t9 then
    some false
    else
    s_l00Text_l1 kj3 s1 N (w64 (i5 + 1))
    else
    kj3 

def s_l00Text (N : Nat) (s1 : Str) (most2 : Int) : Option Bool :=
  withK (some (decide ((List.length s1 : Int) ≤ most2))) fun (kj3 : Option Bool) =>
  s_l00Text_l1 kj3 s1 N 0

def s_l14Text (N : Nat) (r1 : Ribbon) (done2 : Int) (text3 : Str) : Option Int :=
  (s_l14Code r1 done2).bind fun r5 =>
  withK (fun (code7 : Int) =>
  some code7) fun (kj8 : Int → Option Int) =>
  (andO (r5 == 0) ((s_l00Text N text3 100).bind fun r13 =>
  some (!r13))).bind fun t10 =>
  bif t10 then
  kj8 2
  else
  kj8 r5

def s_l14Before_l1 (kj15 : Int → Option Int) (r1 : Ribbon) (strokes2 : Int) (spot3 : Int) : Nat → Int → Int → Option Int
  | 0, _, _ => none
  | N + 1, uses17, k18 =>
    bif decide (k18 < strokes2) then
    withK (fun (uses20 : Int) =>
    s_l14Before_l1 kj15 r1 strokes2 spot3 N uses20 (w64 (k18 + 1))) fun (kj21 : Int → Option Int) =>
    (s_l14Spot r1 k18).bind fun r23 =>
    bif (r23 == spot3) then
    kj21 (w64 (uses17 + 1))
    else
    kj21 uses17
    else
    kj15 uses17

def s_l14Before (N : Nat) (r1 : Ribbon) (strokes2 : Int) (spot3 : Int) : Option Int :=
  (quoO strokes2 (w64 (2 * (w64 (r1.spots - 1))))).bind fun q5 =>
  withK (fun (uses7 : Int) =>
  withK (fun (uses14 : Int) =>
  some uses14) fun (kj15 : Int → Option Int) =>
  s_l14Before_l1 kj15 r1 strokes2 spot3 N uses7 (w64 (q5 * (w64 (2 * (w64 (r1.spots - 1))))))) fun (kj8 : Int → Option Int) =>
  (andO (decide (spot3 > 0)) (some (decide (spot3 < (w64 (r1.spots - 1)))))).bind fun t10 =>
  bif t10 then
  kj8 (w64 (2 * q5))
  else
  kj8 q5

def s_l14Shade (N : Nat) (r1 : Ribbon) (stroke2 : Int) : Option Int :=
  (s_l14Spot r1 stroke2).bind fun r4 =>
  (s_l14Before N r1 stroke2 r4).bind fun r6 =>
  (s_l00Max 0 (w64 (r1.ink - (w64 (r1.takes * r6))))).bind fun r8 =>
  some r8

def s_l14Shades_l1 (kj8 : (List Int) → Option (List Int)) (r1 : Ribbon) (text3 : Str) : Nat → (List Int) → Int → Int → Option (List Int)
  | 0, _, _, _ => none
  | N + 1, l10, done12, i13 =>
    bif decide (i13 < (List.length text3 : Int)) then
    withK (fun (l15 : List Int) (done17 : Int) =>
    s_l14Shades_l1 kj8 r1 text3 N l15 done17 (w64 (i13 + 1))) fun (kj18 : (List Int) → Int → Option (List Int)) =>
    (idx text3 i13).bind fun c20 =>
    bif (c20 == (32 : UInt8)) then
    (app l10 [0]).bind fun l24 =>
    kj18 l24 done12
    else
    (s_l14Shade N r1 done12).bind fun r27 =>
    (app l10 [r27]).bind fun l30 =>
    kj18 l30 (w64 (done12 + 1))
    else
    kj8 l10

def s_l14Shades (N : Nat) (r1 : Ribbon) (done2 : Int) (text3 : Str) : Option (List Int) :=
  withK (fun (l6 : List Int) =>
  some l6) fun (kj8 : (List Int) → Option (List Int)) =>
  s_l14Shades_l1 kj8 r1 text3 N [] done2 0

def s_PalestLetter_l1 (kj21 : Option (Int × Int)) (text3 : Str) (least4 : Int) (r18 : (List Int)) : Nat → Int → Option (Int × Int)
  | 0, _ => none
  | N + 1, i23 =>
    bif decide (i23 < (List.length text3 : Int)) then
    (idx text3 i23).bind fun c25 =>
    (andO (c25 != (32 : UInt8)) ((idx r18 i23).bind fun e30 =>
    some (decide (e30 < least4)))).bind fun t27 =>
    bif t27 then
    some (i23, 0)
    else
    s_PalestLetter_l1 kj21 text3 least4 r18 N (w64 (i23 + 1))
    else
    kj21 

def s_PalestLetter (N : Nat) (r1 : Ribbon) (done2 : Int) (text3 : Str) (least4 : Int) : Option (Int × Int) :=
  (s_l14Text N r1 done2 text3).bind fun r6 =>
  withK (fun (code8 : Int) =>
  bif (code8 != 0) then
  some (0, code8)
  else
  (s_l14Shades N r1 done2 text3).bind fun r18 =>
  withK (some (0, 3)) fun (kj21 : Option (Int × Int)) =>
  s_PalestLetter_l1 kj21 text3 least4 r18 N 0) fun (kj9 : Int → Option (Int × Int)) =>
  (andO (r6 == 0) ((s_l00In least4 1 r1.ink).bind fun r14 =>
  some (!r14))).bind fun t11 =>
  bif t11 then
  kj9 2
  else
  kj9 r6

def i_ShadesOf (N : Nat) (r1 : Ribbon) (done2 : Int) (text3 : Str) : Option ((List Int) × Int) :=
  (i_shadesCode N r1 done2 text3).bind fun r5 =>
  bif (r5 != 0) then
  some ([], r5)
  else
  (i_Ribbon_shades N r1 done2 text3).bind fun r8 =>
  some (r8, 0)

def s_ShadesOf (N : Nat) (r1 : Ribbon) (done2 : Int) (text3 : Str) : Option ((List Int) × Int) :=
  (s_l14Text N r1 done2 text3).bind fun r5 =>
  bif (r5 != 0) then
  some ([], r5)
  else
  (s_l14Shades N r1 done2 text3).bind fun r8 =>
  some (r8, 0)

def s_DrawBestRibbon_l1 (kj27 : Int → Int → (List Int) → (List Ribbon) → Option ((List Ribbon) × (List Int) × Int × Int)) (code1 : List UInt8) : Nat → Int → Int → (List Int) → (List Ribbon) → Int → Option ((List Ribbon) × (List Int) × Int × Int)
  | 0, _, _, _, _, _ => none
  | N + 1, x29, x30, l31, l33, k35 =>
    bif decide (k35 > 0) then
    (s_l14Draw (L00Src.mk code1 x29 x30)).bind fun r37 =>
    (app l33 [r37.1]).bind fun l40 =>
    (s_l00Src_pick (L00Src.mk code1 r37.2.at_ r37.2.seed) 60).bind fun r43 =>
    (app l31 [w64 (10 * r43.1)]).bind fun l46 =>
    s_DrawBestRibbon_l1 kj27 code1 N r43.2.at_ r43.2.seed l46 l40 (w64 (k35 - 1))
    else
    kj27 x29 x30 l31 l33

def s_DrawBestRibbon (N : Nat) (code1 : List UInt8) : Option ((List Ribbon) × (List Int) × Int × Int) :=
  (s_l00From code1).bind fun r4 =>
  (s_l00Src_pick (L00Src.mk code1 r4.at_ r4.seed) 5).bind fun r9 =>
  withK (fun (x11 : Int) (x12 : Int) (n13 : Int) =>
  withK (fun (x21 : Int) (x22 : Int) (l23 : List Int) (l25 : List Ribbon) =>
  withK (fun (x49 : Int) (x50 : Int) (l51 : List Int) (l53 : List Ribbon) =>
  (s_l14Strokes (L00Src.mk code1 x49 x50)).bind fun r74 =>
  (s_l00Src_one (L00Src.mk code1 r74.2.at_ r74.2.seed) 10).bind fun r76 =>
  bif r76.1 then
  (s_l00Src_among (L00Src.mk code1 r76.2.at_ r76.2.seed) [0, 1, 1000, 1001]).bind fun r80 =>
  some (l53, l51, r74.1, r80.1)
  else
  (s_l00Src_pick (L00Src.mk code1 r76.2.at_ r76.2.seed) 60).bind fun r82 =>
  some (l53, l51, r74.1, w64 (1 + r82.1))) fun (kj54 : Int → Int → (List Int) → (List Ribbon) → Option ((List Ribbon) × (List Int) × Int × Int)) =>
  bif decide (n13 > 0) then
  (s_l00Src_pick (L00Src.mk code1 x21 x22) 16).bind fun r57 =>
  bif (r57.1 == 0) then
  (s_l14Bent (L00Src.mk code1 r57.2.at_ r57.2.seed)).bind fun r60 =>
  (idx l25 0).bind fun e62 =>
  kj54 r60.2.at_ r60.2.seed l23 (List.set l25 (Int.toNat 0) r60.1)
  else
  bif (r57.1 == 1) then
  (s_l00Src_among (L00Src.mk code1 r57.2.at_ r57.2.seed) [(-1), 0, 100000, 100001]).bind fun r66 =>
  (idx l23 0).bind fun e68 =>
  kj54 r66.2.at_ r66.2.seed (List.set l23 (Int.toNat 0) r66.1) l25
  else
  bif (r57.1 == 2) then
  (sub l23 1 (List.length l23 : Int)).bind fun l71 =>
  kj54 r57.2.at_ r57.2.seed l71 l25
  else
  kj54 r57.2.at_ r57.2.seed l23 l25
  else
  kj54 x21 x22 l23 l25) fun (kj27 : Int → Int → (List Int) → (List Ribbon) → Option ((List Ribbon) × (List Int) × Int × Int)) =>
  s_DrawBestRibbon_l1 kj27 code1 N x11 x12 [] [] n13) fun (kj14 : Int → Int → Int → Option ((List Ribbon) × (List Int) × Int × Int)) =>
  (s_l00Src_one (L00Src.mk code1 r9.2.at_ r9.2.seed) 20).bind fun r16 =>
  bif r16.1 then
  (s_l00Src_pick (L00Src.mk code1 r16.2.at_ r16.2.seed) 2).bind fun r19 =>
  kj14 r19.2.at_ r19.2.seed (w64 (20 + r19.1))
  else
  kj14 r16.2.at_ r16.2.seed r9.1

def i_Ribbon_needed (N : Nat) (r1 : Ribbon) (strokes2 : Int) (least3 : Int) : Option Int :=
  (i_Ribbon_until N r1 least3).bind fun r5 =>
  (quoO (w64 ((w64 (strokes2 + r5)) - 1)) r5).bind fun q7 =>
  some q7

def i_BestRibbon_l1 (kj9 : Option (Int × Int × Int)) (list1 : List Ribbon) : Nat → Int → Option (Int × Int × Int)
  | 0, _ => none
  | N + 1, x11 =>
    bif decide (x11 < (List.length list1 : Int)) then
    (idx list1 x11).bind fun e13 =>
    (i_ValidRibbon e13).bind fun r19 =>
    bif !r19 then
    some (0, 0, 1)
    else
    i_BestRibbon_l1 kj9 list1 N (w64 (x11 + 1))
    else
    kj9 

def i_BestRibbon_l2 (kj36 : Option (Int × Int × Int)) (prices4 : List Int) : Nat → Int → Option (Int × Int × Int)
  | 0, _ => none
  | N + 1, x38 =>
    bif decide (x38 < (List.length prices4 : Int)) then
    (idx prices4 x38).bind fun e40 =>
    (i_between e40 0 100000).bind fun r45 =>
    bif !r45 then
    some (0, 0, 2)
    else
    i_BestRibbon_l2 kj36 prices4 N (w64 (x38 + 1))
    else
    kj36 

def i_BestRibbon_l3 (kj50 : Int → Int → Option (Int × Int × Int)) (list1 : List Ribbon) (prices4 : List Int) (strokes7 : Int) (least8 : Int) : Nat → Int → Int → Int → Option (Int × Int × Int)
  | 0, _, _, _ => none
  | N + 1, best52, cost53, x54 =>
    bif decide (x54 < (List.length list1 : Int)) then
    withK (fun (best56 : Int) (cost57 : Int) =>
    i_BestRibbon_l3 kj50 list1 prices4 strokes7 least8 N best56 cost57 (w64 (x54 + 1))) fun (kj58 : Int → Int → Option (Int × Int × Int)) =>
    (idx list1 x54).bind fun e60 =>
    bif decide (e60.ink < least8) then
    kj58 best52 cost53
    else
    (idx prices4 x54).bind fun e67 =>
    (i_Ribbon_needed N e60 strokes7 least8).bind fun r72 =>
    (orO (decide (best52 < 0)) (some (decide ((w64 (e67 * r72)) < cost53)))).bind fun t74 =>
    bif t74 then
    kj58 x54 (w64 (e67 * r72))
    else
    kj58 best52 cost53
    else
    kj50 best52 cost53

def i_BestRibbon (N : Nat) (list1 : List Ribbon) (prices4 : List Int) (strokes7 : Int) (least8 : Int) : Option (Int × Int × Int) :=
  withK ((i_isUse strokes7).bind fun r22 =>
  (orO (!r22) ((i_between least8 1 1000).bind fun r27 =>
  some (!r27))).bind fun t24 =>
  (orO t24 (some (decide ((List.length list1 : Int) > 20)))).bind fun t29 =>
  (orO t29 (some ((List.length prices4 : Int) != (List.length list1 : Int)))).bind fun t32 =>
  bif t32 then
  some (0, 0, 2)
  else
  withK (withK (fun (best48 : Int) (cost49 : Int) =>
  bif decide (best48 < 0) then
  some (0, 0, 3)
  else
  some (best48, cost49, 0)) fun (kj50 : Int → Int → Option (Int × Int × Int)) =>
  i_BestRibbon_l3 kj50 list1 prices4 strokes7 least8 N (-1) 0 0) fun (kj36 : Option (Int × Int × Int)) =>
  i_BestRibbon_l2 kj36 prices4 N 0) fun (kj9 : Option (Int × Int × Int)) =>
  i_BestRibbon_l1 kj9 list1 N 0

def s_l14Many (N : Nat) (r1 : Ribbon) (strokes2 : Int) (least3 : Int) : Option Int :=
  (s_l14Until N r1 least3).bind fun r5 =>
  (quoO (w64 ((w64 (strokes2 + r5)) - 1)) r5).bind fun q7 =>
  some q7

def s_BestRibbon_l1 (kj9 : Option (Int × Int × Int)) (list1 : List Ribbon) : Nat → Int → Option (Int × Int × Int)
  | 0, _ => none
  | N + 1, i11 =>
    bif decide (i11 < (List.length list1 : Int)) then
    (idx list1 i11).bind fun e13 =>
    (s_l14Ok e13).bind fun r18 =>
    bif !r18 then
    some (0, 0, 1)
    else
    s_BestRibbon_l1 kj9 list1 N (w64 (i11 + 1))
    else
    kj9 

def s_BestRibbon_l2 (kj21 : Option (Int × Int × Int)) (prices4 : List Int) : Nat → Int → Option (Int × Int × Int)
  | 0, _ => none
  | N + 1, i23 =>
    bif decide (i23 < (List.length prices4 : Int)) then
    (idx prices4 i23).bind fun e25 =>
    (s_l00In e25 0 100000).bind fun r30 =>
    bif !r30 then
    some (0, 0, 2)
    else
    s_BestRibbon_l2 kj21 prices4 N (w64 (i23 + 1))
    else
    kj21 

def s_BestRibbon_l3 (kj49 : Int → Int → Option (Int × Int × Int)) (list1 : List Ribbon) (prices4 : List Int) (strokes7 : Int) (least8 : Int) : Nat → Int → Int → Int → Option (Int × Int × Int)
  | 0, _, _, _ => none
  | N + 1, best51, cost52, i53 =>
    bif decide (i53 < (List.length list1 : Int)) then
    withK (fun (best55 : Int) (cost56 : Int) =>
    s_BestRibbon_l3 kj49 list1 prices4 strokes7 least8 N best55 cost56 (w64 (i53 + 1))) fun (kj57 : Int → Int → Option (Int × Int × Int)) =>
    (idx list1 i53).bind fun e59 =>
    bif decide (least8 > e59.ink) then
    kj57 best51 cost52
    else
    (idx prices4 i53).bind fun e65 =>
    (idx list1 i53).bind fun e70 =>
    (s_l14Many N e70 strokes7 least8).bind fun r75 =>
    (orO (decide (best51 < 0)) (some (decide ((w64 (e65 * r75)) < cost52)))).bind fun t77 =>
    bif t77 then
    kj57 i53 (w64 (e65 * r75))
    else
    kj57 best51 cost52
    else
    kj49 best51 cost52

def s_BestRibbon (N : Nat) (list1 : List Ribbon) (prices4 : List Int) (strokes7 : Int) (least8 : Int) : Option (Int × Int × Int) :=
  withK (withK ((orO (decide ((List.length list1 : Int) > 20)) (some ((List.length prices4 : Int) != (List.length list1 : Int)))).bind fun t33 =>
  (orO t33 ((s_l00In strokes7 0 100000).bind fun r39 =>
  some (!r39))).bind fun t36 =>
  (orO t36 ((s_l00In least8 1 1000).bind fun r44 =>
  some (!r44))).bind fun t41 =>
  bif t41 then
  some (0, 0, 2)
  else
  withK (fun (best47 : Int) (cost48 : Int) =>
  bif decide (best47 < 0) then
  some (0, 0, 3)
  else
  some (best47, cost48, 0)) fun (kj49 : Int → Int → Option (Int × Int × Int)) =>
  s_BestRibbon_l3 kj49 list1 prices4 strokes7 least8 N (-1) 0 0) fun (kj21 : Option (Int × Int × Int)) =>
  s_BestRibbon_l2 kj21 prices4 N 0) fun (kj9 : Option (Int × Int × Int)) =>
  s_BestRibbon_l1 kj9 list1 N 0

def s_DrawRibbonsFor (code1 : List UInt8) : Option (Ribbon × Int × Int) :=
  (s_l00From code1).bind fun r5 =>
  (s_l14Bent (L00Src.mk code1 r5.at_ r5.seed)).bind fun r8 =>
  (s_l14Strokes (L00Src.mk code1 r8.2.at_ r8.2.seed)).bind fun r11 =>
  (s_l14DrawLeast (L00Src.mk code1 r11.2.at_ r11.2.seed) r8.1).bind fun r13 =>
  some (r8.1, r11.1, r13.1)

def i_RibbonsFor (N : Nat) (r1 : Ribbon) (strokes2 : Int) (least3 : Int) : Option (Int × Int) :=
  (i_ValidRibbon r1).bind fun r5 =>
  bif !r5 then
  some (0, 1)
  else
  (i_isUse strokes2).bind fun r8 =>
  (orO (!r8) ((i_between least3 1 r1.ink).bind fun r13 =>
  some (!r13))).bind fun t10 =>
  bif t10 then
  some (0, 2)
  else
  (i_Ribbon_needed N r1 strokes2 least3).bind fun r16 =>
  some (r16, 0)

def s_RibbonsFor (N : Nat) (r1 : Ribbon) (strokes2 : Int) (least3 : Int) : Option (Int × Int) :=
  (s_l14Least r1 least3).bind fun r5 =>
  withK (fun (code7 : Int) =>
  bif (code7 != 0) then
  some (0, code7)
  else
  (s_l14Many N r1 strokes2 least3).bind fun r14 =>
  some (r14, 0)) fun (kj8 : Int → Option (Int × Int)) =>
  bif (r5 == 0) then
  (s_l14Code r1 strokes2).bind fun r11 =>
  kj8 r11
  else
  kj8 r5

def s_DrawColourRuns_l1 (kj24 : Int → Int → (List UInt8) → Option Str) (code1 : List UInt8) : Nat → Int → Int → (List UInt8) → Int → Option Str
  | 0, _, _, _, _ => none
  | N + 1, x26, x27, l28, k30 =>
    bif decide (k30 > 0) then
    (s_l00Src_pick (L00Src.mk code1 x26 x27) 4).bind fun r32 =>
    (idx [98, 98, 114, 32] r32.1).bind fun c34 =>
    (app l28 [c34]).bind fun l37 =>
    s_DrawColourRuns_l1 kj24 code1 N r32.2.at_ r32.2.seed l37 (w64 (k30 - 1))
    else
    kj24 x26 x27 l28

def s_DrawColourRuns (N : Nat) (code1 : List UInt8) : Option Str :=
  (s_l00From code1).bind fun r4 =>
  (s_l00Src_pick (L00Src.mk code1 r4.at_ r4.seed) 20).bind fun r8 =>
  withK (fun (x10 : Int) (x11 : Int) (n12 : Int) =>
  withK (fun (x20 : Int) (x21 : Int) (l22 : List UInt8) =>
  withK (fun (l40 : List UInt8) =>
  some l40) fun (kj41 : (List UInt8) → Option Str) =>
  (bif decide (n12 > 0) then (s_l00Src_one (L00Src.mk code1 x20 x21) 16).bind fun r47 =>
  some (r47.1, (L00Src.mk code1 r47.2.at_ r47.2.seed)) else some (false, (L00Src.mk code1 x20 x21))).bind fun x45 =>
  bif x45.1 then
  (idx l22 0).bind fun e50 =>
  kj41 (List.set l22 (Int.toNat 0) 103)
  else
  kj41 l22) fun (kj24 : Int → Int → (List UInt8) → Option Str) =>
  s_DrawColourRuns_l1 kj24 code1 N x10 x11 [] n12) fun (kj13 : Int → Int → Int → Option Str) =>
  (s_l00Src_one (L00Src.mk code1 r8.2.at_ r8.2.seed) 20).bind fun r15 =>
  bif r15.1 then
  (s_l00Src_pick (L00Src.mk code1 r15.2.at_ r15.2.seed) 2).bind fun r18 =>
  kj13 r18.2.at_ r18.2.seed (w64 (1000 + r18.1))
  else
  kj13 r15.2.at_ r15.2.seed r8.1

def i_ColourRuns_l1 (kj2 : Option (Int × Int)) (colours1 : Str) : Nat → Int → Option (Int × Int)
  | 0, _ => none
  | N + 1, x4 =>
    bif decide (x4 < (List.length colours1 : Int)) then
    (idx colours1 x4).bind fun c6 =>
    (andO (c6 != (98 : UInt8)) (some (c6 != (114 : UInt8)))).bind fun t8 =>
    (andO t8 (some (c6 != (32 : UInt8)))).bind fun t11 =>
    bif t11 then
    some (0, 7)
    else
    i_ColourRuns_l1 kj2 colours1 N (w64 (x4 + 1))
    else
    kj2 

def i_ColourRuns_l2 (kj17 : Int → Option (Int × Int)) (colours1 : Str) : Nat → UInt8 → Int → Int → Option (Int × Int)
  | 0, _, _, _ => none
  | N + 1, now19, changes20, x21 =>
    bif decide (x21 < (List.length colours1 : Int)) then
    withK (fun (now23 : UInt8) (changes24 : Int) =>
    i_ColourRuns_l2 kj17 colours1 N now23 changes24 (w64 (x21 + 1))) fun (kj25 : UInt8 → Int → Option (Int × Int)) =>
    (idx colours1 x21).bind fun c27 =>
    (andO (c27 != (32 : UInt8)) (some (c27 != now19))).bind fun t29 =>
    bif t29 then
    kj25 c27 (w64 (changes20 + 1))
    else
    kj25 now19 changes20
    else
    kj17 changes20

def i_ColourRuns (N : Nat) (colours1 : Str) : Option (Int × Int) :=
  withK (bif decide ((List.length colours1 : Int) > 1000) then
  some (0, 2)
  else
  withK (fun (changes16 : Int) =>
  some (changes16, 0)) fun (kj17 : Int → Option (Int × Int)) =>
  i_ColourRuns_l2 kj17 colours1 N 98 0 0) fun (kj2 : Option (Int × Int)) =>
  i_ColourRuns_l1 kj2 colours1 N 0

def s_ColourRuns_l1 (kj2 : Option (Int × Int)) (colours1 : Str) : Nat → Int → Option (Int × Int)
  | 0, _ => none
  | N + 1, i4 =>
    bif decide (i4 < (List.length colours1 : Int)) then
    (idx colours1 i4).bind fun c6 =>
    (andO (c6 != (98 : UInt8)) ((idx colours1 i4).bind fun c11 =>
    some (c11 != (114 : UInt8)))).bind fun t8 =>
    (andO t8 ((idx colours1 i4).bind fun c16 =>
    some (c16 != (32 : UInt8)))).bind fun t13 =>
    bif t13 then
    some (0, 7)
    else
    s_ColourRuns_l1 kj2 colours1 N (w64 (i4 + 1))
    else
    kj2 

def s_ColourRuns_l2 (kj21 : Int → Option (Int × Int)) (colours1 : Str) : Nat → Int → UInt8 → Int → Option (Int × Int)
  | 0, _, _, _ => none
  | N + 1, n23, now24, i25 =>
    bif decide (i25 < (List.length colours1 : Int)) then
    withK (fun (n27 : Int) (now28 : UInt8) =>
    s_ColourRuns_l2 kj21 colours1 N n27 now28 (w64 (i25 + 1))) fun (kj29 : Int → UInt8 → Option (Int × Int)) =>
    (idx colours1 i25).bind fun c31 =>
    (andO (c31 != (32 : UInt8)) ((idx colours1 i25).bind fun c36 =>
    some (c36 != now24))).bind fun t33 =>
    bif t33 then
    (idx colours1 i25).bind fun c39 =>
    kj29 (w64 (n23 + 1)) c39
    else
    kj29 n23 now24
    else
    kj21 n23

def s_ColourRuns (N : Nat) (colours1 : Str) : Option (Int × Int) :=
  withK (bif decide ((List.length colours1 : Int) > 1000) then
  some (0, 2)
  else
  withK (fun (n20 : Int) =>
  some (n20, 0)) fun (kj21 : Int → Option (Int × Int)) =>
  s_ColourRuns_l2 kj21 colours1 N 0 98 0) fun (kj2 : Option (Int × Int)) =>
  s_ColourRuns_l1 kj2 colours1 N 0

def w_f6ints_l1 (kj8 : Option Bool) (a1 : List Int) (b4 : List Int) : Nat → Int → Option Bool
  | 0, _ => none
  | N + 1, i10 =>
    bif decide (i10 < (List.length a1 : Int)) then
    (idx a1 i10).bind fun e12 =>
    (idx b4 i10).bind fun e17 =>
    bif (e12 != e17) then
    some false
    else
    w_f6ints_l1 kj8 a1 b4 N (w64 (i10 + 1))
    else
    kj8 

def w_f6ints (N : Nat) (a1 : List Int) (b4 : List Int) : Option Bool :=
  bif ((List.length a1 : Int) != (List.length b4 : Int)) then
  some false
  else
  withK (some true) fun (kj8 : Option Bool) =>
  w_f6ints_l1 kj8 a1 b4 N 0

def i_ShadeAt (r1 : Ribbon) (stroke2 : Int) : Option (Int × Int) :=
  (i_ValidRibbon r1).bind fun r4 =>
  bif !r4 then
  some (0, 1)
  else
  (i_isUse stroke2).bind fun r7 =>
  bif !r7 then
  some (0, 2)
  else
  (i_Ribbon_shade r1 stroke2).bind fun r10 =>
  some (r10, 0)

def w_FnShades_l1 (kj87 : Option Bool) (r14 : Ribbon × Int × Str × Int) (r19 : Int × Int) (r24 : (List Int) × Int) : Nat → Int → Option Bool
  | 0, _ => none
  | N + 1, i90 =>
    bif decide (i90 ≤ r19.1) then
    (idx r14.2.2.1 i90).bind fun c92 =>
    (andO (c92 != (32 : UInt8)) ((idx r24.1 i90).bind fun e97 =>
    some ((decide (e97 < r14.2.2.2)) != (i90 == r19.1)))).bind fun t94 =>
    bif t94 then
    some false
    else
    w_FnShades_l1 kj87 r14 r19 r24 N (w64 (i90 + 1))
    else
    kj87 

def w_FnShades_l2 (kj100 : Option Bool) (r27 : (List Ribbon) × (List Int) × Int × Int) (r33 : Int × Int × Int) : Nat → Int → Option Bool
  | 0, _ => none
  | N + 1, i103 =>
    bif decide (i103 < (List.length r27.1 : Int)) then
    withK (w_FnShades_l2 kj100 r27 r33 N (w64 (i103 + 1))) fun (kj105 : Option Bool) =>
    (idx r27.1 i103).bind fun e107 =>
    bif decide (r27.2.2.2 > e107.ink) then
    kj105 
    else
    (idx r27.1 i103).bind fun e110 =>
    (i_RibbonsFor N e110 r27.2.2.1 r27.2.2.2).bind fun r112 =>
    (orO (r112.2 != 0) ((idx r27.2.1 i103).bind fun e117 =>
    some (decide ((w64 (e117 * r112.1)) < r33.2.1)))).bind fun t114 =>
    bif t114 then
    some false
    else
    kj105 
    else
    kj100 

def w_FnShades (N : Nat) (code1 : List UInt8) : Option Bool :=
  (w_f6big code1).bind fun r4 =>
  bif r4 then
  some true
  else
  (s_DrawStrokesUntil code1).bind fun r7 =>
  (i_StrokesUntil N r7.1 r7.2).bind fun r10 =>
  (s_StrokesUntil N r7.1 r7.2).bind fun r12 =>
  (s_DrawPalestLetter N code1).bind fun r14 =>
  (i_PalestLetter N r14.1 r14.2.1 r14.2.2.1 r14.2.2.2).bind fun r17 =>
  (s_PalestLetter N r14.1 r14.2.1 r14.2.2.1 r14.2.2.2).bind fun r19 =>
  (i_ShadesOf N r14.1 r14.2.1 r14.2.2.1).bind fun r21 =>
  (s_ShadesOf N r14.1 r14.2.1 r14.2.2.1).bind fun r24 =>
  (s_DrawBestRibbon N code1).bind fun r27 =>
  (i_BestRibbon N r27.1 r27.2.1 r27.2.2.1 r27.2.2.2).bind fun r31 =>
  (s_BestRibbon N r27.1 r27.2.1 r27.2.2.1 r27.2.2.2).bind fun r33 =>
  (s_DrawRibbonsFor code1).bind fun r35 =>
  (i_RibbonsFor N r35.1 r35.2.1 r35.2.2).bind fun r38 =>
  (s_RibbonsFor N r35.1 r35.2.1 r35.2.2).bind fun r40 =>
  (s_DrawColourRuns N code1).bind fun r42 =>
  (i_ColourRuns N r42).bind fun r44 =>
  (s_ColourRuns N r42).bind fun r46 =>
  (orO (r10.2 != r12.2) (some (r10.1 != r12.1))).bind fun t48 =>
  (orO t48 (some (r17.2 != r19.2))).bind fun t51 =>
  (orO t51 (some (r17.1 != r19.1))).bind fun t54 =>
  (orO t54 (some (r21.2 != r24.2))).bind fun t57 =>
  (orO t57 ((w_f6ints N r21.1 r24.1).bind fun r63 =>
  some (!r63))).bind fun t60 =>
  (orO t60 (some (r31.2.2 != r33.2.2))).bind fun t65 =>
  (orO t65 (some (r31.1 != r33.1))).bind fun t68 =>
  (orO t68 (some (r31.2.1 != r33.2.1))).bind fun t71 =>
  (orO t71 (some (r38.2 != r40.2))).bind fun t74 =>
  (orO t74 (some (r38.1 != r40.1))).bind fun t77 =>
  (orO t77 (some (r44.2 != r46.2))).bind fun t80 =>
  (orO t80 (some (r44.1 != r46.1))).bind fun t83 =>
  bif t83 then
  some false
  else
  withK (withK ((andO (r44.2 == 0) ((orO (decide (r44.1 < 0)) (some (decide (r44.1 > (List.length r42 : Int))))).bind fun t123 =>
  some t123)).bind fun t120 =>
  bif t120 then
  some false
  else
  bif (r10.2 != 0) then
  some true
  else
  (i_ShadeAt r7.1 r12.1).bind fun r128 =>
  (orO (r128.2 != 0) (some (decide (r128.1 ≥ r7.2)))).bind fun t130 =>
  (orO t130 (some (decide (r12.1 < 1)))).bind fun t133 =>
  bif t133 then
  some false
  else
  (i_ShadeAt r7.1 (w64 (r12.1 - 1))).bind fun r137 =>
  (andO (r137.2 == 0) (some (decide (r137.1 ≥ r7.2)))).bind fun t139 =>
  some t139) fun (kj100 : Option Bool) =>
  bif (r31.2.2 == 0) then
  w_FnShades_l2 kj100 r27 r33 N 0
  else
  kj100 ) fun (kj87 : Option Bool) =>
  bif (r17.2 == 0) then
  w_FnShades_l1 kj87 r14 r19 r24 N 0
  else
  kj87 

end Go.Proofs.Ytoojddajhalimaa
