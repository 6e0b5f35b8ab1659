/-
  Plain functions that compute what the Go functions compute. No conditions.
-/
import Derived.Test.YtcegcmoeimjioaaBase2
namespace Go.Proofs.Ytcegcmoeimjioaa
set_option linter.unusedVariables false
set_option linter.unusedSimpArgs false

structure L00Src where
  code : List UInt8
  at_ : Int
  seed : Int

structure Fraction where
  num : Int
  den : Int

def Fraction.beq (x y : Fraction) : Bool := x.num == y.num && (x.den == y.den)



def w_a2Long (code1 : List UInt8) (more4 : List UInt8) : Option Bool :=
  (orO (decide ((List.length code1 : Int) > 3000)) (some (decide ((List.length more4 : Int) > 3000)))).bind fun t7 =>
  some t7

def s_l00From (code1 : List UInt8) : Option L00Src :=
  some (L00Src.mk code1 0 0)

def s_l00Src_next (s1 : L00Src) : Option (Int × L00Src) :=
  withK (fun (b5 : Int) =>
  bif decide ((w64 (s1.at_ + 1)) ≤ (List.length s1.code : Int)) then
  some (b5, (L00Src.mk s1.code (w64 (s1.at_ + 1)) (IntKind.u64.wrap ((IntKind.u64.wrap ((IntKind.u64.wrap (s1.seed * 6364136223846793005)) + (IntKind.u64.wrap b5))) + 1442695040888963407))))
  else
  some (w64 (uand (ushr (IntKind.u64.wrap ((IntKind.u64.wrap ((IntKind.u64.wrap (s1.seed * 6364136223846793005)) + (IntKind.u64.wrap b5))) + 1442695040888963407)) 40) 255), (L00Src.mk s1.code (w64 (s1.at_ + 1)) (IntKind.u64.wrap ((IntKind.u64.wrap ((IntKind.u64.wrap (s1.seed * 6364136223846793005)) + (IntKind.u64.wrap b5))) + 1442695040888963407))))) fun (kj6 : Int → Option (Int × L00Src)) =>
  bif decide (s1.at_ < (List.length s1.code : Int)) then
  (idx s1.code s1.at_).bind fun e9 =>
  kj6 (UInt8.toNat e9 : Int)
  else
  kj6 0

def s_l00Src_pick (s1 : L00Src) (n5 : Int) : Option (Int × L00Src) :=
  bif decide (n5 ≤ 1) then
  some (0, (L00Src.mk s1.code s1.at_ s1.seed))
  else
  (s_l00Src_next (L00Src.mk s1.code s1.at_ s1.seed)).bind fun r7 =>
  withK (fun (x9 : Int) (x10 : Int) (x11 : Int) =>
  (remO x11 n5).bind fun q17 =>
  some (q17, (L00Src.mk s1.code x9 x10))) fun (kj12 : Int → Int → Int → Option (Int × L00Src)) =>
  bif decide (n5 > 200) then
  (s_l00Src_next (L00Src.mk s1.code r7.2.at_ r7.2.seed)).bind fun r15 =>
  kj12 r15.2.at_ r15.2.seed (w64 ((w64 (r7.1 * 256)) + r15.1))
  else
  kj12 r7.2.at_ r7.2.seed r7.1

def s_l19Draw_l1 (kj10 : Int → Int → (List UInt8) → Option (Str × L00Src)) (s1 : L00Src) : Nat → Int → Int → (List UInt8) → Int → Option (Str × L00Src)
  | 0, _, _, _, _ => none
  | N + 1, x14, x15, l16, k18 =>
    bif decide (k18 > 0) then
    (s_l00Src_pick (L00Src.mk s1.code x14 x15) 6).bind fun r20 =>
    (idx [97, 101, 104, 110, 116, 32] r20.1).bind fun c22 =>
    (app l16 [c22]).bind fun l25 =>
    s_l19Draw_l1 kj10 s1 N r20.2.at_ r20.2.seed l25 (w64 (k18 - 1))
    else
    kj10 x14 x15 l16

def s_l19Draw (N : Nat) (s1 : L00Src) : Option (Str × L00Src) :=
  withK (fun (x6 : Int) (x7 : Int) (l8 : List UInt8) =>
  some (l8, (L00Src.mk s1.code x6 x7))) fun (kj10 : Int → Int → (List UInt8) → Option (Str × L00Src)) =>
  (s_l00Src_pick (L00Src.mk s1.code s1.at_ s1.seed) 12).bind fun r12 =>
  s_l19Draw_l1 kj10 s1 N r12.2.at_ r12.2.seed [] r12.1

def s_l19Near_l1 (kj13 : Int → Int → (List UInt8) → Option (Str × L00Src)) (s1 : L00Src) : Nat → Int → Int → (List UInt8) → Int → Option (Str × L00Src)
  | 0, _, _, _, _ => none
  | N + 1, x17, x18, l19, k21 =>
    (andO (decide (k21 > 0)) (some (decide ((List.length l19 : Int) > 1)))).bind fun t22 =>
    bif t22 then
    withK (fun (x26 : Int) (x27 : Int) (l28 : List UInt8) =>
    s_l19Near_l1 kj13 s1 N x26 x27 l28 (w64 (k21 - 1))) fun (kj30 : Int → Int → (List UInt8) → Option (Str × L00Src)) =>
    (s_l00Src_pick (L00Src.mk s1.code x17 x18) (w64 ((List.length l19 : Int) - 1))).bind fun r32 =>
    (s_l00Src_pick (L00Src.mk s1.code r32.2.at_ r32.2.seed) 4).bind fun r34 =>
    bif (r34.1 == 0) then
    (s_l00Src_pick (L00Src.mk s1.code r34.2.at_ r34.2.seed) 4).bind fun r37 =>
    (idx [120, 121, 97, 101] r37.1).bind fun c39 =>
    (idx l19 r32.1).bind fun e41 =>
    kj30 r37.2.at_ r37.2.seed (List.set l19 (Int.toNat r32.1) c39)
    else
    bif (r34.1 == 1) then
    (idx l19 r32.1).bind fun e44 =>
    (idx l19 (w64 (r32.1 + 1))).bind fun e46 =>
    (idx l19 r32.1).bind fun e48 =>
    (idx (List.set l19 (Int.toNat r32.1) e46) (w64 (r32.1 + 1))).bind fun e50 =>
    kj30 r34.2.at_ r34.2.seed (List.set (List.set l19 (Int.toNat r32.1) e46) (Int.toNat (w64 (r32.1 + 1))) e44)
    else
    bif (r34.1 == 2) then
    (sub l19 0 r32.1).bind fun l54 =>
    (app [] l54).bind fun l56 =>
    (sub l19 (w64 (r32.1 + 1)) (List.length l19 : Int)).bind fun l59 =>
    (app l56 l59).bind fun l61 =>
    kj30 r34.2.at_ r34.2.seed l61
    else
    (sub l19 0 r32.1).bind fun l65 =>
    (app [] l65).bind fun l67 =>
    (s_l00Src_pick (L00Src.mk s1.code r34.2.at_ r34.2.seed) 2).bind fun r70 =>
    (idx [113, 116] r70.1).bind fun c72 =>
    (app l67 [c72]).bind fun l75 =>
    (sub l19 r32.1 (List.length l19 : Int)).bind fun l78 =>
    (app l75 l78).bind fun l80 =>
    kj30 r70.2.at_ r70.2.seed l80
    else
    kj13 x17 x18 l19

def s_l19Near (N : Nat) (s1 : L00Src) (want5 : Str) : Option (Str × L00Src) :=
  (app ([] : Str) want5).bind fun l6 =>
  withK (fun (x9 : Int) (x10 : Int) (l11 : List UInt8) =>
  some (l11, (L00Src.mk s1.code x9 x10))) fun (kj13 : Int → Int → (List UInt8) → Option (Str × L00Src)) =>
  (s_l00Src_pick (L00Src.mk s1.code s1.at_ s1.seed) 4).bind fun r15 =>
  s_l19Near_l1 kj13 s1 N r15.2.at_ r15.2.seed l6 r15.1

def s_A2Typed (N : Nat) (code1 : List UInt8) : Option (Str × Str) :=
  (s_l00From code1).bind fun r4 =>
  (s_l19Draw N (L00Src.mk code1 r4.at_ r4.seed)).bind fun r7 =>
  (s_l19Near N (L00Src.mk code1 r7.2.at_ r7.2.seed) r7.1).bind fun r9 =>
  some (r7.1, r9.1)

def s_l00Text_l1 (kj3 : Option Bool) (s1 : Str) : Nat → Int → Option Bool
  | 0, _ => none
  | N + 1, i5 =>
    bif decide (i5 < (List.length s1 : Int)) then
    (idx s1 i5).bind fun c7 =>
    (orO (decide (c7 < (32 : UInt8))) ((idx s1 i5).bind fun c12 =>
    some (decide (c12 > (126 : UInt8))))).bind fun t9 =>
    bif t9 then
    some false
    else
    s_l00Text_l1 kj3 s1 N (w64 (i5 + 1))
    else
    kj3 

def s_l00Text (N : Nat) (s1 : Str) (most2 : Int) : Option Bool :=
  withK (some (decide ((List.length s1 : Int) ≤ most2))) fun (kj3 : Option Bool) =>
  s_l00Text_l1 kj3 s1 N 0

def s_l19Text (N : Nat) (s1 : Str) : Option Bool :=
  (s_l00Text N s1 60).bind fun r2 =>
  some r2

def s_l19Two (N : Nat) (want1 : Str) (typed2 : Str) : Option Int :=
  (s_l19Text N want1).bind fun r3 =>
  (orO (!r3) ((s_l19Text N typed2).bind fun r8 =>
  some (!r8))).bind fun t5 =>
  bif t5 then
  some 2
  else
  some 0

def s_l00Min (a1 : Int) (b2 : Int) : Option Int :=
  bif decide (a1 < b2) then
  some a1
  else
  some b2

def s_l19Swap (a1 : Str) (b2 : Str) : Option Bool :=
  (andO (decide ((List.length a1 : Int) ≥ 2)) (some (decide ((List.length b2 : Int) ≥ 2)))).bind fun t3 =>
  (andO t3 ((idx a1 0).bind fun c9 =>
  (idx a1 1).bind fun c11 =>
  some (c9 != c11))).bind fun t6 =>
  (andO t6 ((idx a1 0).bind fun c16 =>
  (idx b2 1).bind fun c18 =>
  some (c16 == c18))).bind fun t13 =>
  (andO t13 ((idx a1 1).bind fun c23 =>
  (idx b2 0).bind fun c25 =>
  some (c23 == c25))).bind fun t20 =>
  some t20

def s_l19Costs_l2 (kj22 : (List Int) → Option (List (List Int))) (want1 : Str) (typed2 : Str) (l10 : List (List Int)) (i12 : Int) : Nat → (List Int) → Int → Option (List (List Int))
  | 0, _, _ => none
  | N + 1, l24, k25 =>
    bif decide (k25 ≥ 0) then
    withK (fun (best27 : Int) =>
    withK (fun (best34 : Int) =>
    withK (fun (best57 : Int) =>
    withK (fun (best80 : Int) =>
    withK (fun (best93 : Int) =>
    withK (fun (best101 : Int) =>
    (idx l24 k25).bind fun e120 =>
    s_l19Costs_l2 kj22 want1 typed2 l10 i12 N (List.set l24 (Int.toNat k25) best101) (w64 (k25 - 1))) fun (kj102 : Int → Option (List (List Int))) =>
    (sub want1 i12 (List.length want1 : Int)).bind fun s104 =>
    (sub typed2 k25 (List.length typed2 : Int)).bind fun s106 =>
    (s_l19Swap s104 s106).bind fun r108 =>
    bif r108 then
    (idx l10 (w64 (i12 + 2))).bind fun e112 =>
    (idx e112 (w64 (k25 + 2))).bind fun e116 =>
    (s_l00Min best93 (w64 (e116 + 1))).bind fun r118 =>
    kj102 r118
    else
    kj102 best93) fun (kj94 : Int → Option (List (List Int))) =>
    bif decide (k25 < (List.length typed2 : Int)) then
    (idx l24 (w64 (k25 + 1))).bind fun e97 =>
    (s_l00Min best80 (w64 (e97 + 1))).bind fun r99 =>
    kj94 r99
    else
    kj94 best80) fun (kj81 : Int → Option (List (List Int))) =>
    bif decide (i12 < (List.length want1 : Int)) then
    (idx l10 (w64 (i12 + 1))).bind fun e85 =>
    (idx e85 k25).bind fun e89 =>
    (s_l00Min best57 (w64 (e89 + 1))).bind fun r91 =>
    kj81 r91
    else
    kj81 best57) fun (kj58 : Int → Option (List (List Int))) =>
    (andO (decide (i12 < (List.length want1 : Int))) (some (decide (k25 < (List.length typed2 : Int))))).bind fun t60 =>
    (andO t60 ((idx want1 i12).bind fun c66 =>
    (idx typed2 k25).bind fun c68 =>
    some (c66 != c68))).bind fun t63 =>
    bif t63 then
    (idx l10 (w64 (i12 + 1))).bind fun e72 =>
    (idx e72 (w64 (k25 + 1))).bind fun e76 =>
    (s_l00Min best34 (w64 (e76 + 1))).bind fun r78 =>
    kj58 r78
    else
    kj58 best34) fun (kj35 : Int → Option (List (List Int))) =>
    (andO (decide (i12 < (List.length want1 : Int))) (some (decide (k25 < (List.length typed2 : Int))))).bind fun t37 =>
    (andO t37 ((idx want1 i12).bind fun c43 =>
    (idx typed2 k25).bind fun c45 =>
    some (c43 == c45))).bind fun t40 =>
    bif t40 then
    (idx l10 (w64 (i12 + 1))).bind fun e49 =>
    (idx e49 (w64 (k25 + 1))).bind fun e53 =>
    (s_l00Min best27 e53).bind fun r55 =>
    kj35 r55
    else
    kj35 best27) fun (kj28 : Int → Option (List (List Int))) =>
    (orO (decide (i12 < (List.length want1 : Int))) (some (decide (k25 < (List.length typed2 : Int))))).bind fun t30 =>
    bif t30 then
    kj28 (w64 ((List.length want1 : Int) + (List.length typed2 : Int)))
    else
    kj28 0
    else
    kj22 l24

def s_l19Costs_l1 (kj8 : (List (List Int)) → Option (List (List Int))) (want1 : Str) (typed2 : Str) : Nat → (List (List Int)) → Int → Option (List (List Int))
  | 0, _, _ => none
  | N + 1, l10, i12 =>
    bif decide (i12 ≥ 0) then
    withK (fun (l14 : List (List Int)) =>
    s_l19Costs_l1 kj8 want1 typed2 N l14 (w64 (i12 - 1))) fun (kj16 : (List (List Int)) → Option (List (List Int))) =>
    (mk (w64 ((List.length typed2 : Int) + 1)) (0 : Int)).bind fun l18 =>
    withK (fun (l21 : List Int) =>
    (idx l10 i12).bind fun e123 =>
    kj16 (List.set l10 (Int.toNat i12) l21)) fun (kj22 : (List Int) → Option (List (List Int))) =>
    s_l19Costs_l2 kj22 want1 typed2 l10 i12 N l18 (List.length typed2 : Int)
    else
    kj8 l10

def s_l19Costs (N : Nat) (want1 : Str) (typed2 : Str) : Option (List (List Int)) :=
  (mk (w64 ((List.length want1 : Int) + 1)) ([] : List Int)).bind fun l3 =>
  withK (fun (l6 : List (List Int)) =>
  some l6) fun (kj8 : (List (List Int)) → Option (List (List Int))) =>
  s_l19Costs_l1 kj8 want1 typed2 N l3 (List.length want1 : Int)

def s_l19Align_l1 (kj10 : (List UInt8) → Option Str) (want1 : Str) (typed2 : Str) (r3 : (List (List Int))) : Nat → (List UInt8) → Int → Int → Option Str
  | 0, _, _, _ => none
  | N + 1, l12, i14, k15 =>
    (orO (decide (i14 < (List.length want1 : Int))) (some (decide (k15 < (List.length typed2 : Int))))).bind fun t16 =>
    bif t16 then
    (idx r3 i14).bind fun e21 =>
    (idx e21 k15).bind fun e25 =>
    (andO (decide (k15 < (List.length typed2 : Int))) ((idx r3 i14).bind fun e31 =>
    (idx e31 (w64 (k15 + 1))).bind fun e35 =>
    some ((w64 (e35 + 1)) == e25))).bind fun t28 =>
    bif t28 then
    (app l12 [43]).bind fun l39 =>
    s_l19Align_l1 kj10 want1 typed2 r3 N l39 i14 (w64 (k15 + 1))
    else
    (andO (decide (i14 < (List.length want1 : Int))) ((idx r3 (w64 (i14 + 1))).bind fun e46 =>
    (idx e46 k15).bind fun e50 =>
    some ((w64 (e50 + 1)) == e25))).bind fun t43 =>
    bif t43 then
    (app l12 [45]).bind fun l54 =>
    s_l19Align_l1 kj10 want1 typed2 r3 N l54 (w64 (i14 + 1)) k15
    else
    (andO (decide (i14 < (List.length want1 : Int))) (some (decide (k15 < (List.length typed2 : Int))))).bind fun t58 =>
    (andO t58 ((idx want1 i14).bind fun c64 =>
    (idx typed2 k15).bind fun c66 =>
    some (c64 == c66))).bind fun t61 =>
    (andO t61 ((idx r3 (w64 (i14 + 1))).bind fun e71 =>
    (idx e71 (w64 (k15 + 1))).bind fun e75 =>
    some (e75 == e25))).bind fun t68 =>
    bif t68 then
    (app l12 [61]).bind fun l79 =>
    s_l19Align_l1 kj10 want1 typed2 r3 N l79 (w64 (i14 + 1)) (w64 (k15 + 1))
    else
    (andO (decide (i14 < (List.length want1 : Int))) (some (decide (k15 < (List.length typed2 : Int))))).bind fun t83 =>
    (andO t83 ((idx want1 i14).bind fun c89 =>
    (idx typed2 k15).bind fun c91 =>
    some (c89 != c91))).bind fun t86 =>
    (andO t86 ((idx r3 (w64 (i14 + 1))).bind fun e96 =>
    (idx e96 (w64 (k15 + 1))).bind fun e100 =>
    some ((w64 (e100 + 1)) == e25))).bind fun t93 =>
    bif t93 then
    (app l12 [120]).bind fun l104 =>
    s_l19Align_l1 kj10 want1 typed2 r3 N l104 (w64 (i14 + 1)) (w64 (k15 + 1))
    else
    (app l12 [126]).bind fun l108 =>
    s_l19Align_l1 kj10 want1 typed2 r3 N l108 (w64 (i14 + 2)) (w64 (k15 + 2))
    else
    kj10 l12

def s_l19Align (N : Nat) (want1 : Str) (typed2 : Str) : Option Str :=
  (s_l19Costs N want1 typed2).bind fun r3 =>
  withK (fun (l8 : List UInt8) =>
  some l8) fun (kj10 : (List UInt8) → Option Str) =>
  s_l19Align_l1 kj10 want1 typed2 r3 N [] 0 0

def s_AlignTexts (N : Nat) (want1 : Str) (typed2 : Str) : Option (Str × Int) :=
  (s_l19Two N want1 typed2).bind fun r3 =>
  bif (r3 != 0) then
  some ([], r3)
  else
  (s_l19Align N want1 typed2).bind fun r6 =>
  some (r6, 0)

def i_areSteps_l1 (kj2 : Option Bool) (steps1 : Str) : Nat → Int → Option Bool
  | 0, _ => none
  | N + 1, x4 =>
    bif decide (x4 < (List.length steps1 : Int)) then
    (idx steps1 x4).bind fun c6 =>
    withK (fun (x8 : Bool) =>
    bif x8 then
    i_areSteps_l1 kj2 steps1 N (w64 (x4 + 1))
    else
    some false) fun (kj9 : Bool → Option Bool) =>
    bif (c6 == (61 : UInt8)) then
    kj9 (c6 == (61 : UInt8))
    else
    bif (c6 == (120 : UInt8)) then
    kj9 (c6 == (120 : UInt8))
    else
    bif (c6 == (45 : UInt8)) then
    kj9 (c6 == (45 : UInt8))
    else
    bif (c6 == (43 : UInt8)) then
    kj9 (c6 == (43 : UInt8))
    else
    kj9 (c6 == (126 : UInt8))
    else
    kj2 

def i_areSteps (N : Nat) (steps1 : Str) : Option Bool :=
  withK (some (decide ((List.length steps1 : Int) ≤ 120))) fun (kj2 : Option Bool) =>
  i_areSteps_l1 kj2 steps1 N 0

def i_countByte_l1 (kj4 : Int → Option Int) (s1 : Str) (b2 : UInt8) : Nat → Int → Int → Option Int
  | 0, _, _ => none
  | N + 1, n6, x7 =>
    bif decide (x7 < (List.length s1 : Int)) then
    withK (fun (n9 : Int) =>
    i_countByte_l1 kj4 s1 b2 N n9 (w64 (x7 + 1))) fun (kj10 : Int → Option Int) =>
    (idx s1 x7).bind fun c12 =>
    bif (c12 == b2) then
    kj10 (w64 (n6 + 1))
    else
    kj10 n6
    else
    kj4 n6

def i_countByte (N : Nat) (s1 : Str) (b2 : UInt8) : Option Int :=
  withK (fun (n3 : Int) =>
  some n3) fun (kj4 : Int → Option Int) =>
  i_countByte_l1 kj4 s1 b2 N 0 0

def i_ErrorsIn_l1 (kj8 : (List Int) → Option ((List Int) × Int)) (steps1 : Str) : Nat → (List Int) → Int → Option ((List Int) × Int)
  | 0, _, _ => none
  | N + 1, l11, x13 =>
    bif decide (x13 < (List.length [43, 45, 120, 126] : Int)) then
    (idx [43, 45, 120, 126] x13).bind fun e15 =>
    (i_countByte N steps1 e15).bind fun r17 =>
    (app l11 [r17]).bind fun l20 =>
    i_ErrorsIn_l1 kj8 steps1 N l20 (w64 (x13 + 1))
    else
    kj8 l11

def i_ErrorsIn (N : Nat) (steps1 : Str) : Option ((List Int) × Int) :=
  (i_areSteps N steps1).bind fun r2 =>
  bif !r2 then
  some ([], 7)
  else
  withK (fun (l6 : List Int) =>
  some (l6, 0)) fun (kj8 : (List Int) → Option ((List Int) × Int)) =>
  i_ErrorsIn_l1 kj8 steps1 N [] 0

def i_isText_l1 (kj5 : Option Bool) (s1 : Str) (low2 : UInt8) : Nat → Int → Option Bool
  | 0, _ => none
  | N + 1, x7 =>
    bif decide (x7 < (List.length s1 : Int)) then
    (idx s1 x7).bind fun c9 =>
    (orO (decide (c9 < low2)) ((idx s1 x7).bind fun c14 =>
    some (decide (c14 > (126 : UInt8))))).bind fun t11 =>
    bif t11 then
    some false
    else
    i_isText_l1 kj5 s1 low2 N (w64 (x7 + 1))
    else
    kj5 

def i_isText (N : Nat) (s1 : Str) (low2 : UInt8) (most3 : Int) : Option Bool :=
  bif decide ((List.length s1 : Int) > most3) then
  some false
  else
  withK (some true) fun (kj5 : Option Bool) =>
  i_isText_l1 kj5 s1 low2 N 0

def i_isTyped (N : Nat) (s1 : Str) : Option Bool :=
  (i_isText N s1 32 60).bind fun r2 =>
  some r2

def i_stepAt (want1 : Str) (typed2 : Str) (step3 : UInt8) : Option (Int × Int × Int × Bool) :=
  (andO (want1 != []) (some (typed2 != []))).bind fun t4 =>
  bif (step3 == (61 : UInt8)) then
  (andO t4 ((idx want1 0).bind fun c11 =>
  (idx typed2 0).bind fun c13 =>
  some (c11 == c13))).bind fun t8 =>
  some (1, 1, 0, t8)
  else
  bif (step3 == (120 : UInt8)) then
  (andO t4 ((idx want1 0).bind fun c19 =>
  (idx typed2 0).bind fun c21 =>
  some (c19 != c21))).bind fun t16 =>
  some (1, 1, 1, t16)
  else
  bif (step3 == (45 : UInt8)) then
  some (1, 0, 1, (want1 != []))
  else
  bif (step3 == (43 : UInt8)) then
  some (0, 1, 1, (typed2 != []))
  else
  bif (step3 == (126 : UInt8)) then
  (andO (decide ((List.length want1 : Int) > 1)) (some (decide ((List.length typed2 : Int) > 1)))).bind fun t26 =>
  (andO t26 ((idx want1 0).bind fun c32 =>
  (idx want1 1).bind fun c34 =>
  some (c32 != c34))).bind fun t29 =>
  (andO t29 ((idx want1 0).bind fun c39 =>
  (idx typed2 1).bind fun c41 =>
  some (c39 == c41))).bind fun t36 =>
  (andO t36 ((idx want1 1).bind fun c46 =>
  (idx typed2 0).bind fun c48 =>
  some (c46 == c48))).bind fun t43 =>
  some (2, 2, 1, t43)
  else
  some (0, 0, 0, false)

def i_leastFrom_l1 (kj8 : (List (List Int)) → Option (List (List Int))) (typed2 : Str) (l3 : List (List Int)) : Nat → (List (List Int)) → Int → Option (List (List Int))
  | 0, _, _ => none
  | N + 1, l10, x12 =>
    bif decide (x12 < (List.length l3 : Int)) then
    (mk (w64 ((List.length typed2 : Int) + 1)) (0 : Int)).bind fun l15 =>
    (idx l10 x12).bind fun e18 =>
    i_leastFrom_l1 kj8 typed2 l3 N (List.set l10 (Int.toNat x12) l15) (w64 (x12 + 1))
    else
    kj8 l10

def i_leastFrom_l4 (kj39 : Int → Option (List (List Int))) (want1 : Str) (typed2 : Str) (i27 : Int) (l32 : List (List Int)) (k33 : Int) : Nat → Int → Int → Option (List (List Int))
  | 0, _, _ => none
  | N + 1, best42, x43 =>
    bif decide (x43 < (List.length [43, 45, 61, 120, 126] : Int)) then
    withK (fun (best45 : Int) =>
    i_leastFrom_l4 kj39 want1 typed2 i27 l32 k33 N best45 (w64 (x43 + 1))) fun (kj46 : Int → Option (List (List Int))) =>
    (idx [43, 45, 61, 120, 126] x43).bind fun e48 =>
    (sub want1 i27 (List.length want1 : Int)).bind fun s50 =>
    (sub typed2 k33 (List.length typed2 : Int)).bind fun s52 =>
    (i_stepAt s50 s52 e48).bind fun r54 =>
    (andO r54.2.2.2 ((orO (decide (best42 < 0)) ((idx l32 (w64 (i27 + r54.1))).bind fun e63 =>
    (idx e63 (w64 (k33 + r54.2.1))).bind fun e67 =>
    some (decide ((w64 (e67 + r54.2.2.1)) < best42)))).bind fun t60 =>
    some t60)).bind fun t57 =>
    bif t57 then
    (idx l32 (w64 (i27 + r54.1))).bind fun e71 =>
    (idx e71 (w64 (k33 + r54.2.1))).bind fun e75 =>
    kj46 (w64 (e75 + r54.2.2.1))
    else
    kj46 best42
    else
    kj39 best42

def i_leastFrom_l3 (kj30 : (List (List Int)) → Option (List (List Int))) (want1 : Str) (typed2 : Str) (i27 : Int) : Nat → (List (List Int)) → Int → Option (List (List Int))
  | 0, _, _ => none
  | N + 1, l32, k33 =>
    bif decide (k33 ≥ 0) then
    withK (fun (l35 : List (List Int)) =>
    i_leastFrom_l3 kj30 want1 typed2 i27 N l35 (w64 (k33 - 1))) fun (kj36 : (List (List Int)) → Option (List (List Int))) =>
    withK (fun (best38 : Int) =>
    (idx l32 i27).bind fun e78 =>
    (idx e78 k33).bind fun e82 =>
    kj36 (List.set l32 (Int.toNat i27) (List.set e78 (Int.toNat k33) (imax best38 0)))) fun (kj39 : Int → Option (List (List Int))) =>
    i_leastFrom_l4 kj39 want1 typed2 i27 l32 k33 N (-1) 0
    else
    kj30 l32

def i_leastFrom_l2 (kj24 : (List (List Int)) → Option (List (List Int))) (want1 : Str) (typed2 : Str) : Nat → (List (List Int)) → Int → Option (List (List Int))
  | 0, _, _ => none
  | N + 1, l26, i27 =>
    bif decide (i27 ≥ 0) then
    withK (fun (l29 : List (List Int)) =>
    i_leastFrom_l2 kj24 want1 typed2 N l29 (w64 (i27 - 1))) fun (kj30 : (List (List Int)) → Option (List (List Int))) =>
    i_leastFrom_l3 kj30 want1 typed2 i27 N l26 (List.length typed2 : Int)
    else
    kj24 l26

def i_leastFrom (N : Nat) (want1 : Str) (typed2 : Str) : Option (List (List Int)) :=
  (mk (w64 ((List.length want1 : Int) + 1)) ([] : List Int)).bind fun l3 =>
  withK (fun (l6 : List (List Int)) =>
  withK (fun (l23 : List (List Int)) =>
  some l23) fun (kj24 : (List (List Int)) → Option (List (List Int))) =>
  i_leastFrom_l2 kj24 want1 typed2 N l6 (List.length want1 : Int)) fun (kj8 : (List (List Int)) → Option (List (List Int))) =>
  i_leastFrom_l1 kj8 typed2 l3 N l3 0

def i_alignment_l2 (kj20 : (List UInt8) → Int → Int → Option Str) (want1 : Str) (typed2 : Str) (r3 : (List (List Int))) : Nat → (List UInt8) → Int → Int → Int → Option Str
  | 0, _, _, _, _ => none
  | N + 1, l27, i29, k30, x31 =>
    bif decide (x31 < (List.length [43, 45, 61, 120, 126] : Int)) then
    (idx [43, 45, 61, 120, 126] x31).bind fun e33 =>
    (sub want1 i29 (List.length want1 : Int)).bind fun s35 =>
    (sub typed2 k30 (List.length typed2 : Int)).bind fun s37 =>
    (i_stepAt s35 s37 e33).bind fun r39 =>
    (andO r39.2.2.2 ((idx r3 (w64 (i29 + r39.1))).bind fun e45 =>
    (idx e45 (w64 (k30 + r39.2.1))).bind fun e49 =>
    (idx r3 i29).bind fun e51 =>
    (idx e51 k30).bind fun e55 =>
    some ((w64 (e49 + r39.2.2.1)) == e55))).bind fun t42 =>
    bif t42 then
    (app l27 [e33]).bind fun l59 =>
    kj20 l59 (w64 (i29 + r39.1)) (w64 (k30 + r39.2.1))
    else
    i_alignment_l2 kj20 want1 typed2 r3 N l27 i29 k30 (w64 (x31 + 1))
    else
    kj20 l27 i29 k30

def i_alignment_l1 (kj10 : (List UInt8) → Option Str) (want1 : Str) (typed2 : Str) (r3 : (List (List Int))) : Nat → (List UInt8) → Int → Int → Option Str
  | 0, _, _, _ => none
  | N + 1, l12, i14, k15 =>
    withK (fun (l16 : List UInt8) (i18 : Int) (k19 : Int) =>
    i_alignment_l1 kj10 want1 typed2 r3 N l16 i18 k19) fun (kj20 : (List UInt8) → Int → Int → Option Str) =>
    (orO (decide (i14 < (List.length want1 : Int))) (some (decide (k15 < (List.length typed2 : Int))))).bind fun t22 =>
    bif t22 then
    i_alignment_l2 kj20 want1 typed2 r3 N l12 i14 k15 0
    else
    kj10 l12

def i_alignment (N : Nat) (want1 : Str) (typed2 : Str) : Option Str :=
  (i_leastFrom N want1 typed2).bind fun r3 =>
  withK (fun (l8 : List UInt8) =>
  some l8) fun (kj10 : (List UInt8) → Option Str) =>
  i_alignment_l1 kj10 want1 typed2 r3 N [] 0 0

def i_ascending_l1 (kj7 : (List UInt8) → Option Str) (marked1 : List Bool) : Nat → (List UInt8) → Int → Option Str
  | 0, _, _ => none
  | N + 1, l9, x11 =>
    bif decide (x11 < 256) then
    withK (fun (l13 : List UInt8) =>
    i_ascending_l1 kj7 marked1 N l13 (w64 (x11 + 1))) fun (kj15 : (List UInt8) → Option Str) =>
    (idx marked1 x11).bind fun e17 =>
    bif e17 then
    (app l9 [UInt8.ofInt x11]).bind fun l24 =>
    kj15 l24
    else
    kj15 l9
    else
    kj7 l9

def i_ascending (N : Nat) (marked1 : List Bool) : Option Str :=
  withK (fun (l5 : List UInt8) =>
  some l5) fun (kj7 : (List UInt8) → Option Str) =>
  i_ascending_l1 kj7 marked1 N [] 0

def i_MissedLetters_l1 (kj17 : (List Bool) → (List Int) → Option (Str × (List Int) × Int)) (want1 : Str) (r11 : Str) : Nat → (List Bool) → (List Int) → Int → Int → Option (Str × (List Int) × Int)
  | 0, _, _, _, _ => none
  | N + 1, l19, l20, at21, x22 =>
    bif decide (x22 < (List.length r11 : Int)) then
    withK (fun (l24 : List Bool) (l25 : List Int) (at26 : Int) =>
    i_MissedLetters_l1 kj17 want1 r11 N l24 l25 at26 (w64 (x22 + 1))) fun (kj27 : (List Bool) → (List Int) → Int → Option (Str × (List Int) × Int)) =>
    (idx r11 x22).bind fun c29 =>
    withK (fun (x31 : Bool) =>
    bif x31 then
    (idx want1 at21).bind fun c36 =>
    (idx l20 (UInt8.toNat c36 : Int)).bind fun e38 =>
    (idx l20 (UInt8.toNat c36 : Int)).bind fun e40 =>
    (idx want1 at21).bind fun c42 =>
    (idx l19 (UInt8.toNat c42 : Int)).bind fun e44 =>
    kj27 (List.set l19 (Int.toNat (UInt8.toNat c42 : Int)) true) (List.set l20 (Int.toNat (UInt8.toNat c36 : Int)) (w64 (e38 + 1))) (w64 (at21 + 1))
    else
    bif (c29 == (61 : UInt8)) then
    kj27 l19 l20 (w64 (at21 + 1))
    else
    bif (c29 == (126 : UInt8)) then
    kj27 l19 l20 (w64 (at21 + 2))
    else
    kj27 l19 l20 at21) fun (kj32 : Bool → Option (Str × (List Int) × Int)) =>
    bif (c29 == (120 : UInt8)) then
    kj32 (c29 == (120 : UInt8))
    else
    kj32 (c29 == (45 : UInt8))
    else
    kj17 l19 l20

def i_MissedLetters_l2 (kj53 : (List Int) → Option (Str × (List Int) × Int)) (l16 : List Int) (r48 : Str) : Nat → (List Int) → Int → Option (Str × (List Int) × Int)
  | 0, _, _ => none
  | N + 1, l55, x57 =>
    bif decide (x57 < (List.length r48 : Int)) then
    (idx r48 x57).bind fun c59 =>
    (idx l16 (UInt8.toNat c59 : Int)).bind fun e61 =>
    (app l55 [e61]).bind fun l64 =>
    i_MissedLetters_l2 kj53 l16 r48 N l64 (w64 (x57 + 1))
    else
    kj53 l55

def i_MissedLetters (N : Nat) (want1 : Str) (typed2 : Str) : Option (Str × (List Int) × Int) :=
  (i_isTyped N want1).bind fun r3 =>
  (orO (!r3) ((i_isTyped N typed2).bind fun r8 =>
  some (!r8))).bind fun t5 =>
  bif t5 then
  some ([], [], 2)
  else
  (i_alignment N want1 typed2).bind fun r11 =>
  withK (fun (l15 : List Bool) (l16 : List Int) =>
  (i_ascending N l15).bind fun r48 =>
  withK (fun (l51 : List Int) =>
  some (r48, l51, 0)) fun (kj53 : (List Int) → Option (Str × (List Int) × Int)) =>
  i_MissedLetters_l2 kj53 l16 r48 N [] 0) fun (kj17 : (List Bool) → (List Int) → Option (Str × (List Int) × Int)) =>
  i_MissedLetters_l1 kj17 want1 r11 N (List.replicate 256 false) (List.replicate 256 (0 : Int)) 0 0

def w_a2Sum_l1 (kj5 : Int → Option Int) (list1 : List Int) : Nat → Int → Int → Option Int
  | 0, _, _ => none
  | N + 1, sum7, i8 =>
    bif decide (i8 < (List.length list1 : Int)) then
    (idx list1 i8).bind fun e10 =>
    w_a2Sum_l1 kj5 list1 N (w64 (sum7 + e10)) (w64 (i8 + 1))
    else
    kj5 sum7

def w_a2Sum (N : Nat) (list1 : List Int) : Option Int :=
  withK (fun (sum4 : Int) =>
  some sum4) fun (kj5 : Int → Option Int) =>
  w_a2Sum_l1 kj5 list1 N 0 0

def i_absolute (n1 : Int) : Option Int :=
  bif decide (n1 < 0) then
  some (w64 (0 - n1))
  else
  some n1

def i_divisor_l1 (kj4 : Int → Option Int) : Nat → Int → Int → Option Int
  | 0, _, _ => none
  | N + 1, a6, b7 =>
    bif (b7 != 0) then
    (remO a6 b7).bind fun q9 =>
    i_divisor_l1 kj4 N b7 q9
    else
    kj4 a6

def i_divisor (N : Nat) (a1 : Int) (b2 : Int) : Option Int :=
  withK (fun (a3 : Int) =>
  some a3) fun (kj4 : Int → Option Int) =>
  i_divisor_l1 kj4 N a1 b2

def i_lowest (N : Nat) (num1 : Int) (den2 : Int) : Option Fraction :=
  (i_absolute num1).bind fun r4 =>
  (i_divisor N r4 den2).bind fun r6 =>
  (quoO num1 r6).bind fun q8 =>
  (quoO den2 r6).bind fun q10 =>
  some (Fraction.mk q8 q10)

def i_AccuracyOf (N : Nat) (want1 : Str) (typed2 : Str) : Option (Fraction × Int) :=
  (i_isTyped N want1).bind fun r4 =>
  (orO (!r4) ((i_isTyped N typed2).bind fun r9 =>
  some (!r9))).bind fun t6 =>
  bif t6 then
  some ((Fraction.mk 0 0), 2)
  else
  bif (want1 == []) then
  some ((Fraction.mk 0 0), 3)
  else
  (i_alignment N want1 typed2).bind fun r13 =>
  (i_countByte N r13 61).bind fun r15 =>
  (i_lowest N r15 (List.length want1 : Int)).bind fun r17 =>
  some (r17, 0)

def i_MarkOf_l1 (kj24 : Int → Option (Int × Int)) (want1 : Str) (e21 : Int) : Nat → Int → Int → Option (Int × Int)
  | 0, _, _ => none
  | N + 1, mark26, times27 =>
    (andO (decide (mark26 < 6)) (some (decide ((w64 (100 * e21)) > (w64 (times27 * (List.length want1 : Int))))))).bind fun t28 =>
    bif t28 then
    i_MarkOf_l1 kj24 want1 e21 N (w64 (mark26 + 1)) (w64 (times27 * 2))
    else
    kj24 mark26

def i_MarkOf (N : Nat) (want1 : Str) (typed2 : Str) : Option (Int × Int) :=
  (i_isTyped N want1).bind fun r3 =>
  (orO (!r3) ((i_isTyped N typed2).bind fun r8 =>
  some (!r8))).bind fun t5 =>
  bif t5 then
  some (0, 2)
  else
  bif (want1 == []) then
  some (0, 3)
  else
  (i_leastFrom N want1 typed2).bind fun r12 =>
  (idx r12 0).bind fun e17 =>
  (idx e17 0).bind fun e21 =>
  withK (fun (mark23 : Int) =>
  some (mark23, 0)) fun (kj24 : Int → Option (Int × Int)) =>
  i_MarkOf_l1 kj24 want1 e21 N 1 1

def w_FnMarks_l1 (kj39 : Option Bool) (r14 : Str × (List Int) × Int) : Nat → Int → Option Bool
  | 0, _ => none
  | N + 1, i41 =>
    bif decide (i41 < (List.length r14.1 : Int)) then
    (idx r14.2.1 i41).bind fun e43 =>
    (orO (decide (e43 < 1)) ((andO (decide (i41 > 0)) ((idx r14.1 (w64 (i41 - 1))).bind fun c51 =>
    (idx r14.1 i41).bind fun c53 =>
    some (decide (c51 ≥ c53)))).bind fun t48 =>
    some t48)).bind fun t45 =>
    bif t45 then
    some false
    else
    w_FnMarks_l1 kj39 r14 N (w64 (i41 + 1))
    else
    kj39 

def w_FnMarks_l2 (kj93 : Int → Option Bool) (r59 : Int × Int) (r90 : Int) : Nat → Int → Int → Option Bool
  | 0, _, _ => none
  | N + 1, most95, k96 =>
    bif decide (k96 < r59.1) then
    bif decide ((w64 (100 * r90)) ≤ most95) then
    some false
    else
    w_FnMarks_l2 kj93 r59 r90 N (w64 (most95 * 2)) (w64 (k96 + 1))
    else
    kj93 most95

def w_FnMarks (N : Nat) (code1 : List UInt8) : Option Bool :=
  (w_a2Long code1 []).bind fun r4 =>
  bif r4 then
  some true
  else
  (s_A2Typed N code1).bind fun r7 =>
  (s_AlignTexts N r7.1 r7.2).bind fun r9 =>
  (i_ErrorsIn N r9.1).bind fun r11 =>
  (i_MissedLetters N r7.1 r7.2).bind fun r14 =>
  (orO (r9.2 != 0) (some (r11.2 != 0))).bind fun t17 =>
  (orO t17 (some ((List.length r11.1 : Int) != 4))).bind fun t20 =>
  (orO t20 (some (r14.2.2 != 0))).bind fun t23 =>
  (orO t23 (some ((List.length r14.1 : Int) != (List.length r14.2.1 : Int)))).bind fun t26 =>
  (orO t26 ((w_a2Sum N r14.2.1).bind fun r32 =>
  (idx r11.1 1).bind fun e34 =>
  (idx r11.1 2).bind fun e36 =>
  some (r32 != (w64 (e34 + e36))))).bind fun t29 =>
  bif t29 then
  some false
  else
  withK ((i_AccuracyOf N r7.1 r7.2).bind fun r56 =>
  (i_MarkOf N r7.1 r7.2).bind fun r59 =>
  bif (r7.1 == []) then
  (andO (r56.2 == 3) (some (r59.2 == 3))).bind fun t62 =>
  some t62
  else
  (idx r11.1 1).bind fun e65 =>
  (idx r11.1 2).bind fun e67 =>
  (idx r11.1 3).bind fun e69 =>
  (orO (r56.2 != 0) (some (decide (r56.1.den < 1)))).bind fun t71 =>
  (orO t71 (some (decide (r56.1.den > (List.length r7.1 : Int))))).bind fun t74 =>
  (orO t74 (some ((w64 (r56.1.num * (List.length r7.1 : Int))) != (w64 ((w64 ((w64 ((w64 ((List.length r7.1 : Int) - e65)) - e67)) - (w64 (2 * e69)))) * r56.1.den))))).bind fun t77 =>
  (orO t77 (some (r59.2 != 0))).bind fun t80 =>
  (orO t80 (some (decide (r59.1 < 1)))).bind fun t83 =>
  (orO t83 (some (decide (r59.1 > 6)))).bind fun t86 =>
  bif t86 then
  some false
  else
  (w_a2Sum N r11.1).bind fun r90 =>
  withK (fun (most92 : Int) =>
  (orO (r59.1 == 6) (some (decide ((w64 (100 * r90)) ≤ most92)))).bind fun t99 =>
  some t99) fun (kj93 : Int → Option Bool) =>
  w_FnMarks_l2 kj93 r59 r90 N (List.length r7.1 : Int) 1) fun (kj39 : Option Bool) =>
  w_FnMarks_l1 kj39 r14 N 0

end Go.Proofs.Ytcegcmoeimjioaa
