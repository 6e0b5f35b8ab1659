/-
  Plain functions that compute what the Go functions compute. No conditions.
-/
import Derived.Test.YthkckgiicchpnaaBase
namespace Go.Proofs.Ythkckgiicchpnaa
set_option linter.unusedVariables false
set_option linter.unusedSimpArgs false

structure Carriage where
  left : Int
  right : Int
  bell : Int

def Carriage.beq (x y : Carriage) : Bool := x.left == y.left && (x.right == y.right && (x.bell == y.bell))

structure L00Src where
  code : List UInt8
  at_ : Int
  seed : Int

structure Act where
  kind : Int
  letter : Str

def Act.beq (x y : Act) : Bool := x.kind == y.kind && (x.letter == y.letter)

structure Struck where
  place : Int
  letter : Str

def Struck.beq (x y : Struck) : Bool := x.place == y.place && (x.letter == y.letter)

structure Typing where
  list : List Struck
  place : Int
  bells : Int
  stopped : Int

structure L04M where
  c : Carriage
  at_ : Int
  free : Bool
  bells : Int
  list : List Struck



def w_f6big (code1 : List UInt8) : Option Bool :=
  some (decide ((List.length code1 : Int) > 4096))

def s_l00From (code1 : List UInt8) : Option L00Src :=
  some (L00Src.mk code1 0 0)

def s_l00Src_next (s1 : L00Src) : Option (Int × L00Src) :=
  withK (fun (b5 : Int) =>
  bif decide ((w64 (s1.at_ + 1)) ≤ (List.length s1.code : Int)) then
  some (b5, (L00Src.mk s1.code (w64 (s1.at_ + 1)) (IntKind.u64.wrap ((IntKind.u64.wrap ((IntKind.u64.wrap (s1.seed * 6364136223846793005)) + (IntKind.u64.wrap b5))) + 1442695040888963407))))
  else
  some (w64 (uand (ushr (IntKind.u64.wrap ((IntKind.u64.wrap ((IntKind.u64.wrap (s1.seed * 6364136223846793005)) + (IntKind.u64.wrap b5))) + 1442695040888963407)) 40) 255), (L00Src.mk s1.code (w64 (s1.at_ + 1)) (IntKind.u64.wrap ((IntKind.u64.wrap ((IntKind.u64.wrap (s1.seed * 6364136223846793005)) + (IntKind.u64.wrap b5))) + 1442695040888963407))))) fun (kj6 : Int → Option (Int × L00Src)) =>
  bif decide (s1.at_ < (List.length s1.code : Int)) then
  (idx s1.code s1.at_).bind fun e9 =>
  kj6 (UInt8.toNat e9 : Int)
  else
  kj6 0

def s_l00Src_pick (s1 : L00Src) (n5 : Int) : Option (Int × L00Src) :=
  bif decide (n5 ≤ 1) then
  some (0, (L00Src.mk s1.code s1.at_ s1.seed))
  else
  (s_l00Src_next (L00Src.mk s1.code s1.at_ s1.seed)).bind fun r7 =>
  withK (fun (x9 : Int) (x10 : Int) (x11 : Int) =>
  (remO x11 n5).bind fun q17 =>
  some (q17, (L00Src.mk s1.code x9 x10))) fun (kj12 : Int → Int → Int → Option (Int × L00Src)) =>
  bif decide (n5 > 200) then
  (s_l00Src_next (L00Src.mk s1.code r7.2.at_ r7.2.seed)).bind fun r15 =>
  kj12 r15.2.at_ r15.2.seed (w64 ((w64 (r7.1 * 256)) + r15.1))
  else
  kj12 r7.2.at_ r7.2.seed r7.1

def s_l00Src_among (s1 : L00Src) (list5 : List Int) : Option (Int × L00Src) :=
  (s_l00Src_pick (L00Src.mk s1.code s1.at_ s1.seed) (List.length list5 : Int)).bind fun r8 =>
  (idx list5 r8.1).bind fun e10 =>
  some (e10, (L00Src.mk s1.code r8.2.at_ r8.2.seed))

def s_l04Draw (s1 : L00Src) : Option (Carriage × L00Src) :=
  (s_l00Src_pick (L00Src.mk s1.code s1.at_ s1.seed) 20).bind fun r6 =>
  (s_l00Src_pick (L00Src.mk s1.code r6.2.at_ r6.2.seed) 20).bind fun r9 =>
  (s_l00Src_pick (L00Src.mk s1.code r9.2.at_ r9.2.seed) 16).bind fun r12 =>
  withK (fun (x15 : Int) (x16 : Int) (x17 : Int) (x18 : Int) (x19 : Int) =>
  some ((Carriage.mk x17 x18 x19), (L00Src.mk s1.code x15 x16))) fun (kj20 : Int → Int → Int → Int → Int → Option (Carriage × L00Src)) =>
  (s_l00Src_pick (L00Src.mk s1.code r12.2.at_ r12.2.seed) 24).bind fun r22 =>
  bif (r22.1 == 0) then
  (s_l00Src_among (L00Src.mk s1.code r22.2.at_ r22.2.seed) [(-1), 0, w64 ((w64 ((w64 (((Carriage.mk r6.1 0 0).left) + 20)) + r9.1)) - 20), w64 ((w64 ((w64 ((w64 (((Carriage.mk r6.1 0 0).left) + 20)) + r9.1)) - 20)) + 1), (-9223372036854775808)]).bind fun r26 =>
  kj20 r26.2.at_ r26.2.seed r26.1 (w64 ((w64 (((Carriage.mk r6.1 0 0).left) + 20)) + r9.1)) (w64 ((w64 ((w64 (((Carriage.mk r6.1 0 0).left) + 20)) + r9.1)) - r12.1))
  else
  bif (r22.1 == 1) then
  (s_l00Src_among (L00Src.mk s1.code r22.2.at_ r22.2.seed) [(-1), 300, 301]).bind fun r30 =>
  kj20 r30.2.at_ r30.2.seed ((Carriage.mk r6.1 0 0).left) r30.1 (w64 ((w64 ((w64 (((Carriage.mk r6.1 0 0).left) + 20)) + r9.1)) - r12.1))
  else
  bif (r22.1 == 2) then
  (s_l00Src_among (L00Src.mk s1.code r22.2.at_ r22.2.seed) [(-1), w64 (((Carriage.mk r6.1 0 0).left) - 1), (Carriage.mk r6.1 0 0).left, w64 ((w64 (((Carriage.mk r6.1 0 0).left) + 20)) + r9.1), w64 ((w64 ((w64 (((Carriage.mk r6.1 0 0).left) + 20)) + r9.1)) + 1)]).bind fun r34 =>
  kj20 r34.2.at_ r34.2.seed ((Carriage.mk r6.1 0 0).left) (w64 ((w64 (((Carriage.mk r6.1 0 0).left) + 20)) + r9.1)) r34.1
  else
  kj20 r22.2.at_ r22.2.seed ((Carriage.mk r6.1 0 0).left) (w64 ((w64 (((Carriage.mk r6.1 0 0).left) + 20)) + r9.1)) (w64 ((w64 ((w64 (((Carriage.mk r6.1 0 0).left) + 20)) + r9.1)) - r12.1))

def s_l00Src_one (s1 : L00Src) (n5 : Int) : Option (Bool × L00Src) :=
  (s_l00Src_pick (L00Src.mk s1.code s1.at_ s1.seed) n5).bind fun r6 =>
  some ((r6.1 == 0), (L00Src.mk s1.code r6.2.at_ r6.2.seed))

def s_DrawActsForLine_l1 (kj28 : Int → Int → (List UInt8) → Option (Carriage × Str)) (code1 : List UInt8) : Nat → Int → Int → (List UInt8) → Int → Option (Carriage × Str)
  | 0, _, _, _, _ => none
  | N + 1, x30, x31, l32, k34 =>
    bif decide (k34 > 0) then
    (s_l00Src_pick (L00Src.mk code1 x30 x31) 6).bind fun r36 =>
    (idx [97, 98, 32, 120, 32, 32] r36.1).bind fun c38 =>
    (app l32 [c38]).bind fun l41 =>
    s_DrawActsForLine_l1 kj28 code1 N r36.2.at_ r36.2.seed l41 (w64 (k34 - 1))
    else
    kj28 x30 x31 l32

def s_DrawActsForLine (N : Nat) (code1 : List UInt8) : Option (Carriage × Str) :=
  (s_l00From code1).bind fun r5 =>
  (s_l04Draw (L00Src.mk code1 r5.at_ r5.seed)).bind fun r8 =>
  (s_l00Src_pick (L00Src.mk code1 r8.2.at_ r8.2.seed) 24).bind fun r12 =>
  withK (fun (x14 : Int) (x15 : Int) (n16 : Int) =>
  withK (fun (x24 : Int) (x25 : Int) (l26 : List UInt8) =>
  withK (fun (l44 : List UInt8) =>
  some (r8.1, l44)) fun (kj45 : (List UInt8) → Option (Carriage × Str)) =>
  (bif decide (n16 > 0) then (s_l00Src_one (L00Src.mk code1 x24 x25) 16).bind fun r51 =>
  some (r51.1, (L00Src.mk code1 r51.2.at_ r51.2.seed)) else some (false, (L00Src.mk code1 x24 x25))).bind fun x49 =>
  bif x49.1 then
  (idx l26 0).bind fun e54 =>
  kj45 (List.set l26 (Int.toNat 0) 127)
  else
  kj45 l26) fun (kj28 : Int → Int → (List UInt8) → Option (Carriage × Str)) =>
  s_DrawActsForLine_l1 kj28 code1 N x14 x15 [] n16) fun (kj17 : Int → Int → Int → Option (Carriage × Str)) =>
  (s_l00Src_one (L00Src.mk code1 r12.2.at_ r12.2.seed) 24).bind fun r19 =>
  bif r19.1 then
  (s_l00Src_pick (L00Src.mk code1 r19.2.at_ r19.2.seed) 2).bind fun r22 =>
  kj17 r22.2.at_ r22.2.seed (w64 (300 + r22.1))
  else
  kj17 r19.2.at_ r19.2.seed r12.1

def i_between (n1 : Int) (low2 : Int) (high3 : Int) : Option Bool :=
  (andO (decide (n1 ≥ low2)) (some (decide (n1 ≤ high3)))).bind fun t4 =>
  some t4

def i_ValidCarriage (c1 : Carriage) : Option Bool :=
  (andO (decide (c1.left ≥ 0)) (some (decide (c1.right ≤ 300)))).bind fun t3 =>
  (andO t3 (some (decide (c1.left ≤ c1.right)))).bind fun t6 =>
  (andO t6 (some (decide ((w64 (c1.right - c1.left)) ≥ 20)))).bind fun t9 =>
  (andO t9 ((i_between c1.bell c1.left c1.right).bind fun r15 =>
  some r15)).bind fun t12 =>
  some t12

def i_isText_l1 (kj5 : Option Bool) (s1 : Str) (low2 : UInt8) : Nat → Int → Option Bool
  | 0, _ => none
  | N + 1, x7 =>
    bif decide (x7 < (List.length s1 : Int)) then
    (idx s1 x7).bind fun c9 =>
    (orO (decide (c9 < low2)) ((idx s1 x7).bind fun c14 =>
    some (decide (c14 > (126 : UInt8))))).bind fun t11 =>
    bif t11 then
    some false
    else
    i_isText_l1 kj5 s1 low2 N (w64 (x7 + 1))
    else
    kj5 

def i_isText (N : Nat) (s1 : Str) (low2 : UInt8) (most3 : Int) : Option Bool :=
  bif decide ((List.length s1 : Int) > most3) then
  some false
  else
  withK (some true) fun (kj5 : Option Bool) =>
  i_isText_l1 kj5 s1 low2 N 0

def i_trimRight_l1 (kj3 : Int → Option Str) (s1 : Str) : Nat → Int → Option Str
  | 0, _ => none
  | N + 1, end5 =>
    (andO (decide (end5 > 0)) ((idx s1 (w64 (end5 - 1))).bind fun c9 =>
    some (c9 == (32 : UInt8)))).bind fun t6 =>
    bif t6 then
    i_trimRight_l1 kj3 s1 N (w64 (end5 - 1))
    else
    kj3 end5

def i_trimRight (N : Nat) (s1 : Str) : Option Str :=
  withK (fun (end2 : Int) =>
  (sub s1 0 end2).bind fun s12 =>
  some s12) fun (kj3 : Int → Option Str) =>
  i_trimRight_l1 kj3 s1 N (List.length s1 : Int)

def i_ActsForLine_l1 (kj16 : (List Act) → Option ((List Act) × Int)) (r10 : Str) : Nat → (List Act) → Int → Option ((List Act) × Int)
  | 0, _, _ => none
  | N + 1, l18, x20 =>
    bif decide (x20 < (List.length r10 : Int)) then
    withK (fun (l22 : List Act) =>
    i_ActsForLine_l1 kj16 r10 N l22 (w64 (x20 + 1))) fun (kj24 : (List Act) → Option ((List Act) × Int)) =>
    (idx r10 x20).bind fun c26 =>
    bif (c26 == (32 : UInt8)) then
    (app l18 [(Act.mk 1 [])]).bind fun l30 =>
    kj24 l30
    else
    (sub r10 x20 (w64 (x20 + 1))).bind fun s33 =>
    (app l18 [(Act.mk 0 s33)]).bind fun l36 =>
    kj24 l36
    else
    kj16 l18

def i_ActsForLine (N : Nat) (c1 : Carriage) (line2 : Str) : Option ((List Act) × Int) :=
  (i_ValidCarriage c1).bind fun r4 =>
  bif !r4 then
  some ([], 1)
  else
  (i_isText N line2 32 300).bind fun r7 =>
  bif !r7 then
  some ([], 2)
  else
  (i_trimRight N line2).bind fun r10 =>
  bif decide ((w64 (c1.right - c1.left)) < (w64 (2 * (List.length r10 : Int)))) then
  some ([], 5)
  else
  withK (fun (l14 : List Act) =>
  some (l14, 0)) fun (kj16 : (List Act) → Option ((List Act) × Int)) =>
  i_ActsForLine_l1 kj16 r10 N [] 0

def s_l00In (n1 : Int) (low2 : Int) (high3 : Int) : Option Bool :=
  (andO (decide (n1 ≥ low2)) (some (decide (n1 ≤ high3)))).bind fun t4 =>
  some t4

def s_l04Ok (c1 : Carriage) : Option Bool :=
  (s_l00In c1.left 0 300).bind fun r3 =>
  (andO r3 ((s_l00In c1.right c1.left 300).bind fun r8 =>
  some r8)).bind fun t5 =>
  (andO t5 (some (decide ((w64 (c1.right - c1.left)) ≥ 20)))).bind fun t10 =>
  (andO t10 ((s_l00In c1.bell c1.left c1.right).bind fun r16 =>
  some r16)).bind fun t13 =>
  some t13

def s_l00Text_l1 (kj3 : Option Bool) (s1 : Str) : Nat → Int → Option Bool
  | 0, _ => none
  | N + 1, i5 =>
    bif decide (i5 < (List.length s1 : Int)) then
    (idx s1 i5).bind fun c7 =>
    (orO (decide (c7 < (32 : UInt8))) ((idx s1 i5).bind fun c12 =>
    some (decide (c12 > (126 : UInt8))))).bind fun t9 =>
    bif t9 then
    some false
    else
    s_l00Text_l1 kj3 s1 N (w64 (i5 + 1))
    else
    kj3 

def s_l00Text (N : Nat) (s1 : Str) (most2 : Int) : Option Bool :=
  withK (some (decide ((List.length s1 : Int) ≤ most2))) fun (kj3 : Option Bool) =>
  s_l00Text_l1 kj3 s1 N 0

def s_ActsForLine_l1 (kj11 : Int → Option ((List Act) × Int)) (line2 : Str) : Nat → Int → Option ((List Act) × Int)
  | 0, _ => none
  | N + 1, n13 =>
    (andO (decide (n13 > 0)) ((idx line2 (w64 (n13 - 1))).bind fun c17 =>
    some (c17 == (32 : UInt8)))).bind fun t14 =>
    bif t14 then
    s_ActsForLine_l1 kj11 line2 N (w64 (n13 - 1))
    else
    kj11 n13

def s_ActsForLine_l2 (kj24 : (List Act) → Option ((List Act) × Int)) (line2 : Str) (n10 : Int) : Nat → (List Act) → Int → Option ((List Act) × Int)
  | 0, _, _ => none
  | N + 1, l26, i28 =>
    bif decide (i28 < n10) then
    withK (fun (l30 : List Act) =>
    s_ActsForLine_l2 kj24 line2 n10 N l30 (w64 (i28 + 1))) fun (kj32 : (List Act) → Option ((List Act) × Int)) =>
    (idx line2 i28).bind fun c34 =>
    bif (c34 == (32 : UInt8)) then
    (app l26 [(Act.mk 1 [])]).bind fun l38 =>
    kj32 l38
    else
    (sub line2 i28 (w64 (i28 + 1))).bind fun s41 =>
    (app l26 [(Act.mk 0 s41)]).bind fun l44 =>
    kj32 l44
    else
    kj24 l26

def s_ActsForLine (N : Nat) (c1 : Carriage) (line2 : Str) : Option ((List Act) × Int) :=
  (s_l04Ok c1).bind fun r4 =>
  bif !r4 then
  some ([], 1)
  else
  (s_l00Text N line2 300).bind fun r7 =>
  bif !r7 then
  some ([], 2)
  else
  withK (fun (n10 : Int) =>
  bif decide ((w64 (2 * n10)) > (w64 (c1.right - c1.left))) then
  some ([], 5)
  else
  withK (fun (l22 : List Act) =>
  some (l22, 0)) fun (kj24 : (List Act) → Option ((List Act) × Int)) =>
  s_ActsForLine_l2 kj24 line2 n10 N [] 0) fun (kj11 : Int → Option ((List Act) × Int)) =>
  s_ActsForLine_l1 kj11 line2 N (List.length line2 : Int)

def s_l00Src_text (s1 : L00Src) (list5 : List Str) : Option (Str × L00Src) :=
  (s_l00Src_pick (L00Src.mk s1.code s1.at_ s1.seed) (List.length list5 : Int)).bind fun r8 =>
  (idx list5 r8.1).bind fun e10 =>
  some (e10, (L00Src.mk s1.code r8.2.at_ r8.2.seed))

def s_l04DrawActs_l1 (kj22 : Int → Int → (List Act) → Option ((List Act) × L00Src)) (s1 : L00Src) : Nat → Int → Int → (List Act) → Int → Option ((List Act) × L00Src)
  | 0, _, _, _, _ => none
  | N + 1, x24, x25, l26, k28 =>
    bif decide (k28 > 0) then
    (s_l00Src_among (L00Src.mk s1.code x24 x25) [0, 0, 0, 1, 2, 3, 5]).bind fun r31 =>
    withK (fun (x33 : Int) (x34 : Int) (kind35 : Int) =>
    withK (fun (x42 : Int) (x43 : Int) (x44 : Int) (x45 : Str) =>
    (app l26 [(Act.mk x44 x45)]).bind fun l53 =>
    s_l04DrawActs_l1 kj22 s1 N x42 x43 l53 (w64 (k28 - 1))) fun (kj46 : Int → Int → Int → Str → Option ((List Act) × L00Src)) =>
    bif (kind35 == 0) then
    (s_l00Src_text (L00Src.mk s1.code x33 x34) [[97], [98], [45], [47]]).bind fun r50 =>
    kj46 r50.2.at_ r50.2.seed ((Act.mk kind35 []).kind) r50.1
    else
    kj46 x33 x34 ((Act.mk kind35 []).kind) ((Act.mk kind35 []).letter)) fun (kj36 : Int → Int → Int → Option ((List Act) × L00Src)) =>
    (s_l00Src_one (L00Src.mk s1.code r31.2.at_ r31.2.seed) 20).bind fun r38 =>
    bif r38.1 then
    kj36 r38.2.at_ r38.2.seed 4
    else
    kj36 r38.2.at_ r38.2.seed r31.1
    else
    kj22 x24 x25 l26

def s_l04DrawActs (N : Nat) (s1 : L00Src) : Option ((List Act) × L00Src) :=
  (s_l00Src_pick (L00Src.mk s1.code s1.at_ s1.seed) 26).bind fun r6 =>
  withK (fun (x8 : Int) (x9 : Int) (n10 : Int) =>
  withK (fun (x18 : Int) (x19 : Int) (l20 : List Act) =>
  withK (fun (x56 : Int) (x57 : Int) (l58 : List Act) =>
  some (l58, (L00Src.mk s1.code x56 x57))) fun (kj59 : Int → Int → (List Act) → Option ((List Act) × L00Src)) =>
  bif decide (n10 > 0) then
  (s_l00Src_pick (L00Src.mk s1.code x18 x19) n10).bind fun r62 =>
  (idx l20 r62.1).bind fun e64 =>
  (s_l00Src_pick (L00Src.mk s1.code r62.2.at_ r62.2.seed) 30).bind fun r66 =>
  bif (r66.1 == 0) then
  (s_l00Src_among (L00Src.mk s1.code r66.2.at_ r66.2.seed) [(-1), 0, 5, 6]).bind fun r70 =>
  kj59 r70.2.at_ r70.2.seed (List.set l20 (Int.toNat r62.1) (Act.mk r70.1 e64.letter))
  else
  bif (r66.1 == 1) then
  (s_l00Src_text (L00Src.mk s1.code r66.2.at_ r66.2.seed) [[], [97], [32], [97, 98]]).bind fun r74 =>
  kj59 r74.2.at_ r74.2.seed (List.set l20 (Int.toNat r62.1) (Act.mk e64.kind r74.1))
  else
  kj59 r66.2.at_ r66.2.seed l20
  else
  kj59 x18 x19 l20) fun (kj22 : Int → Int → (List Act) → Option ((List Act) × L00Src)) =>
  s_l04DrawActs_l1 kj22 s1 N x8 x9 [] n10) fun (kj11 : Int → Int → Int → Option ((List Act) × L00Src)) =>
  (s_l00Src_one (L00Src.mk s1.code r6.2.at_ r6.2.seed) 30).bind fun r13 =>
  bif r13.1 then
  (s_l00Src_pick (L00Src.mk s1.code r13.2.at_ r13.2.seed) 2).bind fun r16 =>
  kj11 r16.2.at_ r16.2.seed (w64 (200 + r16.1))
  else
  kj11 r13.2.at_ r13.2.seed r6.1

def s_l04All (N : Nat) (code1 : List UInt8) : Option (Carriage × (List Act)) :=
  (s_l00From code1).bind fun r5 =>
  (s_l04Draw (L00Src.mk code1 r5.at_ r5.seed)).bind fun r8 =>
  (s_l04DrawActs N (L00Src.mk code1 r8.2.at_ r8.2.seed)).bind fun r11 =>
  some (r8.1, r11.1)

def s_DrawTypeActs (N : Nat) (code1 : List UInt8) : Option (Carriage × (List Act)) :=
  (s_l04All N code1).bind fun r5 =>
  some (r5.1, r5.2)

def i_isLetter (N : Nat) (s1 : Str) : Option Bool :=
  (andO ((List.length s1 : Int) == 1) ((i_isText N s1 33 1).bind fun r5 =>
  some r5)).bind fun t2 =>
  some t2

def i_ValidActs_l1 (kj5 : Option Bool) (acts1 : List Act) : Nat → Int → Option Bool
  | 0, _ => none
  | N + 1, x7 =>
    bif decide (x7 < (List.length acts1 : Int)) then
    (idx acts1 x7).bind fun e9 =>
    (i_between e9.kind 0 5).bind fun r15 =>
    (orO (!r15) ((andO (e9.kind == 0) ((i_isLetter N e9.letter).bind fun r23 =>
    some (!r23))).bind fun t20 =>
    some t20)).bind fun t17 =>
    (orO t17 ((andO (e9.kind != 0) (some (e9.letter != []))).bind fun t28 =>
    some t28)).bind fun t25 =>
    bif t25 then
    some false
    else
    i_ValidActs_l1 kj5 acts1 N (w64 (x7 + 1))
    else
    kj5 

def i_ValidActs (N : Nat) (acts1 : List Act) : Option Bool :=
  bif decide ((List.length acts1 : Int) > 200) then
  some false
  else
  withK (some true) fun (kj5 : Option Bool) =>
  i_ValidActs_l1 kj5 acts1 N 0

def i_typed_l1 (kj19 : Int → Int → Int → (List Struck) → Int → Int → Int → Option Typing) (c1 : Carriage) (acts2 : List Act) : Nat → Int → Int → Int → (List Struck) → Int → Int → Int → Bool → Int → Option Typing
  | 0, _, _, _, _, _, _, _, _, _ => none
  | N + 1, x21, x22, x23, l24, x26, x27, x28, margin29, x30 =>
    bif decide (x30 < (List.length acts2 : Int)) then
    withK (fun (x32 : Int) (x33 : Int) (x34 : Int) (l35 : List Struck) (x37 : Int) (x38 : Int) (x39 : Int) (margin40 : Bool) =>
    i_typed_l1 kj19 c1 acts2 N x32 x33 x34 l35 x37 x38 x39 margin40 (w64 (x30 + 1))) fun (kj41 : Int → Int → Int → (List Struck) → Int → Int → Int → Bool → Option Typing) =>
    (idx acts2 x30).bind fun e43 =>
    withK (fun (x49 : Int) (x50 : Int) (x51 : Int) (margin52 : Bool) (step53 : Int) =>
    bif (step53 == 0) then
    kj41 x49 x50 x51 l24 x26 x27 x28 margin52
    else
    (andO margin52 (some (decide ((w64 (x49 + step53)) > c1.right)))).bind fun t66 =>
    (orO t66 (some (decide ((w64 (x49 + step53)) > 300)))).bind fun t69 =>
    bif t69 then
    some (Typing.mk l24 x49 x50 x30)
    else
    withK (fun (x74 : Int) (x75 : Int) (x76 : Int) (l77 : List Struck) =>
    withK (fun (x87 : Int) (x88 : Int) (x89 : Int) =>
    kj41 (w64 (x49 + step53)) x88 x89 l77 x26 x27 x28 margin52) fun (kj90 : Int → Int → Int → Option Typing) =>
    (andO (decide (x74 < c1.bell)) (some (decide ((w64 (x49 + step53)) ≥ c1.bell)))).bind fun t92 =>
    bif t92 then
    kj90 x74 (w64 (x75 + 1)) x76
    else
    kj90 x74 x75 x76) fun (kj79 : Int → Int → Int → (List Struck) → Option Typing) =>
    bif (e43.kind == 0) then
    (app l24 [(Struck.mk x49 e43.letter)]).bind fun l83 =>
    kj79 x49 x50 x51 l83
    else
    kj79 x49 x50 x51 l24) fun (kj54 : Int → Int → Int → Bool → Int → Option Typing) =>
    withK (fun (x56 : Bool) =>
    bif x56 then
    kj54 x21 x22 x23 margin29 2
    else
    bif (e43.kind == 3) then
    kj54 x21 x22 x23 margin29 1
    else
    bif (e43.kind == 2) then
    kj54 (imax (w64 (x21 - 2)) 0) x22 x23 margin29 0
    else
    bif (e43.kind == 4) then
    kj54 x21 x22 x23 false 0
    else
    bif (e43.kind == 5) then
    kj54 c1.left x22 x23 true 0
    else
    kj54 x21 x22 x23 margin29 0) fun (kj57 : Bool → Option Typing) =>
    bif (e43.kind == 0) then
    kj57 (e43.kind == 0)
    else
    kj57 (e43.kind == 1)
    else
    kj19 x21 x22 x23 l24 x26 x27 x28

def i_typed (N : Nat) (c1 : Carriage) (acts2 : List Act) : Option Typing :=
  withK (fun (x11 : Int) (x12 : Int) (x13 : Int) (l14 : List Struck) (x16 : Int) (x17 : Int) (x18 : Int) =>
  some (Typing.mk l14 x11 x12 x13)) fun (kj19 : Int → Int → Int → (List Struck) → Int → Int → Int → Option Typing) =>
  i_typed_l1 kj19 c1 acts2 N c1.left 0 (-1) [] 0 0 0 true 0

def i_TypeActs (N : Nat) (c1 : Carriage) (acts2 : List Act) : Option ((List Struck) × Int × Int) :=
  (i_ValidCarriage c1).bind fun r6 =>
  (orO (!r6) ((i_ValidActs N acts2).bind fun r11 =>
  some (!r11))).bind fun t8 =>
  bif t8 then
  some ([], 0, 1)
  else
  (i_typed N c1 acts2).bind fun r14 =>
  bif decide (r14.stopped ≥ 0) then
  some ([], 0, 6)
  else
  some (r14.list, r14.place, 0)

def s_l02Letter (s1 : Str) : Option Bool :=
  (andO ((List.length s1 : Int) == 1) ((idx s1 0).bind fun c5 =>
  some (decide (c5 > (32 : UInt8))))).bind fun t2 =>
  (andO t2 ((idx s1 0).bind fun c10 =>
  some (decide (c10 < (127 : UInt8))))).bind fun t7 =>
  some t7

def s_l04Acts_l1 (kj4 : Option Bool) (acts1 : List Act) : Nat → Int → Option Bool
  | 0, _ => none
  | N + 1, i6 =>
    bif decide (i6 < (List.length acts1 : Int)) then
    withK (s_l04Acts_l1 kj4 acts1 N (w64 (i6 + 1))) fun (kj8 : Option Bool) =>
    (idx acts1 i6).bind fun e10 =>
    bif (e10.kind == 0) then
    (s_l02Letter e10.letter).bind fun r16 =>
    bif !r16 then
    some false
    else
    kj8 
    else
    (s_l00In e10.kind 1 5).bind fun r19 =>
    (orO (!r19) (some (e10.letter != []))).bind fun t21 =>
    bif t21 then
    some false
    else
    kj8 
    else
    kj4 

def s_l04Acts (N : Nat) (acts1 : List Act) : Option Bool :=
  withK (some (decide ((List.length acts1 : Int) ≤ 200))) fun (kj4 : Option Bool) =>
  s_l04Acts_l1 kj4 acts1 N 0

def s_l04Both (N : Nat) (c1 : Carriage) (acts2 : List Act) : Option Bool :=
  (s_l04Ok c1).bind fun r6 =>
  (andO r6 ((s_l04Acts N acts2).bind fun r11 =>
  some r11)).bind fun t8 =>
  some t8

def s_l04Step (kind1 : Int) : Option Int :=
  withK (fun (x2 : Bool) =>
  bif x2 then
  some 2
  else
  bif (kind1 == 3) then
  some 1
  else
  some 0) fun (kj3 : Bool → Option Int) =>
  bif (kind1 == 0) then
  kj3 (kind1 == 0)
  else
  kj3 (kind1 == 1)

def s_l00Max (a1 : Int) (b2 : Int) : Option Int :=
  bif decide (a1 > b2) then
  some a1
  else
  some b2

def s_l04M_act (m1 : L04M) (a4 : Act) : Option (Bool × L04M) :=
  (s_l04Step a4.kind).bind fun r7 =>
  (andO (decide (r7 > 0)) (some (decide ((w64 (m1.at_ + r7)) > m1.c.right)))).bind fun t9 =>
  (andO t9 (some (!m1.free))).bind fun t12 =>
  (orO t12 (some (decide ((w64 (m1.at_ + r7)) > 300)))).bind fun t15 =>
  bif t15 then
  some (false, (L04M.mk (Carriage.mk m1.c.left m1.c.right m1.c.bell) m1.at_ m1.free m1.bells m1.list))
  else
  withK (fun (x19 : Int) (x20 : Int) (x21 : Int) (x22 : Int) (x23 : Bool) (x24 : Int) (l25 : List Struck) =>
  withK (fun (x41 : Int) (x42 : Int) (x43 : Int) (x44 : Int) (x45 : Bool) (x46 : Int) =>
  some (true, (L04M.mk (Carriage.mk x41 x42 x43) x44 x45 x46 l25))) fun (kj47 : Int → Int → Int → Int → Bool → Int → Option (Bool × L04M)) =>
  bif decide (r7 > 0) then
  withK (fun (x50 : Int) (x51 : Int) (x52 : Int) (x53 : Int) (x54 : Bool) (x55 : Int) =>
  kj47 x50 x51 x52 (w64 (x53 + r7)) x54 x55) fun (kj56 : Int → Int → Int → Int → Bool → Int → Option (Bool × L04M)) =>
  (andO (decide (x22 < x21)) (some (decide (x21 ≤ (w64 (x22 + r7)))))).bind fun t58 =>
  bif t58 then
  kj56 x19 x20 x21 x22 x23 (w64 (x24 + 1))
  else
  kj56 x19 x20 x21 x22 x23 x24
  else
  kj47 x19 x20 x21 x22 x23 x24) fun (kj27 : Int → Int → Int → Int → Bool → Int → (List Struck) → Option (Bool × L04M)) =>
  bif (a4.kind == 0) then
  (app m1.list [(Struck.mk m1.at_ a4.letter)]).bind fun l31 =>
  kj27 m1.c.left m1.c.right m1.c.bell m1.at_ m1.free m1.bells l31
  else
  bif (a4.kind == 2) then
  (s_l00Max 0 (w64 (m1.at_ - 2))).bind fun r37 =>
  kj27 m1.c.left m1.c.right m1.c.bell r37 m1.free m1.bells m1.list
  else
  bif (a4.kind == 4) then
  kj27 m1.c.left m1.c.right m1.c.bell m1.at_ true m1.bells m1.list
  else
  bif (a4.kind == 5) then
  kj27 m1.c.left m1.c.right m1.c.bell m1.c.left false m1.bells m1.list
  else
  kj27 m1.c.left m1.c.right m1.c.bell m1.at_ m1.free m1.bells m1.list

def s_l04Run_l1 (kj17 : Int → Int → Int → Int → Bool → Int → (List Struck) → Option (L04M × Int)) (acts2 : List Act) : Nat → Int → Int → Int → Int → Bool → Int → (List Struck) → Int → Option (L04M × Int)
  | 0, _, _, _, _, _, _, _, _ => none
  | N + 1, x19, x20, x21, x22, x23, x24, l25, i27 =>
    bif decide (i27 < (List.length acts2 : Int)) then
    (idx acts2 i27).bind fun e29 =>
    (s_l04M_act (L04M.mk (Carriage.mk x19 x20 x21) x22 x23 x24 l25) e29).bind fun r34 =>
    bif !r34.1 then
    some ((L04M.mk (Carriage.mk r34.2.c.left r34.2.c.right r34.2.c.bell) r34.2.at_ r34.2.free r34.2.bells r34.2.list), i27)
    else
    s_l04Run_l1 kj17 acts2 N r34.2.c.left r34.2.c.right r34.2.c.bell r34.2.at_ r34.2.free r34.2.bells r34.2.list (w64 (i27 + 1))
    else
    kj17 x19 x20 x21 x22 x23 x24 l25

def s_l04Run (N : Nat) (c1 : Carriage) (acts2 : List Act) : Option (L04M × Int) :=
  withK (fun (x9 : Int) (x10 : Int) (x11 : Int) (x12 : Int) (x13 : Bool) (x14 : Int) (l15 : List Struck) =>
  some ((L04M.mk (Carriage.mk x9 x10 x11) x12 x13 x14 l15), (List.length acts2 : Int))) fun (kj17 : Int → Int → Int → Int → Bool → Int → (List Struck) → Option (L04M × Int)) =>
  s_l04Run_l1 kj17 acts2 N c1.left c1.right c1.bell c1.left false 0 [] 0

def s_TypeActs (N : Nat) (c1 : Carriage) (acts2 : List Act) : Option ((List Struck) × Int × Int) :=
  (s_l04Both N c1 acts2).bind fun r6 =>
  bif !r6 then
  some ([], 0, 1)
  else
  (s_l04Run N c1 acts2).bind fun r9 =>
  bif decide (r9.2 < (List.length acts2 : Int)) then
  some ([], 0, 6)
  else
  some (r9.1.list, r9.1.at_, 0)

def i_LockedAt (N : Nat) (c1 : Carriage) (acts2 : List Act) : Option (Int × Int) :=
  (i_ValidCarriage c1).bind fun r6 =>
  (orO (!r6) ((i_ValidActs N acts2).bind fun r11 =>
  some (!r11))).bind fun t8 =>
  bif t8 then
  some (0, 1)
  else
  (i_typed N c1 acts2).bind fun r14 =>
  bif decide (r14.stopped < 0) then
  some (0, 3)
  else
  some (r14.stopped, 0)

def s_LockedAt (N : Nat) (c1 : Carriage) (acts2 : List Act) : Option (Int × Int) :=
  (s_l04Both N c1 acts2).bind fun r6 =>
  bif !r6 then
  some (0, 1)
  else
  (s_l04Run N c1 acts2).bind fun r9 =>
  bif (r9.2 == (List.length acts2 : Int)) then
  some (0, 3)
  else
  some (r9.2, 0)

def i_BellsOf (N : Nat) (c1 : Carriage) (acts2 : List Act) : Option (Int × Int) :=
  (i_ValidCarriage c1).bind fun r6 =>
  (orO (!r6) ((i_ValidActs N acts2).bind fun r11 =>
  some (!r11))).bind fun t8 =>
  bif t8 then
  some (0, 1)
  else
  (i_typed N c1 acts2).bind fun r14 =>
  some (r14.bells, 0)

def s_BellsOf (N : Nat) (c1 : Carriage) (acts2 : List Act) : Option (Int × Int) :=
  (s_l04Both N c1 acts2).bind fun r6 =>
  bif !r6 then
  some (0, 1)
  else
  (s_l04Run N c1 acts2).bind fun r9 =>
  some (r9.1.bells, 0)

def s_SameStruck_l1 (kj8 : Option Bool) (a1 : List Struck) (b4 : List Struck) : Nat → Int → Option Bool
  | 0, _ => none
  | N + 1, i10 =>
    bif decide (i10 < (List.length a1 : Int)) then
    (idx a1 i10).bind fun e12 =>
    (idx b4 i10).bind fun e17 =>
    bif !(Struck.beq e12 e17) then
    some false
    else
    s_SameStruck_l1 kj8 a1 b4 N (w64 (i10 + 1))
    else
    kj8 

def s_SameStruck (N : Nat) (a1 : List Struck) (b4 : List Struck) : Option Bool :=
  bif ((List.length a1 : Int) != (List.length b4 : Int)) then
  some false
  else
  withK (some true) fun (kj8 : Option Bool) =>
  s_SameStruck_l1 kj8 a1 b4 N 0

def i_ActText_l1 (kj11 : Str → Option Str) (acts1 : List Act) : Nat → Str → Int → Option Str
  | 0, _, _ => none
  | N + 1, out13, x14 =>
    bif decide (x14 < (List.length acts1 : Int)) then
    withK (fun (out16 : Str) =>
    i_ActText_l1 kj11 acts1 N out16 (w64 (x14 + 1))) fun (kj17 : Str → Option Str) =>
    (idx acts1 x14).bind fun e19 =>
    withK (fun (out25 : Str) =>
    bif (e19.kind == 0) then
    (cat [39] e19.letter).bind fun s32 =>
    (cat out25 s32).bind fun s34 =>
    kj17 s34
    else
    (idx ([[], [115, 112, 97, 99, 101], [98, 97, 99, 107], [104, 97, 108, 102], [102, 114, 101, 101], [114, 101, 116, 117, 114, 110]] : List Str) e19.kind).bind fun e36 =>
    (cat out25 e36).bind fun s38 =>
    kj17 s38) fun (kj26 : Str → Option Str) =>
    bif decide (x14 > 0) then
    (cat out13 [32]).bind fun s29 =>
    kj26 s29
    else
    kj26 out13
    else
    kj11 out13

def i_ActText (N : Nat) (acts1 : List Act) : Option Str :=
  (i_ValidActs N acts1).bind fun r4 =>
  bif !r4 then
  some []
  else
  (chkA 6 ([[], [115, 112, 97, 99, 101], [98, 97, 99, 107], [104, 97, 108, 102], [102, 114, 101, 101], [114, 101, 116, 117, 114, 110]] : List Str)).bind fun l8 =>
  withK (fun (out10 : Str) =>
  some out10) fun (kj11 : Str → Option Str) =>
  i_ActText_l1 kj11 acts1 N [] 0

def s_ActText_l1 (kj9 : Str → Option Str) (acts1 : List Act) : Nat → Str → Int → Option Str
  | 0, _, _ => none
  | N + 1, out11, i12 =>
    bif decide (i12 < (List.length acts1 : Int)) then
    withK (fun (out14 : Str) =>
    s_ActText_l1 kj9 acts1 N out14 (w64 (i12 + 1))) fun (kj15 : Str → Option Str) =>
    withK (fun (out17 : Str) =>
    (idx acts1 i12).bind fun e23 =>
    bif (e23.kind == 0) then
    (idx acts1 i12).bind fun e29 =>
    (cat [39] e29.letter).bind fun s34 =>
    (cat out17 s34).bind fun s36 =>
    kj15 s36
    else
    (idx acts1 i12).bind fun e38 =>
    (idx [[], [115, 112, 97, 99, 101], [98, 97, 99, 107], [104, 97, 108, 102], [102, 114, 101, 101], [114, 101, 116, 117, 114, 110]] e38.kind).bind fun e43 =>
    (cat out17 e43).bind fun s45 =>
    kj15 s45) fun (kj18 : Str → Option Str) =>
    bif decide (i12 > 0) then
    (cat out11 [32]).bind fun s21 =>
    kj18 s21
    else
    kj18 out11
    else
    kj9 out11

def s_ActText (N : Nat) (acts1 : List Act) : Option Str :=
  (s_l04Acts N acts1).bind fun r4 =>
  bif !r4 then
  some []
  else
  withK (fun (out8 : Str) =>
  some out8) fun (kj9 : Str → Option Str) =>
  s_ActText_l1 kj9 acts1 N [] 0

def s_ValidActs (N : Nat) (acts1 : List Act) : Option Bool :=
  (s_l04Acts N acts1).bind fun r4 =>
  some r4

def s_ValidCarriage (c1 : Carriage) : Option Bool :=
  (s_l04Ok c1).bind fun r3 =>
  some r3

def i_validStruck_l1 (kj5 : Option Bool) (list1 : List Struck) : Nat → Int → Option Bool
  | 0, _ => none
  | N + 1, x7 =>
    bif decide (x7 < (List.length list1 : Int)) then
    (idx list1 x7).bind fun e9 =>
    (i_between e9.place 0 300).bind fun r15 =>
    (orO (!r15) ((i_isLetter N e9.letter).bind fun r20 =>
    some (!r20))).bind fun t17 =>
    bif t17 then
    some false
    else
    i_validStruck_l1 kj5 list1 N (w64 (x7 + 1))
    else
    kj5 

def i_validStruck (N : Nat) (list1 : List Struck) : Option Bool :=
  bif decide ((List.length list1 : Int) > 200) then
  some false
  else
  withK (some true) fun (kj5 : Option Bool) =>
  i_validStruck_l1 kj5 list1 N 0

def i_LineOf_l2 (kj39 : (List UInt8) → Option (Str × Int)) (c1 : Carriage) (e27 : Struck) : Nat → (List UInt8) → Option (Str × Int)
  | 0, _ => none
  | N + 1, l41 =>
    bif decide ((List.length l41 : Int) ≤ (w64 (Int.tdiv (w64 (e27.place - c1.left)) 2))) then
    (app l41 [32]).bind fun l45 =>
    i_LineOf_l2 kj39 c1 e27 N l45
    else
    kj39 l41

def i_LineOf_l1 (kj17 : (List UInt8) → Option (Str × Int)) (c1 : Carriage) (list2 : List Struck) : Nat → (List UInt8) → Int → Option (Str × Int)
  | 0, _, _ => none
  | N + 1, l19, x21 =>
    bif decide (x21 < (List.length list2 : Int)) then
    withK (fun (l23 : List UInt8) =>
    i_LineOf_l1 kj17 c1 list2 N l23 (w64 (x21 + 1))) fun (kj25 : (List UInt8) → Option (Str × Int)) =>
    (idx list2 x21).bind fun e27 =>
    (orO (decide ((w64 (e27.place - c1.left)) < 0)) (some ((Int.tmod (w64 (e27.place - c1.left)) 2) != 0))).bind fun t33 =>
    bif t33 then
    some ([], 8)
    else
    withK (fun (l37 : List UInt8) =>
    (idx l37 (w64 (Int.tdiv (w64 (e27.place - c1.left)) 2))).bind fun e48 =>
    bif (e48 != (32 : UInt8)) then
    some ([], 9)
    else
    (idx e27.letter 0).bind fun c51 =>
    (idx l37 (w64 (Int.tdiv (w64 (e27.place - c1.left)) 2))).bind fun e53 =>
    kj25 (List.set l37 (Int.toNat (w64 (Int.tdiv (w64 (e27.place - c1.left)) 2))) c51)) fun (kj39 : (List UInt8) → Option (Str × Int)) =>
    i_LineOf_l2 kj39 c1 e27 N l19
    else
    kj17 l19

def i_LineOf (N : Nat) (c1 : Carriage) (list2 : List Struck) : Option (Str × Int) :=
  (i_ValidCarriage c1).bind fun r6 =>
  (orO (!r6) ((i_validStruck N list2).bind fun r11 =>
  some (!r11))).bind fun t8 =>
  bif t8 then
  some ([], 1)
  else
  withK (fun (l15 : List UInt8) =>
  some (l15, 0)) fun (kj17 : (List UInt8) → Option (Str × Int)) =>
  i_LineOf_l1 kj17 c1 list2 N [] 0

def w_f6trim_l1 (kj3 : Int → Option Str) (s1 : Str) : Nat → Int → Option Str
  | 0, _ => none
  | N + 1, n5 =>
    (andO (decide (n5 > 0)) ((idx s1 (w64 (n5 - 1))).bind fun c9 =>
    some (c9 == (32 : UInt8)))).bind fun t6 =>
    bif t6 then
    w_f6trim_l1 kj3 s1 N (w64 (n5 - 1))
    else
    kj3 n5

def w_f6trim (N : Nat) (s1 : Str) : Option Str :=
  withK (fun (n2 : Int) =>
  (sub s1 0 n2).bind fun s12 =>
  some s12) fun (kj3 : Int → Option Str) =>
  w_f6trim_l1 kj3 s1 N (List.length s1 : Int)

def w_FnTypedActs_l1 (kj82 : Option Bool) (r10 : (List Act) × Int) (r13 : (List Act) × Int) : Nat → Int → Option Bool
  | 0, _ => none
  | N + 1, i84 =>
    bif decide (i84 < (List.length r13.1 : Int)) then
    (idx r10.1 i84).bind fun e86 =>
    (idx r13.1 i84).bind fun e88 =>
    bif !(Act.beq e86 e88) then
    some false
    else
    w_FnTypedActs_l1 kj82 r10 r13 N (w64 (i84 + 1))
    else
    kj82 

def w_FnTypedActs (N : Nat) (code1 : List UInt8) : Option Bool :=
  (w_f6big code1).bind fun r4 =>
  bif r4 then
  some true
  else
  (s_DrawActsForLine N code1).bind fun r7 =>
  (i_ActsForLine N r7.1 r7.2).bind fun r10 =>
  (s_ActsForLine N r7.1 r7.2).bind fun r13 =>
  (s_DrawTypeActs N code1).bind fun r16 =>
  (i_TypeActs N r16.1 r16.2).bind fun r20 =>
  (s_TypeActs N r16.1 r16.2).bind fun r23 =>
  (i_LockedAt N r16.1 r16.2).bind fun r26 =>
  (s_LockedAt N r16.1 r16.2).bind fun r28 =>
  (i_BellsOf N r16.1 r16.2).bind fun r30 =>
  (s_BellsOf N r16.1 r16.2).bind fun r32 =>
  (orO (r10.2 != r13.2) (some ((List.length r10.1 : Int) != (List.length r13.1 : Int)))).bind fun t34 =>
  (orO t34 (some (r20.2.2 != r23.2.2))).bind fun t37 =>
  (orO t37 (some (r20.2.1 != r23.2.1))).bind fun t40 =>
  (orO t40 ((s_SameStruck N r20.1 r23.1).bind fun r46 =>
  some (!r46))).bind fun t43 =>
  (orO t43 (some (r26.2 != r28.2))).bind fun t48 =>
  (orO t48 (some (r26.1 != r28.1))).bind fun t51 =>
  (orO t51 (some (r30.2 != r32.2))).bind fun t54 =>
  (orO t54 (some (r30.1 != r32.1))).bind fun t57 =>
  (orO t57 ((i_ActText N r16.2).bind fun r63 =>
  (s_ActText N r16.2).bind fun r65 =>
  some (r63 != r65))).bind fun t60 =>
  (orO t60 ((i_ValidActs N r16.2).bind fun r70 =>
  (s_ValidActs N r16.2).bind fun r72 =>
  some (r70 != r72))).bind fun t67 =>
  (orO t67 ((i_ValidCarriage r16.1).bind fun r77 =>
  (s_ValidCarriage r16.1).bind fun r79 =>
  some (r77 != r79))).bind fun t74 =>
  bif t74 then
  some false
  else
  withK ((andO (r30.2 == 0) (some ((r20.2.2 == 6) != (r26.2 == 0)))).bind fun t91 =>
  bif t91 then
  some false
  else
  bif (r10.2 != 0) then
  some true
  else
  (i_TypeActs N r7.1 r10.1).bind fun r96 =>
  (orO (r96.2.2 != 0) (some (r96.2.1 != (w64 (r7.1.left + (w64 (2 * (List.length r13.1 : Int)))))))).bind fun t99 =>
  bif t99 then
  some false
  else
  (i_LineOf N r7.1 r96.1).bind fun r103 =>
  (andO (r103.2 == 0) ((w_f6trim N r7.2).bind fun r108 =>
  some (r103.1 == r108))).bind fun t105 =>
  some t105) fun (kj82 : Option Bool) =>
  w_FnTypedActs_l1 kj82 r10 r13 N 0

end Go.Proofs.Ythkckgiicchpnaa
