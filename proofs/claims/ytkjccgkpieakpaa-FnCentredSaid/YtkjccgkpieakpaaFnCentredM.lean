/-
  Plain functions that compute what the Go functions compute. No conditions.
-/
import Derived.Test.YtkjccgkpieakpaaBase
namespace Go.Proofs.Ytkjccgkpieakpaa
set_option linter.unusedVariables false
set_option linter.unusedSimpArgs false

structure L00Src where
  code : List UInt8
  at_ : Int
  seed : Int



def w_f6big (code1 : List UInt8) : Option Bool :=
  some (decide ((List.length code1 : Int) > 4096))

def s_l00From (code1 : List UInt8) : Option L00Src :=
  some (L00Src.mk code1 0 0)

def s_l00Src_next (s1 : L00Src) : Option (Int × L00Src) :=
  withK (fun (b5 : Int) =>
  bif decide ((w64 (s1.at_ + 1)) ≤ (List.length s1.code : Int)) then
  some (b5, (L00Src.mk s1.code (w64 (s1.at_ + 1)) (IntKind.u64.wrap ((IntKind.u64.wrap ((IntKind.u64.wrap (s1.seed * 6364136223846793005)) + (IntKind.u64.wrap b5))) + 1442695040888963407))))
  else
  some (w64 (uand (ushr (IntKind.u64.wrap ((IntKind.u64.wrap ((IntKind.u64.wrap (s1.seed * 6364136223846793005)) + (IntKind.u64.wrap b5))) + 1442695040888963407)) 40) 255), (L00Src.mk s1.code (w64 (s1.at_ + 1)) (IntKind.u64.wrap ((IntKind.u64.wrap ((IntKind.u64.wrap (s1.seed * 6364136223846793005)) + (IntKind.u64.wrap b5))) + 1442695040888963407))))) fun (k6 : Int → Option (Int × L00Src)) =>
  bif decide (s1.at_ < (List.length s1.code : Int)) then
  (idx s1.code s1.at_).bind fun e9 =>
  k6 (UInt8.toNat e9 : Int)
  else
  k6 0

def s_l00Src_pick (s1 : L00Src) (n5 : Int) : Option (Int × L00Src) :=
  bif decide (n5 ≤ 1) then
  some (0, (L00Src.mk s1.code s1.at_ s1.seed))
  else
  (s_l00Src_next (L00Src.mk s1.code s1.at_ s1.seed)).bind fun r7 =>
  withK (fun (x9 : Int) (x10 : Int) (x11 : Int) =>
  (remO x11 n5).bind fun q17 =>
  some (q17, (L00Src.mk s1.code x9 x10))) fun (k12 : Int → Int → Int → Option (Int × L00Src)) =>
  bif decide (n5 > 200) then
  (s_l00Src_next (L00Src.mk s1.code r7.2.at_ r7.2.seed)).bind fun r15 =>
  k12 r15.2.at_ r15.2.seed (w64 ((w64 (r7.1 * 256)) + r15.1))
  else
  k12 r7.2.at_ r7.2.seed r7.1

def s_l00Src_text (s1 : L00Src) (list5 : List Str) : Option (Str × L00Src) :=
  (s_l00Src_pick (L00Src.mk s1.code s1.at_ s1.seed) (List.length list5 : Int)).bind fun r8 =>
  (idx list5 r8.1).bind fun e10 =>
  some (e10, (L00Src.mk s1.code r8.2.at_ r8.2.seed))

def s_l10Rule_l1 (k6 : (List UInt8) → Option Str) (c1 : UInt8) (width2 : Int) : Nat → (List UInt8) → Int → Option Str
  | 0, _, _ => none
  | N + 1, l8, k10 =>
    bif decide (k10 < width2) then
    (app l8 [c1]).bind fun l13 =>
    s_l10Rule_l1 k6 c1 width2 N l13 (w64 (k10 + 1))
    else
    k6 l8

def s_l10Rule (N : Nat) (c1 : UInt8) (width2 : Int) : Option Str :=
  withK (fun (l4 : List UInt8) =>
  some l4) fun (k6 : (List UInt8) → Option Str) =>
  s_l10Rule_l1 k6 c1 width2 N [] 0

def s_l10Draw (N : Nat) (s1 : L00Src) : Option (Str × L00Src) :=
  (s_l00Src_text (L00Src.mk s1.code s1.at_ s1.seed) [[], [97], [80, 114, 105, 99, 101, 32, 108, 105, 115, 116], [111, 102, 32, 116, 121, 112, 101, 119, 114, 105, 116, 101, 114, 115], [78, 111, 46, 32, 53], [84, 104, 101, 32, 83, 116, 97, 110, 100, 97, 114, 100, 32, 87, 114, 105, 116, 101, 114], [120, 32, 121]]).bind fun r6 =>
  withK (fun (x8 : Int) (x9 : Int) (out10 : Str) =>
  some (out10, (L00Src.mk s1.code x8 x9))) fun (k11 : Int → Int → Str → Option (Str × L00Src)) =>
  (s_l00Src_pick (L00Src.mk s1.code r6.2.at_ r6.2.seed) 20).bind fun r13 =>
  bif (r13.1 == 0) then
  (s_l00Src_text (L00Src.mk s1.code r13.2.at_ r13.2.seed) [[32], [127]]).bind fun r17 =>
  (cat r6.1 r17.1).bind fun s19 =>
  k11 r17.2.at_ r17.2.seed s19
  else
  bif (r13.1 == 1) then
  (s_l00Src_pick (L00Src.mk s1.code r13.2.at_ r13.2.seed) 2).bind fun r22 =>
  (s_l10Rule N 119 (w64 (100 + r22.1))).bind fun r24 =>
  k11 r22.2.at_ r22.2.seed r24
  else
  bif (r13.1 == 2) then
  (cat [32] r6.1).bind fun s27 =>
  k11 r13.2.at_ r13.2.seed s27
  else
  k11 r13.2.at_ r13.2.seed r6.1

def s_l00Src_one (s1 : L00Src) (n5 : Int) : Option (Bool × L00Src) :=
  (s_l00Src_pick (L00Src.mk s1.code s1.at_ s1.seed) n5).bind fun r6 =>
  some ((r6.1 == 0), (L00Src.mk s1.code r6.2.at_ r6.2.seed))

def s_l00Src_among (s1 : L00Src) (list5 : List Int) : Option (Int × L00Src) :=
  (s_l00Src_pick (L00Src.mk s1.code s1.at_ s1.seed) (List.length list5 : Int)).bind fun r8 =>
  (idx list5 r8.1).bind fun e10 =>
  some (e10, (L00Src.mk s1.code r8.2.at_ r8.2.seed))

def s_l10Width (s1 : L00Src) : Option (Int × L00Src) :=
  (s_l00Src_one (L00Src.mk s1.code s1.at_ s1.seed) 10).bind fun r5 =>
  bif r5.1 then
  (s_l00Src_among (L00Src.mk s1.code r5.2.at_ r5.2.seed) [(-1), 0, 1, 100, 101, (-9223372036854775808)]).bind fun r9 =>
  some (r9.1, (L00Src.mk s1.code r9.2.at_ r9.2.seed))
  else
  (s_l00Src_pick (L00Src.mk s1.code r5.2.at_ r5.2.seed) 50).bind fun r11 =>
  some (w64 (1 + r11.1), (L00Src.mk s1.code r11.2.at_ r11.2.seed))

def s_l10Both (N : Nat) (code1 : List UInt8) : Option (Str × Int) :=
  (s_l00From code1).bind fun r4 =>
  (s_l10Draw N (L00Src.mk code1 r4.at_ r4.seed)).bind fun r7 =>
  (s_l10Width (L00Src.mk code1 r7.2.at_ r7.2.seed)).bind fun r9 =>
  some (r7.1, r9.1)

def s_DrawCentreText (N : Nat) (code1 : List UInt8) : Option (Str × Int) :=
  (s_l10Both N code1).bind fun r4 =>
  some (r4.1, r4.2)

def i_isText_l1 (k5 : Option Bool) (s1 : Str) (low2 : UInt8) : Nat → Int → Option Bool
  | 0, _ => none
  | N + 1, x7 =>
    bif decide (x7 < (List.length s1 : Int)) then
    (idx s1 x7).bind fun c9 =>
    (orO (decide (c9 < low2)) ((idx s1 x7).bind fun c14 =>
    some (decide (c14 > (126 : UInt8))))).bind fun t11 =>
    bif t11 then
    some false
    else
    i_isText_l1 k5 s1 low2 N (w64 (x7 + 1))
    else
    k5 

def i_isText (N : Nat) (s1 : Str) (low2 : UInt8) (most3 : Int) : Option Bool :=
  bif decide ((List.length s1 : Int) > most3) then
  some false
  else
  withK (some true) fun (k5 : Option Bool) =>
  i_isText_l1 k5 s1 low2 N 0

def i_isSetting (N : Nat) (s1 : Str) : Option Bool :=
  (i_isText N s1 32 100).bind fun r2 =>
  (andO r2 ((orO (s1 == []) ((idx s1 0).bind fun c10 =>
  (andO (c10 != (32 : UInt8)) ((idx s1 (w64 ((List.length s1 : Int) - 1))).bind fun c15 =>
  some (c15 != (32 : UInt8)))).bind fun t12 =>
  some t12)).bind fun t7 =>
  some t7)).bind fun t4 =>
  some t4

def i_between (n1 : Int) (low2 : Int) (high3 : Int) : Option Bool :=
  (andO (decide (n1 ≥ low2)) (some (decide (n1 ≤ high3)))).bind fun t4 =>
  some t4

def i_isWidth (width1 : Int) : Option Bool :=
  (i_between width1 1 100).bind fun r2 =>
  some r2

def i_repeat_l1 (k6 : (List UInt8) → Option Str) (s1 : Str) (n2 : Int) : Nat → (List UInt8) → Int → Option Str
  | 0, _, _ => none
  | N + 1, l8, x10 =>
    bif decide (x10 < (imax n2 0)) then
    (app l8 s1).bind fun l12 =>
    i_repeat_l1 k6 s1 n2 N l12 (w64 (x10 + 1))
    else
    k6 l8

def i_repeat (N : Nat) (s1 : Str) (n2 : Int) : Option Str :=
  withK (fun (l4 : List UInt8) =>
  some l4) fun (k6 : (List UInt8) → Option Str) =>
  i_repeat_l1 k6 s1 n2 N [] 0

def i_centred (N : Nat) (text1 : Str) (room2 : Int) : Option Str :=
  (i_repeat N [32] (w64 (Int.tdiv room2 2))).bind fun r3 =>
  (cat r3 text1).bind fun s5 =>
  some s5

def i_CentreText (N : Nat) (text1 : Str) (width2 : Int) : Option (Str × Int) :=
  (i_isSetting N text1).bind fun r3 =>
  (orO (!r3) ((i_isWidth width2).bind fun r8 =>
  some (!r8))).bind fun t5 =>
  bif t5 then
  some ([], 2)
  else
  bif decide ((w64 (width2 - (List.length text1 : Int))) < 0) then
  some ([], 5)
  else
  (i_centred N text1 (w64 (width2 - (List.length text1 : Int)))).bind fun r12 =>
  some (r12, 0)

def s_l00Text_l1 (k3 : Option Bool) (s1 : Str) : Nat → Int → Option Bool
  | 0, _ => none
  | N + 1, i5 =>
    bif decide (i5 < (List.length s1 : Int)) then
    (idx s1 i5).bind fun c7 =>
    (orO (decide (c7 < (32 : UInt8))) ((idx s1 i5).bind fun c12 =>
    some (decide (c12 > (126 : UInt8))))).bind fun t9 =>
    bif t9 then
    some false
    else
    s_l00Text_l1 k3 s1 N (w64 (i5 + 1))
    else
    k3 

def s_l00Text (N : Nat) (s1 : Str) (most2 : Int) : Option Bool :=
  withK (some (decide ((List.length s1 : Int) ≤ most2))) fun (k3 : Option Bool) =>
  s_l00Text_l1 k3 s1 N 0

def s_l10Text (N : Nat) (s1 : Str) : Option Bool :=
  (s_l00Text N s1 100).bind fun r2 =>
  bif !r2 then
  some false
  else
  (orO ((List.length s1 : Int) == 0) ((idx s1 0).bind fun c8 =>
  (andO (c8 != (32 : UInt8)) ((idx s1 (w64 ((List.length s1 : Int) - 1))).bind fun c13 =>
  some (c13 != (32 : UInt8)))).bind fun t10 =>
  some t10)).bind fun t5 =>
  some t5

def s_l00In (n1 : Int) (low2 : Int) (high3 : Int) : Option Bool :=
  (andO (decide (n1 ≥ low2)) (some (decide (n1 ≤ high3)))).bind fun t4 =>
  some t4

def s_l10Code (N : Nat) (text1 : Str) (width2 : Int) : Option Int :=
  (s_l10Text N text1).bind fun r3 =>
  (orO (!r3) ((s_l00In width2 1 100).bind fun r8 =>
  some (!r8))).bind fun t5 =>
  bif t5 then
  some 2
  else
  bif decide ((List.length text1 : Int) > width2) then
  some 5
  else
  some 0

def s_l08Blanks_l1 (k5 : (List UInt8) → Option Str) (n1 : Int) : Nat → (List UInt8) → Int → Option Str
  | 0, _, _ => none
  | N + 1, l7, k9 =>
    bif decide (k9 < n1) then
    (app l7 [32]).bind fun l12 =>
    s_l08Blanks_l1 k5 n1 N l12 (w64 (k9 + 1))
    else
    k5 l7

def s_l08Blanks (N : Nat) (n1 : Int) : Option Str :=
  withK (fun (l3 : List UInt8) =>
  some l3) fun (k5 : (List UInt8) → Option Str) =>
  s_l08Blanks_l1 k5 n1 N [] 0

def s_CentreText (N : Nat) (text1 : Str) (width2 : Int) : Option (Str × Int) :=
  (s_l10Code N text1 width2).bind fun r3 =>
  bif (r3 != 0) then
  some ([], r3)
  else
  (s_l08Blanks N (w64 (Int.tdiv (w64 (width2 - (List.length text1 : Int))) 2))).bind fun r6 =>
  (cat r6 text1).bind fun s8 =>
  some (s8, 0)

def i_RightText (N : Nat) (text1 : Str) (width2 : Int) : Option (Str × Int) :=
  (i_isSetting N text1).bind fun r3 =>
  (orO (!r3) ((i_isWidth width2).bind fun r8 =>
  some (!r8))).bind fun t5 =>
  bif t5 then
  some ([], 2)
  else
  bif decide ((w64 (width2 - (List.length text1 : Int))) < 0) then
  some ([], 5)
  else
  (i_repeat N [32] (w64 (width2 - (List.length text1 : Int)))).bind fun r12 =>
  (cat r12 text1).bind fun s14 =>
  some (s14, 0)

def s_RightText (N : Nat) (text1 : Str) (width2 : Int) : Option (Str × Int) :=
  (s_l10Code N text1 width2).bind fun r3 =>
  bif (r3 != 0) then
  some ([], r3)
  else
  (s_l08Blanks N (w64 (width2 - (List.length text1 : Int)))).bind fun r6 =>
  (cat r6 text1).bind fun s8 =>
  some (s8, 0)

def s_DrawSpreadText (N : Nat) (code1 : List UInt8) : Option Str :=
  (s_l00From code1).bind fun r4 =>
  (s_l00Src_one (L00Src.mk code1 r4.at_ r4.seed) 10).bind fun r7 =>
  bif r7.1 then
  (s_l00Src_pick (L00Src.mk code1 r7.2.at_ r7.2.seed) 2).bind fun r10 =>
  (s_l10Rule N 119 (w64 (50 + r10.1))).bind fun r12 =>
  some r12
  else
  (s_l10Draw N (L00Src.mk code1 r7.2.at_ r7.2.seed)).bind fun r14 =>
  some r14.1

def i_SpreadText_l1 (k6 : Str → Option (Str × Int)) (text1 : Str) : Nat → Str → Int → Option (Str × Int)
  | 0, _, _ => none
  | N + 1, out8, x9 =>
    bif decide (x9 < (List.length text1 : Int)) then
    withK (fun (out11 : Str) =>
    (sub text1 x9 (w64 (x9 + 1))).bind fun s17 =>
    (cat out11 s17).bind fun s19 =>
    i_SpreadText_l1 k6 text1 N s19 (w64 (x9 + 1))) fun (k13 : Str → Option (Str × Int)) =>
    bif decide (x9 > 0) then
    (cat out8 [32]).bind fun s15 =>
    k13 s15
    else
    k13 out8
    else
    k6 out8

def i_SpreadText (N : Nat) (text1 : Str) : Option (Str × Int) :=
  (i_isSetting N text1).bind fun r2 =>
  bif !r2 then
  some ([], 2)
  else
  withK (fun (out5 : Str) =>
  bif decide ((List.length out5 : Int) > 100) then
  some ([], 5)
  else
  some (out5, 0)) fun (k6 : Str → Option (Str × Int)) =>
  i_SpreadText_l1 k6 text1 N [] 0

def s_l10Spread_l1 (k5 : (List UInt8) → Option Str) (text1 : Str) : Nat → (List UInt8) → Int → Option Str
  | 0, _, _ => none
  | N + 1, l7, i9 =>
    bif decide (i9 < (List.length text1 : Int)) then
    withK (fun (l11 : List UInt8) =>
    (idx text1 i9).bind fun c20 =>
    (app l11 [c20]).bind fun l23 =>
    s_l10Spread_l1 k5 text1 N l23 (w64 (i9 + 1))) fun (k14 : (List UInt8) → Option Str) =>
    bif decide (i9 > 0) then
    (app l7 [32]).bind fun l17 =>
    k14 l17
    else
    k14 l7
    else
    k5 l7

def s_l10Spread (N : Nat) (text1 : Str) : Option Str :=
  withK (fun (l3 : List UInt8) =>
  some l3) fun (k5 : (List UInt8) → Option Str) =>
  s_l10Spread_l1 k5 text1 N [] 0

def s_SpreadText (N : Nat) (text1 : Str) : Option (Str × Int) :=
  (s_l10Text N text1).bind fun r2 =>
  bif !r2 then
  some ([], 2)
  else
  (s_l10Spread N text1).bind fun r5 =>
  bif decide ((List.length r5 : Int) > 100) then
  some ([], 5)
  else
  some (r5, 0)

def s_DrawJoinSpread (N : Nat) (code1 : List UInt8) : Option Str :=
  (s_l00From code1).bind fun r4 =>
  (s_l10Draw N (L00Src.mk code1 r4.at_ r4.seed)).bind fun r7 =>
  (s_l00Src_one (L00Src.mk code1 r7.2.at_ r7.2.seed) 4).bind fun r9 =>
  (orO r9.1 (some (decide ((List.length r7.1 : Int) > 40)))).bind fun t11 =>
  bif t11 then
  some r7.1
  else
  (s_l10Spread N r7.1).bind fun r15 =>
  some r15

def i_JoinSpread_l1 (k8 : (List UInt8) → Option (Str × Int)) (text1 : Str) : Nat → (List UInt8) → Int → Option (Str × Int)
  | 0, _, _ => none
  | N + 1, l10, x12 =>
    bif decide (x12 < (List.length text1 : Int)) then
    withK (fun (l14 : List UInt8) =>
    i_JoinSpread_l1 k8 text1 N l14 (w64 (x12 + 1))) fun (k17 : (List UInt8) → Option (Str × Int)) =>
    bif ((Int.tmod x12 2) == 0) then
    (idx text1 x12).bind fun c19 =>
    (app l10 [c19]).bind fun l22 =>
    k17 l22
    else
    (idx text1 x12).bind fun c25 =>
    bif (c25 != (32 : UInt8)) then
    some ([], 8)
    else
    k17 l10
    else
    k8 l10

def i_JoinSpread (N : Nat) (text1 : Str) : Option (Str × Int) :=
  (i_isSetting N text1).bind fun r2 =>
  bif !r2 then
  some ([], 2)
  else
  withK (fun (l6 : List UInt8) =>
  some (l6, 0)) fun (k8 : (List UInt8) → Option (Str × Int)) =>
  i_JoinSpread_l1 k8 text1 N [] 0

def s_JoinSpread_l1 (k8 : (List UInt8) → Option (Str × Int)) (text1 : Str) : Nat → (List UInt8) → Int → Option (Str × Int)
  | 0, _, _ => none
  | N + 1, l10, i12 =>
    bif decide (i12 < (List.length text1 : Int)) then
    withK (fun (l14 : List UInt8) =>
    s_JoinSpread_l1 k8 text1 N l14 (w64 (i12 + 1))) fun (k17 : (List UInt8) → Option (Str × Int)) =>
    bif ((Int.tmod i12 2) == 0) then
    (idx text1 i12).bind fun c19 =>
    (app l10 [c19]).bind fun l22 =>
    k17 l22
    else
    (idx text1 i12).bind fun c25 =>
    bif (c25 != (32 : UInt8)) then
    some ([], 8)
    else
    k17 l10
    else
    k8 l10

def s_JoinSpread (N : Nat) (text1 : Str) : Option (Str × Int) :=
  (s_l10Text N text1).bind fun r2 =>
  bif !r2 then
  some ([], 2)
  else
  withK (fun (l6 : List UInt8) =>
  some (l6, 0)) fun (k8 : (List UInt8) → Option (Str × Int)) =>
  s_JoinSpread_l1 k8 text1 N [] 0

def s_DrawLeaderLine (N : Nat) (code1 : List UInt8) : Option (Str × Str × Int) :=
  (s_l00From code1).bind fun r4 =>
  (s_l10Draw N (L00Src.mk code1 r4.at_ r4.seed)).bind fun r7 =>
  (s_l10Draw N (L00Src.mk code1 r7.2.at_ r7.2.seed)).bind fun r9 =>
  (s_l10Width (L00Src.mk code1 r9.2.at_ r9.2.seed)).bind fun r11 =>
  some (r7.1, r9.1, r11.1)

def i_LeaderLine (N : Nat) (left1 : Str) (right2 : Str) (width3 : Int) : Option (Str × Int) :=
  (i_isSetting N left1).bind fun r4 =>
  (orO (!r4) ((i_isSetting N right2).bind fun r9 =>
  some (!r9))).bind fun t6 =>
  (orO t6 ((i_isWidth width3).bind fun r14 =>
  some (!r14))).bind fun t11 =>
  bif t11 then
  some ([], 2)
  else
  bif decide ((w64 ((w64 ((w64 (width3 - (List.length left1 : Int))) - (List.length right2 : Int))) - 2)) < 2) then
  some ([], 5)
  else
  (cat left1 [32]).bind fun s18 =>
  (i_repeat N [46] (w64 ((w64 ((w64 (width3 - (List.length left1 : Int))) - (List.length right2 : Int))) - 2))).bind fun r20 =>
  (cat s18 r20).bind fun s22 =>
  (cat s22 [32]).bind fun s24 =>
  (cat s24 right2).bind fun s26 =>
  some (s26, 0)

def s_LeaderLine (N : Nat) (left1 : Str) (right2 : Str) (width3 : Int) : Option (Str × Int) :=
  (s_l10Text N left1).bind fun r4 =>
  (orO (!r4) ((s_l10Text N right2).bind fun r9 =>
  some (!r9))).bind fun t6 =>
  (orO t6 ((s_l00In width3 1 100).bind fun r14 =>
  some (!r14))).bind fun t11 =>
  bif t11 then
  some ([], 2)
  else
  bif decide ((w64 ((w64 (width3 - (w64 ((List.length left1 : Int) + (List.length right2 : Int))))) - 2)) < 2) then
  some ([], 5)
  else
  (cat left1 [32]).bind fun s18 =>
  (s_l10Rule N 46 (w64 ((w64 (width3 - (w64 ((List.length left1 : Int) + (List.length right2 : Int))))) - 2))).bind fun r20 =>
  (cat s18 r20).bind fun s22 =>
  (cat s22 [32]).bind fun s24 =>
  (cat s24 right2).bind fun s26 =>
  some (s26, 0)

def s_DrawUnderlineText (N : Nat) (code1 : List UInt8) : Option Str :=
  (s_l00From code1).bind fun r4 =>
  (s_l10Draw N (L00Src.mk code1 r4.at_ r4.seed)).bind fun r7 =>
  some r7.1

def i_UnderlineText_l1 (k9 : (List UInt8) → Option (Str × Int)) (l5 : List UInt8) : Nat → (List UInt8) → Int → Option (Str × Int)
  | 0, _, _ => none
  | N + 1, l11, x12 =>
    bif decide (x12 < (List.length l5 : Int)) then
    withK (fun (l14 : List UInt8) =>
    i_UnderlineText_l1 k9 l5 N l14 (w64 (x12 + 1))) fun (k16 : (List UInt8) → Option (Str × Int)) =>
    (idx l11 x12).bind fun e17 =>
    bif (e17 != (32 : UInt8)) then
    (idx l11 x12).bind fun e20 =>
    k16 (List.set l11 (Int.toNat x12) 95)
    else
    k16 l11
    else
    k9 l11

def i_UnderlineText (N : Nat) (text1 : Str) : Option (Str × Int) :=
  (i_isSetting N text1).bind fun r2 =>
  bif !r2 then
  some ([], 2)
  else
  (app ([] : Str) text1).bind fun l5 =>
  withK (fun (l8 : List UInt8) =>
  some (l8, 0)) fun (k9 : (List UInt8) → Option (Str × Int)) =>
  i_UnderlineText_l1 k9 l5 N l5 0

def s_UnderlineText_l1 (k8 : (List UInt8) → Option (Str × Int)) (text1 : Str) : Nat → (List UInt8) → Int → Option (Str × Int)
  | 0, _, _ => none
  | N + 1, l10, i12 =>
    bif decide (i12 < (List.length text1 : Int)) then
    withK (fun (l14 : List UInt8) =>
    s_UnderlineText_l1 k8 text1 N l14 (w64 (i12 + 1))) fun (k17 : (List UInt8) → Option (Str × Int)) =>
    (idx text1 i12).bind fun c18 =>
    bif (c18 == (32 : UInt8)) then
    (app l10 [32]).bind fun l22 =>
    k17 l22
    else
    (app l10 [95]).bind fun l26 =>
    k17 l26
    else
    k8 l10

def s_UnderlineText (N : Nat) (text1 : Str) : Option (Str × Int) :=
  (s_l10Text N text1).bind fun r2 =>
  bif !r2 then
  some ([], 2)
  else
  withK (fun (l6 : List UInt8) =>
  some (l6, 0)) fun (k8 : (List UInt8) → Option (Str × Int)) =>
  s_UnderlineText_l1 k8 text1 N [] 0

def i_BackSpaces (N : Nat) (text1 : Str) : Option (Int × Int) :=
  (i_isSetting N text1).bind fun r2 =>
  bif !r2 then
  some (0, 2)
  else
  some (w64 (Int.tdiv (w64 ((List.length text1 : Int) + 1)) 2), 0)

def s_BackSpaces (N : Nat) (text1 : Str) : Option (Int × Int) :=
  (s_l10Text N text1).bind fun r2 =>
  bif !r2 then
  some (0, 2)
  else
  some (w64 (Int.tdiv (w64 ((List.length text1 : Int) + 1)) 2), 0)

def w_FnCentred (N : Nat) (code1 : List UInt8) : Option Bool :=
  (w_f6big code1).bind fun r4 =>
  bif r4 then
  some true
  else
  (s_DrawCentreText N code1).bind fun r7 =>
  (i_CentreText N r7.1 r7.2).bind fun r9 =>
  (s_CentreText N r7.1 r7.2).bind fun r11 =>
  (i_RightText N r7.1 r7.2).bind fun r13 =>
  (s_RightText N r7.1 r7.2).bind fun r15 =>
  (s_DrawSpreadText N code1).bind fun r17 =>
  (i_SpreadText N r17).bind fun r19 =>
  (s_SpreadText N r17).bind fun r21 =>
  (s_DrawJoinSpread N code1).bind fun r23 =>
  (i_JoinSpread N r23).bind fun r25 =>
  (s_JoinSpread N r23).bind fun r27 =>
  (s_DrawLeaderLine N code1).bind fun r29 =>
  (i_LeaderLine N r29.1 r29.2.1 r29.2.2).bind fun r31 =>
  (s_LeaderLine N r29.1 r29.2.1 r29.2.2).bind fun r33 =>
  (s_DrawUnderlineText N code1).bind fun r35 =>
  (i_UnderlineText N r35).bind fun r37 =>
  (s_UnderlineText N r35).bind fun r39 =>
  (i_BackSpaces N r35).bind fun r41 =>
  (s_BackSpaces N r35).bind fun r43 =>
  (orO (r9.2 != r11.2) (some (r9.1 != r11.1))).bind fun t45 =>
  (orO t45 (some (r13.2 != r15.2))).bind fun t48 =>
  (orO t48 (some (r13.1 != r15.1))).bind fun t51 =>
  (orO t51 (some (r19.2 != r21.2))).bind fun t54 =>
  (orO t54 (some (r19.1 != r21.1))).bind fun t57 =>
  (orO t57 (some (r25.2 != r27.2))).bind fun t60 =>
  (orO t60 (some (r25.1 != r27.1))).bind fun t63 =>
  (orO t63 (some (r31.2 != r33.2))).bind fun t66 =>
  (orO t66 (some (r31.1 != r33.1))).bind fun t69 =>
  (orO t69 (some (r37.2 != r39.2))).bind fun t72 =>
  (orO t72 (some (r37.1 != r39.1))).bind fun t75 =>
  (orO t75 (some (r41.2 != r43.2))).bind fun t78 =>
  (orO t78 (some (r41.1 != r43.1))).bind fun t81 =>
  bif t81 then
  some false
  else
  withK ((andO (r31.2 == 0) (some ((List.length r31.1 : Int) != r29.2.2))).bind fun t94 =>
  (orO t94 ((andO (r37.2 == 0) ((orO ((List.length r37.1 : Int) != (List.length r35 : Int)) (some ((w64 (2 * r41.1)) != (w64 ((List.length r35 : Int) + (Int.tmod (List.length r35 : Int) 2)))))).bind fun t103 =>
  some t103)).bind fun t100 =>
  some t100)).bind fun t97 =>
  bif t97 then
  some false
  else
  bif (r9.2 != 0) then
  some true
  else
  (andO (decide ((w64 ((List.length r9.1 : Int) - (List.length r7.1 : Int))) ≥ 0)) ((orO ((w64 (r7.2 - (List.length r9.1 : Int))) == (w64 ((List.length r9.1 : Int) - (List.length r7.1 : Int)))) (some ((w64 (r7.2 - (List.length r9.1 : Int))) == (w64 ((w64 ((List.length r9.1 : Int) - (List.length r7.1 : Int))) + 1))))).bind fun t111 =>
  some t111)).bind fun t108 =>
  (andO t108 ((sub r9.1 (w64 ((List.length r9.1 : Int) - (List.length r7.1 : Int))) (List.length r9.1 : Int)).bind fun s117 =>
  some (s117 == r7.1))).bind fun t114 =>
  (andO t114 (some ((List.length r13.1 : Int) == r7.2))).bind fun t119 =>
  (andO t119 ((sub r13.1 (w64 (r7.2 - (List.length r7.1 : Int))) (List.length r13.1 : Int)).bind fun s125 =>
  some (s125 == r7.1))).bind fun t122 =>
  some t122) fun (k85 : Option Bool) =>
  bif (r19.2 == 0) then
  (i_JoinSpread N r19.1).bind fun r88 =>
  (orO (r88.2 != 0) (some (r88.1 != r17))).bind fun t90 =>
  bif t90 then
  some false
  else
  k85 
  else
  k85 

end Go.Proofs.Ytkjccgkpieakpaa
