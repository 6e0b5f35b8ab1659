/-
  Plain functions that compute what the Go functions compute. No conditions.
-/
import Derived.Test.YtoojddajhalimaaBase
namespace Go.Proofs.Ytoojddajhalimaa
set_option linter.unusedVariables false
set_option linter.unusedSimpArgs false

structure Over where
  under : Str
  top : Str
  seen : Str

def Over.beq (x y : Over) : Bool := x.under == y.under && (x.top == y.top && (x.seen == y.seen))

structure L00Src where
  code : List UInt8
  at_ : Int
  seed : Int



def w_f6big (code1 : List UInt8) : Option Bool :=
  some (decide ((List.length code1 : Int) > 4096))

def s_l00From (code1 : List UInt8) : Option L00Src :=
  some (L00Src.mk code1 0 0)

def s_l00Src_next (s1 : L00Src) : Option (Int × L00Src) :=
  withK (fun (b5 : Int) =>
  bif decide ((w64 (s1.at_ + 1)) ≤ (List.length s1.code : Int)) then
  some (b5, (L00Src.mk s1.code (w64 (s1.at_ + 1)) (IntKind.u64.wrap ((IntKind.u64.wrap ((IntKind.u64.wrap (s1.seed * 6364136223846793005)) + (IntKind.u64.wrap b5))) + 1442695040888963407))))
  else
  some (w64 (uand (ushr (IntKind.u64.wrap ((IntKind.u64.wrap ((IntKind.u64.wrap (s1.seed * 6364136223846793005)) + (IntKind.u64.wrap b5))) + 1442695040888963407)) 40) 255), (L00Src.mk s1.code (w64 (s1.at_ + 1)) (IntKind.u64.wrap ((IntKind.u64.wrap ((IntKind.u64.wrap (s1.seed * 6364136223846793005)) + (IntKind.u64.wrap b5))) + 1442695040888963407))))) fun (k6 : Int → Option (Int × L00Src)) =>
  bif decide (s1.at_ < (List.length s1.code : Int)) then
  (idx s1.code s1.at_).bind fun e9 =>
  k6 (UInt8.toNat e9 : Int)
  else
  k6 0

def s_l00Src_pick (s1 : L00Src) (n5 : Int) : Option (Int × L00Src) :=
  bif decide (n5 ≤ 1) then
  some (0, (L00Src.mk s1.code s1.at_ s1.seed))
  else
  (s_l00Src_next (L00Src.mk s1.code s1.at_ s1.seed)).bind fun r7 =>
  withK (fun (x9 : Int) (x10 : Int) (x11 : Int) =>
  (remO x11 n5).bind fun q17 =>
  some (q17, (L00Src.mk s1.code x9 x10))) fun (k12 : Int → Int → Int → Option (Int × L00Src)) =>
  bif decide (n5 > 200) then
  (s_l00Src_next (L00Src.mk s1.code r7.2.at_ r7.2.seed)).bind fun r15 =>
  k12 r15.2.at_ r15.2.seed (w64 ((w64 (r7.1 * 256)) + r15.1))
  else
  k12 r7.2.at_ r7.2.seed r7.1

def s_l00Src_text (s1 : L00Src) (list5 : List Str) : Option (Str × L00Src) :=
  (s_l00Src_pick (L00Src.mk s1.code s1.at_ s1.seed) (List.length list5 : Int)).bind fun r8 =>
  (idx list5 r8.1).bind fun e10 =>
  some (e10, (L00Src.mk s1.code r8.2.at_ r8.2.seed))

def s_l02Letter (s1 : Str) : Option Bool :=
  (andO ((List.length s1 : Int) == 1) ((idx s1 0).bind fun c5 =>
  some (decide (c5 > (32 : UInt8))))).bind fun t2 =>
  (andO t2 ((idx s1 0).bind fun c10 =>
  some (decide (c10 < (127 : UInt8))))).bind fun t7 =>
  some t7

def s_l12One (x1 : Over) : Option Bool :=
  (s_l02Letter x1.under).bind fun r4 =>
  (andO r4 ((s_l02Letter x1.top).bind fun r9 =>
  some r9)).bind fun t6 =>
  (andO t6 ((s_l02Letter x1.seen).bind fun r14 =>
  some r14)).bind fun t11 =>
  (andO t11 (some (x1.under != x1.seen))).bind fun t16 =>
  (andO t16 (some (x1.top != x1.seen))).bind fun t19 =>
  (andO t19 (some (x1.under != x1.top))).bind fun t22 =>
  some t22

def s_l12Ok_l2 (k9 : Option Bool) (rules1 : List Over) (i6 : Int) : Nat → Int → Option Bool
  | 0, _ => none
  | N + 1, k18 =>
    bif decide (k18 < i6) then
    (idx rules1 k18).bind fun e20 =>
    (idx rules1 i6).bind fun e25 =>
    (andO (e20.under == e25.under) ((idx rules1 k18).bind fun e33 =>
    (idx rules1 i6).bind fun e38 =>
    some (e33.top == e38.top))).bind fun t30 =>
    bif t30 then
    some false
    else
    s_l12Ok_l2 k9 rules1 i6 N (w64 (k18 + 1))
    else
    k9 

def s_l12Ok_l1 (k4 : Option Bool) (rules1 : List Over) : Nat → Int → Option Bool
  | 0, _ => none
  | N + 1, i6 =>
    bif decide (i6 < (List.length rules1 : Int)) then
    withK (s_l12Ok_l1 k4 rules1 N (w64 (i6 + 1))) fun (k9 : Option Bool) =>
    (idx rules1 i6).bind fun e10 =>
    (s_l12One e10).bind fun r15 =>
    bif !r15 then
    some false
    else
    s_l12Ok_l2 k9 rules1 i6 N 0
    else
    k4 

def s_l12Ok (N : Nat) (rules1 : List Over) : Option Bool :=
  withK (some (decide ((List.length rules1 : Int) ≤ 20))) fun (k4 : Option Bool) =>
  s_l12Ok_l1 k4 rules1 N 0

def s_l12Draw_l1 (k10 : Int → Int → (List Over) → Option ((List Over) × L00Src)) (s1 : L00Src) : Nat → Int → Int → (List Over) → Int → Option ((List Over) × L00Src)
  | 0, _, _, _, _ => none
  | N + 1, x14, x15, l16, k18 =>
    bif decide (k18 > 0) then
    withK (fun (x20 : Int) (x21 : Int) (l22 : List Over) =>
    s_l12Draw_l1 k10 s1 N x20 x21 l22 (w64 (k18 - 1))) fun (k25 : Int → Int → (List Over) → Option ((List Over) × L00Src)) =>
    (s_l00Src_text (L00Src.mk s1.code x14 x15) [[99], [111], [73], [108], [45]]).bind fun r27 =>
    (s_l00Src_text (L00Src.mk s1.code r27.2.at_ r27.2.seed) [[47], [45], [39], [124]]).bind fun r31 =>
    (s_l00Src_text (L00Src.mk s1.code r31.2.at_ r31.2.seed) [[48], [116], [33], [43], [113]]).bind fun r34 =>
    (app [] l16).bind fun l37 =>
    (app l37 [(Over.mk ((Over.mk r27.1 [] []).under) r31.1 r34.1)]).bind fun l41 =>
    (s_l12Ok N l41).bind fun r44 =>
    bif r44 then
    (app l16 [(Over.mk ((Over.mk r27.1 [] []).under) r31.1 r34.1)]).bind fun l49 =>
    k25 r34.2.at_ r34.2.seed l49
    else
    k25 r34.2.at_ r34.2.seed l16
    else
    k10 x14 x15 l16

def s_l12Draw (N : Nat) (s1 : L00Src) : Option ((List Over) × L00Src) :=
  withK (fun (x6 : Int) (x7 : Int) (l8 : List Over) =>
  some (l8, (L00Src.mk s1.code x6 x7))) fun (k10 : Int → Int → (List Over) → Option ((List Over) × L00Src)) =>
  (s_l00Src_pick (L00Src.mk s1.code s1.at_ s1.seed) 9).bind fun r12 =>
  s_l12Draw_l1 k10 s1 N r12.2.at_ r12.2.seed [] r12.1

def s_l12Bent_l1 (k12 : Int → Int → (List Over) → Option ((List Over) × L00Src)) (r40 : Int × L00Src) : Nat → (List Over) → Int → Option ((List Over) × L00Src)
  | 0, _, _ => none
  | N + 1, l42, k44 =>
    bif decide (k44 > 0) then
    (app l42 [(Over.mk [(65 : UInt8) + (UInt8.ofInt (List.length l42 : Int))] [47] [35])]).bind fun l48 =>
    s_l12Bent_l1 k12 r40 N l48 (w64 (k44 - 1))
    else
    k12 r40.2.at_ r40.2.seed l42

def s_l12Bent (N : Nat) (s1 : L00Src) : Option ((List Over) × L00Src) :=
  (s_l12Draw N (L00Src.mk s1.code s1.at_ s1.seed)).bind fun r5 =>
  withK (fun (x8 : Int) (x9 : Int) (l10 : List Over) =>
  some (l10, (L00Src.mk s1.code x8 x9))) fun (k12 : Int → Int → (List Over) → Option ((List Over) × L00Src)) =>
  (s_l00Src_pick (L00Src.mk s1.code r5.2.at_ r5.2.seed) 20).bind fun r14 =>
  bif (r14.1 == 0) then
  (s_l00Src_text (L00Src.mk s1.code r14.2.at_ r14.2.seed) [[], [97], [32]]).bind fun r18 =>
  (s_l00Src_text (L00Src.mk s1.code r18.2.at_ r18.2.seed) [[98], [98, 98]]).bind fun r21 =>
  (s_l00Src_text (L00Src.mk s1.code r21.2.at_ r21.2.seed) [[97], [98], [99]]).bind fun r24 =>
  (app r5.1 [(Over.mk r18.1 r21.1 r24.1)]).bind fun l27 =>
  k12 r24.2.at_ r24.2.seed l27
  else
  bif (r14.1 == 1) then
  bif decide ((List.length r5.1 : Int) > 0) then
  (idx r5.1 0).bind fun e32 =>
  (app r5.1 [e32]).bind fun l35 =>
  k12 r14.2.at_ r14.2.seed l35
  else
  k12 r14.2.at_ r14.2.seed r5.1
  else
  bif (r14.1 == 2) then
  (s_l00Src_pick (L00Src.mk s1.code r14.2.at_ r14.2.seed) 2).bind fun r40 =>
  s_l12Bent_l1 k12 r40 N [] (w64 (20 + r40.1))
  else
  k12 r14.2.at_ r14.2.seed r5.1

def s_l00Src_one (s1 : L00Src) (n5 : Int) : Option (Bool × L00Src) :=
  (s_l00Src_pick (L00Src.mk s1.code s1.at_ s1.seed) n5).bind fun r6 =>
  some ((r6.1 == 0), (L00Src.mk s1.code r6.2.at_ r6.2.seed))

def s_l12DrawLine_l1 (k11 : (List UInt8) → Int → Int → Option (Str × L00Src)) (s1 : L00Src) (n5 : Int) : Nat → (List UInt8) → Int → Int → Int → Option (Str × L00Src)
  | 0, _, _, _, _ => none
  | N + 1, l13, x15, x16, k17 =>
    bif decide (k17 < n5) then
    (s_l00Src_pick (L00Src.mk s1.code x15 x16) 11).bind fun r19 =>
    (idx [99, 111, 32, 73, 108, 45, 48, 116, 33, 43, 113] r19.1).bind fun c21 =>
    (app l13 [c21]).bind fun l24 =>
    s_l12DrawLine_l1 k11 s1 n5 N l24 r19.2.at_ r19.2.seed (w64 (k17 + 1))
    else
    k11 l13 x15 x16

def s_l12DrawLine (N : Nat) (s1 : L00Src) (n5 : Int) : Option (Str × L00Src) :=
  withK (fun (l7 : List UInt8) (x9 : Int) (x10 : Int) =>
  some (l7, (L00Src.mk s1.code x9 x10))) fun (k11 : (List UInt8) → Int → Int → Option (Str × L00Src)) =>
  s_l12DrawLine_l1 k11 s1 n5 N [] s1.at_ s1.seed 0

def s_l12Near_l1 (k12 : Int → Int → (List UInt8) → Option (Str × L00Src)) (s1 : L00Src) : Nat → Int → Int → (List UInt8) → Int → Option (Str × L00Src)
  | 0, _, _, _, _ => none
  | N + 1, x16, x17, l18, k19 =>
    (andO (decide (k19 > 0)) (some (decide ((List.length l18 : Int) > 0)))).bind fun t20 =>
    bif t20 then
    (s_l00Src_pick (L00Src.mk s1.code x16 x17) (List.length l18 : Int)).bind fun r24 =>
    (s_l00Src_pick (L00Src.mk s1.code r24.2.at_ r24.2.seed) 11).bind fun r26 =>
    (idx [99, 111, 32, 73, 108, 45, 48, 116, 33, 43, 113] r26.1).bind fun c28 =>
    (idx l18 r24.1).bind fun e30 =>
    s_l12Near_l1 k12 s1 N r26.2.at_ r26.2.seed (List.set l18 (Int.toNat r24.1) c28) (w64 (k19 - 1))
    else
    k12 x16 x17 l18

def s_l12Near (N : Nat) (s1 : L00Src) (line5 : Str) : Option (Str × L00Src) :=
  (app ([] : Str) line5).bind fun l6 =>
  withK (fun (x9 : Int) (x10 : Int) (l11 : List UInt8) =>
  some (l11, (L00Src.mk s1.code x9 x10))) fun (k12 : Int → Int → (List UInt8) → Option (Str × L00Src)) =>
  (s_l00Src_pick (L00Src.mk s1.code s1.at_ s1.seed) 6).bind fun r14 =>
  s_l12Near_l1 k12 s1 N r14.2.at_ r14.2.seed l6 r14.1

def s_l12Two (N : Nat) (code1 : List UInt8) : Option ((List Over) × Str × Str) :=
  (s_l00From code1).bind fun r4 =>
  (s_l12Bent N (L00Src.mk code1 r4.at_ r4.seed)).bind fun r7 =>
  (s_l00Src_pick (L00Src.mk code1 r7.2.at_ r7.2.seed) 16).bind fun r10 =>
  withK (fun (x12 : Int) (x13 : Int) (n14 : Int) =>
  (s_l12DrawLine N (L00Src.mk code1 x12 x13) n14).bind fun r22 =>
  (s_l12Near N (L00Src.mk code1 r22.2.at_ r22.2.seed) r22.1).bind fun r24 =>
  withK (fun (typed26 : Str) (want27 : Str) =>
  some (r7.1, typed26, want27)) fun (k28 : Str → Str → Option ((List Over) × Str × Str)) =>
  (s_l00Src_pick (L00Src.mk code1 r24.2.at_ r24.2.seed) 16).bind fun r30 =>
  bif (r30.1 == 0) then
  (cat r24.1 [99]).bind fun s33 =>
  k28 r22.1 s33
  else
  bif (r30.1 == 1) then
  (cat r22.1 [127]).bind fun s36 =>
  (cat r24.1 [99]).bind fun s38 =>
  k28 s36 s38
  else
  k28 r22.1 r24.1) fun (k15 : Int → Int → Int → Option ((List Over) × Str × Str)) =>
  (s_l00Src_one (L00Src.mk code1 r10.2.at_ r10.2.seed) 20).bind fun r17 =>
  bif r17.1 then
  (s_l00Src_pick (L00Src.mk code1 r17.2.at_ r17.2.seed) 2).bind fun r20 =>
  k15 r20.2.at_ r20.2.seed (w64 (60 + r20.1))
  else
  k15 r17.2.at_ r17.2.seed r10.1

def s_DrawCorrectionPlan (N : Nat) (code1 : List UInt8) : Option ((List Over) × Str × Str) :=
  (s_l12Two N code1).bind fun r4 =>
  some (r4.1, r4.2.1, r4.2.2)

def i_isText_l1 (k5 : Option Bool) (s1 : Str) (low2 : UInt8) : Nat → Int → Option Bool
  | 0, _ => none
  | N + 1, x7 =>
    bif decide (x7 < (List.length s1 : Int)) then
    (idx s1 x7).bind fun c9 =>
    (orO (decide (c9 < low2)) ((idx s1 x7).bind fun c14 =>
    some (decide (c14 > (126 : UInt8))))).bind fun t11 =>
    bif t11 then
    some false
    else
    i_isText_l1 k5 s1 low2 N (w64 (x7 + 1))
    else
    k5 

def i_isText (N : Nat) (s1 : Str) (low2 : UInt8) (most3 : Int) : Option Bool :=
  bif decide ((List.length s1 : Int) > most3) then
  some false
  else
  withK (some true) fun (k5 : Option Bool) =>
  i_isText_l1 k5 s1 low2 N 0

def i_isLetter (N : Nat) (s1 : Str) : Option Bool :=
  (andO ((List.length s1 : Int) == 1) ((i_isText N s1 33 1).bind fun r5 =>
  some r5)).bind fun t2 =>
  some t2

def i_validOver (N : Nat) (x1 : Over) : Option Bool :=
  (i_isLetter N x1.under).bind fun r3 =>
  (andO r3 ((i_isLetter N x1.top).bind fun r8 =>
  some r8)).bind fun t5 =>
  (andO t5 ((i_isLetter N x1.seen).bind fun r13 =>
  some r13)).bind fun t10 =>
  (andO t10 (some (x1.under != x1.top))).bind fun t15 =>
  (andO t15 (some (x1.under != x1.seen))).bind fun t18 =>
  (andO t18 (some (x1.top != x1.seen))).bind fun t21 =>
  some t21

def i_ValidOvers_l2 (k10 : Option Bool) (e11 : Over) (l20 : List Over) : Nat → Int → Option Bool
  | 0, _ => none
  | N + 1, x25 =>
    bif decide (x25 < (List.length l20 : Int)) then
    (idx l20 x25).bind fun e27 =>
    (andO (e11.under == e27.under) (some (e11.top == e27.top))).bind fun t33 =>
    bif t33 then
    some false
    else
    i_ValidOvers_l2 k10 e11 l20 N (w64 (x25 + 1))
    else
    k10 

def i_ValidOvers_l1 (k5 : Option Bool) (rules1 : List Over) : Nat → Int → Option Bool
  | 0, _ => none
  | N + 1, x7 =>
    bif decide (x7 < (List.length rules1 : Int)) then
    withK (i_ValidOvers_l1 k5 rules1 N (w64 (x7 + 1))) fun (k10 : Option Bool) =>
    (idx rules1 x7).bind fun e11 =>
    (i_validOver N e11).bind fun r17 =>
    bif !r17 then
    some false
    else
    (sub rules1 0 x7).bind fun l20 =>
    i_ValidOvers_l2 k10 e11 l20 N 0
    else
    k5 

def i_ValidOvers (N : Nat) (rules1 : List Over) : Option Bool :=
  bif decide ((List.length rules1 : Int) > 20) then
  some false
  else
  withK (some true) fun (k5 : Option Bool) =>
  i_ValidOvers_l1 k5 rules1 N 0

def i_isCorrectLine (N : Nat) (s1 : Str) : Option Bool :=
  (i_isText N s1 32 60).bind fun r2 =>
  some r2

def i_correctCode (N : Nat) (rules1 : List Over) (typed4 : Str) (other5 : Str) : Option Int :=
  (i_ValidOvers N rules1).bind fun r6 =>
  bif !r6 then
  some 1
  else
  (i_isCorrectLine N typed4).bind fun r9 =>
  (orO (!r9) ((i_isCorrectLine N other5).bind fun r14 =>
  some (!r14))).bind fun t11 =>
  bif t11 then
  some 2
  else
  bif ((List.length typed4 : Int) != (List.length other5 : Int)) then
  some 8
  else
  some 0

def i_topFor_l1 (k7 : UInt8 → Option UInt8) (rules1 : List Over) (under4 : UInt8) (want5 : UInt8) : Nat → UInt8 → Int → Option UInt8
  | 0, _, _ => none
  | N + 1, least9, x10 =>
    bif decide (x10 < (List.length rules1 : Int)) then
    withK (fun (least12 : UInt8) =>
    i_topFor_l1 k7 rules1 under4 want5 N least12 (w64 (x10 + 1))) fun (k14 : UInt8 → Option UInt8) =>
    (idx rules1 x10).bind fun e15 =>
    (idx e15.under 0).bind fun c21 =>
    (andO (c21 == under4) ((idx e15.seen 0).bind fun c26 =>
    some (c26 == want5))).bind fun t23 =>
    (andO t23 ((orO (least9 == (0 : UInt8)) ((idx e15.top 0).bind fun c34 =>
    some (decide (c34 < least9)))).bind fun t31 =>
    some t31)).bind fun t28 =>
    bif t28 then
    (idx e15.top 0).bind fun c37 =>
    k14 c37
    else
    k14 least9
    else
    k7 least9

def i_topFor (N : Nat) (rules1 : List Over) (under4 : UInt8) (want5 : UInt8) : Option UInt8 :=
  withK (fun (least6 : UInt8) =>
  some least6) fun (k7 : UInt8 → Option UInt8) =>
  i_topFor_l1 k7 rules1 under4 want5 N 0 0

def i_CorrectionPlan_l1 (k15 : (List UInt8) → (List UInt8) → Option (Str × Str × Int)) (rules1 : List Over) (typed4 : Str) (want5 : Str) : Nat → (List UInt8) → (List UInt8) → Int → Option (Str × Str × Int)
  | 0, _, _, _ => none
  | N + 1, l17, l19, x21 =>
    bif decide (x21 < (List.length typed4 : Int)) then
    withK (fun (l23 : List UInt8) (l25 : List UInt8) =>
    i_CorrectionPlan_l1 k15 rules1 typed4 want5 N l23 l25 (w64 (x21 + 1))) fun (k28 : (List UInt8) → (List UInt8) → Option (Str × Str × Int)) =>
    (idx typed4 x21).bind fun c29 =>
    (idx want5 x21).bind fun c31 =>
    (i_topFor N rules1 c29 c31).bind fun r33 =>
    (idx typed4 x21).bind fun c35 =>
    (idx want5 x21).bind fun c37 =>
    bif (c35 == c37) then
    (app l19 [46]).bind fun l41 =>
    (app l17 [32]).bind fun l45 =>
    k28 l45 l41
    else
    (idx typed4 x21).bind fun c48 =>
    bif (c48 == (32 : UInt8)) then
    (app l19 [43]).bind fun l52 =>
    (idx want5 x21).bind fun c55 =>
    (app l17 [c55]).bind fun l58 =>
    k28 l58 l52
    else
    bif (r33 != (0 : UInt8)) then
    (app l19 [43]).bind fun l64 =>
    (app l17 [r33]).bind fun l68 =>
    k28 l68 l64
    else
    (app l19 [35]).bind fun l72 =>
    (idx want5 x21).bind fun c75 =>
    (app l17 [c75]).bind fun l78 =>
    k28 l78 l72
    else
    k15 l17 l19

def i_CorrectionPlan (N : Nat) (rules1 : List Over) (typed4 : Str) (want5 : Str) : Option (Str × Str × Int) :=
  (i_correctCode N rules1 typed4 want5).bind fun r6 =>
  bif (r6 != 0) then
  some ([], [], r6)
  else
  withK (fun (l11 : List UInt8) (l13 : List UInt8) =>
  some (l13, l11, 0)) fun (k15 : (List UInt8) → (List UInt8) → Option (Str × Str × Int)) =>
  i_CorrectionPlan_l1 k15 rules1 typed4 want5 N [] [] 0

def s_l00Text_l1 (k3 : Option Bool) (s1 : Str) : Nat → Int → Option Bool
  | 0, _ => none
  | N + 1, i5 =>
    bif decide (i5 < (List.length s1 : Int)) then
    (idx s1 i5).bind fun c7 =>
    (orO (decide (c7 < (32 : UInt8))) ((idx s1 i5).bind fun c12 =>
    some (decide (c12 > (126 : UInt8))))).bind fun t9 =>
    bif t9 then
    some false
    else
    s_l00Text_l1 k3 s1 N (w64 (i5 + 1))
    else
    k3 

def s_l00Text (N : Nat) (s1 : Str) (most2 : Int) : Option Bool :=
  withK (some (decide ((List.length s1 : Int) ≤ most2))) fun (k3 : Option Bool) =>
  s_l00Text_l1 k3 s1 N 0

def s_l12Line (N : Nat) (s1 : Str) : Option Bool :=
  (s_l00Text N s1 60).bind fun r2 =>
  some r2

def s_l12Code (N : Nat) (rules1 : List Over) (typed4 : Str) (want5 : Str) : Option Int :=
  (s_l12Ok N rules1).bind fun r6 =>
  bif !r6 then
  some 1
  else
  (s_l12Line N typed4).bind fun r9 =>
  (orO (!r9) ((s_l12Line N want5).bind fun r14 =>
  some (!r14))).bind fun t11 =>
  bif t11 then
  some 2
  else
  bif ((List.length typed4 : Int) != (List.length want5 : Int)) then
  some 8
  else
  some 0

def s_l12Top_l1 (k7 : UInt8 → Option UInt8) (rules1 : List Over) (under4 : UInt8) (want5 : UInt8) : Nat → UInt8 → Int → Option UInt8
  | 0, _, _ => none
  | N + 1, best9, i10 =>
    bif decide (i10 < (List.length rules1 : Int)) then
    withK (fun (best12 : UInt8) =>
    s_l12Top_l1 k7 rules1 under4 want5 N best12 (w64 (i10 + 1))) fun (k14 : UInt8 → Option UInt8) =>
    (idx rules1 i10).bind fun e15 =>
    (idx e15.top 0).bind fun c20 =>
    (idx rules1 i10).bind fun e22 =>
    (idx e22.under 0).bind fun c27 =>
    (andO (c27 == under4) ((idx rules1 i10).bind fun e32 =>
    (idx e32.seen 0).bind fun c37 =>
    some (c37 == want5))).bind fun t29 =>
    (andO t29 ((orO (best9 == (0 : UInt8)) (some (decide (c20 < best9)))).bind fun t42 =>
    some t42)).bind fun t39 =>
    bif t39 then
    k14 c20
    else
    k14 best9
    else
    k7 best9

def s_l12Top (N : Nat) (rules1 : List Over) (under4 : UInt8) (want5 : UInt8) : Option UInt8 :=
  withK (fun (best6 : UInt8) =>
  bif (under4 == (32 : UInt8)) then
  some want5
  else
  some best6) fun (k7 : UInt8 → Option UInt8) =>
  s_l12Top_l1 k7 rules1 under4 want5 N 0 0

def s_l12Plan_l1 (k12 : (List UInt8) → (List UInt8) → Option (Str × Str)) (rules1 : List Over) (typed4 : Str) (want5 : Str) : Nat → (List UInt8) → (List UInt8) → Int → Option (Str × Str)
  | 0, _, _, _ => none
  | N + 1, l14, l16, i18 =>
    bif decide (i18 < (List.length want5 : Int)) then
    withK (fun (l20 : List UInt8) (l22 : List UInt8) =>
    s_l12Plan_l1 k12 rules1 typed4 want5 N l20 l22 (w64 (i18 + 1))) fun (k25 : (List UInt8) → (List UInt8) → Option (Str × Str)) =>
    (idx typed4 i18).bind fun c26 =>
    (idx want5 i18).bind fun c28 =>
    bif (c26 == c28) then
    (app l16 [46]).bind fun l32 =>
    (app l14 [32]).bind fun l36 =>
    k25 l36 l32
    else
    (idx typed4 i18).bind fun c39 =>
    (idx want5 i18).bind fun c41 =>
    (s_l12Top N rules1 c39 c41).bind fun r43 =>
    bif (r43 != (0 : UInt8)) then
    (app l16 [43]).bind fun l47 =>
    (app l14 [r43]).bind fun l51 =>
    k25 l51 l47
    else
    (app l16 [35]).bind fun l55 =>
    (idx want5 i18).bind fun c58 =>
    (app l14 [c58]).bind fun l61 =>
    k25 l61 l55
    else
    k12 l14 l16

def s_l12Plan (N : Nat) (rules1 : List Over) (typed4 : Str) (want5 : Str) : Option (Str × Str) :=
  withK (fun (l8 : List UInt8) (l10 : List UInt8) =>
  some (l10, l8)) fun (k12 : (List UInt8) → (List UInt8) → Option (Str × Str)) =>
  s_l12Plan_l1 k12 rules1 typed4 want5 N [] [] 0

def s_CorrectionPlan (N : Nat) (rules1 : List Over) (typed4 : Str) (want5 : Str) : Option (Str × Str × Int) :=
  (s_l12Code N rules1 typed4 want5).bind fun r6 =>
  bif (r6 != 0) then
  some ([], [], r6)
  else
  (s_l12Plan N rules1 typed4 want5).bind fun r9 =>
  some (r9.1, r9.2, 0)

def i_erased_l1 (k3 : Int → Option Int) (plan1 : Str) : Nat → Int → Int → Option Int
  | 0, _, _ => none
  | N + 1, n5, x6 =>
    bif decide (x6 < (List.length plan1 : Int)) then
    withK (fun (n8 : Int) =>
    i_erased_l1 k3 plan1 N n8 (w64 (x6 + 1))) fun (k10 : Int → Option Int) =>
    (idx plan1 x6).bind fun c11 =>
    bif (c11 == (35 : UInt8)) then
    k10 (w64 (n5 + 1))
    else
    k10 n5
    else
    k3 n5

def i_erased (N : Nat) (plan1 : Str) : Option Int :=
  withK (fun (n2 : Int) =>
  some n2) fun (k3 : Int → Option Int) =>
  i_erased_l1 k3 plan1 N 0 0

def i_FewestErased (N : Nat) (rules1 : List Over) (typed4 : Str) (want5 : Str) : Option (Int × Int) :=
  (i_CorrectionPlan N rules1 typed4 want5).bind fun r6 =>
  bif (r6.2.2 != 0) then
  some (0, r6.2.2)
  else
  (i_erased N r6.1).bind fun r9 =>
  some (r9, 0)

def s_l12Erased_l1 (k3 : Int → Option Int) (plan1 : Str) : Nat → Int → Int → Option Int
  | 0, _, _ => none
  | N + 1, n5, i6 =>
    bif decide (i6 < (List.length plan1 : Int)) then
    withK (fun (n8 : Int) =>
    s_l12Erased_l1 k3 plan1 N n8 (w64 (i6 + 1))) fun (k10 : Int → Option Int) =>
    (idx plan1 i6).bind fun c11 =>
    bif (c11 == (35 : UInt8)) then
    k10 (w64 (n5 + 1))
    else
    k10 n5
    else
    k3 n5

def s_l12Erased (N : Nat) (plan1 : Str) : Option Int :=
  withK (fun (n2 : Int) =>
  some n2) fun (k3 : Int → Option Int) =>
  s_l12Erased_l1 k3 plan1 N 0 0

def s_FewestErased (N : Nat) (rules1 : List Over) (typed4 : Str) (want5 : Str) : Option (Int × Int) :=
  (s_l12Code N rules1 typed4 want5).bind fun r6 =>
  bif (r6 != 0) then
  some (0, r6)
  else
  (s_l12Plan N rules1 typed4 want5).bind fun r9 =>
  (s_l12Erased N r9.1).bind fun r11 =>
  some (r11, 0)

def s_l12DrawPlan_l1 (k22 : Int → Int → (List UInt8) → Option (Str × L00Src)) (s1 : L00Src) : Nat → Int → Int → (List UInt8) → Int → Option (Str × L00Src)
  | 0, _, _, _, _ => none
  | N + 1, x24, x25, l26, k28 =>
    bif decide (k28 > 0) then
    (s_l00Src_pick (L00Src.mk s1.code x24 x25) 4).bind fun r30 =>
    (idx [46, 43, 35, 35] r30.1).bind fun c32 =>
    (app l26 [c32]).bind fun l35 =>
    s_l12DrawPlan_l1 k22 s1 N r30.2.at_ r30.2.seed l35 (w64 (k28 - 1))
    else
    k22 x24 x25 l26

def s_l12DrawPlan (N : Nat) (s1 : L00Src) : Option (Str × L00Src) :=
  (s_l00Src_pick (L00Src.mk s1.code s1.at_ s1.seed) 12).bind fun r6 =>
  withK (fun (x8 : Int) (x9 : Int) (n10 : Int) =>
  withK (fun (x18 : Int) (x19 : Int) (l20 : List UInt8) =>
  withK (fun (x38 : Int) (x39 : Int) (l40 : List UInt8) =>
  some (l40, (L00Src.mk s1.code x38 x39))) fun (k41 : Int → Int → (List UInt8) → Option (Str × L00Src)) =>
  (bif decide (n10 > 0) then (s_l00Src_one (L00Src.mk s1.code x18 x19) 16).bind fun r47 =>
  some (r47.1, (L00Src.mk s1.code r47.2.at_ r47.2.seed)) else some (false, (L00Src.mk s1.code x18 x19))).bind fun x45 =>
  bif x45.1 then
  (idx l20 0).bind fun e50 =>
  k41 x45.2.at_ x45.2.seed (List.set l20 (Int.toNat 0) 120)
  else
  k41 x45.2.at_ x45.2.seed l20) fun (k22 : Int → Int → (List UInt8) → Option (Str × L00Src)) =>
  s_l12DrawPlan_l1 k22 s1 N x8 x9 [] n10) fun (k11 : Int → Int → Int → Option (Str × L00Src)) =>
  (s_l00Src_one (L00Src.mk s1.code r6.2.at_ r6.2.seed) 20).bind fun r13 =>
  bif r13.1 then
  (s_l00Src_pick (L00Src.mk s1.code r13.2.at_ r13.2.seed) 2).bind fun r16 =>
  k11 r16.2.at_ r16.2.seed (w64 (60 + r16.1))
  else
  k11 r13.2.at_ r13.2.seed r6.1

def s_DrawApplyPlan (N : Nat) (code1 : List UInt8) : Option ((List Over) × Str × Str × Str) :=
  (s_l12Two N code1).bind fun r4 =>
  (s_l00From code1).bind fun r7 =>
  (s_CorrectionPlan N r4.1 r4.2.1 r4.2.2).bind fun r10 =>
  bif (r10.2.2 != 0) then
  (s_l12DrawPlan N (L00Src.mk code1 r7.at_ r7.seed)).bind fun r13 =>
  some (r4.1, r4.2.1, r13.1, r4.2.2)
  else
  withK (fun (plan15 : Str) (letters16 : Str) =>
  some (r4.1, r4.2.1, plan15, letters16)) fun (k17 : Str → Str → Option ((List Over) × Str × Str × Str)) =>
  (s_l00Src_pick (L00Src.mk code1 r7.at_ r7.seed) 10).bind fun r19 =>
  bif (r19.1 == 0) then
  (cat r10.1 [46]).bind fun s22 =>
  k17 s22 r10.2.1
  else
  bif (r19.1 == 1) then
  (s_l12DrawPlan N (L00Src.mk code1 r19.2.at_ r19.2.seed)).bind fun r25 =>
  k17 r25.1 r10.2.1
  else
  bif (r19.1 == 2) then
  (s_l12Near N (L00Src.mk code1 r19.2.at_ r19.2.seed) r10.2.1).bind fun r28 =>
  k17 r10.1 r28.1
  else
  k17 r10.1 r10.2.1

def i_isPlan_l1 (k2 : Option Bool) (plan1 : Str) : Nat → Int → Option Bool
  | 0, _ => none
  | N + 1, x4 =>
    bif decide (x4 < (List.length plan1 : Int)) then
    (idx plan1 x4).bind fun c6 =>
    (andO (c6 != (46 : UInt8)) ((idx plan1 x4).bind fun c11 =>
    some (c11 != (43 : UInt8)))).bind fun t8 =>
    (andO t8 ((idx plan1 x4).bind fun c16 =>
    some (c16 != (35 : UInt8)))).bind fun t13 =>
    bif t13 then
    some false
    else
    i_isPlan_l1 k2 plan1 N (w64 (x4 + 1))
    else
    k2 

def i_isPlan (N : Nat) (plan1 : Str) : Option Bool :=
  withK (some (decide ((List.length plan1 : Int) ≤ 60))) fun (k2 : Option Bool) =>
  i_isPlan_l1 k2 plan1 N 0

def i_seen_l1 (k11 : Option (UInt8 × Bool)) (rules1 : List Over) (under4 : UInt8) (top5 : UInt8) : Nat → Int → Option (UInt8 × Bool)
  | 0, _ => none
  | N + 1, x13 =>
    bif decide (x13 < (List.length rules1 : Int)) then
    (idx rules1 x13).bind fun e15 =>
    (idx e15.under 0).bind fun c21 =>
    (andO (c21 == under4) ((idx e15.top 0).bind fun c26 =>
    some (c26 == top5))).bind fun t23 =>
    bif t23 then
    (idx e15.seen 0).bind fun c29 =>
    some (c29, true)
    else
    i_seen_l1 k11 rules1 under4 top5 N (w64 (x13 + 1))
    else
    k11 

def i_seen (N : Nat) (rules1 : List Over) (under4 : UInt8) (top5 : UInt8) : Option (UInt8 × Bool) :=
  (orO (under4 == top5) (some (top5 == (32 : UInt8)))).bind fun t6 =>
  bif t6 then
  some (under4, true)
  else
  bif (under4 == (32 : UInt8)) then
  some (top5, true)
  else
  withK (some (0, false)) fun (k11 : Option (UInt8 × Bool)) =>
  i_seen_l1 k11 rules1 under4 top5 N 0

def i_ApplyPlan_l1 (k18 : (List UInt8) → Option (Str × Int)) (rules1 : List Over) (typed4 : Str) (plan5 : Str) (letters6 : Str) (l14 : List UInt8) : Nat → (List UInt8) → Int → Option (Str × Int)
  | 0, _, _ => none
  | N + 1, l20, x21 =>
    bif decide (x21 < (List.length l14 : Int)) then
    withK (fun (l23 : List UInt8) =>
    i_ApplyPlan_l1 k18 rules1 typed4 plan5 letters6 l14 N l23 (w64 (x21 + 1))) fun (k25 : (List UInt8) → Option (Str × Int)) =>
    (idx plan5 x21).bind fun c26 =>
    bif (c26 == (43 : UInt8)) then
    (idx typed4 x21).bind fun c29 =>
    (idx letters6 x21).bind fun c31 =>
    (i_seen N rules1 c29 c31).bind fun r33 =>
    bif !r33.2 then
    some ([], 3)
    else
    (idx l20 x21).bind fun e36 =>
    k25 (List.set l20 (Int.toNat x21) r33.1)
    else
    bif (c26 == (35 : UInt8)) then
    (idx letters6 x21).bind fun c39 =>
    (idx l20 x21).bind fun e41 =>
    k25 (List.set l20 (Int.toNat x21) c39)
    else
    k25 l20
    else
    k18 l20

def i_ApplyPlan (N : Nat) (rules1 : List Over) (typed4 : Str) (plan5 : Str) (letters6 : Str) : Option (Str × Int) :=
  (i_correctCode N rules1 typed4 letters6).bind fun r7 =>
  bif (r7 != 0) then
  some ([], r7)
  else
  (i_isPlan N plan5).bind fun r10 =>
  bif !r10 then
  some ([], 7)
  else
  bif ((List.length plan5 : Int) != (List.length typed4 : Int)) then
  some ([], 6)
  else
  (app ([] : Str) typed4).bind fun l14 =>
  withK (fun (l17 : List UInt8) =>
  some (l17, 0)) fun (k18 : (List UInt8) → Option (Str × Int)) =>
  i_ApplyPlan_l1 k18 rules1 typed4 plan5 letters6 l14 N l14 0

def s_l12IsPlan_l1 (k2 : Option Bool) (plan1 : Str) : Nat → Int → Option Bool
  | 0, _ => none
  | N + 1, i4 =>
    bif decide (i4 < (List.length plan1 : Int)) then
    (idx plan1 i4).bind fun c6 =>
    (andO (c6 != (46 : UInt8)) ((idx plan1 i4).bind fun c11 =>
    some (c11 != (43 : UInt8)))).bind fun t8 =>
    (andO t8 ((idx plan1 i4).bind fun c16 =>
    some (c16 != (35 : UInt8)))).bind fun t13 =>
    bif t13 then
    some false
    else
    s_l12IsPlan_l1 k2 plan1 N (w64 (i4 + 1))
    else
    k2 

def s_l12IsPlan (N : Nat) (plan1 : Str) : Option Bool :=
  withK (some (decide ((List.length plan1 : Int) ≤ 60))) fun (k2 : Option Bool) =>
  s_l12IsPlan_l1 k2 plan1 N 0

def s_l12Seen_l1 (k11 : Option UInt8) (rules1 : List Over) (under4 : UInt8) (top5 : UInt8) : Nat → Int → Option UInt8
  | 0, _ => none
  | N + 1, i13 =>
    bif decide (i13 < (List.length rules1 : Int)) then
    (idx rules1 i13).bind fun e15 =>
    (idx e15.under 0).bind fun c20 =>
    (andO (c20 == under4) ((idx rules1 i13).bind fun e25 =>
    (idx e25.top 0).bind fun c30 =>
    some (c30 == top5))).bind fun t22 =>
    bif t22 then
    (idx rules1 i13).bind fun e33 =>
    (idx e33.seen 0).bind fun c38 =>
    some c38
    else
    s_l12Seen_l1 k11 rules1 under4 top5 N (w64 (i13 + 1))
    else
    k11 

def s_l12Seen (N : Nat) (rules1 : List Over) (under4 : UInt8) (top5 : UInt8) : Option UInt8 :=
  (orO (under4 == top5) (some (top5 == (32 : UInt8)))).bind fun t6 =>
  bif t6 then
  some under4
  else
  bif (under4 == (32 : UInt8)) then
  some top5
  else
  withK (some 0) fun (k11 : Option UInt8) =>
  s_l12Seen_l1 k11 rules1 under4 top5 N 0

def s_ApplyPlan_l1 (k29 : (List UInt8) → Option (Str × Int)) (rules1 : List Over) (typed4 : Str) (plan5 : Str) (letters6 : Str) : Nat → (List UInt8) → Int → Option (Str × Int)
  | 0, _, _ => none
  | N + 1, l31, i33 =>
    bif decide (i33 < (List.length plan5 : Int)) then
    (idx typed4 i33).bind fun c35 =>
    withK (fun (c37 : UInt8) =>
    bif (c37 == (0 : UInt8)) then
    some ([], 3)
    else
    (app l31 [c37]).bind fun l54 =>
    s_ApplyPlan_l1 k29 rules1 typed4 plan5 letters6 N l54 (w64 (i33 + 1))) fun (k39 : UInt8 → Option (Str × Int)) =>
    (idx plan5 i33).bind fun c40 =>
    bif (c40 == (35 : UInt8)) then
    (idx letters6 i33).bind fun c43 =>
    k39 c43
    else
    bif (c40 == (43 : UInt8)) then
    (idx typed4 i33).bind fun c46 =>
    (idx letters6 i33).bind fun c48 =>
    (s_l12Seen N rules1 c46 c48).bind fun r50 =>
    k39 r50
    else
    k39 c35
    else
    k29 l31

def s_ApplyPlan (N : Nat) (rules1 : List Over) (typed4 : Str) (plan5 : Str) (letters6 : Str) : Option (Str × Int) :=
  (s_l12Code N rules1 typed4 letters6).bind fun r7 =>
  withK (fun (code9 : Int) =>
  withK (fun (code18 : Int) =>
  bif (code18 != 0) then
  some ([], code18)
  else
  withK (fun (l27 : List UInt8) =>
  some (l27, 0)) fun (k29 : (List UInt8) → Option (Str × Int)) =>
  s_ApplyPlan_l1 k29 rules1 typed4 plan5 letters6 N [] 0) fun (k19 : Int → Option (Str × Int)) =>
  (andO (code9 == 0) (some ((List.length plan5 : Int) != (List.length typed4 : Int)))).bind fun t21 =>
  bif t21 then
  k19 6
  else
  k19 code9) fun (k10 : Int → Option (Str × Int)) =>
  (andO (r7 == 0) ((s_l12IsPlan N plan5).bind fun r15 =>
  some (!r15))).bind fun t12 =>
  bif t12 then
  k10 7
  else
  k10 r7

def s_DrawErasedIn (N : Nat) (code1 : List UInt8) : Option Str :=
  (s_l00From code1).bind fun r4 =>
  (s_l12DrawPlan N (L00Src.mk code1 r4.at_ r4.seed)).bind fun r7 =>
  some r7.1

def i_ErasedIn (N : Nat) (plan1 : Str) : Option (Int × Int) :=
  (i_isPlan N plan1).bind fun r2 =>
  bif !r2 then
  some (0, 7)
  else
  (i_erased N plan1).bind fun r5 =>
  some (r5, 0)

def s_ErasedIn (N : Nat) (plan1 : Str) : Option (Int × Int) :=
  (s_l12IsPlan N plan1).bind fun r2 =>
  bif !r2 then
  some (0, 7)
  else
  (s_l12Erased N plan1).bind fun r5 =>
  some (r5, 0)

def s_ValidOvers (N : Nat) (rules1 : List Over) : Option Bool :=
  (s_l12Ok N rules1).bind fun r4 =>
  some r4

def w_FnCorrected_l2 (k83 : Option Bool) (r7 : (List Over) × Str × Str) (i80 : Int) : Nat → Int → Option Bool
  | 0, _ => none
  | N + 1, j97 =>
    bif decide (j97 < (List.length r7.1 : Int)) then
    (idx r7.1 j97).bind fun e99 =>
    (sub r7.2.1 i80 (w64 (i80 + 1))).bind fun s101 =>
    (andO (e99.under == s101) ((idx r7.1 j97).bind fun e106 =>
    (sub r7.2.2 i80 (w64 (i80 + 1))).bind fun s108 =>
    some (e106.seen == s108))).bind fun t103 =>
    bif t103 then
    some false
    else
    w_FnCorrected_l2 k83 r7 i80 N (w64 (j97 + 1))
    else
    k83 

def w_FnCorrected_l1 (k78 : Option Bool) (r7 : (List Over) × Str × Str) (r12 : Str × Str × Int) : Nat → Int → Option Bool
  | 0, _ => none
  | N + 1, i80 =>
    bif decide (i80 < (List.length r12.1 : Int)) then
    withK (w_FnCorrected_l1 k78 r7 r12 N (w64 (i80 + 1))) fun (k83 : Option Bool) =>
    (idx r12.1 i80).bind fun c84 =>
    bif (c84 != (35 : UInt8)) then
    k83 
    else
    (idx r7.2.1 i80).bind fun c87 =>
    (orO (c87 == (32 : UInt8)) ((idx r7.2.1 i80).bind fun c92 =>
    (idx r7.2.2 i80).bind fun c94 =>
    some (c92 == c94))).bind fun t89 =>
    bif t89 then
    some false
    else
    w_FnCorrected_l2 k83 r7 i80 N 0
    else
    k78 

def w_FnCorrected (N : Nat) (code1 : List UInt8) : Option Bool :=
  (w_f6big code1).bind fun r4 =>
  bif r4 then
  some true
  else
  (s_DrawCorrectionPlan N code1).bind fun r7 =>
  (i_CorrectionPlan N r7.1 r7.2.1 r7.2.2).bind fun r10 =>
  (s_CorrectionPlan N r7.1 r7.2.1 r7.2.2).bind fun r12 =>
  (i_FewestErased N r7.1 r7.2.1 r7.2.2).bind fun r14 =>
  (s_FewestErased N r7.1 r7.2.1 r7.2.2).bind fun r16 =>
  (s_DrawApplyPlan N code1).bind fun r18 =>
  (i_ApplyPlan N r18.1 r18.2.1 r18.2.2.1 r18.2.2.2).bind fun r21 =>
  (s_ApplyPlan N r18.1 r18.2.1 r18.2.2.1 r18.2.2.2).bind fun r23 =>
  (s_DrawErasedIn N code1).bind fun r25 =>
  (i_ErasedIn N r25).bind fun r27 =>
  (s_ErasedIn N r25).bind fun r29 =>
  (orO (r10.2.2 != r12.2.2) (some (r10.1 != r12.1))).bind fun t31 =>
  (orO t31 (some (r10.2.1 != r12.2.1))).bind fun t34 =>
  (orO t34 (some (r14.2 != r16.2))).bind fun t37 =>
  (orO t37 (some (r14.1 != r16.1))).bind fun t40 =>
  (orO t40 (some (r21.2 != r23.2))).bind fun t43 =>
  (orO t43 (some (r21.1 != r23.1))).bind fun t46 =>
  (orO t46 (some (r27.2 != r29.2))).bind fun t49 =>
  (orO t49 (some (r27.1 != r29.1))).bind fun t52 =>
  (orO t52 ((i_ValidOvers N r7.1).bind fun r58 =>
  (s_ValidOvers N r7.1).bind fun r60 =>
  some (r58 != r60))).bind fun t55 =>
  bif t55 then
  some false
  else
  bif (r10.2.2 != 0) then
  some true
  else
  (i_ApplyPlan N r7.1 r7.2.1 r12.1 r12.2.1).bind fun r64 =>
  (i_ErasedIn N r12.1).bind fun r66 =>
  (orO (r64.2 != 0) (some (r64.1 != r7.2.2))).bind fun t68 =>
  (orO t68 (some (r66.2 != 0))).bind fun t71 =>
  (orO t71 (some (r66.1 != r14.1))).bind fun t74 =>
  bif t74 then
  some false
  else
  withK (some true) fun (k78 : Option Bool) =>
  w_FnCorrected_l1 k78 r7 r12 N 0

def s_l00In (n1 : Int) (low2 : Int) (high3 : Int) : Option Bool :=
  (andO (decide (n1 ≥ low2)) (some (decide (n1 ≤ high3)))).bind fun t4 =>
  some t4

def i_between (n1 : Int) (low2 : Int) (high3 : Int) : Option Bool :=
  (andO (decide (n1 ≥ low2)) (some (decide (n1 ≤ high3)))).bind fun t4 =>
  some t4

end Go.Proofs.Ytoojddajhalimaa
