/-
  Plain functions that compute what the Go functions compute. No conditions.
-/
import Derived.Test.YthmocnbnlpdggaaBase
namespace Go.Proofs.Ythmocnbnlpdggaa
set_option linter.unusedVariables false
set_option linter.unusedSimpArgs false

structure Over where
  under : Str
  top : Str
  seen : Str

def Over.beq (x y : Over) : Bool := x.under == y.under && (x.top == y.top && (x.seen == y.seen))

structure L00Src where
  code : List UInt8
  at_ : Int
  seed : Int



def w_f6big (code1 : List UInt8) : Option Bool :=
  some (decide ((List.length code1 : Int) > 4096))

def s_l00From (code1 : List UInt8) : Option L00Src :=
  some (L00Src.mk code1 0 0)

def s_l00Src_next (s1 : L00Src) : Option (Int × L00Src) :=
  withK (fun (b5 : Int) =>
  bif decide ((w64 (s1.at_ + 1)) ≤ (List.length s1.code : Int)) then
  some (b5, (L00Src.mk s1.code (w64 (s1.at_ + 1)) (IntKind.u64.wrap ((IntKind.u64.wrap ((IntKind.u64.wrap (s1.seed * 6364136223846793005)) + (IntKind.u64.wrap b5))) + 1442695040888963407))))
  else
  some (w64 (uand (ushr (IntKind.u64.wrap ((IntKind.u64.wrap ((IntKind.u64.wrap (s1.seed * 6364136223846793005)) + (IntKind.u64.wrap b5))) + 1442695040888963407)) 40) 255), (L00Src.mk s1.code (w64 (s1.at_ + 1)) (IntKind.u64.wrap ((IntKind.u64.wrap ((IntKind.u64.wrap (s1.seed * 6364136223846793005)) + (IntKind.u64.wrap b5))) + 1442695040888963407))))) fun (k6 : Int → Option (Int × L00Src)) =>
  bif decide (s1.at_ < (List.length s1.code : Int)) then
  (idx s1.code s1.at_).bind fun e9 =>
  k6 (UInt8.toNat e9 : Int)
  else
  k6 0

def s_l00Src_pick (s1 : L00Src) (n5 : Int) : Option (Int × L00Src) :=
  bif decide (n5 ≤ 1) then
  some (0, (L00Src.mk s1.code s1.at_ s1.seed))
  else
  (s_l00Src_next (L00Src.mk s1.code s1.at_ s1.seed)).bind fun r7 =>
  withK (fun (x9 : Int) (x10 : Int) (x11 : Int) =>
  (remO x11 n5).bind fun q17 =>
  some (q17, (L00Src.mk s1.code x9 x10))) fun (k12 : Int → Int → Int → Option (Int × L00Src)) =>
  bif decide (n5 > 200) then
  (s_l00Src_next (L00Src.mk s1.code r7.2.at_ r7.2.seed)).bind fun r15 =>
  k12 r15.2.at_ r15.2.seed (w64 ((w64 (r7.1 * 256)) + r15.1))
  else
  k12 r7.2.at_ r7.2.seed r7.1

def s_l00Src_text (s1 : L00Src) (list5 : List Str) : Option (Str × L00Src) :=
  (s_l00Src_pick (L00Src.mk s1.code s1.at_ s1.seed) (List.length list5 : Int)).bind fun r8 =>
  (idx list5 r8.1).bind fun e10 =>
  some (e10, (L00Src.mk s1.code r8.2.at_ r8.2.seed))

def s_l02Letter (s1 : Str) : Option Bool :=
  (andO ((List.length s1 : Int) == 1) ((idx s1 0).bind fun c5 =>
  some (decide (c5 > (32 : UInt8))))).bind fun t2 =>
  (andO t2 ((idx s1 0).bind fun c10 =>
  some (decide (c10 < (127 : UInt8))))).bind fun t7 =>
  some t7

def s_l12One (x1 : Over) : Option Bool :=
  (s_l02Letter x1.under).bind fun r4 =>
  (andO r4 ((s_l02Letter x1.top).bind fun r9 =>
  some r9)).bind fun t6 =>
  (andO t6 ((s_l02Letter x1.seen).bind fun r14 =>
  some r14)).bind fun t11 =>
  (andO t11 (some (x1.under != x1.seen))).bind fun t16 =>
  (andO t16 (some (x1.top != x1.seen))).bind fun t19 =>
  (andO t19 (some (x1.under != x1.top))).bind fun t22 =>
  some t22

def s_l12Ok_l2 (k9 : Option Bool) (rules1 : List Over) (i6 : Int) : Nat → Int → Option Bool
  | 0, _ => none
  | N + 1, k18 =>
    bif decide (k18 < i6) then
    (idx rules1 k18).bind fun e20 =>
    (idx rules1 i6).bind fun e25 =>
    (andO (e20.under == e25.under) ((idx rules1 k18).bind fun e33 =>
    (idx rules1 i6).bind fun e38 =>
    some (e33.top == e38.top))).bind fun t30 =>
    bif t30 then
    some false
    else
    s_l12Ok_l2 k9 rules1 i6 N (w64 (k18 + 1))
    else
    k9 

def s_l12Ok_l1 (k4 : Option Bool) (rules1 : List Over) : Nat → Int → Option Bool
  | 0, _ => none
  | N + 1, i6 =>
    bif decide (i6 < (List.length rules1 : Int)) then
    withK (s_l12Ok_l1 k4 rules1 N (w64 (i6 + 1))) fun (k9 : Option Bool) =>
    (idx rules1 i6).bind fun e10 =>
    (s_l12One e10).bind fun r15 =>
    bif !r15 then
    some false
    else
    s_l12Ok_l2 k9 rules1 i6 N 0
    else
    k4 

def s_l12Ok (N : Nat) (rules1 : List Over) : Option Bool :=
  withK (some (decide ((List.length rules1 : Int) ≤ 20))) fun (k4 : Option Bool) =>
  s_l12Ok_l1 k4 rules1 N 0

def s_l12Draw_l1 (k10 : Int → Int → (List Over) → Option ((List Over) × L00Src)) (s1 : L00Src) : Nat → Int → Int → (List Over) → Int → Option ((List Over) × L00Src)
  | 0, _, _, _, _ => none
  | N + 1, x14, x15, l16, k18 =>
    bif decide (k18 > 0) then
    withK (fun (x20 : Int) (x21 : Int) (l22 : List Over) =>
    s_l12Draw_l1 k10 s1 N x20 x21 l22 (w64 (k18 - 1))) fun (k25 : Int → Int → (List Over) → Option ((List Over) × L00Src)) =>
    (s_l00Src_text (L00Src.mk s1.code x14 x15) [[99], [111], [73], [108], [45]]).bind fun r27 =>
    (s_l00Src_text (L00Src.mk s1.code r27.2.at_ r27.2.seed) [[47], [45], [39], [124]]).bind fun r31 =>
    (s_l00Src_text (L00Src.mk s1.code r31.2.at_ r31.2.seed) [[48], [116], [33], [43], [113]]).bind fun r34 =>
    (app [] l16).bind fun l37 =>
    (app l37 [(Over.mk ((Over.mk r27.1 [] []).under) r31.1 r34.1)]).bind fun l41 =>
    (s_l12Ok N l41).bind fun r44 =>
    bif r44 then
    (app l16 [(Over.mk ((Over.mk r27.1 [] []).under) r31.1 r34.1)]).bind fun l49 =>
    k25 r34.2.at_ r34.2.seed l49
    else
    k25 r34.2.at_ r34.2.seed l16
    else
    k10 x14 x15 l16

def s_l12Draw (N : Nat) (s1 : L00Src) : Option ((List Over) × L00Src) :=
  withK (fun (x6 : Int) (x7 : Int) (l8 : List Over) =>
  some (l8, (L00Src.mk s1.code x6 x7))) fun (k10 : Int → Int → (List Over) → Option ((List Over) × L00Src)) =>
  (s_l00Src_pick (L00Src.mk s1.code s1.at_ s1.seed) 9).bind fun r12 =>
  s_l12Draw_l1 k10 s1 N r12.2.at_ r12.2.seed [] r12.1

def s_l12Bent_l1 (k12 : Int → Int → (List Over) → Option ((List Over) × L00Src)) (r40 : Int × L00Src) : Nat → (List Over) → Int → Option ((List Over) × L00Src)
  | 0, _, _ => none
  | N + 1, l42, k44 =>
    bif decide (k44 > 0) then
    (app l42 [(Over.mk [(65 : UInt8) + (UInt8.ofInt (List.length l42 : Int))] [47] [35])]).bind fun l48 =>
    s_l12Bent_l1 k12 r40 N l48 (w64 (k44 - 1))
    else
    k12 r40.2.at_ r40.2.seed l42

def s_l12Bent (N : Nat) (s1 : L00Src) : Option ((List Over) × L00Src) :=
  (s_l12Draw N (L00Src.mk s1.code s1.at_ s1.seed)).bind fun r5 =>
  withK (fun (x8 : Int) (x9 : Int) (l10 : List Over) =>
  some (l10, (L00Src.mk s1.code x8 x9))) fun (k12 : Int → Int → (List Over) → Option ((List Over) × L00Src)) =>
  (s_l00Src_pick (L00Src.mk s1.code r5.2.at_ r5.2.seed) 20).bind fun r14 =>
  bif (r14.1 == 0) then
  (s_l00Src_text (L00Src.mk s1.code r14.2.at_ r14.2.seed) [[], [97], [32]]).bind fun r18 =>
  (s_l00Src_text (L00Src.mk s1.code r18.2.at_ r18.2.seed) [[98], [98, 98]]).bind fun r21 =>
  (s_l00Src_text (L00Src.mk s1.code r21.2.at_ r21.2.seed) [[97], [98], [99]]).bind fun r24 =>
  (app r5.1 [(Over.mk r18.1 r21.1 r24.1)]).bind fun l27 =>
  k12 r24.2.at_ r24.2.seed l27
  else
  bif (r14.1 == 1) then
  bif decide ((List.length r5.1 : Int) > 0) then
  (idx r5.1 0).bind fun e32 =>
  (app r5.1 [e32]).bind fun l35 =>
  k12 r14.2.at_ r14.2.seed l35
  else
  k12 r14.2.at_ r14.2.seed r5.1
  else
  bif (r14.1 == 2) then
  (s_l00Src_pick (L00Src.mk s1.code r14.2.at_ r14.2.seed) 2).bind fun r40 =>
  s_l12Bent_l1 k12 r40 N [] (w64 (20 + r40.1))
  else
  k12 r14.2.at_ r14.2.seed r5.1

def s_DrawSeenOver (N : Nat) (code1 : List UInt8) : Option ((List Over) × Str × Str) :=
  (s_l00From code1).bind fun r4 =>
  (s_l12Bent N (L00Src.mk code1 r4.at_ r4.seed)).bind fun r7 =>
  (s_l00Src_text (L00Src.mk code1 r7.2.at_ r7.2.seed) [[99], [111], [73], [108], [45], [32], []]).bind fun r11 =>
  (s_l00Src_text (L00Src.mk code1 r11.2.at_ r11.2.seed) [[47], [45], [39], [124], [32], [127]]).bind fun r14 =>
  some (r7.1, r11.1, r14.1)

def i_isText_l1 (k5 : Option Bool) (s1 : Str) (low2 : UInt8) : Nat → Int → Option Bool
  | 0, _ => none
  | N + 1, x7 =>
    bif decide (x7 < (List.length s1 : Int)) then
    (idx s1 x7).bind fun c9 =>
    (orO (decide (c9 < low2)) ((idx s1 x7).bind fun c14 =>
    some (decide (c14 > (126 : UInt8))))).bind fun t11 =>
    bif t11 then
    some false
    else
    i_isText_l1 k5 s1 low2 N (w64 (x7 + 1))
    else
    k5 

def i_isText (N : Nat) (s1 : Str) (low2 : UInt8) (most3 : Int) : Option Bool :=
  bif decide ((List.length s1 : Int) > most3) then
  some false
  else
  withK (some true) fun (k5 : Option Bool) =>
  i_isText_l1 k5 s1 low2 N 0

def i_isLetter (N : Nat) (s1 : Str) : Option Bool :=
  (andO ((List.length s1 : Int) == 1) ((i_isText N s1 33 1).bind fun r5 =>
  some r5)).bind fun t2 =>
  some t2

def i_validOver (N : Nat) (x1 : Over) : Option Bool :=
  (i_isLetter N x1.under).bind fun r3 =>
  (andO r3 ((i_isLetter N x1.top).bind fun r8 =>
  some r8)).bind fun t5 =>
  (andO t5 ((i_isLetter N x1.seen).bind fun r13 =>
  some r13)).bind fun t10 =>
  (andO t10 (some (x1.under != x1.top))).bind fun t15 =>
  (andO t15 (some (x1.under != x1.seen))).bind fun t18 =>
  (andO t18 (some (x1.top != x1.seen))).bind fun t21 =>
  some t21

def i_ValidOvers_l2 (k10 : Option Bool) (e11 : Over) (l20 : List Over) : Nat → Int → Option Bool
  | 0, _ => none
  | N + 1, x25 =>
    bif decide (x25 < (List.length l20 : Int)) then
    (idx l20 x25).bind fun e27 =>
    (andO (e11.under == e27.under) (some (e11.top == e27.top))).bind fun t33 =>
    bif t33 then
    some false
    else
    i_ValidOvers_l2 k10 e11 l20 N (w64 (x25 + 1))
    else
    k10 

def i_ValidOvers_l1 (k5 : Option Bool) (rules1 : List Over) : Nat → Int → Option Bool
  | 0, _ => none
  | N + 1, x7 =>
    bif decide (x7 < (List.length rules1 : Int)) then
    withK (i_ValidOvers_l1 k5 rules1 N (w64 (x7 + 1))) fun (k10 : Option Bool) =>
    (idx rules1 x7).bind fun e11 =>
    (i_validOver N e11).bind fun r17 =>
    bif !r17 then
    some false
    else
    (sub rules1 0 x7).bind fun l20 =>
    i_ValidOvers_l2 k10 e11 l20 N 0
    else
    k5 

def i_ValidOvers (N : Nat) (rules1 : List Over) : Option Bool :=
  bif decide ((List.length rules1 : Int) > 20) then
  some false
  else
  withK (some true) fun (k5 : Option Bool) =>
  i_ValidOvers_l1 k5 rules1 N 0

def i_seen_l1 (k11 : Option (UInt8 × Bool)) (rules1 : List Over) (under4 : UInt8) (top5 : UInt8) : Nat → Int → Option (UInt8 × Bool)
  | 0, _ => none
  | N + 1, x13 =>
    bif decide (x13 < (List.length rules1 : Int)) then
    (idx rules1 x13).bind fun e15 =>
    (idx e15.under 0).bind fun c21 =>
    (andO (c21 == under4) ((idx e15.top 0).bind fun c26 =>
    some (c26 == top5))).bind fun t23 =>
    bif t23 then
    (idx e15.seen 0).bind fun c29 =>
    some (c29, true)
    else
    i_seen_l1 k11 rules1 under4 top5 N (w64 (x13 + 1))
    else
    k11 

def i_seen (N : Nat) (rules1 : List Over) (under4 : UInt8) (top5 : UInt8) : Option (UInt8 × Bool) :=
  (orO (under4 == top5) (some (top5 == (32 : UInt8)))).bind fun t6 =>
  bif t6 then
  some (under4, true)
  else
  bif (under4 == (32 : UInt8)) then
  some (top5, true)
  else
  withK (some (0, false)) fun (k11 : Option (UInt8 × Bool)) =>
  i_seen_l1 k11 rules1 under4 top5 N 0

def i_SeenOver (N : Nat) (rules1 : List Over) (under4 : Str) (top5 : Str) : Option (Str × Int) :=
  (i_ValidOvers N rules1).bind fun r6 =>
  bif !r6 then
  some ([], 1)
  else
  (orO ((List.length under4 : Int) != 1) (some ((List.length top5 : Int) != 1))).bind fun t9 =>
  (orO t9 ((cat under4 top5).bind fun s15 =>
  (i_isText N s15 32 2).bind fun r17 =>
  some (!r17))).bind fun t12 =>
  bif t12 then
  some ([], 2)
  else
  (idx under4 0).bind fun c20 =>
  (idx top5 0).bind fun c22 =>
  (i_seen N rules1 c20 c22).bind fun r24 =>
  bif !r24.2 then
  some ([], 3)
  else
  some ([r24.1], 0)

def s_l12Byte (s1 : Str) : Option Bool :=
  (andO ((List.length s1 : Int) == 1) ((idx s1 0).bind fun c5 =>
  some (decide (c5 ≥ (32 : UInt8))))).bind fun t2 =>
  (andO t2 ((idx s1 0).bind fun c10 =>
  some (decide (c10 < (127 : UInt8))))).bind fun t7 =>
  some t7

def s_l12Seen_l1 (k11 : Option UInt8) (rules1 : List Over) (under4 : UInt8) (top5 : UInt8) : Nat → Int → Option UInt8
  | 0, _ => none
  | N + 1, i13 =>
    bif decide (i13 < (List.length rules1 : Int)) then
    (idx rules1 i13).bind fun e15 =>
    (idx e15.under 0).bind fun c20 =>
    (andO (c20 == under4) ((idx rules1 i13).bind fun e25 =>
    (idx e25.top 0).bind fun c30 =>
    some (c30 == top5))).bind fun t22 =>
    bif t22 then
    (idx rules1 i13).bind fun e33 =>
    (idx e33.seen 0).bind fun c38 =>
    some c38
    else
    s_l12Seen_l1 k11 rules1 under4 top5 N (w64 (i13 + 1))
    else
    k11 

def s_l12Seen (N : Nat) (rules1 : List Over) (under4 : UInt8) (top5 : UInt8) : Option UInt8 :=
  (orO (under4 == top5) (some (top5 == (32 : UInt8)))).bind fun t6 =>
  bif t6 then
  some under4
  else
  bif (under4 == (32 : UInt8)) then
  some top5
  else
  withK (some 0) fun (k11 : Option UInt8) =>
  s_l12Seen_l1 k11 rules1 under4 top5 N 0

def s_SeenOver (N : Nat) (rules1 : List Over) (under4 : Str) (top5 : Str) : Option (Str × Int) :=
  (s_l12Ok N rules1).bind fun r6 =>
  bif !r6 then
  some ([], 1)
  else
  (s_l12Byte under4).bind fun r9 =>
  (orO (!r9) ((s_l12Byte top5).bind fun r14 =>
  some (!r14))).bind fun t11 =>
  bif t11 then
  some ([], 2)
  else
  (idx under4 0).bind fun c17 =>
  (idx top5 0).bind fun c19 =>
  (s_l12Seen N rules1 c17 c19).bind fun r21 =>
  bif (r21 == (0 : UInt8)) then
  some ([], 3)
  else
  some ([r21], 0)

def s_l00Src_one (s1 : L00Src) (n5 : Int) : Option (Bool × L00Src) :=
  (s_l00Src_pick (L00Src.mk s1.code s1.at_ s1.seed) n5).bind fun r6 =>
  some ((r6.1 == 0), (L00Src.mk s1.code r6.2.at_ r6.2.seed))

def s_l12DrawLine_l1 (k11 : (List UInt8) → Int → Int → Option (Str × L00Src)) (s1 : L00Src) (n5 : Int) : Nat → (List UInt8) → Int → Int → Int → Option (Str × L00Src)
  | 0, _, _, _, _ => none
  | N + 1, l13, x15, x16, k17 =>
    bif decide (k17 < n5) then
    (s_l00Src_pick (L00Src.mk s1.code x15 x16) 11).bind fun r19 =>
    (idx [99, 111, 32, 73, 108, 45, 48, 116, 33, 43, 113] r19.1).bind fun c21 =>
    (app l13 [c21]).bind fun l24 =>
    s_l12DrawLine_l1 k11 s1 n5 N l24 r19.2.at_ r19.2.seed (w64 (k17 + 1))
    else
    k11 l13 x15 x16

def s_l12DrawLine (N : Nat) (s1 : L00Src) (n5 : Int) : Option (Str × L00Src) :=
  withK (fun (l7 : List UInt8) (x9 : Int) (x10 : Int) =>
  some (l7, (L00Src.mk s1.code x9 x10))) fun (k11 : (List UInt8) → Int → Int → Option (Str × L00Src)) =>
  s_l12DrawLine_l1 k11 s1 n5 N [] s1.at_ s1.seed 0

def s_l12Near_l1 (k12 : Int → Int → (List UInt8) → Option (Str × L00Src)) (s1 : L00Src) : Nat → Int → Int → (List UInt8) → Int → Option (Str × L00Src)
  | 0, _, _, _, _ => none
  | N + 1, x16, x17, l18, k19 =>
    (andO (decide (k19 > 0)) (some (decide ((List.length l18 : Int) > 0)))).bind fun t20 =>
    bif t20 then
    (s_l00Src_pick (L00Src.mk s1.code x16 x17) (List.length l18 : Int)).bind fun r24 =>
    (s_l00Src_pick (L00Src.mk s1.code r24.2.at_ r24.2.seed) 11).bind fun r26 =>
    (idx [99, 111, 32, 73, 108, 45, 48, 116, 33, 43, 113] r26.1).bind fun c28 =>
    (idx l18 r24.1).bind fun e30 =>
    s_l12Near_l1 k12 s1 N r26.2.at_ r26.2.seed (List.set l18 (Int.toNat r24.1) c28) (w64 (k19 - 1))
    else
    k12 x16 x17 l18

def s_l12Near (N : Nat) (s1 : L00Src) (line5 : Str) : Option (Str × L00Src) :=
  (app ([] : Str) line5).bind fun l6 =>
  withK (fun (x9 : Int) (x10 : Int) (l11 : List UInt8) =>
  some (l11, (L00Src.mk s1.code x9 x10))) fun (k12 : Int → Int → (List UInt8) → Option (Str × L00Src)) =>
  (s_l00Src_pick (L00Src.mk s1.code s1.at_ s1.seed) 6).bind fun r14 =>
  s_l12Near_l1 k12 s1 N r14.2.at_ r14.2.seed l6 r14.1

def s_l12Two (N : Nat) (code1 : List UInt8) : Option ((List Over) × Str × Str) :=
  (s_l00From code1).bind fun r4 =>
  (s_l12Bent N (L00Src.mk code1 r4.at_ r4.seed)).bind fun r7 =>
  (s_l00Src_pick (L00Src.mk code1 r7.2.at_ r7.2.seed) 16).bind fun r10 =>
  withK (fun (x12 : Int) (x13 : Int) (n14 : Int) =>
  (s_l12DrawLine N (L00Src.mk code1 x12 x13) n14).bind fun r22 =>
  (s_l12Near N (L00Src.mk code1 r22.2.at_ r22.2.seed) r22.1).bind fun r24 =>
  withK (fun (typed26 : Str) (want27 : Str) =>
  some (r7.1, typed26, want27)) fun (k28 : Str → Str → Option ((List Over) × Str × Str)) =>
  (s_l00Src_pick (L00Src.mk code1 r24.2.at_ r24.2.seed) 16).bind fun r30 =>
  bif (r30.1 == 0) then
  (cat r24.1 [99]).bind fun s33 =>
  k28 r22.1 s33
  else
  bif (r30.1 == 1) then
  (cat r22.1 [127]).bind fun s36 =>
  (cat r24.1 [99]).bind fun s38 =>
  k28 s36 s38
  else
  k28 r22.1 r24.1) fun (k15 : Int → Int → Int → Option ((List Over) × Str × Str)) =>
  (s_l00Src_one (L00Src.mk code1 r10.2.at_ r10.2.seed) 20).bind fun r17 =>
  bif r17.1 then
  (s_l00Src_pick (L00Src.mk code1 r17.2.at_ r17.2.seed) 2).bind fun r20 =>
  k15 r20.2.at_ r20.2.seed (w64 (60 + r20.1))
  else
  k15 r17.2.at_ r17.2.seed r10.1

def s_DrawWrongPlaces (N : Nat) (code1 : List UInt8) : Option (Str × Str) :=
  (s_l12Two N code1).bind fun r4 =>
  some (r4.2.1, r4.2.2)

def i_isCorrectLine (N : Nat) (s1 : Str) : Option Bool :=
  (i_isText N s1 32 60).bind fun r2 =>
  some r2

def i_byteAt (line1 : Str) (at2 : Int) : Option UInt8 :=
  (orO (decide (at2 < 0)) (some (decide (at2 ≥ (List.length line1 : Int))))).bind fun t3 =>
  bif t3 then
  some 32
  else
  (idx line1 at2).bind fun c7 =>
  some c7

def i_WrongPlaces_l1 (k14 : (List Int) → Option ((List Int) × Int)) (typed1 : Str) (want2 : Str) : Nat → (List Int) → Int → Option ((List Int) × Int)
  | 0, _, _ => none
  | N + 1, l16, x18 =>
    bif decide (x18 < 60) then
    withK (fun (l20 : List Int) =>
    i_WrongPlaces_l1 k14 typed1 want2 N l20 (w64 (x18 + 1))) fun (k23 : (List Int) → Option ((List Int) × Int)) =>
    (i_byteAt typed1 x18).bind fun r24 =>
    (i_byteAt want2 x18).bind fun r26 =>
    bif (r24 != r26) then
    (app l16 [x18]).bind fun l30 =>
    k23 l30
    else
    k23 l16
    else
    k14 l16

def i_WrongPlaces (N : Nat) (typed1 : Str) (want2 : Str) : Option ((List Int) × Int) :=
  (i_isCorrectLine N typed1).bind fun r3 =>
  (orO (!r3) ((i_isCorrectLine N want2).bind fun r8 =>
  some (!r8))).bind fun t5 =>
  bif t5 then
  some ([], 2)
  else
  withK (fun (l12 : List Int) =>
  some (l12, 0)) fun (k14 : (List Int) → Option ((List Int) × Int)) =>
  i_WrongPlaces_l1 k14 typed1 want2 N [] 0

def s_l00Text_l1 (k3 : Option Bool) (s1 : Str) : Nat → Int → Option Bool
  | 0, _ => none
  | N + 1, i5 =>
    bif decide (i5 < (List.length s1 : Int)) then
    (idx s1 i5).bind fun c7 =>
    (orO (decide (c7 < (32 : UInt8))) ((idx s1 i5).bind fun c12 =>
    some (decide (c12 > (126 : UInt8))))).bind fun t9 =>
    bif t9 then
    some false
    else
    s_l00Text_l1 k3 s1 N (w64 (i5 + 1))
    else
    k3 

def s_l00Text (N : Nat) (s1 : Str) (most2 : Int) : Option Bool :=
  withK (some (decide ((List.length s1 : Int) ≤ most2))) fun (k3 : Option Bool) =>
  s_l00Text_l1 k3 s1 N 0

def s_l12Line (N : Nat) (s1 : Str) : Option Bool :=
  (s_l00Text N s1 60).bind fun r2 =>
  some r2

def s_l00In (n1 : Int) (low2 : Int) (high3 : Int) : Option Bool :=
  (andO (decide (n1 ≥ low2)) (some (decide (n1 ≤ high3)))).bind fun t4 =>
  some t4

def s_l12At (s1 : Str) (at2 : Int) : Option UInt8 :=
  (s_l00In at2 0 (w64 ((List.length s1 : Int) - 1))).bind fun r3 =>
  bif !r3 then
  some 32
  else
  (idx s1 at2).bind fun c6 =>
  some c6

def s_WrongPlaces_l1 (k14 : (List Int) → Option ((List Int) × Int)) (typed1 : Str) (want2 : Str) : Nat → (List Int) → Int → Option ((List Int) × Int)
  | 0, _, _ => none
  | N + 1, l16, at18 =>
    bif decide (at18 < 60) then
    withK (fun (l20 : List Int) =>
    s_WrongPlaces_l1 k14 typed1 want2 N l20 (w64 (at18 + 1))) fun (k23 : (List Int) → Option ((List Int) × Int)) =>
    (s_l12At typed1 at18).bind fun r24 =>
    (s_l12At want2 at18).bind fun r26 =>
    bif (r24 != r26) then
    (app l16 [at18]).bind fun l30 =>
    k23 l30
    else
    k23 l16
    else
    k14 l16

def s_WrongPlaces (N : Nat) (typed1 : Str) (want2 : Str) : Option ((List Int) × Int) :=
  (s_l12Line N typed1).bind fun r3 =>
  (orO (!r3) ((s_l12Line N want2).bind fun r8 =>
  some (!r8))).bind fun t5 =>
  bif t5 then
  some ([], 2)
  else
  withK (fun (l12 : List Int) =>
  some (l12, 0)) fun (k14 : (List Int) → Option ((List Int) × Int)) =>
  s_WrongPlaces_l1 k14 typed1 want2 N [] 0

def s_l00Src_among (s1 : L00Src) (list5 : List Int) : Option (Int × L00Src) :=
  (s_l00Src_pick (L00Src.mk s1.code s1.at_ s1.seed) (List.length list5 : Int)).bind fun r8 =>
  (idx list5 r8.1).bind fun e10 =>
  some (e10, (L00Src.mk s1.code r8.2.at_ r8.2.seed))

def s_DrawShiftedMatch (N : Nat) (code1 : List UInt8) : Option (Str × Str × Int) :=
  (s_l12Two N code1).bind fun r4 =>
  (s_l00From code1).bind fun r7 =>
  withK (fun (x10 : Int) (x11 : Int) (want12 : Str) =>
  (s_l00Src_one (L00Src.mk code1 x10 x11) 10).bind fun r25 =>
  bif r25.1 then
  (s_l00Src_among (L00Src.mk code1 r25.2.at_ r25.2.seed) [(-1), 0, 60, 61]).bind fun r29 =>
  some (r4.2.1, want12, r29.1)
  else
  (s_l00Src_pick (L00Src.mk code1 r25.2.at_ r25.2.seed) 5).bind fun r31 =>
  some (r4.2.1, want12, r31.1)) fun (k13 : Int → Int → Str → Option (Str × Str × Int)) =>
  (s_l00Src_one (L00Src.mk code1 r7.at_ r7.seed) 2).bind fun r15 =>
  (andO r15.1 (some (decide ((List.length r4.2.2 : Int) > 3)))).bind fun t17 =>
  bif t17 then
  (s_l00Src_pick (L00Src.mk code1 r15.2.at_ r15.2.seed) 3).bind fun r21 =>
  (sub r4.2.2 r21.1 (List.length r4.2.2 : Int)).bind fun s23 =>
  k13 r21.2.at_ r21.2.seed s23
  else
  k13 r15.2.at_ r15.2.seed r4.2.2

def i_between (n1 : Int) (low2 : Int) (high3 : Int) : Option Bool :=
  (andO (decide (n1 ≥ low2)) (some (decide (n1 ≤ high3)))).bind fun t4 =>
  some t4

def i_ShiftedMatch_l2 (k36 : Int → Option (Int × Int × Int)) (typed1 : Str) (want2 : Str) (shift29 : Int) : Nat → Int → Int → Option (Int × Int × Int)
  | 0, _, _ => none
  | N + 1, differ36, at37 =>
    bif decide (at37 < 120) then
    withK (fun (differ39 : Int) =>
    i_ShiftedMatch_l2 k36 typed1 want2 shift29 N differ39 (w64 (at37 + 1))) fun (k43 : Int → Option (Int × Int × Int)) =>
    (i_byteAt typed1 (w64 (at37 - shift29))).bind fun r42 =>
    (i_byteAt want2 at37).bind fun r44 =>
    bif (r42 != r44) then
    k43 (w64 (differ36 + 1))
    else
    k43 differ36
    else
    k36 differ36

def i_ShiftedMatch_l1 (k19 : Int → Int → Option (Int × Int × Int)) (typed1 : Str) (want2 : Str) (most3 : Int) : Nat → Int → Int → Int → Option (Int × Int × Int)
  | 0, _, _, _ => none
  | N + 1, best21, least22, x23 =>
    bif decide (x23 < (w64 ((w64 (2 * most3)) + 1))) then
    withK (fun (best25 : Int) (least26 : Int) =>
    i_ShiftedMatch_l1 k19 typed1 want2 most3 N best25 least26 (w64 (x23 + 1))) fun (k28 : Int → Int → Option (Int × Int × Int)) =>
    withK (fun (shift29 : Int) =>
    withK (fun (differ33 : Int) =>
    (orO (decide (least22 < 0)) (some (decide (differ33 < least22)))).bind fun t47 =>
    bif t47 then
    k28 shift29 differ33
    else
    k28 best21 least22) fun (k36 : Int → Option (Int × Int × Int)) =>
    i_ShiftedMatch_l2 k36 typed1 want2 shift29 N 0 (-60)) fun (k32 : Int → Option (Int × Int × Int)) =>
    bif ((Int.tmod x23 2) == 1) then
    k32 (w64 (Int.tdiv (w64 (0 - (w64 (x23 + 1)))) 2))
    else
    k32 (w64 (Int.tdiv x23 2))
    else
    k19 best21 least22

def i_ShiftedMatch (N : Nat) (typed1 : Str) (want2 : Str) (most3 : Int) : Option (Int × Int × Int) :=
  (i_isCorrectLine N typed1).bind fun r4 =>
  (orO (!r4) ((i_isCorrectLine N want2).bind fun r9 =>
  some (!r9))).bind fun t6 =>
  (orO t6 ((i_between most3 0 60).bind fun r14 =>
  some (!r14))).bind fun t11 =>
  bif t11 then
  some (0, 0, 2)
  else
  withK (fun (best17 : Int) (least18 : Int) =>
  some (best17, least18, 0)) fun (k19 : Int → Int → Option (Int × Int × Int)) =>
  i_ShiftedMatch_l1 k19 typed1 want2 most3 N 0 (-1) 0

def s_l12Wrong_l1 (k5 : Int → Option Int) (typed1 : Str) (want2 : Str) (shift3 : Int) : Nat → Int → Int → Option Int
  | 0, _, _ => none
  | N + 1, n7, at8 =>
    bif decide (at8 < 120) then
    withK (fun (n10 : Int) =>
    s_l12Wrong_l1 k5 typed1 want2 shift3 N n10 (w64 (at8 + 1))) fun (k12 : Int → Option Int) =>
    (s_l12At typed1 (w64 (at8 - shift3))).bind fun r13 =>
    (s_l12At want2 at8).bind fun r15 =>
    bif (r13 != r15) then
    k12 (w64 (n7 + 1))
    else
    k12 n7
    else
    k5 n7

def s_l12Wrong (N : Nat) (typed1 : Str) (want2 : Str) (shift3 : Int) : Option Int :=
  withK (fun (n4 : Int) =>
  some n4) fun (k5 : Int → Option Int) =>
  s_l12Wrong_l1 k5 typed1 want2 shift3 N 0 (-60)

def s_ShiftedMatch_l2 (k30 : Int → Int → Option (Int × Int × Int)) (typed1 : Str) (want2 : Str) (k25 : Int) : Nat → Int → Int → Int → Option (Int × Int × Int)
  | 0, _, _, _ => none
  | N + 1, best31, least32, sign33 =>
    bif decide (sign33 ≤ 1) then
    withK (fun (best35 : Int) (least36 : Int) =>
    s_ShiftedMatch_l2 k30 typed1 want2 k25 N best35 least36 (w64 (sign33 + 2))) fun (k39 : Int → Int → Option (Int × Int × Int)) =>
    (s_l12Wrong N typed1 want2 (w64 (sign33 * k25))).bind fun r39 =>
    bif decide (r39 < least32) then
    k39 (w64 (sign33 * k25)) r39
    else
    k39 best31 least32
    else
    k30 best31 least32

def s_ShiftedMatch_l1 (k21 : Int → Int → Option (Int × Int × Int)) (typed1 : Str) (want2 : Str) (most3 : Int) : Nat → Int → Int → Int → Option (Int × Int × Int)
  | 0, _, _, _ => none
  | N + 1, best23, least24, k25 =>
    bif decide (k25 ≤ most3) then
    withK (fun (best27 : Int) (least28 : Int) =>
    s_ShiftedMatch_l1 k21 typed1 want2 most3 N best27 least28 (w64 (k25 + 1))) fun (k30 : Int → Int → Option (Int × Int × Int)) =>
    s_ShiftedMatch_l2 k30 typed1 want2 k25 N best23 least24 (-1)
    else
    k21 best23 least24

def s_ShiftedMatch (N : Nat) (typed1 : Str) (want2 : Str) (most3 : Int) : Option (Int × Int × Int) :=
  (s_l12Line N typed1).bind fun r4 =>
  (orO (!r4) ((s_l12Line N want2).bind fun r9 =>
  some (!r9))).bind fun t6 =>
  (orO t6 ((s_l00In most3 0 60).bind fun r14 =>
  some (!r14))).bind fun t11 =>
  bif t11 then
  some (0, 0, 2)
  else
  (s_l12Wrong N typed1 want2 0).bind fun r17 =>
  withK (fun (best19 : Int) (least20 : Int) =>
  some (best19, least20, 0)) fun (k21 : Int → Int → Option (Int × Int × Int)) =>
  s_ShiftedMatch_l1 k21 typed1 want2 most3 N 0 r17 1

def s_l12DrawPlan_l1 (k22 : Int → Int → (List UInt8) → Option (Str × L00Src)) (s1 : L00Src) : Nat → Int → Int → (List UInt8) → Int → Option (Str × L00Src)
  | 0, _, _, _, _ => none
  | N + 1, x24, x25, l26, k28 =>
    bif decide (k28 > 0) then
    (s_l00Src_pick (L00Src.mk s1.code x24 x25) 4).bind fun r30 =>
    (idx [46, 43, 35, 35] r30.1).bind fun c32 =>
    (app l26 [c32]).bind fun l35 =>
    s_l12DrawPlan_l1 k22 s1 N r30.2.at_ r30.2.seed l35 (w64 (k28 - 1))
    else
    k22 x24 x25 l26

def s_l12DrawPlan (N : Nat) (s1 : L00Src) : Option (Str × L00Src) :=
  (s_l00Src_pick (L00Src.mk s1.code s1.at_ s1.seed) 12).bind fun r6 =>
  withK (fun (x8 : Int) (x9 : Int) (n10 : Int) =>
  withK (fun (x18 : Int) (x19 : Int) (l20 : List UInt8) =>
  withK (fun (x38 : Int) (x39 : Int) (l40 : List UInt8) =>
  some (l40, (L00Src.mk s1.code x38 x39))) fun (k41 : Int → Int → (List UInt8) → Option (Str × L00Src)) =>
  (bif decide (n10 > 0) then (s_l00Src_one (L00Src.mk s1.code x18 x19) 16).bind fun r47 =>
  some (r47.1, (L00Src.mk s1.code r47.2.at_ r47.2.seed)) else some (false, (L00Src.mk s1.code x18 x19))).bind fun x45 =>
  bif x45.1 then
  (idx l20 0).bind fun e50 =>
  k41 x45.2.at_ x45.2.seed (List.set l20 (Int.toNat 0) 120)
  else
  k41 x45.2.at_ x45.2.seed l20) fun (k22 : Int → Int → (List UInt8) → Option (Str × L00Src)) =>
  s_l12DrawPlan_l1 k22 s1 N x8 x9 [] n10) fun (k11 : Int → Int → Int → Option (Str × L00Src)) =>
  (s_l00Src_one (L00Src.mk s1.code r6.2.at_ r6.2.seed) 20).bind fun r13 =>
  bif r13.1 then
  (s_l00Src_pick (L00Src.mk s1.code r13.2.at_ r13.2.seed) 2).bind fun r16 =>
  k11 r16.2.at_ r16.2.seed (w64 (60 + r16.1))
  else
  k11 r13.2.at_ r13.2.seed r6.1

def s_DrawWornPlaces_l1 (k22 : (List Str) → Option (List Str)) (code1 : List UInt8) : Nat → Int → Int → (List Str) → Int → Option (List Str)
  | 0, _, _, _, _ => none
  | N + 1, x24, x25, l26, k28 =>
    bif decide (k28 > 0) then
    (s_l12DrawPlan N (L00Src.mk code1 x24 x25)).bind fun r30 =>
    (app l26 [r30.1]).bind fun l33 =>
    s_DrawWornPlaces_l1 k22 code1 N r30.2.at_ r30.2.seed l33 (w64 (k28 - 1))
    else
    k22 l26

def s_DrawWornPlaces (N : Nat) (code1 : List UInt8) : Option (List Str) :=
  (s_l00From code1).bind fun r4 =>
  (s_l00Src_pick (L00Src.mk code1 r4.at_ r4.seed) 9).bind fun r8 =>
  withK (fun (x10 : Int) (x11 : Int) (n12 : Int) =>
  withK (fun (l20 : List Str) =>
  some l20) fun (k22 : (List Str) → Option (List Str)) =>
  s_DrawWornPlaces_l1 k22 code1 N x10 x11 [] n12) fun (k13 : Int → Int → Int → Option (List Str)) =>
  (s_l00Src_one (L00Src.mk code1 r8.2.at_ r8.2.seed) 20).bind fun r15 =>
  bif r15.1 then
  (s_l00Src_pick (L00Src.mk code1 r15.2.at_ r15.2.seed) 2).bind fun r18 =>
  k13 r18.2.at_ r18.2.seed (w64 (20 + r18.1))
  else
  k13 r15.2.at_ r15.2.seed r8.1

def i_isPlan_l1 (k2 : Option Bool) (plan1 : Str) : Nat → Int → Option Bool
  | 0, _ => none
  | N + 1, x4 =>
    bif decide (x4 < (List.length plan1 : Int)) then
    (idx plan1 x4).bind fun c6 =>
    (andO (c6 != (46 : UInt8)) ((idx plan1 x4).bind fun c11 =>
    some (c11 != (43 : UInt8)))).bind fun t8 =>
    (andO t8 ((idx plan1 x4).bind fun c16 =>
    some (c16 != (35 : UInt8)))).bind fun t13 =>
    bif t13 then
    some false
    else
    i_isPlan_l1 k2 plan1 N (w64 (x4 + 1))
    else
    k2 

def i_isPlan (N : Nat) (plan1 : Str) : Option Bool :=
  withK (some (decide ((List.length plan1 : Int) ≤ 60))) fun (k2 : Option Bool) =>
  i_isPlan_l1 k2 plan1 N 0

def i_WornPlaces_l1 (k4 : Option ((List Int) × Int)) (plans1 : List Str) : Nat → Int → Option ((List Int) × Int)
  | 0, _ => none
  | N + 1, x6 =>
    bif decide (x6 < (List.length plans1 : Int)) then
    (idx plans1 x6).bind fun e8 =>
    (i_isPlan N e8).bind fun r13 =>
    bif !r13 then
    some ([], 7)
    else
    i_WornPlaces_l1 k4 plans1 N (w64 (x6 + 1))
    else
    k4 

def i_WornPlaces_l3 (k26 : (List Int) → Option ((List Int) × Int)) (e27 : Str) : Nat → (List Int) → Int → Option ((List Int) × Int)
  | 0, _, _ => none
  | N + 1, l32, x33 =>
    bif decide (x33 < (List.length e27 : Int)) then
    withK (fun (l35 : List Int) =>
    i_WornPlaces_l3 k26 e27 N l35 (w64 (x33 + 1))) fun (k38 : (List Int) → Option ((List Int) × Int)) =>
    (idx e27 x33).bind fun c38 =>
    bif (c38 == (35 : UInt8)) then
    (idx l32 x33).bind fun e41 =>
    (idx l32 x33).bind fun e43 =>
    k38 (List.set l32 (Int.toNat x33) (w64 (e41 + 1)))
    else
    k38 l32
    else
    k26 l32

def i_WornPlaces_l2 (k19 : (List Int) → Option ((List Int) × Int)) (plans1 : List Str) : Nat → (List Int) → Int → Option ((List Int) × Int)
  | 0, _, _ => none
  | N + 1, l21, x22 =>
    bif decide (x22 < (List.length plans1 : Int)) then
    withK (fun (l24 : List Int) =>
    i_WornPlaces_l2 k19 plans1 N l24 (w64 (x22 + 1))) fun (k26 : (List Int) → Option ((List Int) × Int)) =>
    (idx plans1 x22).bind fun e27 =>
    i_WornPlaces_l3 k26 e27 N l21 0
    else
    k19 l21

def i_WornPlaces_l4 (k48 : (List Int) → Option ((List Int) × Int)) (l18 : List Int) : Nat → (List Int) → Int → Option ((List Int) × Int)
  | 0, _, _ => none
  | N + 1, l50, x52 =>
    bif decide (x52 < 60) then
    withK (fun (l54 : List Int) =>
    i_WornPlaces_l4 k48 l18 N l54 (w64 (x52 + 1))) fun (k57 : (List Int) → Option ((List Int) × Int)) =>
    (idxA 60 l18 x52).bind fun e58 =>
    bif decide (e58 > 3) then
    (app l50 [x52]).bind fun l62 =>
    k57 l62
    else
    k57 l50
    else
    k48 l50

def i_WornPlaces (N : Nat) (plans1 : List Str) : Option ((List Int) × Int) :=
  withK (bif decide ((List.length plans1 : Int) > 20) then
  some ([], 2)
  else
  withK (fun (l18 : List Int) =>
  withK (fun (l46 : List Int) =>
  some (l46, 0)) fun (k48 : (List Int) → Option ((List Int) × Int)) =>
  i_WornPlaces_l4 k48 l18 N [] 0) fun (k19 : (List Int) → Option ((List Int) × Int)) =>
  i_WornPlaces_l2 k19 plans1 N (List.replicate 60 (0 : Int)) 0) fun (k4 : Option ((List Int) × Int)) =>
  i_WornPlaces_l1 k4 plans1 N 0

def s_l12IsPlan_l1 (k2 : Option Bool) (plan1 : Str) : Nat → Int → Option Bool
  | 0, _ => none
  | N + 1, i4 =>
    bif decide (i4 < (List.length plan1 : Int)) then
    (idx plan1 i4).bind fun c6 =>
    (andO (c6 != (46 : UInt8)) ((idx plan1 i4).bind fun c11 =>
    some (c11 != (43 : UInt8)))).bind fun t8 =>
    (andO t8 ((idx plan1 i4).bind fun c16 =>
    some (c16 != (35 : UInt8)))).bind fun t13 =>
    bif t13 then
    some false
    else
    s_l12IsPlan_l1 k2 plan1 N (w64 (i4 + 1))
    else
    k2 

def s_l12IsPlan (N : Nat) (plan1 : Str) : Option Bool :=
  withK (some (decide ((List.length plan1 : Int) ≤ 60))) fun (k2 : Option Bool) =>
  s_l12IsPlan_l1 k2 plan1 N 0

def s_WornPlaces_l1 (k4 : Option ((List Int) × Int)) (plans1 : List Str) : Nat → Int → Option ((List Int) × Int)
  | 0, _ => none
  | N + 1, i6 =>
    bif decide (i6 < (List.length plans1 : Int)) then
    (idx plans1 i6).bind fun e8 =>
    (s_l12IsPlan N e8).bind fun r13 =>
    bif !r13 then
    some ([], 7)
    else
    s_WornPlaces_l1 k4 plans1 N (w64 (i6 + 1))
    else
    k4 

def s_WornPlaces_l3 (k33 : Int → Option ((List Int) × Int)) (plans1 : List Str) (at24 : Int) : Nat → Int → Int → Option ((List Int) × Int)
  | 0, _, _ => none
  | N + 1, n33, i34 =>
    bif decide (i34 < (List.length plans1 : Int)) then
    withK (fun (n36 : Int) =>
    s_WornPlaces_l3 k33 plans1 at24 N n36 (w64 (i34 + 1))) fun (k40 : Int → Option ((List Int) × Int)) =>
    (idx plans1 i34).bind fun e39 =>
    (andO (decide (at24 < (List.length e39 : Int))) ((idx plans1 i34).bind fun e47 =>
    (idx e47 at24).bind fun c52 =>
    some (c52 == (35 : UInt8)))).bind fun t44 =>
    bif t44 then
    k40 (w64 (n33 + 1))
    else
    k40 n33
    else
    k33 n33

def s_WornPlaces_l2 (k20 : (List Int) → Option ((List Int) × Int)) (plans1 : List Str) : Nat → (List Int) → Int → Option ((List Int) × Int)
  | 0, _, _ => none
  | N + 1, l22, at24 =>
    bif decide (at24 < 60) then
    withK (fun (l26 : List Int) =>
    s_WornPlaces_l2 k20 plans1 N l26 (w64 (at24 + 1))) fun (k29 : (List Int) → Option ((List Int) × Int)) =>
    withK (fun (n30 : Int) =>
    bif decide (n30 > 3) then
    (app l22 [at24]).bind fun l57 =>
    k29 l57
    else
    k29 l22) fun (k33 : Int → Option ((List Int) × Int)) =>
    s_WornPlaces_l3 k33 plans1 at24 N 0 0
    else
    k20 l22

def s_WornPlaces (N : Nat) (plans1 : List Str) : Option ((List Int) × Int) :=
  withK (bif decide ((List.length plans1 : Int) > 20) then
  some ([], 2)
  else
  withK (fun (l18 : List Int) =>
  some (l18, 0)) fun (k20 : (List Int) → Option ((List Int) × Int)) =>
  s_WornPlaces_l2 k20 plans1 N [] 0) fun (k4 : Option ((List Int) × Int)) =>
  s_WornPlaces_l1 k4 plans1 N 0

def s_DrawOverText (code1 : List UInt8) : Option Over :=
  (s_l00From code1).bind fun r5 =>
  (s_l00Src_text (L00Src.mk code1 r5.at_ r5.seed) [[99], [111], [32], []]).bind fun r9 =>
  (s_l00Src_text (L00Src.mk code1 r9.2.at_ r9.2.seed) [[47], [45], [45, 45]]).bind fun r13 =>
  (s_l00Src_text (L00Src.mk code1 r13.2.at_ r13.2.seed) [[48], [99], [47]]).bind fun r16 =>
  some (Over.mk ((Over.mk r9.1 [] []).under) r13.1 r16.1)

def i_OverText (N : Nat) (x1 : Over) : Option Str :=
  (i_validOver N x1).bind fun r3 =>
  bif !r3 then
  some []
  else
  (cat x1.under [60]).bind fun s6 =>
  (cat s6 x1.top).bind fun s8 =>
  (cat s8 [61]).bind fun s10 =>
  (cat s10 x1.seen).bind fun s12 =>
  some s12

def i_ReadOver (N : Nat) (s1 : Str) : Option (Over × Bool) :=
  (orO ((List.length s1 : Int) != 5) ((idx s1 1).bind fun c6 =>
  some (c6 != (60 : UInt8)))).bind fun t3 =>
  (orO t3 ((idx s1 3).bind fun c11 =>
  some (c11 != (61 : UInt8)))).bind fun t8 =>
  bif t8 then
  some ((Over.mk [] [] []), false)
  else
  (sub s1 0 1).bind fun s14 =>
  (sub s1 2 3).bind fun s16 =>
  (sub s1 4 (List.length s1 : Int)).bind fun s18 =>
  (i_validOver N (Over.mk s14 s16 s18)).bind fun r21 =>
  bif !r21 then
  some ((Over.mk [] [] []), false)
  else
  some ((Over.mk s14 s16 s18), true)

def s_l01Spoil (s1 : L00Src) (t5 : Str) : Option (Str × L00Src) :=
  withK (fun (x6 : Int) (x7 : Int) (t8 : Str) =>
  some (t8, (L00Src.mk s1.code x6 x7))) fun (k9 : Int → Int → Str → Option (Str × L00Src)) =>
  (s_l00Src_pick (L00Src.mk s1.code s1.at_ s1.seed) 5).bind fun r11 =>
  bif (r11.1 == 0) then
  (s_l00Src_pick (L00Src.mk s1.code r11.2.at_ r11.2.seed) (w64 ((List.length t5 : Int) + 1))).bind fun r14 =>
  (sub t5 0 r14.1).bind fun s16 =>
  (s_l00Src_text (L00Src.mk s1.code r14.2.at_ r14.2.seed) [[32], [48], [45], [120], [49], [57], [46]]).bind fun r19 =>
  (cat s16 r19.1).bind fun s21 =>
  (sub t5 r14.1 (List.length t5 : Int)).bind fun s23 =>
  (cat s21 s23).bind fun s25 =>
  k9 r19.2.at_ r19.2.seed s25
  else
  bif (r11.1 == 1) then
  bif (t5 != []) then
  (s_l00Src_pick (L00Src.mk s1.code r11.2.at_ r11.2.seed) (List.length t5 : Int)).bind fun r29 =>
  (sub t5 0 r29.1).bind fun s31 =>
  (sub t5 (w64 (r29.1 + 1)) (List.length t5 : Int)).bind fun s33 =>
  (cat s31 s33).bind fun s35 =>
  k9 r29.2.at_ r29.2.seed s35
  else
  k9 r11.2.at_ r11.2.seed t5
  else
  k9 r11.2.at_ r11.2.seed t5

def s_DrawReadOver (code1 : List UInt8) : Option Str :=
  (s_l00From code1).bind fun r4 =>
  (s_l00Src_text (L00Src.mk code1 r4.at_ r4.seed) [[99, 60, 47, 61, 48], [111, 60, 45, 61, 116], [97, 60, 98, 61, 97], [60, 60, 61, 61, 61]]).bind fun r8 =>
  (s_l00Src_one (L00Src.mk code1 r8.2.at_ r8.2.seed) 3).bind fun r10 =>
  bif r10.1 then
  (s_l01Spoil (L00Src.mk code1 r10.2.at_ r10.2.seed) r8.1).bind fun r13 =>
  some r13.1
  else
  some r8.1

def s_ReadOver (s1 : Str) : Option (Over × Bool) :=
  (orO ((List.length s1 : Int) != 5) ((idx s1 1).bind fun c6 =>
  some (c6 != (60 : UInt8)))).bind fun t3 =>
  (orO t3 ((idx s1 3).bind fun c11 =>
  some (c11 != (61 : UInt8)))).bind fun t8 =>
  bif t8 then
  some ((Over.mk [] [] []), false)
  else
  (sub s1 0 1).bind fun s14 =>
  (sub s1 2 3).bind fun s16 =>
  (sub s1 4 (List.length s1 : Int)).bind fun s18 =>
  (s_l12One (Over.mk ((Over.mk s14 s16 s18).under) ((Over.mk s14 s16 s18).top) ((Over.mk s14 s16 s18).seen))).bind fun r21 =>
  bif !r21 then
  some ((Over.mk [] [] []), false)
  else
  some ((Over.mk s14 s16 s18), true)

def w_f6ints_l1 (k8 : Option Bool) (a1 : List Int) (b4 : List Int) : Nat → Int → Option Bool
  | 0, _ => none
  | N + 1, i10 =>
    bif decide (i10 < (List.length a1 : Int)) then
    (idx a1 i10).bind fun e12 =>
    (idx b4 i10).bind fun e17 =>
    bif (e12 != e17) then
    some false
    else
    w_f6ints_l1 k8 a1 b4 N (w64 (i10 + 1))
    else
    k8 

def w_f6ints (N : Nat) (a1 : List Int) (b4 : List Int) : Option Bool :=
  bif ((List.length a1 : Int) != (List.length b4 : Int)) then
  some false
  else
  withK (some true) fun (k8 : Option Bool) =>
  w_f6ints_l1 k8 a1 b4 N 0

def s_OverText (x1 : Over) : Option Str :=
  (s_l12One (Over.mk x1.under x1.top x1.seen)).bind fun r3 =>
  bif !r3 then
  some []
  else
  (cat x1.under [60]).bind fun s6 =>
  (cat s6 x1.top).bind fun s8 =>
  (cat s8 [61]).bind fun s10 =>
  (cat s10 x1.seen).bind fun s12 =>
  some s12

def w_FnSeenLetters_l1 (k126 : Int → Option Bool) (r14 : Str × Str) : Nat → Int → Int → Option Bool
  | 0, _, _ => none
  | N + 1, count127, i128 =>
    bif decide (i128 < (List.length r14.1 : Int)) then
    withK (fun (count130 : Int) =>
    w_FnSeenLetters_l1 k126 r14 N count130 (w64 (i128 + 1))) fun (k133 : Int → Option Bool) =>
    (idx r14.1 i128).bind fun c133 =>
    (idx r14.2 i128).bind fun c135 =>
    bif (c133 != c135) then
    k133 (w64 (count127 + 1))
    else
    k133 count127
    else
    k126 count127

def w_FnSeenLetters (N : Nat) (code1 : List UInt8) : Option Bool :=
  (w_f6big code1).bind fun r4 =>
  bif r4 then
  some true
  else
  (s_DrawSeenOver N code1).bind fun r7 =>
  (i_SeenOver N r7.1 r7.2.1 r7.2.2).bind fun r10 =>
  (s_SeenOver N r7.1 r7.2.1 r7.2.2).bind fun r12 =>
  (s_DrawWrongPlaces N code1).bind fun r14 =>
  (i_WrongPlaces N r14.1 r14.2).bind fun r16 =>
  (s_WrongPlaces N r14.1 r14.2).bind fun r19 =>
  (s_DrawShiftedMatch N code1).bind fun r22 =>
  (i_ShiftedMatch N r22.1 r22.2.1 r22.2.2).bind fun r24 =>
  (s_ShiftedMatch N r22.1 r22.2.1 r22.2.2).bind fun r26 =>
  (s_DrawWornPlaces N code1).bind fun r28 =>
  (i_WornPlaces N r28).bind fun r31 =>
  (s_WornPlaces N r28).bind fun r34 =>
  (s_DrawOverText code1).bind fun r37 =>
  (i_OverText N r37).bind fun r40 =>
  (i_ReadOver N r40).bind fun r42 =>
  (s_DrawReadOver code1).bind fun r45 =>
  (i_ReadOver N r45).bind fun r47 =>
  (s_ReadOver r45).bind fun r50 =>
  (orO (r10.2 != r12.2) (some (r10.1 != r12.1))).bind fun t53 =>
  (orO t53 (some (r16.2 != r19.2))).bind fun t56 =>
  (orO t56 ((w_f6ints N r16.1 r19.1).bind fun r62 =>
  some (!r62))).bind fun t59 =>
  (orO t59 (some (r24.2.2 != r26.2.2))).bind fun t64 =>
  (orO t64 (some (r24.1 != r26.1))).bind fun t67 =>
  (orO t67 (some (r24.2.1 != r26.2.1))).bind fun t70 =>
  (orO t70 (some (r31.2 != r34.2))).bind fun t73 =>
  (orO t73 ((w_f6ints N r31.1 r34.1).bind fun r79 =>
  some (!r79))).bind fun t76 =>
  (orO t76 ((s_OverText r37).bind fun r84 =>
  some (r40 != r84))).bind fun t81 =>
  (orO t81 (some (r42.2 != (r40 != [])))).bind fun t86 =>
  (orO t86 ((andO r42.2 (some (!(Over.beq r42.1 r37)))).bind fun t92 =>
  some t92)).bind fun t89 =>
  (orO t89 (some (r47.2 != r50.2))).bind fun t95 =>
  (orO t95 (some (!(Over.beq r47.1 r50.1)))).bind fun t98 =>
  bif t98 then
  some false
  else
  withK (withK ((orO (r10.2 == 1) (some (r10.2 == 2))).bind fun t139 =>
  bif t139 then
  some true
  else
  (i_SeenOver N r7.1 r7.2.1 r7.2.1).bind fun r143 =>
  (i_SeenOver N r7.1 [32] r7.2.2).bind fun r145 =>
  (andO (r143.2 == 0) (some (r143.1 == r7.2.1))).bind fun t147 =>
  (andO t147 (some (r145.2 == 0))).bind fun t150 =>
  (andO t150 (some (r145.1 == r7.2.2))).bind fun t153 =>
  some t153) fun (k118 : Option Bool) =>
  (andO (r16.2 == 0) (some ((List.length r14.1 : Int) == (List.length r14.2 : Int)))).bind fun t120 =>
  bif t120 then
  withK (fun (count124 : Int) =>
  bif (count124 != (List.length r19.1 : Int)) then
  some false
  else
  k118 ) fun (k126 : Int → Option Bool) =>
  w_FnSeenLetters_l1 k126 r14 N 0 0
  else
  k118 ) fun (k102 : Option Bool) =>
  bif (r24.2.2 == 0) then
  (i_WrongPlaces N r22.1 r22.2.1).bind fun r105 =>
  (orO (r105.2 != 0) (some (decide (r26.2.1 > (List.length r105.1 : Int))))).bind fun t108 =>
  (orO t108 (some (decide (r24.1 < (w64 (0 - r22.2.2)))))).bind fun t111 =>
  (orO t111 (some (decide (r24.1 > r22.2.2)))).bind fun t114 =>
  bif t114 then
  some false
  else
  k102 
  else
  k102 

end Go.Proofs.Ythmocnbnlpdggaa
