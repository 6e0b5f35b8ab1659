/-
  Plain functions that compute what the Go functions compute. No conditions.
-/
import Derived.Test.YtppdmciboalhfaaDoorBase
namespace Go.Proofs.YtppdmciboalhfaaDoor
set_option linter.unusedVariables false
set_option linter.unusedSimpArgs false

structure Trial where
  strokes : Int
  errors : Int
  seconds : Int

def Trial.beq (x y : Trial) : Bool := x.strokes == y.strokes && (x.errors == y.errors && (x.seconds == y.seconds))

structure L00Src where
  code : List UInt8
  at_ : Int
  seed : Int

structure Fraction where
  num : Int
  den : Int

def Fraction.beq (x y : Fraction) : Bool := x.num == y.num && (x.den == y.den)



def w_f6big (code1 : List UInt8) : Option Bool :=
  some (decide ((List.length code1 : Int) > 4096))

def s_l00From (code1 : List UInt8) : Option L00Src :=
  some (L00Src.mk code1 0 0)

def s_l00Src_next (s1 : L00Src) : Option (Int × L00Src) :=
  withK (fun (b5 : Int) =>
  bif decide ((w64 (s1.at_ + 1)) ≤ (List.length s1.code : Int)) then
  some (b5, (L00Src.mk s1.code (w64 (s1.at_ + 1)) (IntKind.u64.wrap ((IntKind.u64.wrap ((IntKind.u64.wrap (s1.seed * 6364136223846793005)) + (IntKind.u64.wrap b5))) + 1442695040888963407))))
  else
  some (w64 (uand (ushr (IntKind.u64.wrap ((IntKind.u64.wrap ((IntKind.u64.wrap (s1.seed * 6364136223846793005)) + (IntKind.u64.wrap b5))) + 1442695040888963407)) 40) 255), (L00Src.mk s1.code (w64 (s1.at_ + 1)) (IntKind.u64.wrap ((IntKind.u64.wrap ((IntKind.u64.wrap (s1.seed * 6364136223846793005)) + (IntKind.u64.wrap b5))) + 1442695040888963407))))) fun (kj6 : Int → Option (Int × L00Src)) =>
  bif decide (s1.at_ < (List.length s1.code : Int)) then
  (idx s1.code s1.at_).bind fun e9 =>
  kj6 (UInt8.toNat e9 : Int)
  else
  kj6 0

def s_l00Src_pick (s1 : L00Src) (n5 : Int) : Option (Int × L00Src) :=
  bif decide (n5 ≤ 1) then
  some (0, (L00Src.mk s1.code s1.at_ s1.seed))
  else
  (s_l00Src_next (L00Src.mk s1.code s1.at_ s1.seed)).bind fun r7 =>
  withK (fun (x9 : Int) (x10 : Int) (x11 : Int) =>
  (remO x11 n5).bind fun q17 =>
  some (q17, (L00Src.mk s1.code x9 x10))) fun (kj12 : Int → Int → Int → Option (Int × L00Src)) =>
  bif decide (n5 > 200) then
  (s_l00Src_next (L00Src.mk s1.code r7.2.at_ r7.2.seed)).bind fun r15 =>
  kj12 r15.2.at_ r15.2.seed (w64 ((w64 (r7.1 * 256)) + r15.1))
  else
  kj12 r7.2.at_ r7.2.seed r7.1

def s_l20New (s1 : L00Src) : Option (Trial × L00Src) :=
  (s_l00Src_pick (L00Src.mk s1.code s1.at_ s1.seed) 200).bind fun r6 =>
  (s_l00Src_pick (L00Src.mk s1.code r6.2.at_ r6.2.seed) 20).bind fun r9 =>
  (s_l00Src_pick (L00Src.mk s1.code r9.2.at_ r9.2.seed) 12).bind fun r11 =>
  some ((Trial.mk ((Trial.mk (w64 (100 + (w64 (10 * r6.1)))) 0 0).strokes) r9.1 (w64 (30 * (w64 (1 + r11.1))))), (L00Src.mk s1.code r11.2.at_ r11.2.seed))

def s_l00Src_one (s1 : L00Src) (n5 : Int) : Option (Bool × L00Src) :=
  (s_l00Src_pick (L00Src.mk s1.code s1.at_ s1.seed) n5).bind fun r6 =>
  some ((r6.1 == 0), (L00Src.mk s1.code r6.2.at_ r6.2.seed))

def s_l00Src_among (s1 : L00Src) (list5 : List Int) : Option (Int × L00Src) :=
  (s_l00Src_pick (L00Src.mk s1.code s1.at_ s1.seed) (List.length list5 : Int)).bind fun r8 =>
  (idx list5 r8.1).bind fun e10 =>
  some (e10, (L00Src.mk s1.code r8.2.at_ r8.2.seed))

def s_l20Spoil (s1 : L00Src) (x5 : Trial) : Option (L00Src × Trial) :=
  (s_l00Src_pick (L00Src.mk s1.code s1.at_ s1.seed) 3).bind fun r7 =>
  bif (r7.1 == 0) then
  (s_l00Src_among (L00Src.mk s1.code r7.2.at_ r7.2.seed) [(-1), 0, 100000, 100001]).bind fun r11 =>
  some ((L00Src.mk s1.code r11.2.at_ r11.2.seed), (Trial.mk r11.1 x5.errors x5.seconds))
  else
  bif (r7.1 == 1) then
  (s_l00Src_among (L00Src.mk s1.code r7.2.at_ r7.2.seed) [(-1), x5.strokes, w64 (x5.strokes + 1), (-9223372036854775808)]).bind fun r15 =>
  some ((L00Src.mk s1.code r15.2.at_ r15.2.seed), (Trial.mk x5.strokes r15.1 x5.seconds))
  else
  bif (r7.1 == 2) then
  (s_l00Src_among (L00Src.mk s1.code r7.2.at_ r7.2.seed) [0, 1, 7200, 7201]).bind fun r20 =>
  some ((L00Src.mk s1.code r20.2.at_ r20.2.seed), (Trial.mk x5.strokes x5.errors r20.1))
  else
  some ((L00Src.mk s1.code r7.2.at_ r7.2.seed), (Trial.mk x5.strokes x5.errors x5.seconds))

def s_l20Bent (s1 : L00Src) : Option (Trial × L00Src) :=
  (s_l20New (L00Src.mk s1.code s1.at_ s1.seed)).bind fun r6 =>
  withK (fun (x9 : Int) (x10 : Int) (x11 : Int) (x12 : Int) (x13 : Int) =>
  some ((Trial.mk x11 x12 x13), (L00Src.mk s1.code x9 x10))) fun (kj14 : Int → Int → Int → Int → Int → Option (Trial × L00Src)) =>
  (s_l00Src_one (L00Src.mk s1.code r6.2.at_ r6.2.seed) 8).bind fun r16 =>
  bif r16.1 then
  (s_l20Spoil (L00Src.mk s1.code r16.2.at_ r16.2.seed) (Trial.mk r6.1.strokes r6.1.errors r6.1.seconds)).bind fun r19 =>
  kj14 r19.1.at_ r19.1.seed r19.2.strokes r19.2.errors r19.2.seconds
  else
  kj14 r16.2.at_ r16.2.seed r6.1.strokes r6.1.errors r6.1.seconds

def s_l20DrawPenalty (s1 : L00Src) : Option (Int × L00Src) :=
  (s_l00Src_one (L00Src.mk s1.code s1.at_ s1.seed) 10).bind fun r5 =>
  bif r5.1 then
  (s_l00Src_among (L00Src.mk s1.code r5.2.at_ r5.2.seed) [(-1), 0, 50, 51]).bind fun r9 =>
  some (r9.1, (L00Src.mk s1.code r9.2.at_ r9.2.seed))
  else
  (s_l00Src_pick (L00Src.mk s1.code r5.2.at_ r5.2.seed) 5).bind fun r11 =>
  some (w64 (5 * r11.1), (L00Src.mk s1.code r11.2.at_ r11.2.seed))

def s_l20Both (code1 : List UInt8) : Option (Trial × Int) :=
  (s_l00From code1).bind fun r5 =>
  (s_l20Bent (L00Src.mk code1 r5.at_ r5.seed)).bind fun r8 =>
  (s_l20DrawPenalty (L00Src.mk code1 r8.2.at_ r8.2.seed)).bind fun r11 =>
  some (r8.1, r11.1)

def s_DrawStrokesPerMinute (code1 : List UInt8) : Option (Trial × Int) :=
  (s_l20Both code1).bind fun r5 =>
  some (r5.1, r5.2)

def i_between (n1 : Int) (low2 : Int) (high3 : Int) : Option Bool :=
  (andO (decide (n1 ≥ low2)) (some (decide (n1 ≤ high3)))).bind fun t4 =>
  some t4

def i_validTrial (x1 : Trial) : Option Bool :=
  (i_between x1.strokes 0 100000).bind fun r3 =>
  (andO r3 ((i_between x1.errors 0 x1.strokes).bind fun r8 =>
  some r8)).bind fun t5 =>
  (andO t5 ((i_between x1.seconds 1 7200).bind fun r13 =>
  some r13)).bind fun t10 =>
  some t10

def i_isPenalty (penalty1 : Int) : Option Bool :=
  (i_between penalty1 0 50).bind fun r2 =>
  some r2

def i_trialCode (x1 : Trial) (penalty2 : Int) : Option Int :=
  (i_validTrial x1).bind fun r4 =>
  bif !r4 then
  some 1
  else
  (i_isPenalty penalty2).bind fun r7 =>
  bif !r7 then
  some 2
  else
  some 0

def i_Trial_net (x1 : Trial) (penalty2 : Int) : Option Int :=
  some (imax (w64 (x1.strokes - (w64 (penalty2 * x1.errors)))) 0)

def i_absolute (n1 : Int) : Option Int :=
  bif decide (n1 < 0) then
  some (w64 (0 - n1))
  else
  some n1

def i_divisor_l1 (kj4 : Int → Option Int) : Nat → Int → Int → Option Int
  | 0, _, _ => none
  | N + 1, a6, b7 =>
    bif (b7 != 0) then
    (remO a6 b7).bind fun q9 =>
    i_divisor_l1 kj4 N b7 q9
    else
    kj4 a6

def i_divisor (N : Nat) (a1 : Int) (b2 : Int) : Option Int :=
  withK (fun (a3 : Int) =>
  some a3) fun (kj4 : Int → Option Int) =>
  i_divisor_l1 kj4 N a1 b2

def i_lowest (N : Nat) (num1 : Int) (den2 : Int) : Option Fraction :=
  (i_absolute num1).bind fun r4 =>
  (i_divisor N r4 den2).bind fun r6 =>
  (quoO num1 r6).bind fun q8 =>
  (quoO den2 r6).bind fun q10 =>
  some (Fraction.mk q8 q10)

def i_StrokesPerMinute (N : Nat) (x1 : Trial) (penalty2 : Int) : Option (Fraction × Int) :=
  (i_trialCode x1 penalty2).bind fun r5 =>
  bif (r5 != 0) then
  some ((Fraction.mk 0 0), r5)
  else
  (i_Trial_net x1 penalty2).bind fun r8 =>
  (i_lowest N (w64 (60 * r8)) x1.seconds).bind fun r10 =>
  some (r10, 0)

def s_l00In (n1 : Int) (low2 : Int) (high3 : Int) : Option Bool :=
  (andO (decide (n1 ≥ low2)) (some (decide (n1 ≤ high3)))).bind fun t4 =>
  some t4

def s_l20One (x1 : Trial) : Option Bool :=
  (s_l00In x1.strokes 0 100000).bind fun r4 =>
  (andO r4 ((s_l00In x1.errors 0 x1.strokes).bind fun r9 =>
  some r9)).bind fun t6 =>
  (andO t6 ((s_l00In x1.seconds 1 7200).bind fun r14 =>
  some r14)).bind fun t11 =>
  some t11

def s_l20Penalty (n1 : Int) : Option Bool :=
  (s_l00In n1 0 50).bind fun r2 =>
  some r2

def s_l20Code (x1 : Trial) (penalty4 : Int) : Option Int :=
  (s_l20One x1).bind fun r5 =>
  bif !r5 then
  some 1
  else
  (s_l20Penalty penalty4).bind fun r8 =>
  bif !r8 then
  some 2
  else
  some 0

def s_l00Max (a1 : Int) (b2 : Int) : Option Int :=
  bif decide (a1 > b2) then
  some a1
  else
  some b2

def s_l20Net (x1 : Trial) (penalty4 : Int) : Option Int :=
  (s_l00Max 0 (w64 (x1.strokes - (w64 (penalty4 * x1.errors))))).bind fun r5 =>
  some r5

def s_l00Size (n1 : Int) : Option Int :=
  bif decide (n1 < 0) then
  some (w64 (0 - n1))
  else
  some n1

def s_l00Gcd_l1 (kj4 : Int → Option Int) : Nat → Int → Int → Option Int
  | 0, _, _ => none
  | N + 1, a6, b7 =>
    bif (b7 != 0) then
    (remO a6 b7).bind fun q9 =>
    s_l00Gcd_l1 kj4 N b7 q9
    else
    kj4 a6

def s_l00Gcd (N : Nat) (a1 : Int) (b2 : Int) : Option Int :=
  withK (fun (a3 : Int) =>
  some a3) fun (kj4 : Int → Option Int) =>
  s_l00Gcd_l1 kj4 N a1 b2

def s_l02Make (N : Nat) (num1 : Int) (den2 : Int) : Option Fraction :=
  (s_l00Size num1).bind fun r4 =>
  (s_l00Gcd N r4 den2).bind fun r6 =>
  (quoO num1 r6).bind fun q8 =>
  (quoO den2 r6).bind fun q10 =>
  some (Fraction.mk q8 q10)

def s_StrokesPerMinute (N : Nat) (x1 : Trial) (penalty2 : Int) : Option (Fraction × Int) :=
  (s_l20Code (Trial.mk x1.strokes x1.errors x1.seconds) penalty2).bind fun r5 =>
  bif (r5 != 0) then
  some ((Fraction.mk 0 0), r5)
  else
  (s_l20Net (Trial.mk x1.strokes x1.errors x1.seconds) penalty2).bind fun r8 =>
  (s_l02Make N (w64 (60 * r8)) x1.seconds).bind fun r10 =>
  some (r10, 0)

def i_WordsPerMinute (N : Nat) (x1 : Trial) (penalty2 : Int) : Option (Fraction × Int) :=
  (i_trialCode x1 penalty2).bind fun r5 =>
  bif (r5 != 0) then
  some ((Fraction.mk 0 0), r5)
  else
  (i_Trial_net x1 penalty2).bind fun r8 =>
  (i_lowest N (w64 (12 * r8)) x1.seconds).bind fun r10 =>
  some (r10, 0)

def s_WordsPerMinute (N : Nat) (x1 : Trial) (penalty2 : Int) : Option (Fraction × Int) :=
  (s_l20Code (Trial.mk x1.strokes x1.errors x1.seconds) penalty2).bind fun r5 =>
  bif (r5 != 0) then
  some ((Fraction.mk 0 0), r5)
  else
  (s_l20Net (Trial.mk x1.strokes x1.errors x1.seconds) penalty2).bind fun r8 =>
  (s_l02Make N (w64 (12 * r8)) x1.seconds).bind fun r10 =>
  some (r10, 0)

def i_NetStrokes (x1 : Trial) (penalty2 : Int) : Option (Int × Int) :=
  (i_trialCode x1 penalty2).bind fun r4 =>
  bif (r4 != 0) then
  some (0, r4)
  else
  (i_Trial_net x1 penalty2).bind fun r7 =>
  some (r7, 0)

def s_NetStrokes (x1 : Trial) (penalty2 : Int) : Option (Int × Int) :=
  (s_l20Code (Trial.mk x1.strokes x1.errors x1.seconds) penalty2).bind fun r4 =>
  bif (r4 != 0) then
  some (0, r4)
  else
  (s_l20Net (Trial.mk x1.strokes x1.errors x1.seconds) penalty2).bind fun r7 =>
  some (r7, 0)

def s_DrawStrokesNeeded (code1 : List UInt8) : Option (Int × Int × Int × Int) :=
  (s_l00From code1).bind fun r4 =>
  (s_l00Src_pick (L00Src.mk code1 r4.at_ r4.seed) 90).bind fun r7 =>
  (s_l00Src_pick (L00Src.mk code1 r7.2.at_ r7.2.seed) 12).bind fun r9 =>
  (s_l00Src_pick (L00Src.mk code1 r9.2.at_ r9.2.seed) 20).bind fun r11 =>
  withK (fun (x13 : Int) (x14 : Int) (words15 : Int) (errors16 : Int) (seconds17 : Int) =>
  (s_l20DrawPenalty (L00Src.mk code1 x13 x14)).bind fun r34 =>
  some (words15, errors16, r34.1, seconds17)) fun (kj18 : Int → Int → Int → Int → Int → Option (Int × Int × Int × Int)) =>
  (s_l00Src_pick (L00Src.mk code1 r11.2.at_ r11.2.seed) 12).bind fun r20 =>
  bif (r20.1 == 0) then
  (s_l00Src_among (L00Src.mk code1 r20.2.at_ r20.2.seed) [(-1), 0, 1000, 1001]).bind fun r24 =>
  kj18 r24.2.at_ r24.2.seed r24.1 r9.1 (w64 (30 * (w64 (1 + r11.1))))
  else
  bif (r20.1 == 1) then
  (s_l00Src_among (L00Src.mk code1 r20.2.at_ r20.2.seed) [(-1), 0, 1000, 1001]).bind fun r28 =>
  kj18 r28.2.at_ r28.2.seed r7.1 r28.1 (w64 (30 * (w64 (1 + r11.1))))
  else
  bif (r20.1 == 2) then
  (s_l00Src_among (L00Src.mk code1 r20.2.at_ r20.2.seed) [0, 1, 7200, 7201]).bind fun r32 =>
  kj18 r32.2.at_ r32.2.seed r7.1 r9.1 r32.1
  else
  kj18 r20.2.at_ r20.2.seed r7.1 r9.1 (w64 (30 * (w64 (1 + r11.1))))

def i_isThousand (n1 : Int) : Option Bool :=
  (i_between n1 0 1000).bind fun r2 =>
  some r2

def i_StrokesNeeded (words1 : Int) (errors2 : Int) (penalty3 : Int) (seconds4 : Int) : Option (Int × Int) :=
  (i_isPenalty penalty3).bind fun r5 =>
  (orO (!r5) ((i_isThousand words1).bind fun r10 =>
  some (!r10))).bind fun t7 =>
  (orO t7 ((i_isThousand errors2).bind fun r15 =>
  some (!r15))).bind fun t12 =>
  (orO t12 ((i_between seconds4 1 7200).bind fun r20 =>
  some (!r20))).bind fun t17 =>
  bif t17 then
  some (0, 2)
  else
  bif decide ((imax errors2 (w64 ((w64 (penalty3 * errors2)) + (w64 (Int.tdiv (w64 ((w64 (words1 * seconds4)) + 11)) 12))))) > 100000) then
  some (0, 5)
  else
  some (imax errors2 (w64 ((w64 (penalty3 * errors2)) + (w64 (Int.tdiv (w64 ((w64 (words1 * seconds4)) + 11)) 12)))), 0)

def s_StrokesNeeded (words1 : Int) (errors2 : Int) (penalty3 : Int) (seconds4 : Int) : Option (Int × Int) :=
  (s_l00In words1 0 1000).bind fun r5 =>
  (orO (!r5) ((s_l00In errors2 0 1000).bind fun r10 =>
  some (!r10))).bind fun t7 =>
  (orO t7 ((s_l20Penalty penalty3).bind fun r15 =>
  some (!r15))).bind fun t12 =>
  (orO t12 ((s_l00In seconds4 1 7200).bind fun r20 =>
  some (!r20))).bind fun t17 =>
  bif t17 then
  some (0, 2)
  else
  (s_l00Max (w64 ((w64 (Int.tdiv (w64 ((w64 (words1 * seconds4)) + 11)) 12)) + (w64 (penalty3 * errors2)))) errors2).bind fun r23 =>
  bif decide (r23 > 100000) then
  some (0, 5)
  else
  some (r23, 0)

def s_DrawPassesTest (code1 : List UInt8) : Option (Trial × Int × Int × Int) :=
  (s_l00From code1).bind fun r5 =>
  (s_l20Bent (L00Src.mk code1 r5.at_ r5.seed)).bind fun r8 =>
  (s_l20DrawPenalty (L00Src.mk code1 r8.2.at_ r8.2.seed)).bind fun r11 =>
  (s_l00Src_pick (L00Src.mk code1 r11.2.at_ r11.2.seed) 30).bind fun r13 =>
  withK (fun (x15 : Int) (x16 : Int) (words17 : Int) =>
  (s_l00Src_one (L00Src.mk code1 x15 x16) 10).bind fun r26 =>
  bif r26.1 then
  (s_l00Src_among (L00Src.mk code1 r26.2.at_ r26.2.seed) [(-1), 0, 1000, 1001]).bind fun r30 =>
  some (r8.1, r11.1, words17, r30.1)
  else
  (s_l00Src_pick (L00Src.mk code1 r26.2.at_ r26.2.seed) 30).bind fun r32 =>
  some (r8.1, r11.1, words17, r32.1)) fun (kj18 : Int → Int → Int → Option (Trial × Int × Int × Int)) =>
  (s_l00Src_one (L00Src.mk code1 r13.2.at_ r13.2.seed) 10).bind fun r20 =>
  bif r20.1 then
  (s_l00Src_among (L00Src.mk code1 r20.2.at_ r20.2.seed) [(-1), 0, 1000, 1001]).bind fun r24 =>
  kj18 r24.2.at_ r24.2.seed r24.1
  else
  kj18 r20.2.at_ r20.2.seed (w64 (5 * r13.1))

def i_PassesTest (x1 : Trial) (penalty2 : Int) (words3 : Int) (permille4 : Int) : Option (Bool × Int) :=
  (i_validTrial x1).bind fun r6 =>
  bif !r6 then
  some (false, 1)
  else
  (i_isPenalty penalty2).bind fun r9 =>
  (orO (!r9) ((i_isThousand words3).bind fun r14 =>
  some (!r14))).bind fun t11 =>
  (orO t11 ((i_isThousand permille4).bind fun r19 =>
  some (!r19))).bind fun t16 =>
  bif t16 then
  some (false, 2)
  else
  (i_Trial_net x1 penalty2).bind fun r22 =>
  (andO (decide ((w64 (12 * r22)) ≥ (w64 (words3 * x1.seconds)))) (some (decide ((w64 (1000 * x1.errors)) ≤ (w64 (permille4 * x1.strokes)))))).bind fun t24 =>
  some (t24, 0)

def s_PassesTest (x1 : Trial) (penalty2 : Int) (words3 : Int) (permille4 : Int) : Option (Bool × Int) :=
  (s_l20Code (Trial.mk x1.strokes x1.errors x1.seconds) penalty2).bind fun r6 =>
  withK (fun (code8 : Int) =>
  bif (code8 != 0) then
  some (false, code8)
  else
  (s_l20Net (Trial.mk x1.strokes x1.errors x1.seconds) penalty2).bind fun r23 =>
  (andO (decide ((w64 (12 * r23)) ≥ (w64 (words3 * x1.seconds)))) (some (decide ((w64 (1000 * x1.errors)) ≤ (w64 (permille4 * x1.strokes)))))).bind fun t25 =>
  some (t25, 0)) fun (kj9 : Int → Option (Bool × Int)) =>
  (andO (r6 == 0) ((s_l00In words3 0 1000).bind fun r14 =>
  (orO (!r14) ((s_l00In permille4 0 1000).bind fun r19 =>
  some (!r19))).bind fun t16 =>
  some t16)).bind fun t11 =>
  bif t11 then
  kj9 2
  else
  kj9 r6

def s_DrawErrorShare (code1 : List UInt8) : Option Trial :=
  (s_l00From code1).bind fun r5 =>
  (s_l20Bent (L00Src.mk code1 r5.at_ r5.seed)).bind fun r8 =>
  some r8.1

def i_ErrorShare (N : Nat) (x1 : Trial) : Option (Fraction × Int) :=
  (i_validTrial x1).bind fun r4 =>
  bif !r4 then
  some ((Fraction.mk 0 0), 1)
  else
  bif (x1.strokes == 0) then
  some ((Fraction.mk 0 0), 3)
  else
  (i_lowest N (w64 (1000 * x1.errors)) x1.strokes).bind fun r8 =>
  some (r8, 0)

def s_ErrorShare (N : Nat) (x1 : Trial) : Option (Fraction × Int) :=
  (s_l20One (Trial.mk x1.strokes x1.errors x1.seconds)).bind fun r4 =>
  bif !r4 then
  some ((Fraction.mk 0 0), 1)
  else
  bif (x1.strokes == 0) then
  some ((Fraction.mk 0 0), 3)
  else
  (s_l02Make N (w64 (1000 * x1.errors)) x1.strokes).bind fun r8 =>
  some (r8, 0)

def s_DrawTrialText (code1 : List UInt8) : Option Trial :=
  (s_l00From code1).bind fun r5 =>
  (s_l20Bent (L00Src.mk code1 r5.at_ r5.seed)).bind fun r8 =>
  some r8.1

def i_Decimal (n1 : Int) : Option Str :=
  (fmtI n1 10).bind fun r2 =>
  some r2

def i_TrialText (x1 : Trial) : Option Str :=
  (i_validTrial x1).bind fun r3 =>
  bif !r3 then
  some []
  else
  (i_Decimal x1.strokes).bind fun r6 =>
  (cat r6 [47]).bind fun s8 =>
  (i_Decimal x1.errors).bind fun r10 =>
  (cat s8 r10).bind fun s12 =>
  (cat s12 [32, 105, 110, 32]).bind fun s14 =>
  (i_Decimal x1.seconds).bind fun r16 =>
  (cat s14 r16).bind fun s18 =>
  (cat s18 [115]).bind fun s20 =>
  some s20

def i_cut_l1 (kj3 : Option (Str × Str × Bool)) (s1 : Str) (separator2 : Str) : Nat → Int → Option (Str × Str × Bool)
  | 0, _ => none
  | N + 1, i5 =>
    bif decide ((w64 (i5 + (List.length separator2 : Int))) ≤ (List.length s1 : Int)) then
    (sub s1 i5 (w64 (i5 + (List.length separator2 : Int)))).bind fun s7 =>
    bif (s7 == separator2) then
    (sub s1 0 i5).bind fun s10 =>
    (sub s1 (w64 (i5 + (List.length separator2 : Int))) (List.length s1 : Int)).bind fun s12 =>
    some (s10, s12, true)
    else
    i_cut_l1 kj3 s1 separator2 N (w64 (i5 + 1))
    else
    kj3 

def i_cut (N : Nat) (s1 : Str) (separator2 : Str) : Option (Str × Str × Bool) :=
  withK (some (s1, [], false)) fun (kj3 : Option (Str × Str × Bool)) =>
  i_cut_l1 kj3 s1 separator2 N 0

def stringslite_HasSuffix (s1 : Str) (suffix2 : Str) : Option Bool :=
  (andO (decide ((List.length s1 : Int) ≥ (List.length suffix2 : Int))) ((sub s1 (w64 ((List.length s1 : Int) - (List.length suffix2 : Int))) (List.length s1 : Int)).bind fun s6 =>
  some (s6 == suffix2))).bind fun t3 =>
  some t3

def stringslite_CutSuffix (s1 : Str) (suffix2 : Str) : Option (Str × Bool) :=
  (stringslite_HasSuffix s1 suffix2).bind fun r3 =>
  bif !r3 then
  some (s1, false)
  else
  (sub s1 0 (w64 ((List.length s1 : Int) - (List.length suffix2 : Int)))).bind fun s6 =>
  some (s6, true)

def strings_CutSuffix (s1 : Str) (suffix2 : Str) : Option (Str × Bool) :=
  (stringslite_CutSuffix s1 suffix2).bind fun r3 =>
  some (r3.1, r3.2)

def i_isDigit (b1 : UInt8) : Option Bool :=
  (andO (decide (b1 ≥ (48 : UInt8))) (some (decide (b1 ≤ (57 : UInt8))))).bind fun t2 =>
  some t2

def i_ReadDecimal_l1 (kj18 : Int → Option (Int × Bool)) (digits2 : Str) : Nat → Int → Int → Option (Int × Bool)
  | 0, _, _ => none
  | N + 1, n20, x21 =>
    bif decide (x21 < (List.length digits2 : Int)) then
    (idx digits2 x21).bind fun c23 =>
    (i_isDigit c23).bind fun r25 =>
    bif !r25 then
    some (0, false)
    else
    (idx digits2 x21).bind fun c28 =>
    i_ReadDecimal_l1 kj18 digits2 N (w64 ((w64 (10 * n20)) + (UInt8.toNat (c28 - (48 : UInt8)) : Int))) (w64 (x21 + 1))
    else
    kj18 n20

def i_ReadDecimal (N : Nat) (s1 : Str) : Option (Int × Bool) :=
  withK (fun (digits2 : Str) =>
  (orO ((List.length digits2 : Int) == 0) (some (decide ((List.length digits2 : Int) > 18)))).bind fun t13 =>
  bif t13 then
  some (0, false)
  else
  withK (fun (n17 : Int) =>
  withK (fun (n30 : Int) =>
  (i_Decimal n30).bind fun r34 =>
  bif (r34 != s1) then
  some (0, false)
  else
  some (n30, true)) fun (kj31 : Int → Option (Int × Bool)) =>
  bif decide ((List.length digits2 : Int) < (List.length s1 : Int)) then
  kj31 (w64 (0 - n17))
  else
  kj31 n17) fun (kj18 : Int → Option (Int × Bool)) =>
  i_ReadDecimal_l1 kj18 digits2 N 0 0) fun (kj3 : Str → Option (Int × Bool)) =>
  (andO (decide ((List.length s1 : Int) > 0)) ((idx s1 0).bind fun c8 =>
  some (c8 == (45 : UInt8)))).bind fun t5 =>
  bif t5 then
  (sub s1 1 (List.length s1 : Int)).bind fun s11 =>
  kj3 s11
  else
  kj3 s1

def i_ReadTrial (N : Nat) (s1 : Str) : Option (Trial × Bool) :=
  (i_cut N s1 [47]).bind fun r3 =>
  (i_cut N r3.2.1 [32, 105, 110, 32]).bind fun r5 =>
  (strings_CutSuffix r5.2.1 [115]).bind fun r7 =>
  (orO (!r3.2.2) (some (!r5.2.2))).bind fun t9 =>
  (orO t9 (some (!r7.2))).bind fun t12 =>
  bif t12 then
  some ((Trial.mk 0 0 0), false)
  else
  (i_ReadDecimal N r3.1).bind fun r16 =>
  (i_ReadDecimal N r5.1).bind fun r18 =>
  (i_ReadDecimal N r7.1).bind fun r20 =>
  (orO (!r16.2) (some (!r18.2))).bind fun t23 =>
  (orO t23 (some (!r20.2))).bind fun t26 =>
  (orO t26 ((i_validTrial (Trial.mk r16.1 r18.1 r20.1)).bind fun r32 =>
  some (!r32))).bind fun t29 =>
  bif t29 then
  some ((Trial.mk 0 0 0), false)
  else
  some ((Trial.mk r16.1 r18.1 r20.1), true)

def s_l01Dec_l1 (kj5 : (List UInt8) → Option Str) : Nat → (List UInt8) → Int → Option Str
  | 0, _, _ => none
  | N + 1, l7, k9 =>
    bif (k9 != 0) then
    withK (fun (d11 : Int) =>
    (app [UInt8.ofInt (w64 (48 + d11))] l7).bind fun l16 =>
    s_l01Dec_l1 kj5 N l16 (w64 (Int.tdiv k9 10))) fun (kj12 : Int → Option Str) =>
    bif decide ((Int.tmod k9 10) < 0) then
    kj12 (w64 (0 - (Int.tmod k9 10)))
    else
    kj12 (Int.tmod k9 10)
    else
    kj5 l7

def s_l01Dec (N : Nat) (n1 : Int) : Option Str :=
  withK (fun (l3 : List UInt8) =>
  bif ((List.length l3 : Int) == 0) then
  some [48]
  else
  bif decide (n1 < 0) then
  (cat [45] l3).bind fun s21 =>
  some s21
  else
  some l3) fun (kj5 : (List UInt8) → Option Str) =>
  s_l01Dec_l1 kj5 N [] n1

def s_l20Text (N : Nat) (x1 : Trial) : Option Str :=
  (s_l01Dec N x1.strokes).bind fun r4 =>
  (cat r4 [47]).bind fun s6 =>
  (s_l01Dec N x1.errors).bind fun r8 =>
  (cat s6 r8).bind fun s10 =>
  (cat s10 [32, 105, 110, 32]).bind fun s12 =>
  (s_l01Dec N x1.seconds).bind fun r14 =>
  (cat s12 r14).bind fun s16 =>
  (cat s16 [115]).bind fun s18 =>
  some s18

def s_l00Src_text (s1 : L00Src) (list5 : List Str) : Option (Str × L00Src) :=
  (s_l00Src_pick (L00Src.mk s1.code s1.at_ s1.seed) (List.length list5 : Int)).bind fun r8 =>
  (idx list5 r8.1).bind fun e10 =>
  some (e10, (L00Src.mk s1.code r8.2.at_ r8.2.seed))

def s_l01Spoil (s1 : L00Src) (t5 : Str) : Option (Str × L00Src) :=
  withK (fun (x6 : Int) (x7 : Int) (t8 : Str) =>
  some (t8, (L00Src.mk s1.code x6 x7))) fun (kj9 : Int → Int → Str → Option (Str × L00Src)) =>
  (s_l00Src_pick (L00Src.mk s1.code s1.at_ s1.seed) 5).bind fun r11 =>
  bif (r11.1 == 0) then
  (s_l00Src_pick (L00Src.mk s1.code r11.2.at_ r11.2.seed) (w64 ((List.length t5 : Int) + 1))).bind fun r14 =>
  (sub t5 0 r14.1).bind fun s16 =>
  (s_l00Src_text (L00Src.mk s1.code r14.2.at_ r14.2.seed) [[32], [48], [45], [120], [49], [57], [46]]).bind fun r19 =>
  (cat s16 r19.1).bind fun s21 =>
  (sub t5 r14.1 (List.length t5 : Int)).bind fun s23 =>
  (cat s21 s23).bind fun s25 =>
  kj9 r19.2.at_ r19.2.seed s25
  else
  bif (r11.1 == 1) then
  bif (t5 != []) then
  (s_l00Src_pick (L00Src.mk s1.code r11.2.at_ r11.2.seed) (List.length t5 : Int)).bind fun r29 =>
  (sub t5 0 r29.1).bind fun s31 =>
  (sub t5 (w64 (r29.1 + 1)) (List.length t5 : Int)).bind fun s33 =>
  (cat s31 s33).bind fun s35 =>
  kj9 r29.2.at_ r29.2.seed s35
  else
  kj9 r11.2.at_ r11.2.seed t5
  else
  kj9 r11.2.at_ r11.2.seed t5

def s_DrawReadTrial (N : Nat) (code1 : List UInt8) : Option Str :=
  (s_l00From code1).bind fun r4 =>
  (s_l20New (L00Src.mk code1 r4.at_ r4.seed)).bind fun r7 =>
  (s_l20Text N (Trial.mk r7.1.strokes r7.1.errors r7.1.seconds)).bind fun r10 =>
  (s_l00Src_one (L00Src.mk code1 r7.2.at_ r7.2.seed) 3).bind fun r12 =>
  bif r12.1 then
  (s_l01Spoil (L00Src.mk code1 r12.2.at_ r12.2.seed) r10).bind fun r15 =>
  some r15.1
  else
  some r10

def s_l01Split_l1 (kj7 : (List Str) → Int → Option (List Str)) (s1 : Str) (by2 : UInt8) : Nat → (List Str) → Int → Int → Option (List Str)
  | 0, _, _, _ => none
  | N + 1, l9, from11, i12 =>
    bif decide (i12 < (List.length s1 : Int)) then
    withK (fun (l14 : List Str) (from16 : Int) =>
    s_l01Split_l1 kj7 s1 by2 N l14 from16 (w64 (i12 + 1))) fun (kj17 : (List Str) → Int → Option (List Str)) =>
    (idx s1 i12).bind fun c19 =>
    bif (c19 == by2) then
    (sub s1 from11 i12).bind fun s22 =>
    (app l9 [s22]).bind fun l25 =>
    kj17 l25 (w64 (i12 + 1))
    else
    kj17 l9 from11
    else
    kj7 l9 from11

def s_l01Split (N : Nat) (s1 : Str) (by2 : UInt8) : Option (List Str) :=
  withK (fun (l4 : List Str) (from6 : Int) =>
  (sub s1 from6 (List.length s1 : Int)).bind fun s28 =>
  (app l4 [s28]).bind fun l31 =>
  some l31) fun (kj7 : (List Str) → Int → Option (List Str)) =>
  s_l01Split_l1 kj7 s1 by2 N [] 0 0

def s_l01Digit (c1 : UInt8) : Option Bool :=
  (andO (decide (c1 ≥ (48 : UInt8))) (some (decide (c1 ≤ (57 : UInt8))))).bind fun t2 =>
  some t2

def s_l01Number_l1 (kj18 : Int → Option (Int × Bool)) (t2 : Str) : Nat → Int → Int → Option (Int × Bool)
  | 0, _, _ => none
  | N + 1, n20, i21 =>
    bif decide (i21 < (List.length t2 : Int)) then
    (idx t2 i21).bind fun c23 =>
    (s_l01Digit c23).bind fun r25 =>
    bif !r25 then
    some (0, false)
    else
    (idx t2 i21).bind fun c28 =>
    s_l01Number_l1 kj18 t2 N (w64 ((w64 (10 * n20)) + (UInt8.toNat (c28 - (48 : UInt8)) : Int))) (w64 (i21 + 1))
    else
    kj18 n20

def s_l01Number (N : Nat) (s1 : Str) : Option (Int × Bool) :=
  withK (fun (t2 : Str) =>
  (orO (decide ((List.length t2 : Int) < 1)) (some (decide ((List.length t2 : Int) > 18)))).bind fun t13 =>
  bif t13 then
  some (0, false)
  else
  withK (fun (n17 : Int) =>
  withK (fun (n30 : Int) =>
  (s_l01Dec N n30).bind fun r34 =>
  bif (r34 != s1) then
  some (0, false)
  else
  some (n30, true)) fun (kj31 : Int → Option (Int × Bool)) =>
  bif decide ((List.length t2 : Int) < (List.length s1 : Int)) then
  kj31 (w64 (0 - n17))
  else
  kj31 n17) fun (kj18 : Int → Option (Int × Bool)) =>
  s_l01Number_l1 kj18 t2 N 0 0) fun (kj3 : Str → Option (Int × Bool)) =>
  (andO (s1 != []) ((idx s1 0).bind fun c8 =>
  some (c8 == (45 : UInt8)))).bind fun t5 =>
  bif t5 then
  (sub s1 1 (List.length s1 : Int)).bind fun s11 =>
  kj3 s11
  else
  kj3 s1

def s_ReadTrial (N : Nat) (s1 : Str) : Option (Trial × Bool) :=
  (s_l01Split N s1 32).bind fun r3 =>
  (orO ((List.length r3 : Int) != 3) ((idx r3 1).bind fun e9 =>
  some (e9 != [105, 110]))).bind fun t6 =>
  (orO t6 ((idx r3 2).bind fun e14 =>
  some (e14 == []))).bind fun t11 =>
  (orO t11 ((idx r3 2).bind fun e19 =>
  (idx r3 2).bind fun e21 =>
  (idx e19 (w64 ((List.length e21 : Int) - 1))).bind fun c23 =>
  some (c23 != (115 : UInt8)))).bind fun t16 =>
  bif t16 then
  some ((Trial.mk 0 0 0), false)
  else
  (idx r3 0).bind fun e26 =>
  (s_l01Split N e26 47).bind fun r28 =>
  bif ((List.length r28 : Int) != 2) then
  some ((Trial.mk 0 0 0), false)
  else
  (idx r28 0).bind fun e32 =>
  (s_l01Number N e32).bind fun r34 =>
  (idx r28 1).bind fun e36 =>
  (s_l01Number N e36).bind fun r38 =>
  (idx r3 2).bind fun e40 =>
  (idx r3 2).bind fun e42 =>
  (sub e40 0 (w64 ((List.length e42 : Int) - 1))).bind fun s44 =>
  (s_l01Number N s44).bind fun r46 =>
  (orO (!r34.2) (some (!r38.2))).bind fun t49 =>
  (orO t49 (some (!r46.2))).bind fun t52 =>
  (orO t52 ((s_l20One (Trial.mk ((Trial.mk r34.1 r38.1 r46.1).strokes) ((Trial.mk r34.1 r38.1 r46.1).errors) ((Trial.mk r34.1 r38.1 r46.1).seconds))).bind fun r58 =>
  some (!r58))).bind fun t55 =>
  bif t55 then
  some ((Trial.mk 0 0 0), false)
  else
  some ((Trial.mk r34.1 r38.1 r46.1), true)

def s_TrialText (N : Nat) (x1 : Trial) : Option Str :=
  (s_l20One (Trial.mk x1.strokes x1.errors x1.seconds)).bind fun r3 =>
  bif !r3 then
  some []
  else
  (s_l20Text N (Trial.mk x1.strokes x1.errors x1.seconds)).bind fun r6 =>
  some r6

def w_FnSpeeds (N : Nat) (code1 : List UInt8) : Option Bool :=
  (w_f6big code1).bind fun r4 =>
  bif r4 then
  some true
  else
  (s_DrawStrokesPerMinute code1).bind fun r7 =>
  (i_StrokesPerMinute N r7.1 r7.2).bind fun r10 =>
  (s_StrokesPerMinute N r7.1 r7.2).bind fun r13 =>
  (i_WordsPerMinute N r7.1 r7.2).bind fun r16 =>
  (s_WordsPerMinute N r7.1 r7.2).bind fun r19 =>
  (i_NetStrokes r7.1 r7.2).bind fun r22 =>
  (s_NetStrokes r7.1 r7.2).bind fun r24 =>
  (s_DrawStrokesNeeded code1).bind fun r26 =>
  (i_StrokesNeeded r26.1 r26.2.1 r26.2.2.1 r26.2.2.2).bind fun r28 =>
  (s_StrokesNeeded r26.1 r26.2.1 r26.2.2.1 r26.2.2.2).bind fun r30 =>
  (s_DrawPassesTest code1).bind fun r32 =>
  (i_PassesTest r32.1 r32.2.1 r32.2.2.1 r32.2.2.2).bind fun r35 =>
  (s_PassesTest r32.1 r32.2.1 r32.2.2.1 r32.2.2.2).bind fun r37 =>
  (s_DrawErrorShare code1).bind fun r39 =>
  (i_ErrorShare N r39).bind fun r42 =>
  (s_ErrorShare N r39).bind fun r45 =>
  (s_DrawTrialText code1).bind fun r48 =>
  (i_TrialText r48).bind fun r51 =>
  (i_ReadTrial N r51).bind fun r53 =>
  (s_DrawReadTrial N code1).bind fun r56 =>
  (i_ReadTrial N r56).bind fun r58 =>
  (s_ReadTrial N r56).bind fun r61 =>
  (orO (r10.2 != r13.2) (some (!(Fraction.beq r10.1 r13.1)))).bind fun t64 =>
  (orO t64 (some (r16.2 != r19.2))).bind fun t67 =>
  (orO t67 (some (!(Fraction.beq r16.1 r19.1)))).bind fun t70 =>
  (orO t70 (some (r22.2 != r24.2))).bind fun t73 =>
  (orO t73 (some (r22.1 != r24.1))).bind fun t76 =>
  (orO t76 (some (r28.2 != r30.2))).bind fun t79 =>
  (orO t79 (some (r28.1 != r30.1))).bind fun t82 =>
  (orO t82 (some (r35.2 != r37.2))).bind fun t85 =>
  (orO t85 (some (r35.1 != r37.1))).bind fun t88 =>
  (orO t88 (some (r42.2 != r45.2))).bind fun t91 =>
  (orO t91 (some (!(Fraction.beq r42.1 r45.1)))).bind fun t94 =>
  (orO t94 ((s_TrialText N r48).bind fun r100 =>
  some (r51 != r100))).bind fun t97 =>
  (orO t97 (some (r53.2 != (r51 != [])))).bind fun t102 =>
  (orO t102 ((andO r53.2 (some (!(Trial.beq r53.1 r48)))).bind fun t108 =>
  some t108)).bind fun t105 =>
  (orO t105 (some (r58.2 != r61.2))).bind fun t111 =>
  (orO t111 (some (!(Trial.beq r58.1 r61.1)))).bind fun t114 =>
  bif t114 then
  some false
  else
  (andO (r42.2 == 0) ((orO (decide (r42.1.num < 0)) (some (decide (r42.1.num > (w64 (1000 * r42.1.den)))))).bind fun t121 =>
  some t121)).bind fun t118 =>
  bif t118 then
  some false
  else
  withK (bif (r10.2 != 0) then
  some true
  else
  (orO (decide (r22.1 < 0)) (some (decide (r22.1 > r7.1.strokes)))).bind fun t139 =>
  (orO t139 (some ((w64 (r10.1.num * r7.1.seconds)) != (w64 ((w64 (60 * r22.1)) * r10.1.den))))).bind fun t142 =>
  (orO t142 (some ((w64 (r16.1.num * r7.1.seconds)) != (w64 ((w64 (12 * r22.1)) * r16.1.den))))).bind fun t145 =>
  bif t145 then
  some false
  else
  bif (r7.2 == 50) then
  some true
  else
  (i_NetStrokes r7.1 (w64 (r7.2 + 1))).bind fun r150 =>
  (andO (r150.2 == 0) (some (decide (r150.1 ≤ r22.1)))).bind fun t152 =>
  some t152) fun (kj125 : Option Bool) =>
  bif (r28.2 == 0) then
  (orO (decide ((w64 (12 * (w64 (r30.1 - (w64 (r26.2.2.1 * r26.2.1)))))) < (w64 (r26.1 * r26.2.2.2)))) (some (decide (r30.1 < r26.2.1)))).bind fun t128 =>
  bif t128 then
  some false
  else
  (i_PassesTest (Trial.mk r30.1 r26.2.1 r26.2.2.2) r26.2.2.1 r26.1 1000).bind fun r132 =>
  (orO (r132.2 != 0) (some (!r132.1))).bind fun t134 =>
  bif t134 then
  some false
  else
  kj125 
  else
  kj125 

end Go.Proofs.YtppdmciboalhfaaDoor
