/-
  Plain functions that compute what the Go functions compute. No conditions.
-/
import Derived.Test.YtpdcifgphocllaaSortMore
namespace Go.Proofs.Ytpdcifgphocllaa
set_option linter.unusedVariables false
set_option linter.unusedSimpArgs false

structure Trial where
  strokes : Int
  errors : Int
  seconds : Int

def Trial.beq (x y : Trial) : Bool := x.strokes == y.strokes && (x.errors == y.errors && (x.seconds == y.seconds))

structure L00Src where
  code : List UInt8
  at_ : Int
  seed : Int



def w_f6big (code1 : List UInt8) : Option Bool :=
  some (decide ((List.length code1 : Int) > 4096))

def s_l00From (code1 : List UInt8) : Option L00Src :=
  some (L00Src.mk code1 0 0)

def s_l00Src_next (s1 : L00Src) : Option (Int × L00Src) :=
  withK (fun (b5 : Int) =>
  bif decide ((w64 (s1.at_ + 1)) ≤ (List.length s1.code : Int)) then
  some (b5, (L00Src.mk s1.code (w64 (s1.at_ + 1)) (IntKind.u64.wrap ((IntKind.u64.wrap ((IntKind.u64.wrap (s1.seed * 6364136223846793005)) + (IntKind.u64.wrap b5))) + 1442695040888963407))))
  else
  some (w64 (uand (ushr (IntKind.u64.wrap ((IntKind.u64.wrap ((IntKind.u64.wrap (s1.seed * 6364136223846793005)) + (IntKind.u64.wrap b5))) + 1442695040888963407)) 40) 255), (L00Src.mk s1.code (w64 (s1.at_ + 1)) (IntKind.u64.wrap ((IntKind.u64.wrap ((IntKind.u64.wrap (s1.seed * 6364136223846793005)) + (IntKind.u64.wrap b5))) + 1442695040888963407))))) fun (kj6 : Int → Option (Int × L00Src)) =>
  bif decide (s1.at_ < (List.length s1.code : Int)) then
  (idx s1.code s1.at_).bind fun e9 =>
  kj6 (UInt8.toNat e9 : Int)
  else
  kj6 0

def s_l00Src_pick (s1 : L00Src) (n5 : Int) : Option (Int × L00Src) :=
  bif decide (n5 ≤ 1) then
  some (0, (L00Src.mk s1.code s1.at_ s1.seed))
  else
  (s_l00Src_next (L00Src.mk s1.code s1.at_ s1.seed)).bind fun r7 =>
  withK (fun (x9 : Int) (x10 : Int) (x11 : Int) =>
  (remO x11 n5).bind fun q17 =>
  some (q17, (L00Src.mk s1.code x9 x10))) fun (kj12 : Int → Int → Int → Option (Int × L00Src)) =>
  bif decide (n5 > 200) then
  (s_l00Src_next (L00Src.mk s1.code r7.2.at_ r7.2.seed)).bind fun r15 =>
  kj12 r15.2.at_ r15.2.seed (w64 ((w64 (r7.1 * 256)) + r15.1))
  else
  kj12 r7.2.at_ r7.2.seed r7.1

def s_l00Src_one (s1 : L00Src) (n5 : Int) : Option (Bool × L00Src) :=
  (s_l00Src_pick (L00Src.mk s1.code s1.at_ s1.seed) n5).bind fun r6 =>
  some ((r6.1 == 0), (L00Src.mk s1.code r6.2.at_ r6.2.seed))

def s_l20New (s1 : L00Src) : Option (Trial × L00Src) :=
  (s_l00Src_pick (L00Src.mk s1.code s1.at_ s1.seed) 200).bind fun r6 =>
  (s_l00Src_pick (L00Src.mk s1.code r6.2.at_ r6.2.seed) 20).bind fun r9 =>
  (s_l00Src_pick (L00Src.mk s1.code r9.2.at_ r9.2.seed) 12).bind fun r11 =>
  some ((Trial.mk ((Trial.mk (w64 (100 + (w64 (10 * r6.1)))) 0 0).strokes) r9.1 (w64 (30 * (w64 (1 + r11.1))))), (L00Src.mk s1.code r11.2.at_ r11.2.seed))

def s_l00Src_among (s1 : L00Src) (list5 : List Int) : Option (Int × L00Src) :=
  (s_l00Src_pick (L00Src.mk s1.code s1.at_ s1.seed) (List.length list5 : Int)).bind fun r8 =>
  (idx list5 r8.1).bind fun e10 =>
  some (e10, (L00Src.mk s1.code r8.2.at_ r8.2.seed))

def s_l20SpoilE (s1 : L00Src) (x5 : List Trial) (k6 : Nat) (x7 : Trial) : Option (L00Src × (List Trial)) :=
  (s_l00Src_pick (L00Src.mk s1.code s1.at_ s1.seed) 3).bind fun r10 =>
  bif (r10.1 == 0) then
  (s_l00Src_among (L00Src.mk s1.code r10.2.at_ r10.2.seed) [(-1), 0, 100000, 100001]).bind fun r14 =>
  some ((L00Src.mk s1.code r14.2.at_ r14.2.seed), (List.set x5 k6 (Trial.mk r14.1 x7.errors x7.seconds)))
  else
  bif (r10.1 == 1) then
  (s_l00Src_among (L00Src.mk s1.code r10.2.at_ r10.2.seed) [(-1), x7.strokes, w64 (x7.strokes + 1), (-9223372036854775808)]).bind fun r18 =>
  some ((L00Src.mk s1.code r18.2.at_ r18.2.seed), (List.set x5 k6 (Trial.mk x7.strokes r18.1 x7.seconds)))
  else
  bif (r10.1 == 2) then
  (s_l00Src_among (L00Src.mk s1.code r10.2.at_ r10.2.seed) [0, 1, 7200, 7201]).bind fun r23 =>
  some ((L00Src.mk s1.code r23.2.at_ r23.2.seed), (List.set x5 k6 (Trial.mk x7.strokes x7.errors r23.1)))
  else
  some ((L00Src.mk s1.code r10.2.at_ r10.2.seed), x5)

def s_l20Draw_l1 (kj22 : Int → Int → (List Trial) → Option ((List Trial) × L00Src)) (s1 : L00Src) : Nat → Int → Int → (List Trial) → Int → Option ((List Trial) × L00Src)
  | 0, _, _, _, _ => none
  | N + 1, x24, x25, l26, k28 =>
    bif decide (k28 > 0) then
    (s_l20New (L00Src.mk s1.code x24 x25)).bind fun r30 =>
    (app l26 [r30.1]).bind fun l33 =>
    s_l20Draw_l1 kj22 s1 N r30.2.at_ r30.2.seed l33 (w64 (k28 - 1))
    else
    kj22 x24 x25 l26

def s_l20Draw (N : Nat) (s1 : L00Src) : Option ((List Trial) × L00Src) :=
  (s_l00Src_pick (L00Src.mk s1.code s1.at_ s1.seed) 9).bind fun r6 =>
  withK (fun (x8 : Int) (x9 : Int) (n10 : Int) =>
  withK (fun (x18 : Int) (x19 : Int) (l20 : List Trial) =>
  withK (fun (x36 : Int) (x37 : Int) (l38 : List Trial) =>
  some (l38, (L00Src.mk s1.code x36 x37))) fun (kj39 : Int → Int → (List Trial) → Option ((List Trial) × L00Src)) =>
  (bif decide (n10 > 0) then (s_l00Src_one (L00Src.mk s1.code x18 x19) 10).bind fun r45 =>
  some (r45.1, (L00Src.mk s1.code r45.2.at_ r45.2.seed)) else some (false, (L00Src.mk s1.code x18 x19))).bind fun x43 =>
  bif x43.1 then
  (s_l00Src_pick (L00Src.mk s1.code x43.2.at_ x43.2.seed) n10).bind fun r48 =>
  (idx l20 r48.1).bind fun e50 =>
  (s_l20SpoilE (L00Src.mk s1.code r48.2.at_ r48.2.seed) l20 (Int.toNat r48.1) e50).bind fun r52 =>
  kj39 r52.1.at_ r52.1.seed r52.2
  else
  kj39 x43.2.at_ x43.2.seed l20) fun (kj22 : Int → Int → (List Trial) → Option ((List Trial) × L00Src)) =>
  s_l20Draw_l1 kj22 s1 N x8 x9 [] n10) fun (kj11 : Int → Int → Int → Option ((List Trial) × L00Src)) =>
  (s_l00Src_one (L00Src.mk s1.code r6.2.at_ r6.2.seed) 24).bind fun r13 =>
  bif r13.1 then
  (s_l00Src_pick (L00Src.mk s1.code r13.2.at_ r13.2.seed) 2).bind fun r16 =>
  kj11 r16.2.at_ r16.2.seed (w64 (40 + r16.1))
  else
  kj11 r13.2.at_ r13.2.seed r6.1

def s_l20DrawPenalty (s1 : L00Src) : Option (Int × L00Src) :=
  (s_l00Src_one (L00Src.mk s1.code s1.at_ s1.seed) 10).bind fun r5 =>
  bif r5.1 then
  (s_l00Src_among (L00Src.mk s1.code r5.2.at_ r5.2.seed) [(-1), 0, 50, 51]).bind fun r9 =>
  some (r9.1, (L00Src.mk s1.code r9.2.at_ r9.2.seed))
  else
  (s_l00Src_pick (L00Src.mk s1.code r5.2.at_ r5.2.seed) 5).bind fun r11 =>
  some (w64 (5 * r11.1), (L00Src.mk s1.code r11.2.at_ r11.2.seed))

def s_l20Lists (N : Nat) (code1 : List UInt8) : Option ((List Trial) × Int) :=
  (s_l00From code1).bind fun r4 =>
  (s_l20Draw N (L00Src.mk code1 r4.at_ r4.seed)).bind fun r7 =>
  (s_l20DrawPenalty (L00Src.mk code1 r7.2.at_ r7.2.seed)).bind fun r10 =>
  some (r7.1, r10.1)

def s_DrawRecordsOf (N : Nat) (code1 : List UInt8) : Option ((List Trial) × Int) :=
  (s_l20Lists N code1).bind fun r4 =>
  some (r4.1, r4.2)

def i_between (n1 : Int) (low2 : Int) (high3 : Int) : Option Bool :=
  (andO (decide (n1 ≥ low2)) (some (decide (n1 ≤ high3)))).bind fun t4 =>
  some t4

def i_validTrial (x1 : Trial) : Option Bool :=
  (i_between x1.strokes 0 100000).bind fun r3 =>
  (andO r3 ((i_between x1.errors 0 x1.strokes).bind fun r8 =>
  some r8)).bind fun t5 =>
  (andO t5 ((i_between x1.seconds 1 7200).bind fun r13 =>
  some r13)).bind fun t10 =>
  some t10

def i_ValidTrials_l1 (kj4 : Option Bool) (list1 : List Trial) : Nat → Int → Option Bool
  | 0, _ => none
  | N + 1, x6 =>
    bif decide (x6 < (List.length list1 : Int)) then
    (idx list1 x6).bind fun e8 =>
    (i_validTrial e8).bind fun r14 =>
    bif !r14 then
    some false
    else
    i_ValidTrials_l1 kj4 list1 N (w64 (x6 + 1))
    else
    kj4 

def i_ValidTrials (N : Nat) (list1 : List Trial) : Option Bool :=
  withK (some (decide ((List.length list1 : Int) ≤ 40))) fun (kj4 : Option Bool) =>
  i_ValidTrials_l1 kj4 list1 N 0

def i_isPenalty (penalty1 : Int) : Option Bool :=
  (i_between penalty1 0 50).bind fun r2 =>
  some r2

def i_trialsCode (N : Nat) (list1 : List Trial) (penalty4 : Int) : Option Int :=
  (i_ValidTrials N list1).bind fun r5 =>
  bif !r5 then
  some 1
  else
  (i_isPenalty penalty4).bind fun r8 =>
  bif !r8 then
  some 2
  else
  some 0

def i_Trial_net (x1 : Trial) (penalty2 : Int) : Option Int :=
  some (imax (w64 (x1.strokes - (w64 (penalty2 * x1.errors)))) 0)

def i_Trial_slower (x1 : Trial) (y2 : Trial) (penalty3 : Int) : Option Bool :=
  (i_Trial_net x1 penalty3).bind fun r6 =>
  (i_Trial_net y2 penalty3).bind fun r8 =>
  some (decide ((w64 (r6 * y2.seconds)) < (w64 (r8 * x1.seconds))))

def i_RecordsOf_l1 (kj11 : (List Int) → Option ((List Int) × Int)) (list1 : List Trial) (penalty4 : Int) : Nat → (List Int) → Int → Int → Option ((List Int) × Int)
  | 0, _, _, _ => none
  | N + 1, l13, best15, x16 =>
    bif decide (x16 < (List.length list1 : Int)) then
    withK (fun (l18 : List Int) (best20 : Int) =>
    i_RecordsOf_l1 kj11 list1 penalty4 N l18 best20 (w64 (x16 + 1))) fun (kj21 : (List Int) → Int → Option ((List Int) × Int)) =>
    (idx list1 x16).bind fun e23 =>
    (orO (x16 == 0) ((idx list1 best15).bind fun e32 =>
    (i_Trial_slower e32 e23 penalty4).bind fun r37 =>
    some r37)).bind fun t29 =>
    bif t29 then
    (app l13 [x16]).bind fun l41 =>
    kj21 l41 x16
    else
    kj21 l13 best15
    else
    kj11 l13

def i_RecordsOf (N : Nat) (list1 : List Trial) (penalty4 : Int) : Option ((List Int) × Int) :=
  (i_trialsCode N list1 penalty4).bind fun r5 =>
  bif (r5 != 0) then
  some ([], r5)
  else
  withK (fun (l9 : List Int) =>
  some (l9, 0)) fun (kj11 : (List Int) → Option ((List Int) × Int)) =>
  i_RecordsOf_l1 kj11 list1 penalty4 N [] 0 0

def s_l00In (n1 : Int) (low2 : Int) (high3 : Int) : Option Bool :=
  (andO (decide (n1 ≥ low2)) (some (decide (n1 ≤ high3)))).bind fun t4 =>
  some t4

def s_l20One (x1 : Trial) : Option Bool :=
  (s_l00In x1.strokes 0 100000).bind fun r4 =>
  (andO r4 ((s_l00In x1.errors 0 x1.strokes).bind fun r9 =>
  some r9)).bind fun t6 =>
  (andO t6 ((s_l00In x1.seconds 1 7200).bind fun r14 =>
  some r14)).bind fun t11 =>
  some t11

def s_l20Ok_l1 (kj4 : Option Bool) (list1 : List Trial) : Nat → Int → Option Bool
  | 0, _ => none
  | N + 1, i6 =>
    bif decide (i6 < (List.length list1 : Int)) then
    (idx list1 i6).bind fun e8 =>
    (s_l20One e8).bind fun r13 =>
    bif !r13 then
    some false
    else
    s_l20Ok_l1 kj4 list1 N (w64 (i6 + 1))
    else
    kj4 

def s_l20Ok (N : Nat) (list1 : List Trial) : Option Bool :=
  withK (some (decide ((List.length list1 : Int) ≤ 40))) fun (kj4 : Option Bool) =>
  s_l20Ok_l1 kj4 list1 N 0

def s_l20Penalty (n1 : Int) : Option Bool :=
  (s_l00In n1 0 50).bind fun r2 =>
  some r2

def s_l20List (N : Nat) (list1 : List Trial) (penalty4 : Int) : Option Int :=
  (s_l20Ok N list1).bind fun r5 =>
  bif !r5 then
  some 1
  else
  (s_l20Penalty penalty4).bind fun r8 =>
  bif !r8 then
  some 2
  else
  some 0

def s_l00Max (a1 : Int) (b2 : Int) : Option Int :=
  bif decide (a1 > b2) then
  some a1
  else
  some b2

def s_l20Net (x1 : Trial) (penalty4 : Int) : Option Int :=
  (s_l00Max 0 (w64 (x1.strokes - (w64 (penalty4 * x1.errors))))).bind fun r5 =>
  some r5

def s_l20Less (a1 : Trial) (b4 : Trial) (penalty7 : Int) : Option Bool :=
  (s_l20Net a1 penalty7).bind fun r8 =>
  (s_l20Net b4 penalty7).bind fun r10 =>
  some (decide ((w64 (r8 * b4.seconds)) < (w64 (r10 * a1.seconds))))

def s_RecordsOf_l1 (kj11 : (List Int) → Option ((List Int) × Int)) (list1 : List Trial) (penalty4 : Int) : Nat → (List Int) → Int → Option ((List Int) × Int)
  | 0, _, _ => none
  | N + 1, l13, i15 =>
    bif decide (i15 < (List.length list1 : Int)) then
    withK (fun (l17 : List Int) =>
    s_RecordsOf_l1 kj11 list1 penalty4 N l17 (w64 (i15 + 1))) fun (kj19 : (List Int) → Option ((List Int) × Int)) =>
    (orO ((List.length l13 : Int) == 0) ((idx l13 (w64 ((List.length l13 : Int) - 1))).bind fun e24 =>
    (idx list1 e24).bind fun e26 =>
    (idx list1 i15).bind fun e31 =>
    (s_l20Less e26 e31 penalty4).bind fun r36 =>
    some r36)).bind fun t21 =>
    bif t21 then
    (app l13 [i15]).bind fun l40 =>
    kj19 l40
    else
    kj19 l13
    else
    kj11 l13

def s_RecordsOf (N : Nat) (list1 : List Trial) (penalty4 : Int) : Option ((List Int) × Int) :=
  (s_l20List N list1 penalty4).bind fun r5 =>
  bif (r5 != 0) then
  some ([], r5)
  else
  withK (fun (l9 : List Int) =>
  some (l9, 0)) fun (kj11 : (List Int) → Option ((List Int) × Int)) =>
  s_RecordsOf_l1 kj11 list1 penalty4 N [] 0

def i_FastestTrial_l1 (kj10 : Int → Option (Int × Int)) (list1 : List Trial) (penalty4 : Int) : Nat → Int → Int → Option (Int × Int)
  | 0, _, _ => none
  | N + 1, best12, x13 =>
    bif decide (x13 < (List.length list1 : Int)) then
    withK (fun (best15 : Int) =>
    i_FastestTrial_l1 kj10 list1 penalty4 N best15 (w64 (x13 + 1))) fun (kj16 : Int → Option (Int × Int)) =>
    (idx list1 x13).bind fun e18 =>
    (idx list1 best12).bind fun e24 =>
    (i_Trial_slower e24 e18 penalty4).bind fun r29 =>
    bif r29 then
    kj16 x13
    else
    kj16 best12
    else
    kj10 best12

def i_FastestTrial (N : Nat) (list1 : List Trial) (penalty4 : Int) : Option (Int × Int) :=
  (i_trialsCode N list1 penalty4).bind fun r5 =>
  bif (r5 != 0) then
  some (0, r5)
  else
  bif ((List.length list1 : Int) == 0) then
  some (0, 3)
  else
  withK (fun (best9 : Int) =>
  some (best9, 0)) fun (kj10 : Int → Option (Int × Int)) =>
  i_FastestTrial_l1 kj10 list1 penalty4 N 0 0

def s_l20Some (N : Nat) (list1 : List Trial) (penalty4 : Int) : Option Int :=
  (s_l20List N list1 penalty4).bind fun r5 =>
  withK (fun (code7 : Int) =>
  some code7) fun (kj8 : Int → Option Int) =>
  (andO (r5 == 0) (some ((List.length list1 : Int) == 0))).bind fun t10 =>
  bif t10 then
  kj8 3
  else
  kj8 r5

def s_FastestTrial_l1 (kj9 : Int → Option (Int × Int)) (list1 : List Trial) (penalty4 : Int) : Nat → Int → Int → Option (Int × Int)
  | 0, _, _ => none
  | N + 1, best11, i12 =>
    bif decide (i12 < (List.length list1 : Int)) then
    withK (fun (best14 : Int) =>
    s_FastestTrial_l1 kj9 list1 penalty4 N best14 (w64 (i12 + 1))) fun (kj15 : Int → Option (Int × Int)) =>
    (idx list1 best11).bind fun e17 =>
    (idx list1 i12).bind fun e22 =>
    (s_l20Less e17 e22 penalty4).bind fun r27 =>
    bif r27 then
    kj15 i12
    else
    kj15 best11
    else
    kj9 best11

def s_FastestTrial (N : Nat) (list1 : List Trial) (penalty4 : Int) : Option (Int × Int) :=
  (s_l20Some N list1 penalty4).bind fun r5 =>
  bif (r5 != 0) then
  some (0, r5)
  else
  withK (fun (best8 : Int) =>
  some (best8, 0)) fun (kj9 : Int → Option (Int × Int)) =>
  s_FastestTrial_l1 kj9 list1 penalty4 N 0 1

def i_MedianTrial_c1 (i1 : Int) (k2 : Int) (x3 : List Trial) (x8 : List Int) (x13 : Int) : Option Bool :=
  (idx x8 i1).bind fun e16 =>
  (idx x3 e16).bind fun e21 =>
  (idx x8 k2).bind fun e26 =>
  (idx x3 e26).bind fun e31 =>
  (i_Trial_slower e21 e31 x13).bind fun r36 =>
  some r36

def i_MedianTrial_l1 (kj16 : (List Int) → Option (Int × Int)) (list1 : List Trial) : Nat → (List Int) → Int → Option (Int × Int)
  | 0, _, _ => none
  | N + 1, l18, x20 =>
    bif decide (x20 < (List.length list1 : Int)) then
    (app l18 [x20]).bind fun l23 =>
    i_MedianTrial_l1 kj16 list1 N l23 (w64 (x20 + 1))
    else
    kj16 l18

def i_MedianTrial (N : Nat) (list1 : List Trial) (penalty4 : Int) : Option (Int × Int) :=
  (i_trialsCode N list1 penalty4).bind fun r7 =>
  bif (r7 != 0) then
  some (0, r7)
  else
  bif ((List.length list1 : Int) == 0) then
  some (0, 3)
  else
  withK (fun (l14 : List Int) =>
  (srtS (fun i j dk => i_MedianTrial_c1 i j list1 dk penalty4) l14).bind fun l27 =>
  (idx l27 (w64 (Int.tdiv (w64 ((List.length l27 : Int) - 1)) 2))).bind fun e29 =>
  some (e29, 0)) fun (kj16 : (List Int) → Option (Int × Int)) =>
  i_MedianTrial_l1 kj16 list1 N [] 0

def s_l00Own (list1 : List Int) : Option (List Int) :=
  (app [] list1).bind fun l5 =>
  some l5

def s_MedianTrial_l2 (kj22 : Int → Option (Int × Int)) (list1 : List Trial) (penalty4 : Int) (l13 : List Int) (i15 : Int) : Nat → Int → Option (Int × Int)
  | 0, _ => none
  | N + 1, k24 =>
    (andO (decide (k24 > 0)) ((idx list1 i15).bind fun e28 =>
    (idx l13 (w64 (k24 - 1))).bind fun e33 =>
    (idx list1 e33).bind fun e35 =>
    (s_l20Less e28 e35 penalty4).bind fun r40 =>
    some r40)).bind fun t25 =>
    bif t25 then
    s_MedianTrial_l2 kj22 list1 penalty4 l13 i15 N (w64 (k24 - 1))
    else
    kj22 k24

def s_MedianTrial_l1 (kj11 : (List Int) → Option (Int × Int)) (list1 : List Trial) (penalty4 : Int) : Nat → (List Int) → Int → Option (Int × Int)
  | 0, _, _ => none
  | N + 1, l13, i15 =>
    bif decide (i15 < (List.length list1 : Int)) then
    withK (fun (l17 : List Int) =>
    s_MedianTrial_l1 kj11 list1 penalty4 N l17 (w64 (i15 + 1))) fun (kj19 : (List Int) → Option (Int × Int)) =>
    withK (fun (k21 : Int) =>
    (sub l13 0 k21).bind fun l43 =>
    (s_l00Own l43).bind fun r45 =>
    (app r45 [i15]).bind fun l49 =>
    (sub l13 k21 (List.length l13 : Int)).bind fun l52 =>
    (app l49 l52).bind fun l54 =>
    kj19 l54) fun (kj22 : Int → Option (Int × Int)) =>
    s_MedianTrial_l2 kj22 list1 penalty4 l13 i15 N (List.length l13 : Int)
    else
    kj11 l13

def s_MedianTrial (N : Nat) (list1 : List Trial) (penalty4 : Int) : Option (Int × Int) :=
  (s_l20Some N list1 penalty4).bind fun r5 =>
  bif (r5 != 0) then
  some (0, r5)
  else
  withK (fun (l9 : List Int) =>
  (idx l9 (w64 (Int.tdiv (w64 ((List.length l9 : Int) - 1)) 2))).bind fun e57 =>
  some (e57, 0)) fun (kj11 : (List Int) → Option (Int × Int)) =>
  s_MedianTrial_l1 kj11 list1 penalty4 N [] 0

def i_LongestRise_l1 (kj11 : Int → Int → Option (Int × Int × Int)) (list1 : List Trial) (penalty4 : Int) : Nat → Int → Int → Int → Int → Option (Int × Int × Int)
  | 0, _, _, _, _ => none
  | N + 1, best13, most14, start15, i16 =>
    bif decide (i16 < (List.length list1 : Int)) then
    withK (fun (best18 : Int) (most19 : Int) (start20 : Int) =>
    i_LongestRise_l1 kj11 list1 penalty4 N best18 most19 start20 (w64 (i16 + 1))) fun (kj21 : Int → Int → Int → Option (Int × Int × Int)) =>
    withK (fun (start23 : Int) =>
    bif decide ((w64 ((w64 (i16 - start23)) + 1)) > most14) then
    kj21 start23 (w64 ((w64 (i16 - start23)) + 1)) start23
    else
    kj21 best13 most14 start23) fun (kj24 : Int → Option (Int × Int × Int)) =>
    (idx list1 (w64 (i16 - 1))).bind fun e26 =>
    (idx list1 i16).bind fun e31 =>
    (i_Trial_slower e26 e31 penalty4).bind fun r36 =>
    bif !r36 then
    kj24 i16
    else
    kj24 start15
    else
    kj11 best13 most14

def i_LongestRise (N : Nat) (list1 : List Trial) (penalty4 : Int) : Option (Int × Int × Int) :=
  (i_trialsCode N list1 penalty4).bind fun r5 =>
  bif (r5 != 0) then
  some (0, 0, r5)
  else
  bif ((List.length list1 : Int) == 0) then
  some (0, 0, 3)
  else
  withK (fun (best9 : Int) (most10 : Int) =>
  some (best9, most10, 0)) fun (kj11 : Int → Int → Option (Int × Int × Int)) =>
  i_LongestRise_l1 kj11 list1 penalty4 N 0 1 0 1

def s_LongestRise_l1 (kj10 : Int → Int → Option (Int × Int × Int)) (list1 : List Trial) (penalty4 : Int) : Nat → Int → Int → Int → Int → Option (Int × Int × Int)
  | 0, _, _, _, _ => none
  | N + 1, from12, most13, begin14, i15 =>
    bif decide (i15 < (List.length list1 : Int)) then
    withK (fun (from17 : Int) (most18 : Int) (begin19 : Int) =>
    s_LongestRise_l1 kj10 list1 penalty4 N from17 most18 begin19 (w64 (i15 + 1))) fun (kj20 : Int → Int → Int → Option (Int × Int × Int)) =>
    withK (fun (begin22 : Int) =>
    bif decide ((w64 ((w64 (i15 - begin22)) + 1)) > most13) then
    kj20 begin22 (w64 ((w64 (i15 - begin22)) + 1)) begin22
    else
    kj20 from12 most13 begin22) fun (kj23 : Int → Option (Int × Int × Int)) =>
    (idx list1 (w64 (i15 - 1))).bind fun e25 =>
    (idx list1 i15).bind fun e30 =>
    (s_l20Less e25 e30 penalty4).bind fun r35 =>
    bif !r35 then
    kj23 i15
    else
    kj23 begin14
    else
    kj10 from12 most13

def s_LongestRise (N : Nat) (list1 : List Trial) (penalty4 : Int) : Option (Int × Int × Int) :=
  (s_l20Some N list1 penalty4).bind fun r5 =>
  bif (r5 != 0) then
  some (0, 0, r5)
  else
  withK (fun (from8 : Int) (most9 : Int) =>
  some (from8, most9, 0)) fun (kj10 : Int → Int → Option (Int × Int × Int)) =>
  s_LongestRise_l1 kj10 list1 penalty4 N 0 1 0 1

def s_DrawSameTrials (N : Nat) (code1 : List UInt8) : Option ((List Trial) × (List Trial)) :=
  (s_l00From code1).bind fun r4 =>
  (s_l20Draw N (L00Src.mk code1 r4.at_ r4.seed)).bind fun r7 =>
  (app [] r7.1).bind fun l11 =>
  withK (fun (x14 : Int) (x15 : Int) (l16 : List Trial) =>
  withK (fun (l33 : List Trial) =>
  some (r7.1, l33)) fun (kj35 : (List Trial) → Option ((List Trial) × (List Trial))) =>
  (s_l00Src_one (L00Src.mk code1 x14 x15) 5).bind fun r37 =>
  bif r37.1 then
  (app l16 [(Trial.mk 0 0 0)]).bind fun l41 =>
  kj35 l41
  else
  kj35 l16) fun (kj17 : Int → Int → (List Trial) → Option ((List Trial) × (List Trial))) =>
  (bif decide ((List.length l11 : Int) > 0) then (s_l00Src_one (L00Src.mk code1 r7.2.at_ r7.2.seed) 2).bind fun r23 =>
  some (r23.1, (L00Src.mk code1 r23.2.at_ r23.2.seed)) else some (false, (L00Src.mk code1 r7.2.at_ r7.2.seed))).bind fun x21 =>
  bif x21.1 then
  (idx l11 0).bind fun e26 =>
  (s_l00Src_pick (L00Src.mk code1 x21.2.at_ x21.2.seed) 2).bind fun r28 =>
  (idx l11 0).bind fun e30 =>
  kj17 r28.2.at_ r28.2.seed (List.set l11 (Int.toNat 0) (Trial.mk e30.strokes (w64 (e26.errors + r28.1)) e30.seconds))
  else
  kj17 x21.2.at_ x21.2.seed l11

def w_f6ints_l1 (kj8 : Option Bool) (a1 : List Int) (b4 : List Int) : Nat → Int → Option Bool
  | 0, _ => none
  | N + 1, i10 =>
    bif decide (i10 < (List.length a1 : Int)) then
    (idx a1 i10).bind fun e12 =>
    (idx b4 i10).bind fun e17 =>
    bif (e12 != e17) then
    some false
    else
    w_f6ints_l1 kj8 a1 b4 N (w64 (i10 + 1))
    else
    kj8 

def w_f6ints (N : Nat) (a1 : List Int) (b4 : List Int) : Option Bool :=
  bif ((List.length a1 : Int) != (List.length b4 : Int)) then
  some false
  else
  withK (some true) fun (kj8 : Option Bool) =>
  w_f6ints_l1 kj8 a1 b4 N 0

def i_SameTrials_l1 (kj8 : Option Bool) (a1 : List Trial) (b4 : List Trial) : Nat → Int → Option Bool
  | 0, _ => none
  | N + 1, x10 =>
    bif decide (x10 < (List.length a1 : Int)) then
    (idx a1 x10).bind fun e12 =>
    (idx b4 x10).bind fun e17 =>
    bif !(Trial.beq e12 e17) then
    some false
    else
    i_SameTrials_l1 kj8 a1 b4 N (w64 (x10 + 1))
    else
    kj8 

def i_SameTrials (N : Nat) (a1 : List Trial) (b4 : List Trial) : Option Bool :=
  bif ((List.length a1 : Int) != (List.length b4 : Int)) then
  some false
  else
  withK (some true) fun (kj8 : Option Bool) =>
  i_SameTrials_l1 kj8 a1 b4 N 0

def s_SameTrials_l1 (kj8 : Option Bool) (a1 : List Trial) (b4 : List Trial) : Nat → Int → Option Bool
  | 0, _ => none
  | N + 1, i10 =>
    bif decide (i10 < (List.length a1 : Int)) then
    (idx a1 i10).bind fun e12 =>
    (idx b4 i10).bind fun e17 =>
    bif !(Trial.beq e12 e17) then
    some false
    else
    s_SameTrials_l1 kj8 a1 b4 N (w64 (i10 + 1))
    else
    kj8 

def s_SameTrials (N : Nat) (a1 : List Trial) (b4 : List Trial) : Option Bool :=
  bif ((List.length a1 : Int) != (List.length b4 : Int)) then
  some false
  else
  withK (some true) fun (kj8 : Option Bool) =>
  s_SameTrials_l1 kj8 a1 b4 N 0

def s_ValidTrials (N : Nat) (list1 : List Trial) : Option Bool :=
  (s_l20Ok N list1).bind fun r4 =>
  some r4

def w_f6faster (a1 : Trial) (b2 : Trial) (penalty3 : Int) : Option Bool :=
  some (decide ((w64 ((imax 0 (w64 (a1.strokes - (w64 (penalty3 * a1.errors))))) * b2.seconds)) > (w64 ((imax 0 (w64 (b2.strokes - (w64 (penalty3 * b2.errors))))) * a1.seconds))))

def w_FnRecords_l1 (kj87 : Int → Int → Option Bool) (r7 : (List Trial) × Int) (r18 : Int × Int) (r22 : Int × Int) : Nat → Int → Int → Int → Option Bool
  | 0, _, _, _ => none
  | N + 1, slower89, faster90, i91 =>
    bif decide (i91 < (List.length r7.1 : Int)) then
    withK (fun (slower93 : Int) (faster94 : Int) =>
    w_FnRecords_l1 kj87 r7 r18 r22 N slower93 faster94 (w64 (i91 + 1))) fun (kj95 : Int → Int → Option Bool) =>
    (idx r7.1 i91).bind fun e97 =>
    (idx r7.1 r18.1).bind fun e99 =>
    (w_f6faster e97 e99 r7.2).bind fun r101 =>
    bif r101 then
    some false
    else
    withK (fun (slower104 : Int) =>
    (idx r7.1 i91).bind fun e114 =>
    (idx r7.1 r22.1).bind fun e116 =>
    (w_f6faster e114 e116 r7.2).bind fun r118 =>
    bif r118 then
    kj95 slower104 (w64 (faster90 + 1))
    else
    kj95 slower104 faster90) fun (kj105 : Int → Option Bool) =>
    (idx r7.1 r22.1).bind fun e107 =>
    (idx r7.1 i91).bind fun e109 =>
    (w_f6faster e107 e109 r7.2).bind fun r111 =>
    bif r111 then
    kj105 (w64 (slower89 + 1))
    else
    kj105 slower89
    else
    kj87 slower89 faster90

def w_FnRecords_l2 (kj125 : Option Bool) (r7 : (List Trial) × Int) (r26 : Int × Int × Int) : Nat → Int → Option Bool
  | 0, _ => none
  | N + 1, i127 =>
    bif decide (i127 < (w64 (r26.1 + r26.2.1))) then
    (idx r7.1 i127).bind fun e129 =>
    (idx r7.1 (w64 (i127 - 1))).bind fun e131 =>
    (w_f6faster e129 e131 r7.2).bind fun r133 =>
    bif !r133 then
    some false
    else
    w_FnRecords_l2 kj125 r7 r26 N (w64 (i127 + 1))
    else
    kj125 

def w_FnRecords (N : Nat) (code1 : List UInt8) : Option Bool :=
  (w_f6big code1).bind fun r4 =>
  bif r4 then
  some true
  else
  (s_DrawRecordsOf N code1).bind fun r7 =>
  (i_RecordsOf N r7.1 r7.2).bind fun r10 =>
  (s_RecordsOf N r7.1 r7.2).bind fun r13 =>
  (i_FastestTrial N r7.1 r7.2).bind fun r16 =>
  (s_FastestTrial N r7.1 r7.2).bind fun r18 =>
  (i_MedianTrial N r7.1 r7.2).bind fun r20 =>
  (s_MedianTrial N r7.1 r7.2).bind fun r22 =>
  (i_LongestRise N r7.1 r7.2).bind fun r24 =>
  (s_LongestRise N r7.1 r7.2).bind fun r26 =>
  (s_DrawSameTrials N code1).bind fun r28 =>
  (orO (r10.2 != r13.2) ((w_f6ints N r10.1 r13.1).bind fun r35 =>
  some (!r35))).bind fun t32 =>
  (orO t32 (some (r16.2 != r18.2))).bind fun t37 =>
  (orO t37 (some (r16.1 != r18.1))).bind fun t40 =>
  (orO t40 (some (r20.2 != r22.2))).bind fun t43 =>
  (orO t43 (some (r20.1 != r22.1))).bind fun t46 =>
  (orO t46 (some (r24.2.2 != r26.2.2))).bind fun t49 =>
  (orO t49 (some (r24.1 != r26.1))).bind fun t52 =>
  (orO t52 (some (r24.2.1 != r26.2.1))).bind fun t55 =>
  (orO t55 ((i_SameTrials N r28.1 r28.2).bind fun r61 =>
  (s_SameTrials N r28.1 r28.2).bind fun r63 =>
  some (r61 != r63))).bind fun t58 =>
  (orO t58 ((i_ValidTrials N r7.1).bind fun r68 =>
  (s_ValidTrials N r7.1).bind fun r70 =>
  some (r68 != r70))).bind fun t65 =>
  bif t65 then
  some false
  else
  bif (r16.2 != 0) then
  some true
  else
  (orO ((List.length r13.1 : Int) == 0) ((idx r13.1 (w64 ((List.length r13.1 : Int) - 1))).bind fun e77 =>
  some (e77 != r18.1))).bind fun t74 =>
  (orO t74 ((idx r13.1 0).bind fun e82 =>
  some (e82 != 0))).bind fun t79 =>
  bif t79 then
  some false
  else
  withK (fun (slower85 : Int) (faster86 : Int) =>
  (orO (decide ((w64 (2 * slower85)) ≥ (List.length r7.1 : Int))) (some (decide ((w64 (2 * faster86)) > (List.length r7.1 : Int))))).bind fun t121 =>
  bif t121 then
  some false
  else
  withK (some true) fun (kj125 : Option Bool) =>
  w_FnRecords_l2 kj125 r7 r26 N (w64 (r26.1 + 1))) fun (kj87 : Int → Int → Option Bool) =>
  w_FnRecords_l1 kj87 r7 r18 r22 N 0 0 0

end Go.Proofs.Ytpdcifgphocllaa
