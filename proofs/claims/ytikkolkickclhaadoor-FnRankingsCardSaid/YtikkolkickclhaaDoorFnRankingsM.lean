/-
  Plain functions that compute what the Go functions compute. No conditions.
-/
import Derived.Test.YtikkolkickclhaaDoorSortMore
namespace Go.Proofs.YtikkolkickclhaaDoor
set_option linter.unusedVariables false
set_option linter.unusedSimpArgs false

structure Result where
  name : Str
  net : Int
  errors : Int

def Result.beq (x y : Result) : Bool := x.name == y.name && (x.net == y.net && (x.errors == y.errors))

structure L00Src where
  code : List UInt8
  at_ : Int
  seed : Int

structure Tied where
  place : Int
  list : List Int



def w_f6big (code1 : List UInt8) : Option Bool :=
  some (decide ((List.length code1 : Int) > 4096))

def s_l00From (code1 : List UInt8) : Option L00Src :=
  some (L00Src.mk code1 0 0)

def s_l00Src_next (s1 : L00Src) : Option (Int × L00Src) :=
  withK (fun (b5 : Int) =>
  bif decide ((w64 (s1.at_ + 1)) ≤ (List.length s1.code : Int)) then
  some (b5, (L00Src.mk s1.code (w64 (s1.at_ + 1)) (IntKind.u64.wrap ((IntKind.u64.wrap ((IntKind.u64.wrap (s1.seed * 6364136223846793005)) + (IntKind.u64.wrap b5))) + 1442695040888963407))))
  else
  some (w64 (uand (ushr (IntKind.u64.wrap ((IntKind.u64.wrap ((IntKind.u64.wrap (s1.seed * 6364136223846793005)) + (IntKind.u64.wrap b5))) + 1442695040888963407)) 40) 255), (L00Src.mk s1.code (w64 (s1.at_ + 1)) (IntKind.u64.wrap ((IntKind.u64.wrap ((IntKind.u64.wrap (s1.seed * 6364136223846793005)) + (IntKind.u64.wrap b5))) + 1442695040888963407))))) fun (kj6 : Int → Option (Int × L00Src)) =>
  bif decide (s1.at_ < (List.length s1.code : Int)) then
  (idx s1.code s1.at_).bind fun e9 =>
  kj6 (UInt8.toNat e9 : Int)
  else
  kj6 0

def s_l00Src_pick (s1 : L00Src) (n5 : Int) : Option (Int × L00Src) :=
  bif decide (n5 ≤ 1) then
  some (0, (L00Src.mk s1.code s1.at_ s1.seed))
  else
  (s_l00Src_next (L00Src.mk s1.code s1.at_ s1.seed)).bind fun r7 =>
  withK (fun (x9 : Int) (x10 : Int) (x11 : Int) =>
  (remO x11 n5).bind fun q17 =>
  some (q17, (L00Src.mk s1.code x9 x10))) fun (kj12 : Int → Int → Int → Option (Int × L00Src)) =>
  bif decide (n5 > 200) then
  (s_l00Src_next (L00Src.mk s1.code r7.2.at_ r7.2.seed)).bind fun r15 =>
  kj12 r15.2.at_ r15.2.seed (w64 ((w64 (r7.1 * 256)) + r15.1))
  else
  kj12 r7.2.at_ r7.2.seed r7.1

def s_l22New (s1 : L00Src) (name5 : Str) : Option (Result × L00Src) :=
  (s_l00Src_pick (L00Src.mk s1.code s1.at_ s1.seed) 12).bind fun r7 =>
  (s_l00Src_pick (L00Src.mk s1.code r7.2.at_ r7.2.seed) 4).bind fun r10 =>
  some ((Result.mk ((Result.mk name5 (w64 (50 * r7.1)) 0).name) ((Result.mk name5 (w64 (50 * r7.1)) 0).net) r10.1), (L00Src.mk s1.code r10.2.at_ r10.2.seed))

def s_l22Draw_l1 (kj11 : Int → Int → (List Result) → Option ((List Result) × L00Src)) (s1 : L00Src) : Nat → Int → Int → (List Result) → Int → Option ((List Result) × L00Src)
  | 0, _, _, _, _ => none
  | N + 1, x15, x16, l17, k19 =>
    bif decide (k19 > 0) then
    (idx ([[97, 100, 97], [98, 101, 110], [99, 108, 101, 111], [100, 111, 114, 97], [101, 109, 105, 108], [102, 97, 121], [103, 117, 115], [104, 97, 108, 45, 50], [105, 118, 121]] : List Str) (List.length l17 : Int)).bind fun e21 =>
    (s_l22New (L00Src.mk s1.code x15 x16) e21).bind fun r23 =>
    (app l17 [r23.1]).bind fun l26 =>
    s_l22Draw_l1 kj11 s1 N r23.2.at_ r23.2.seed l26 (w64 (k19 - 1))
    else
    kj11 x15 x16 l17

def s_l22Draw (N : Nat) (s1 : L00Src) : Option ((List Result) × L00Src) :=
  withK (fun (x7 : Int) (x8 : Int) (l9 : List Result) =>
  some (l9, (L00Src.mk s1.code x7 x8))) fun (kj11 : Int → Int → (List Result) → Option ((List Result) × L00Src)) =>
  (s_l00Src_pick (L00Src.mk s1.code s1.at_ s1.seed) 10).bind fun r13 =>
  s_l22Draw_l1 kj11 s1 N r13.2.at_ r13.2.seed [] r13.1

def s_l00Src_one (s1 : L00Src) (n5 : Int) : Option (Bool × L00Src) :=
  (s_l00Src_pick (L00Src.mk s1.code s1.at_ s1.seed) n5).bind fun r6 =>
  some ((r6.1 == 0), (L00Src.mk s1.code r6.2.at_ r6.2.seed))

def s_l00Src_text (s1 : L00Src) (list5 : List Str) : Option (Str × L00Src) :=
  (s_l00Src_pick (L00Src.mk s1.code s1.at_ s1.seed) (List.length list5 : Int)).bind fun r8 =>
  (idx list5 r8.1).bind fun e10 =>
  some (e10, (L00Src.mk s1.code r8.2.at_ r8.2.seed))

def s_l00Src_among (s1 : L00Src) (list5 : List Int) : Option (Int × L00Src) :=
  (s_l00Src_pick (L00Src.mk s1.code s1.at_ s1.seed) (List.length list5 : Int)).bind fun r8 =>
  (idx list5 r8.1).bind fun e10 =>
  some (e10, (L00Src.mk s1.code r8.2.at_ r8.2.seed))

def s_l22Bent_l1 (kj12 : Int → Int → (List Result) → Option ((List Result) × L00Src)) (r18 : Int × L00Src) : Nat → (List Result) → Int → Option ((List Result) × L00Src)
  | 0, _, _ => none
  | N + 1, l20, k22 =>
    bif decide (k22 > 0) then
    (app l20 [(Result.mk [(97 : UInt8) + (UInt8.ofInt (Int.tdiv (UInt8.toNat (UInt8.ofInt (List.length l20 : Int)) : Int) 26)), (97 : UInt8) + (UInt8.ofInt (Int.tmod (UInt8.toNat (UInt8.ofInt (List.length l20 : Int)) : Int) 26))] (Int.tmod k22 7) 0)]).bind fun l26 =>
    s_l22Bent_l1 kj12 r18 N l26 (w64 (k22 - 1))
    else
    kj12 r18.2.at_ r18.2.seed l20

def s_l22Bent (N : Nat) (s1 : L00Src) : Option ((List Result) × L00Src) :=
  (s_l22Draw N (L00Src.mk s1.code s1.at_ s1.seed)).bind fun r5 =>
  withK (fun (x8 : Int) (x9 : Int) (l10 : List Result) =>
  bif ((List.length l10 : Int) == 0) then
  some (l10, (L00Src.mk s1.code x8 x9))
  else
  (s_l00Src_pick (L00Src.mk s1.code x8 x9) (List.length l10 : Int)).bind fun r30 =>
  (idx l10 r30.1).bind fun e32 =>
  withK (fun (x34 : Int) (x35 : Int) (l36 : List Result) =>
  some (l36, (L00Src.mk s1.code x34 x35))) fun (kj37 : Int → Int → (List Result) → Option ((List Result) × L00Src)) =>
  (s_l00Src_pick (L00Src.mk s1.code r30.2.at_ r30.2.seed) 24).bind fun r39 =>
  bif (r39.1 == 0) then
  (s_l00Src_text (L00Src.mk s1.code r39.2.at_ r39.2.seed) ([[], [65, 100, 97], [97, 100, 97]] : List Str)).bind fun r43 =>
  kj37 r43.2.at_ r43.2.seed (List.set l10 (Int.toNat r30.1) (Result.mk r43.1 e32.net e32.errors))
  else
  bif (r39.1 == 1) then
  (s_l00Src_among (L00Src.mk s1.code r39.2.at_ r39.2.seed) [(-1), 0, 100000, 100001, (-9223372036854775808)]).bind fun r47 =>
  kj37 r47.2.at_ r47.2.seed (List.set l10 (Int.toNat r30.1) (Result.mk e32.name r47.1 e32.errors))
  else
  bif (r39.1 == 2) then
  (s_l00Src_among (L00Src.mk s1.code r39.2.at_ r39.2.seed) [(-1), 0, 100000, 100001]).bind fun r51 =>
  kj37 r51.2.at_ r51.2.seed (List.set l10 (Int.toNat r30.1) (Result.mk e32.name e32.net r51.1))
  else
  kj37 r39.2.at_ r39.2.seed l10) fun (kj12 : Int → Int → (List Result) → Option ((List Result) × L00Src)) =>
  (s_l00Src_one (L00Src.mk s1.code r5.2.at_ r5.2.seed) 24).bind fun r14 =>
  bif r14.1 then
  (s_l00Src_pick (L00Src.mk s1.code r14.2.at_ r14.2.seed) 2).bind fun r18 =>
  s_l22Bent_l1 kj12 r18 N [] (w64 (40 + r18.1))
  else
  kj12 r14.2.at_ r14.2.seed r5.1

def s_DrawHeatsOf (N : Nat) (code1 : List UInt8) : Option ((List Result) × Int) :=
  (s_l00From code1).bind fun r4 =>
  (s_l22Bent N (L00Src.mk code1 r4.at_ r4.seed)).bind fun r7 =>
  (s_l00Src_one (L00Src.mk code1 r7.2.at_ r7.2.seed) 8).bind fun r10 =>
  bif r10.1 then
  (s_l00Src_among (L00Src.mk code1 r10.2.at_ r10.2.seed) [(-1), 0, 1, 10, 11]).bind fun r14 =>
  some (r7.1, r14.1)
  else
  (s_l00Src_pick (L00Src.mk code1 r10.2.at_ r10.2.seed) 4).bind fun r16 =>
  some (r7.1, w64 (1 + r16.1))

def i_isDigit (b1 : UInt8) : Option Bool :=
  (andO (decide (b1 ≥ (48 : UInt8))) (some (decide (b1 ≤ (57 : UInt8))))).bind fun t2 =>
  some t2

def i_IsName_l1 (kj6 : Option Bool) (s1 : Str) : Nat → Int → Option Bool
  | 0, _ => none
  | N + 1, x8 =>
    bif decide (x8 < (List.length s1 : Int)) then
    (idx s1 x8).bind fun c10 =>
    (andO (decide (c10 ≥ (97 : UInt8))) ((idx s1 x8).bind fun c15 =>
    some (decide (c15 ≤ (122 : UInt8))))).bind fun t12 =>
    (andO (!t12) ((orO (x8 == 0) ((idx s1 x8).bind fun c23 =>
    (andO (c23 != (45 : UInt8)) ((idx s1 x8).bind fun c28 =>
    (i_isDigit c28).bind fun r30 =>
    some (!r30))).bind fun t25 =>
    some t25)).bind fun t20 =>
    some t20)).bind fun t17 =>
    bif t17 then
    some false
    else
    i_IsName_l1 kj6 s1 N (w64 (x8 + 1))
    else
    kj6 

def i_IsName (N : Nat) (s1 : Str) : Option Bool :=
  (orO ((List.length s1 : Int) == 0) (some (decide ((List.length s1 : Int) > 12)))).bind fun t2 =>
  bif t2 then
  some false
  else
  withK (some true) fun (kj6 : Option Bool) =>
  i_IsName_l1 kj6 s1 N 0

def i_between (n1 : Int) (low2 : Int) (high3 : Int) : Option Bool :=
  (andO (decide (n1 ≥ low2)) (some (decide (n1 ≤ high3)))).bind fun t4 =>
  some t4

def i_ValidResults_l1 (kj5 : Option Bool) (list1 : List Result) : Nat → (List (Str × Bool)) → Int → Option Bool
  | 0, _, _ => none
  | N + 1, mp7, x8 =>
    bif decide (x8 < (List.length list1 : Int)) then
    (idx list1 x8).bind fun e10 =>
    (i_IsName N e10.name).bind fun r16 =>
    (orO (!r16) (some (mget mp7 e10.name))).bind fun t18 =>
    (orO t18 ((i_between e10.net 0 100000).bind fun r24 =>
    some (!r24))).bind fun t21 =>
    (orO t21 ((i_between e10.errors 0 100000).bind fun r29 =>
    some (!r29))).bind fun t26 =>
    bif t26 then
    some false
    else
    i_ValidResults_l1 kj5 list1 N (mset mp7 e10.name true) (w64 (x8 + 1))
    else
    kj5 

def i_ValidResults (N : Nat) (list1 : List Result) : Option Bool :=
  withK (some (decide ((List.length list1 : Int) ≤ 40))) fun (kj5 : Option Bool) =>
  i_ValidResults_l1 kj5 list1 N [] 0

def i_Result_better (x1 : Result) (y2 : Result) : Option Bool :=
  (orO (decide (x1.net > y2.net)) ((andO (x1.net == y2.net) (some (decide (x1.errors < y2.errors)))).bind fun t8 =>
  some t8)).bind fun t5 =>
  some t5

def i_ranking_c1 (i1 : Int) (k2 : Int) (x3 : List Result) (x8 : List Int) : Option Bool :=
  (idx x8 i1).bind fun e13 =>
  (idx x3 e13).bind fun e18 =>
  (idx x8 k2).bind fun e23 =>
  (idx x3 e23).bind fun e28 =>
  (i_Result_better e18 e28).bind fun r33 =>
  some r33

def i_ranking_l1 (kj10 : (List Int) → Option (List Int)) (list1 : List Result) : Nat → (List Int) → Int → Option (List Int)
  | 0, _, _ => none
  | N + 1, l12, x14 =>
    bif decide (x14 < (List.length list1 : Int)) then
    (app l12 [x14]).bind fun l17 =>
    i_ranking_l1 kj10 list1 N l17 (w64 (x14 + 1))
    else
    kj10 l12

def i_ranking (N : Nat) (list1 : List Result) : Option (List Int) :=
  withK (fun (l8 : List Int) =>
  (srtS (fun i j dk => i_ranking_c1 i j list1 dk) l8).bind fun l21 =>
  some l21) fun (kj10 : (List Int) → Option (List Int)) =>
  i_ranking_l1 kj10 list1 N [] 0

def i_HeatsOf_l1 (kj15 : (List Int) → Option ((List Int) × Int)) (heats4 : Int) (r17 : (List Int)) : Nat → (List Int) → Int → Option ((List Int) × Int)
  | 0, _, _ => none
  | N + 1, l20, x21 =>
    bif decide (x21 < (List.length r17 : Int)) then
    (idx r17 x21).bind fun e23 =>
    (remO x21 (w64 (2 * heats4))).bind fun q25 =>
    withK (fun (heat27 : Int) =>
    (idx l20 e23).bind fun e31 =>
    i_HeatsOf_l1 kj15 heats4 r17 N (List.set l20 (Int.toNat e23) heat27) (w64 (x21 + 1))) fun (kj28 : Int → Option ((List Int) × Int)) =>
    bif decide (q25 ≥ heats4) then
    kj28 (w64 ((w64 ((w64 (2 * heats4)) - 1)) - q25))
    else
    kj28 q25
    else
    kj15 l20

def i_HeatsOf (N : Nat) (list1 : List Result) (heats4 : Int) : Option ((List Int) × Int) :=
  (i_ValidResults N list1).bind fun r5 =>
  bif !r5 then
  some ([], 1)
  else
  (i_between heats4 1 10).bind fun r8 =>
  bif !r8 then
  some ([], 2)
  else
  (mk (List.length list1 : Int) (0 : Int)).bind fun l11 =>
  withK (fun (l14 : List Int) =>
  some (l14, 0)) fun (kj15 : (List Int) → Option ((List Int) × Int)) =>
  (i_ranking N list1).bind fun r17 =>
  i_HeatsOf_l1 kj15 heats4 r17 N l11 0

def s_l01Small (c1 : UInt8) : Option Bool :=
  (andO (decide (c1 ≥ (97 : UInt8))) (some (decide (c1 ≤ (122 : UInt8))))).bind fun t2 =>
  some t2

def s_l01Digit (c1 : UInt8) : Option Bool :=
  (andO (decide (c1 ≥ (48 : UInt8))) (some (decide (c1 ≤ (57 : UInt8))))).bind fun t2 =>
  some t2

def s_IsName_l1 (kj13 : Option Bool) (s1 : Str) : Nat → Int → Option Bool
  | 0, _ => none
  | N + 1, i15 =>
    bif decide (i15 < (List.length s1 : Int)) then
    (idx s1 i15).bind fun c17 =>
    (s_l01Small c17).bind fun r19 =>
    (andO (!r19) ((idx s1 i15).bind fun c24 =>
    (s_l01Digit c24).bind fun r26 =>
    some (!r26))).bind fun t21 =>
    (andO t21 ((idx s1 i15).bind fun c31 =>
    some (c31 != (45 : UInt8)))).bind fun t28 =>
    bif t28 then
    some false
    else
    s_IsName_l1 kj13 s1 N (w64 (i15 + 1))
    else
    kj13 

def s_IsName (N : Nat) (s1 : Str) : Option Bool :=
  (orO (s1 == []) (some (decide ((List.length s1 : Int) > 12)))).bind fun t2 =>
  (orO t2 ((idx s1 0).bind fun c8 =>
  (s_l01Small c8).bind fun r10 =>
  some (!r10))).bind fun t5 =>
  bif t5 then
  some false
  else
  withK (some true) fun (kj13 : Option Bool) =>
  s_IsName_l1 kj13 s1 N 0

def s_l00In (n1 : Int) (low2 : Int) (high3 : Int) : Option Bool :=
  (andO (decide (n1 ≥ low2)) (some (decide (n1 ≤ high3)))).bind fun t4 =>
  some t4

def s_l22One (N : Nat) (x1 : Result) : Option Bool :=
  (s_IsName N x1.name).bind fun r4 =>
  (andO r4 ((s_l00In x1.net 0 100000).bind fun r9 =>
  some r9)).bind fun t6 =>
  (andO t6 ((s_l00In x1.errors 0 100000).bind fun r14 =>
  some r14)).bind fun t11 =>
  some t11

def s_l22Ok_l2 (kj8 : Option Bool) (list1 : List Result) (i6 : Int) : Nat → Int → Option Bool
  | 0, _ => none
  | N + 1, k18 =>
    bif decide (k18 < i6) then
    (idx list1 k18).bind fun e20 =>
    (idx list1 i6).bind fun e25 =>
    bif (e20.name == e25.name) then
    some false
    else
    s_l22Ok_l2 kj8 list1 i6 N (w64 (k18 + 1))
    else
    kj8 

def s_l22Ok_l1 (kj4 : Option Bool) (list1 : List Result) : Nat → Int → Option Bool
  | 0, _ => none
  | N + 1, i6 =>
    bif decide (i6 < (List.length list1 : Int)) then
    withK (s_l22Ok_l1 kj4 list1 N (w64 (i6 + 1))) fun (kj8 : Option Bool) =>
    (idx list1 i6).bind fun e10 =>
    (s_l22One N e10).bind fun r15 =>
    bif !r15 then
    some false
    else
    s_l22Ok_l2 kj8 list1 i6 N 0
    else
    kj4 

def s_l22Ok (N : Nat) (list1 : List Result) : Option Bool :=
  withK (some (decide ((List.length list1 : Int) ≤ 40))) fun (kj4 : Option Bool) =>
  s_l22Ok_l1 kj4 list1 N 0

def s_l22Better (a1 : Result) (b4 : Result) : Option Bool :=
  (orO (decide (a1.net > b4.net)) ((andO (a1.net == b4.net) (some (decide (a1.errors < b4.errors)))).bind fun t10 =>
  some t10)).bind fun t7 =>
  some t7

def s_l00Own (list1 : List Int) : Option (List Int) :=
  (app [] list1).bind fun l5 =>
  some l5

def s_l22Rank_l2 (kj18 : Int → Option (List Int)) (list1 : List Result) (l9 : List Int) (i11 : Int) : Nat → Int → Option (List Int)
  | 0, _ => none
  | N + 1, k20 =>
    (andO (decide (k20 > 0)) ((idx list1 i11).bind fun e24 =>
    (idx l9 (w64 (k20 - 1))).bind fun e29 =>
    (idx list1 e29).bind fun e31 =>
    (s_l22Better e24 e31).bind fun r36 =>
    some r36)).bind fun t21 =>
    bif t21 then
    s_l22Rank_l2 kj18 list1 l9 i11 N (w64 (k20 - 1))
    else
    kj18 k20

def s_l22Rank_l1 (kj7 : (List Int) → Option (List Int)) (list1 : List Result) : Nat → (List Int) → Int → Option (List Int)
  | 0, _, _ => none
  | N + 1, l9, i11 =>
    bif decide (i11 < (List.length list1 : Int)) then
    withK (fun (l13 : List Int) =>
    s_l22Rank_l1 kj7 list1 N l13 (w64 (i11 + 1))) fun (kj15 : (List Int) → Option (List Int)) =>
    withK (fun (k17 : Int) =>
    (sub l9 0 k17).bind fun l39 =>
    (s_l00Own l39).bind fun r41 =>
    (app r41 [i11]).bind fun l45 =>
    (sub l9 k17 (List.length l9 : Int)).bind fun l48 =>
    (app l45 l48).bind fun l50 =>
    kj15 l50) fun (kj18 : Int → Option (List Int)) =>
    s_l22Rank_l2 kj18 list1 l9 i11 N (List.length l9 : Int)
    else
    kj7 l9

def s_l22Rank (N : Nat) (list1 : List Result) : Option (List Int) :=
  withK (fun (l5 : List Int) =>
  some l5) fun (kj7 : (List Int) → Option (List Int)) =>
  s_l22Rank_l1 kj7 list1 N [] 0

def s_HeatsOf_l1 (kj18 : (List Int) → Option ((List Int) × Int)) (heats4 : Int) (r14 : (List Int)) : Nat → (List Int) → Int → Option ((List Int) × Int)
  | 0, _, _ => none
  | N + 1, l20, i21 =>
    bif decide (i21 < (List.length r14 : Int)) then
    (remO i21 (w64 (2 * heats4))).bind fun q23 =>
    withK (fun (at25 : Int) =>
    (idx r14 i21).bind fun e29 =>
    (idx l20 e29).bind fun e31 =>
    s_HeatsOf_l1 kj18 heats4 r14 N (List.set l20 (Int.toNat e29) at25) (w64 (i21 + 1))) fun (kj26 : Int → Option ((List Int) × Int)) =>
    bif decide (q23 ≥ heats4) then
    kj26 (w64 ((w64 ((w64 (2 * heats4)) - 1)) - q23))
    else
    kj26 q23
    else
    kj18 l20

def s_HeatsOf (N : Nat) (list1 : List Result) (heats4 : Int) : Option ((List Int) × Int) :=
  (s_l22Ok N list1).bind fun r5 =>
  bif !r5 then
  some ([], 1)
  else
  (s_l00In heats4 1 10).bind fun r8 =>
  bif !r8 then
  some ([], 2)
  else
  (mk (List.length list1 : Int) (0 : Int)).bind fun l11 =>
  (s_l22Rank N list1).bind fun r14 =>
  withK (fun (l17 : List Int) =>
  some (l17, 0)) fun (kj18 : (List Int) → Option ((List Int) × Int)) =>
  s_HeatsOf_l1 kj18 heats4 r14 N l11 0

def i_RankResults (N : Nat) (list1 : List Result) : Option ((List Int) × Int) :=
  (i_ValidResults N list1).bind fun r4 =>
  bif !r4 then
  some ([], 1)
  else
  (i_ranking N list1).bind fun r7 =>
  some (r7, 0)

def s_RankResults (N : Nat) (list1 : List Result) : Option ((List Int) × Int) :=
  (s_l22Ok N list1).bind fun r4 =>
  bif !r4 then
  some ([], 1)
  else
  (s_l22Rank N list1).bind fun r7 =>
  some (r7, 0)

def i_ties_l1 (kj8 : (List Tied) → Option (List Tied)) (list1 : List Result) (r10 : (List Int)) : Nat → (List Tied) → Int → Option (List Tied)
  | 0, _, _ => none
  | N + 1, l13, x16 =>
    bif decide (x16 < (List.length r10 : Int)) then
    withK (fun (l18 : List Tied) =>
    i_ties_l1 kj8 list1 r10 N l18 (w64 (x16 + 1))) fun (kj21 : (List Tied) → Option (List Tied)) =>
    (idx r10 x16).bind fun e23 =>
    (andO (decide ((w64 ((List.length l13 : Int) - 1)) ≥ 0)) ((idx l13 (w64 ((List.length l13 : Int) - 1))).bind fun e29 =>
    (idx e29.list 0).bind fun e34 =>
    (idx list1 e34).bind fun e36 =>
    (idx list1 e23).bind fun e41 =>
    (i_Result_better e36 e41).bind fun r46 =>
    some (!r46))).bind fun t26 =>
    bif t26 then
    (idx l13 (w64 ((List.length l13 : Int) - 1))).bind fun e50 =>
    (app e50.list [e23]).bind fun l56 =>
    (idx l13 (w64 ((List.length l13 : Int) - 1))).bind fun e59 =>
    kj21 (List.set l13 (Int.toNat (w64 ((List.length l13 : Int) - 1))) (Tied.mk e59.place l56))
    else
    (app l13 ([(Tied.mk (w64 (x16 + 1)) [e23])] : List Tied)).bind fun l71 =>
    kj21 l71
    else
    kj8 l13

def i_ties (N : Nat) (list1 : List Result) : Option (List Tied) :=
  withK (fun (l5 : List Tied) =>
  some l5) fun (kj8 : (List Tied) → Option (List Tied)) =>
  (i_ranking N list1).bind fun r10 =>
  i_ties_l1 kj8 list1 r10 N ([] : List Tied) 0

def i_PlacesOfResults_l2 (kj21 : (List Int) → Option ((List Int) × Int)) (e24 : Tied) : Nat → (List Int) → Int → Option ((List Int) × Int)
  | 0, _, _ => none
  | N + 1, l31, x32 =>
    bif decide (x32 < (List.length e24.list : Int)) then
    (idx e24.list x32).bind fun e34 =>
    (idx l31 e34).bind fun e36 =>
    i_PlacesOfResults_l2 kj21 e24 N (List.set l31 (Int.toNat e34) e24.place) (w64 (x32 + 1))
    else
    kj21 l31

def i_PlacesOfResults_l1 (kj11 : (List Int) → Option ((List Int) × Int)) (r13 : (List Tied)) : Nat → (List Int) → Int → Option ((List Int) × Int)
  | 0, _, _ => none
  | N + 1, l17, x18 =>
    bif decide (x18 < (List.length r13 : Int)) then
    withK (fun (l20 : List Int) =>
    i_PlacesOfResults_l1 kj11 r13 N l20 (w64 (x18 + 1))) fun (kj21 : (List Int) → Option ((List Int) × Int)) =>
    (idx r13 x18).bind fun e24 =>
    i_PlacesOfResults_l2 kj21 e24 N l17 0
    else
    kj11 l17

def i_PlacesOfResults (N : Nat) (list1 : List Result) : Option ((List Int) × Int) :=
  (i_ValidResults N list1).bind fun r4 =>
  bif !r4 then
  some ([], 1)
  else
  (mk (List.length list1 : Int) (0 : Int)).bind fun l7 =>
  withK (fun (l10 : List Int) =>
  some (l10, 0)) fun (kj11 : (List Int) → Option ((List Int) × Int)) =>
  (i_ties N list1).bind fun r13 =>
  i_PlacesOfResults_l1 kj11 r13 N l7 0

def s_l22Place_l1 (kj6 : Int → Option Int) (list1 : List Result) (k4 : Int) : Nat → Int → Int → Option Int
  | 0, _, _ => none
  | N + 1, n8, i9 =>
    bif decide (i9 < (List.length list1 : Int)) then
    withK (fun (n11 : Int) =>
    s_l22Place_l1 kj6 list1 k4 N n11 (w64 (i9 + 1))) fun (kj12 : Int → Option Int) =>
    (idx list1 i9).bind fun e14 =>
    (idx list1 k4).bind fun e19 =>
    (s_l22Better e14 e19).bind fun r24 =>
    bif r24 then
    kj12 (w64 (n8 + 1))
    else
    kj12 n8
    else
    kj6 n8

def s_l22Place (N : Nat) (list1 : List Result) (k4 : Int) : Option Int :=
  withK (fun (n5 : Int) =>
  some n5) fun (kj6 : Int → Option Int) =>
  s_l22Place_l1 kj6 list1 k4 N 1 0

def s_PlacesOfResults_l1 (kj10 : (List Int) → Option ((List Int) × Int)) (list1 : List Result) : Nat → (List Int) → Int → Option ((List Int) × Int)
  | 0, _, _ => none
  | N + 1, l12, i14 =>
    bif decide (i14 < (List.length list1 : Int)) then
    (s_l22Place N list1 i14).bind fun r16 =>
    (app l12 [r16]).bind fun l19 =>
    s_PlacesOfResults_l1 kj10 list1 N l19 (w64 (i14 + 1))
    else
    kj10 l12

def s_PlacesOfResults (N : Nat) (list1 : List Result) : Option ((List Int) × Int) :=
  (s_l22Ok N list1).bind fun r4 =>
  bif !r4 then
  some ([], 1)
  else
  withK (fun (l8 : List Int) =>
  some (l8, 0)) fun (kj10 : (List Int) → Option ((List Int) × Int)) =>
  s_PlacesOfResults_l1 kj10 list1 N [] 0

def s_l22DrawHeats_l1 (kj13 : (List Int) → Int → Int → Option ((List Int) × L00Src)) (s1 : L00Src) (list5 : List Result) : Nat → (List Int) → Int → Int → Int → Option ((List Int) × L00Src)
  | 0, _, _, _, _ => none
  | N + 1, l15, x17, x18, i19 =>
    bif decide (i19 < (List.length list5 : Int)) then
    (s_l00Src_pick (L00Src.mk s1.code x17 x18) 3).bind fun r21 =>
    (app l15 [r21.1]).bind fun l24 =>
    s_l22DrawHeats_l1 kj13 s1 list5 N l24 r21.2.at_ r21.2.seed (w64 (i19 + 1))
    else
    kj13 l15 x17 x18

def s_l22DrawHeats (N : Nat) (s1 : L00Src) (list5 : List Result) : Option ((List Int) × L00Src) :=
  withK (fun (l9 : List Int) (x11 : Int) (x12 : Int) =>
  withK (fun (x27 : Int) (x28 : Int) (l29 : List Int) =>
  some (l29, (L00Src.mk s1.code x27 x28))) fun (kj31 : Int → Int → (List Int) → Option ((List Int) × L00Src)) =>
  (s_l00Src_pick (L00Src.mk s1.code x11 x12) 12).bind fun r33 =>
  bif (r33.1 == 0) then
  (app l9 [0]).bind fun l37 =>
  kj31 r33.2.at_ r33.2.seed l37
  else
  bif (r33.1 == 1) then
  bif decide ((List.length l9 : Int) > 0) then
  (s_l00Src_among (L00Src.mk s1.code r33.2.at_ r33.2.seed) [(-1), 0, 9, 10]).bind fun r43 =>
  (idx l9 0).bind fun e45 =>
  kj31 r43.2.at_ r43.2.seed (List.set l9 (Int.toNat 0) r43.1)
  else
  kj31 r33.2.at_ r33.2.seed l9
  else
  kj31 r33.2.at_ r33.2.seed l9) fun (kj13 : (List Int) → Int → Int → Option ((List Int) × L00Src)) =>
  s_l22DrawHeats_l1 kj13 s1 list5 N [] s1.at_ s1.seed 0

def s_DrawQualifyFrom (N : Nat) (code1 : List UInt8) : Option ((List Result) × (List Int) × Int × Int) :=
  (s_l00From code1).bind fun r4 =>
  (s_l22Bent N (L00Src.mk code1 r4.at_ r4.seed)).bind fun r7 =>
  (s_l22DrawHeats N (L00Src.mk code1 r7.2.at_ r7.2.seed) r7.1).bind fun r10 =>
  (s_l00Src_pick (L00Src.mk code1 r10.2.at_ r10.2.seed) 4).bind fun r13 =>
  withK (fun (x15 : Int) (x16 : Int) (each17 : Int) =>
  (s_l00Src_one (L00Src.mk code1 x15 x16) 12).bind fun r26 =>
  bif r26.1 then
  (s_l00Src_among (L00Src.mk code1 r26.2.at_ r26.2.seed) [(-1), 0, 40, 41]).bind fun r30 =>
  some (r7.1, r10.1, each17, r30.1)
  else
  (s_l00Src_pick (L00Src.mk code1 r26.2.at_ r26.2.seed) 4).bind fun r32 =>
  some (r7.1, r10.1, each17, r32.1)) fun (kj18 : Int → Int → Int → Option ((List Result) × (List Int) × Int × Int)) =>
  (s_l00Src_one (L00Src.mk code1 r13.2.at_ r13.2.seed) 12).bind fun r20 =>
  bif r20.1 then
  (s_l00Src_among (L00Src.mk code1 r20.2.at_ r20.2.seed) [(-1), 0, 40, 41]).bind fun r24 =>
  kj18 r24.2.at_ r24.2.seed r24.1
  else
  kj18 r20.2.at_ r20.2.seed r13.1

def i_areHeats_l1 (kj5 : Option Bool) (heats1 : List Int) : Nat → Int → Option Bool
  | 0, _ => none
  | N + 1, x7 =>
    bif decide (x7 < (List.length heats1 : Int)) then
    (idx heats1 x7).bind fun e9 =>
    (i_between e9 0 9).bind fun r14 =>
    bif !r14 then
    some false
    else
    i_areHeats_l1 kj5 heats1 N (w64 (x7 + 1))
    else
    kj5 

def i_areHeats (N : Nat) (heats1 : List Int) (n4 : Int) : Option Bool :=
  withK (some ((List.length heats1 : Int) == n4)) fun (kj5 : Option Bool) =>
  i_areHeats_l1 kj5 heats1 N 0

def i_QualifyFrom_l1 (kj30 : (List Bool) → Option ((List Int) × Int)) (heats4 : List Int) (each7 : Int) (r32 : (List Int)) : Nat → (List Bool) → (List Int) → Int → Int → Option ((List Int) × Int)
  | 0, _, _, _, _ => none
  | N + 1, l35, l36, rest37, x38 =>
    bif decide (x38 < (List.length r32 : Int)) then
    withK (fun (l40 : List Bool) (l41 : List Int) (rest42 : Int) =>
    i_QualifyFrom_l1 kj30 heats4 each7 r32 N l40 l41 rest42 (w64 (x38 + 1))) fun (kj43 : (List Bool) → (List Int) → Int → Option ((List Int) × Int)) =>
    (idx r32 x38).bind fun e45 =>
    (idx heats4 e45).bind fun e47 =>
    (idx l36 e47).bind fun e52 =>
    bif decide (e52 < each7) then
    (idx heats4 e45).bind fun e55 =>
    (idx l36 e55).bind fun e60 =>
    (idx l36 e55).bind fun e62 =>
    (idx l35 e45).bind fun e64 =>
    kj43 (List.set l35 (Int.toNat e45) true) (List.set l36 (Int.toNat e55) (w64 (e60 + 1))) rest37
    else
    bif decide (rest37 > 0) then
    (idx l35 e45).bind fun e67 =>
    kj43 (List.set l35 (Int.toNat e45) true) l36 (w64 (rest37 - 1))
    else
    kj43 l35 l36 rest37
    else
    kj30 l35

def i_QualifyFrom_l2 (kj72 : (List Int) → Option ((List Int) × Int)) (l29 : List Bool) : Nat → (List Int) → Int → Option ((List Int) × Int)
  | 0, _, _ => none
  | N + 1, l74, x76 =>
    bif decide (x76 < (List.length l29 : Int)) then
    withK (fun (l78 : List Int) =>
    i_QualifyFrom_l2 kj72 l29 N l78 (w64 (x76 + 1))) fun (kj80 : (List Int) → Option ((List Int) × Int)) =>
    (idx l29 x76).bind fun e82 =>
    bif e82 then
    (app l74 [x76]).bind fun l86 =>
    kj80 l86
    else
    kj80 l74
    else
    kj72 l74

def i_QualifyFrom (N : Nat) (list1 : List Result) (heats4 : List Int) (each7 : Int) (rest8 : Int) : Option ((List Int) × Int) :=
  (i_ValidResults N list1).bind fun r9 =>
  bif !r9 then
  some ([], 1)
  else
  (i_areHeats N heats4 (List.length list1 : Int)).bind fun r12 =>
  (orO (!r12) ((i_between each7 0 40).bind fun r17 =>
  some (!r17))).bind fun t14 =>
  (orO t14 ((i_between rest8 0 40).bind fun r22 =>
  some (!r22))).bind fun t19 =>
  bif t19 then
  some ([], 2)
  else
  (mk (List.length list1 : Int) false).bind fun l26 =>
  withK (fun (l29 : List Bool) =>
  withK (fun (l70 : List Int) =>
  some (l70, 0)) fun (kj72 : (List Int) → Option ((List Int) × Int)) =>
  i_QualifyFrom_l2 kj72 l29 N [] 0) fun (kj30 : (List Bool) → Option ((List Int) × Int)) =>
  (i_ranking N list1).bind fun r32 =>
  i_QualifyFrom_l1 kj30 heats4 each7 r32 N l26 (List.replicate 10 (0 : Int)) rest8 0

def s_l00Put_l1 (kj9 : (List Int) → Bool → Option (List Int)) (list1 : List Int) (n4 : Int) : Nat → (List Int) → Bool → Int → Option (List Int)
  | 0, _, _, _ => none
  | N + 1, l11, done13, i14 =>
    bif decide (i14 < (List.length list1 : Int)) then
    withK (fun (l16 : List Int) (done18 : Bool) =>
    (idx list1 i14).bind fun e40 =>
    (app l16 [e40]).bind fun l46 =>
    s_l00Put_l1 kj9 list1 n4 N l46 done18 (w64 (i14 + 1))) fun (kj19 : (List Int) → Bool → Option (List Int)) =>
    (andO (!done13) ((idx list1 i14).bind fun e24 =>
    some (decide (e24 ≥ n4)))).bind fun t21 =>
    bif t21 then
    (idx list1 i14).bind fun e30 =>
    bif decide (e30 > n4) then
    (app l11 [n4]).bind fun l37 =>
    kj19 l37 true
    else
    kj19 l11 true
    else
    kj19 l11 done13
    else
    kj9 l11 done13

def s_l00Put (N : Nat) (list1 : List Int) (n4 : Int) : Option (List Int) :=
  withK (fun (l6 : List Int) (done8 : Bool) =>
  withK (fun (l49 : List Int) =>
  some l49) fun (kj51 : (List Int) → Option (List Int)) =>
  bif !done8 then
  (app l6 [n4]).bind fun l55 =>
  kj51 l55
  else
  kj51 l6) fun (kj9 : (List Int) → Bool → Option (List Int)) =>
  s_l00Put_l1 kj9 list1 n4 N [] false 0

def s_QualifyFrom_l1 (kj12 : Option ((List Int) × Int)) (heats4 : List Int) : Nat → Int → Option ((List Int) × Int)
  | 0, _ => none
  | N + 1, i14 =>
    bif decide (i14 < (List.length heats4 : Int)) then
    (idx heats4 i14).bind fun e16 =>
    (s_l00In e16 0 9).bind fun r21 =>
    bif !r21 then
    some ([], 2)
    else
    s_QualifyFrom_l1 kj12 heats4 N (w64 (i14 + 1))
    else
    kj12 

def s_QualifyFrom_l2 (kj44 : (List Int) → Option ((List Int) × Int)) (heats4 : List Int) (each7 : Int) (r39 : (List Int)) : Nat → (List Int) → (List Int) → Int → Int → Option ((List Int) × Int)
  | 0, _, _, _, _ => none
  | N + 1, l46, l47, rest49, i50 =>
    bif decide (i50 < (List.length r39 : Int)) then
    withK (fun (l52 : List Int) (l54 : List Int) (rest55 : Int) =>
    s_QualifyFrom_l2 kj44 heats4 each7 r39 N l54 l52 rest55 (w64 (i50 + 1))) fun (kj56 : (List Int) → (List Int) → Int → Option ((List Int) × Int)) =>
    (idx r39 i50).bind fun e58 =>
    (idx heats4 e58).bind fun e60 =>
    (idx l46 e60).bind fun e65 =>
    bif decide (e65 < each7) then
    (idx heats4 e58).bind fun e68 =>
    (idx l46 e68).bind fun e73 =>
    (idx l46 e68).bind fun e75 =>
    (s_l00Put N l47 e58).bind fun r77 =>
    kj56 r77 (List.set l46 (Int.toNat e68) (w64 (e73 + 1))) rest49
    else
    bif decide (rest49 > 0) then
    (s_l00Put N l47 e58).bind fun r81 =>
    kj56 r81 l46 (w64 (rest49 - 1))
    else
    kj56 l47 l46 rest49
    else
    kj44 l47

def s_QualifyFrom (N : Nat) (list1 : List Result) (heats4 : List Int) (each7 : Int) (rest8 : Int) : Option ((List Int) × Int) :=
  (s_l22Ok N list1).bind fun r9 =>
  bif !r9 then
  some ([], 1)
  else
  withK ((orO ((List.length heats4 : Int) != (List.length list1 : Int)) ((s_l00In each7 0 40).bind fun r27 =>
  some (!r27))).bind fun t24 =>
  (orO t24 ((s_l00In rest8 0 40).bind fun r32 =>
  some (!r32))).bind fun t29 =>
  bif t29 then
  some ([], 2)
  else
  (mk 10 (0 : Int)).bind fun l36 =>
  (s_l22Rank N list1).bind fun r39 =>
  withK (fun (l42 : List Int) =>
  some (l42, 0)) fun (kj44 : (List Int) → Option ((List Int) × Int)) =>
  s_QualifyFrom_l2 kj44 heats4 each7 r39 N l36 [] rest8 0) fun (kj12 : Option ((List Int) × Int)) =>
  s_QualifyFrom_l1 kj12 heats4 N 0

def s_DrawBestOfRounds_l1 (kj23 : (List (List Result)) → Option (List (List Result))) (code1 : List UInt8) : Nat → Int → Int → (List (List Result)) → Int → Option (List (List Result))
  | 0, _, _, _, _ => none
  | N + 1, x25, x26, l27, k30 =>
    bif decide (k30 > 0) then
    withK (fun (l32 : List (List Result)) (x33 : Int) (x34 : Int) =>
    s_DrawBestOfRounds_l1 kj23 code1 N x33 x34 l32 (w64 (k30 - 1))) fun (kj37 : (List (List Result)) → Int → Int → Option (List (List Result))) =>
    (s_l00Src_one (L00Src.mk code1 x25 x26) 6).bind fun r39 =>
    bif r39.1 then
    (s_l22Bent N (L00Src.mk code1 r39.2.at_ r39.2.seed)).bind fun r42 =>
    (app l27 ([r42.1] : List (List Result))).bind fun l49 =>
    kj37 l49 r42.2.at_ r42.2.seed
    else
    (s_l22Draw N (L00Src.mk code1 r39.2.at_ r39.2.seed)).bind fun r52 =>
    (app l27 ([r52.1] : List (List Result))).bind fun l59 =>
    kj37 l59 r52.2.at_ r52.2.seed
    else
    kj23 l27

def s_DrawBestOfRounds (N : Nat) (code1 : List UInt8) : Option (List (List Result)) :=
  (s_l00From code1).bind fun r4 =>
  (s_l00Src_pick (L00Src.mk code1 r4.at_ r4.seed) 4).bind fun r8 =>
  withK (fun (x10 : Int) (x11 : Int) (n12 : Int) =>
  withK (fun (l20 : List (List Result)) =>
  some l20) fun (kj23 : (List (List Result)) → Option (List (List Result))) =>
  s_DrawBestOfRounds_l1 kj23 code1 N x10 x11 ([] : List (List Result)) n12) fun (kj13 : Int → Int → Int → Option (List (List Result))) =>
  (s_l00Src_one (L00Src.mk code1 r8.2.at_ r8.2.seed) 20).bind fun r15 =>
  bif r15.1 then
  (s_l00Src_pick (L00Src.mk code1 r15.2.at_ r15.2.seed) 2).bind fun r18 =>
  kj13 r18.2.at_ r18.2.seed (w64 (10 + r18.1))
  else
  kj13 r15.2.at_ r15.2.seed r8.1

def i_BestOfRounds_l1 (kj4 : Option ((List Result) × Int)) (rounds1 : List (List Result)) : Nat → Int → Option ((List Result) × Int)
  | 0, _ => none
  | N + 1, x6 =>
    bif decide (x6 < (List.length rounds1 : Int)) then
    (idx rounds1 x6).bind fun e8 =>
    (i_ValidResults N e8).bind fun r15 =>
    bif !r15 then
    some ([], 1)
    else
    i_BestOfRounds_l1 kj4 rounds1 N (w64 (x6 + 1))
    else
    kj4 

def i_BestOfRounds_l3 (kj33 : (List Result) → (List (Str × Int)) → Option ((List Result) × Int)) (e35 : List Result) : Nat → (List Result) → (List (Str × Int)) → Int → Option ((List Result) × Int)
  | 0, _, _, _ => none
  | N + 1, l42, mp44, x45 =>
    bif decide (x45 < (List.length e35 : Int)) then
    withK (fun (l47 : List Result) (mp49 : List (Str × Int)) =>
    i_BestOfRounds_l3 kj33 e35 N l47 mp49 (w64 (x45 + 1))) fun (kj50 : (List Result) → (List (Str × Int)) → Option ((List Result) × Int)) =>
    (idx e35 x45).bind fun e52 =>
    bif !(Option.isSome (mgetO mp44 e52.name)) then
    (app l42 [e52]).bind fun l60 =>
    kj50 l60 (msetV mp44 e52.name (List.length l42 : Int))
    else
    (idx l42 (Option.getD (mgetO mp44 e52.name) (0 : Int))).bind fun e63 =>
    (i_Result_better e52 e63).bind fun r65 =>
    bif r65 then
    (idx l42 (Option.getD (mgetO mp44 e52.name) (0 : Int))).bind fun e68 =>
    kj50 (List.set l42 (Int.toNat (Option.getD (mgetO mp44 e52.name) (0 : Int))) e52) mp44
    else
    kj50 l42 mp44
    else
    kj33 l42 mp44

def i_BestOfRounds_l2 (kj23 : (List Result) → Option ((List Result) × Int)) (rounds1 : List (List Result)) : Nat → (List Result) → (List (Str × Int)) → Int → Option ((List Result) × Int)
  | 0, _, _, _ => none
  | N + 1, l25, mp27, x28 =>
    bif decide (x28 < (List.length rounds1 : Int)) then
    withK (fun (l30 : List Result) (mp32 : List (Str × Int)) =>
    i_BestOfRounds_l2 kj23 rounds1 N l30 mp32 (w64 (x28 + 1))) fun (kj33 : (List Result) → (List (Str × Int)) → Option ((List Result) × Int)) =>
    (idx rounds1 x28).bind fun e35 =>
    i_BestOfRounds_l3 kj33 e35 N l25 mp27 0
    else
    kj23 l25

def i_BestOfRounds (N : Nat) (rounds1 : List (List Result)) : Option ((List Result) × Int) :=
  withK (bif decide ((List.length rounds1 : Int) > 10) then
  some ([], 2)
  else
  withK (fun (l21 : List Result) =>
  some (l21, 0)) fun (kj23 : (List Result) → Option ((List Result) × Int)) =>
  i_BestOfRounds_l2 kj23 rounds1 N [] ([] : List (Str × Int)) 0) fun (kj4 : Option ((List Result) × Int)) =>
  i_BestOfRounds_l1 kj4 rounds1 N 0

def s_BestOfRounds_l1 (kj4 : Option ((List Result) × Int)) (rounds1 : List (List Result)) : Nat → Int → Option ((List Result) × Int)
  | 0, _ => none
  | N + 1, i6 =>
    bif decide (i6 < (List.length rounds1 : Int)) then
    (idx rounds1 i6).bind fun e8 =>
    (s_l22Ok N e8).bind fun r15 =>
    bif !r15 then
    some ([], 1)
    else
    s_BestOfRounds_l1 kj4 rounds1 N (w64 (i6 + 1))
    else
    kj4 

def s_BestOfRounds_l4 (kj61 : Int → Option ((List Result) × Int)) (l32 : List Result) (e54 : Result) : Nat → Int → Int → Option ((List Result) × Int)
  | 0, _, _ => none
  | N + 1, at63, j64 =>
    bif decide (j64 < (List.length l32 : Int)) then
    withK (fun (at66 : Int) =>
    s_BestOfRounds_l4 kj61 l32 e54 N at66 (w64 (j64 + 1))) fun (kj67 : Int → Option ((List Result) × Int)) =>
    (idx l32 j64).bind fun e69 =>
    bif (e69.name == e54.name) then
    kj67 j64
    else
    kj67 at63
    else
    kj61 at63

def s_BestOfRounds_l3 (kj30 : (List Result) → Option ((List Result) × Int)) (rounds1 : List (List Result)) (i26 : Int) : Nat → (List Result) → Int → Option ((List Result) × Int)
  | 0, _, _ => none
  | N + 1, l32, k34 =>
    (idx rounds1 i26).bind fun e35 =>
    bif decide (k34 < (List.length e35 : Int)) then
    withK (fun (l43 : List Result) =>
    s_BestOfRounds_l3 kj30 rounds1 i26 N l43 (w64 (k34 + 1))) fun (kj45 : (List Result) → Option ((List Result) × Int)) =>
    (idx rounds1 i26).bind fun e47 =>
    (idx e47 k34).bind fun e54 =>
    withK (fun (at60 : Int) =>
    bif decide (at60 < 0) then
    (app l32 [e54]).bind fun l74 =>
    kj45 l74
    else
    (idx l32 at60).bind fun e77 =>
    (s_l22Better (Result.mk e54.name e54.net e54.errors) e77).bind fun r79 =>
    bif r79 then
    (idx l32 at60).bind fun e82 =>
    kj45 (List.set l32 (Int.toNat at60) e54)
    else
    kj45 l32) fun (kj61 : Int → Option ((List Result) × Int)) =>
    s_BestOfRounds_l4 kj61 l32 e54 N (-1) 0
    else
    kj30 l32

def s_BestOfRounds_l2 (kj22 : (List Result) → Option ((List Result) × Int)) (rounds1 : List (List Result)) : Nat → (List Result) → Int → Option ((List Result) × Int)
  | 0, _, _ => none
  | N + 1, l24, i26 =>
    bif decide (i26 < (List.length rounds1 : Int)) then
    withK (fun (l28 : List Result) =>
    s_BestOfRounds_l2 kj22 rounds1 N l28 (w64 (i26 + 1))) fun (kj30 : (List Result) → Option ((List Result) × Int)) =>
    s_BestOfRounds_l3 kj30 rounds1 i26 N l24 0
    else
    kj22 l24

def s_BestOfRounds (N : Nat) (rounds1 : List (List Result)) : Option ((List Result) × Int) :=
  withK (bif decide ((List.length rounds1 : Int) > 10) then
  some ([], 2)
  else
  withK (fun (l20 : List Result) =>
  some (l20, 0)) fun (kj22 : (List Result) → Option ((List Result) × Int)) =>
  s_BestOfRounds_l2 kj22 rounds1 N [] 0) fun (kj4 : Option ((List Result) × Int)) =>
  s_BestOfRounds_l1 kj4 rounds1 N 0

def i_TiedResults_l1 (kj11 : (List (List Int)) → Option ((List (List Int)) × Int)) (r13 : (List Tied)) : Nat → (List (List Int)) → Int → Option ((List (List Int)) × Int)
  | 0, _, _ => none
  | N + 1, l17, x20 =>
    bif decide (x20 < (List.length r13 : Int)) then
    withK (fun (l22 : List (List Int)) =>
    i_TiedResults_l1 kj11 r13 N l22 (w64 (x20 + 1))) fun (kj25 : (List (List Int)) → Option ((List (List Int)) × Int)) =>
    (idx r13 x20).bind fun e29 =>
    bif decide ((List.length e29.list : Int) > 1) then
    (app l17 ([e29.list] : List (List Int))).bind fun l41 =>
    kj25 l41
    else
    kj25 l17
    else
    kj11 l17

def i_TiedResults (N : Nat) (list1 : List Result) : Option ((List (List Int)) × Int) :=
  (i_ValidResults N list1).bind fun r4 =>
  bif !r4 then
  some (([] : List (List Int)), 1)
  else
  withK (fun (l8 : List (List Int)) =>
  some (l8, 0)) fun (kj11 : (List (List Int)) → Option ((List (List Int)) × Int)) =>
  (i_ties N list1).bind fun r13 =>
  i_TiedResults_l1 kj11 r13 N ([] : List (List Int)) 0

def s_l22Groups_l1 (kj11 : (List (List Int)) → Option (List (List Int))) (list1 : List Result) (r5 : (List Int)) : Nat → (List (List Int)) → Int → Option (List (List Int))
  | 0, _, _ => none
  | N + 1, l13, i16 =>
    bif decide (i16 < (List.length r5 : Int)) then
    withK (fun (l18 : List (List Int)) =>
    s_l22Groups_l1 kj11 list1 r5 N l18 (w64 (i16 + 1))) fun (kj21 : (List (List Int)) → Option (List (List Int))) =>
    (andO (decide (i16 > 0)) ((idx r5 (w64 (i16 - 1))).bind fun e26 =>
    (idx list1 e26).bind fun e28 =>
    (idx r5 i16).bind fun e33 =>
    (idx list1 e33).bind fun e35 =>
    (s_l22Better e28 e35).bind fun r40 =>
    some (!r40))).bind fun t23 =>
    bif t23 then
    (idx l13 (w64 ((List.length l13 : Int) - 1))).bind fun e44 =>
    (idx r5 i16).bind fun e48 =>
    (app e44 [e48]).bind fun l51 =>
    (idx l13 (w64 ((List.length l13 : Int) - 1))).bind fun e54 =>
    kj21 (List.set l13 (Int.toNat (w64 ((List.length l13 : Int) - 1))) l51)
    else
    (idx r5 i16).bind fun e60 =>
    (app l13 ([[e60]] : List (List Int))).bind fun l67 =>
    kj21 l67
    else
    kj11 l13

def s_l22Groups (N : Nat) (list1 : List Result) : Option (List (List Int)) :=
  (s_l22Rank N list1).bind fun r5 =>
  withK (fun (l8 : List (List Int)) =>
  some l8) fun (kj11 : (List (List Int)) → Option (List (List Int))) =>
  s_l22Groups_l1 kj11 list1 r5 N ([] : List (List Int)) 0

def s_TiedResults_l1 (kj15 : (List (List Int)) → Option ((List (List Int)) × Int)) (r7 : (List (List Int))) : Nat → (List (List Int)) → Int → Option ((List (List Int)) × Int)
  | 0, _, _ => none
  | N + 1, l17, i20 =>
    bif decide (i20 < (List.length r7 : Int)) then
    withK (fun (l22 : List (List Int)) =>
    s_TiedResults_l1 kj15 r7 N l22 (w64 (i20 + 1))) fun (kj25 : (List (List Int)) → Option ((List (List Int)) × Int)) =>
    (idx r7 i20).bind fun e29 =>
    bif decide ((List.length e29 : Int) > 1) then
    (idx r7 i20).bind fun e36 =>
    (app l17 ([e36] : List (List Int))).bind fun l44 =>
    kj25 l44
    else
    kj25 l17
    else
    kj15 l17

def s_TiedResults (N : Nat) (list1 : List Result) : Option ((List (List Int)) × Int) :=
  (s_l22Ok N list1).bind fun r4 =>
  bif !r4 then
  some (([] : List (List Int)), 1)
  else
  (s_l22Groups N list1).bind fun r7 =>
  withK (fun (l12 : List (List Int)) =>
  some (l12, 0)) fun (kj15 : (List (List Int)) → Option ((List (List Int)) × Int)) =>
  s_TiedResults_l1 kj15 r7 N ([] : List (List Int)) 0

def w_f6ints_l1 (kj8 : Option Bool) (a1 : List Int) (b4 : List Int) : Nat → Int → Option Bool
  | 0, _ => none
  | N + 1, i10 =>
    bif decide (i10 < (List.length a1 : Int)) then
    (idx a1 i10).bind fun e12 =>
    (idx b4 i10).bind fun e17 =>
    bif (e12 != e17) then
    some false
    else
    w_f6ints_l1 kj8 a1 b4 N (w64 (i10 + 1))
    else
    kj8 

def w_f6ints (N : Nat) (a1 : List Int) (b4 : List Int) : Option Bool :=
  bif ((List.length a1 : Int) != (List.length b4 : Int)) then
  some false
  else
  withK (some true) fun (kj8 : Option Bool) =>
  w_f6ints_l1 kj8 a1 b4 N 0

def s_SameResults_l1 (kj8 : Option Bool) (a1 : List Result) (b4 : List Result) : Nat → Int → Option Bool
  | 0, _ => none
  | N + 1, i10 =>
    bif decide (i10 < (List.length a1 : Int)) then
    (idx a1 i10).bind fun e12 =>
    (idx b4 i10).bind fun e17 =>
    bif !(Result.beq e12 e17) then
    some false
    else
    s_SameResults_l1 kj8 a1 b4 N (w64 (i10 + 1))
    else
    kj8 

def s_SameResults (N : Nat) (a1 : List Result) (b4 : List Result) : Option Bool :=
  bif ((List.length a1 : Int) != (List.length b4 : Int)) then
  some false
  else
  withK (some true) fun (kj8 : Option Bool) =>
  s_SameResults_l1 kj8 a1 b4 N 0

def i_Decimal (n1 : Int) : Option Str :=
  (fmtI n1 10).bind fun r2 =>
  some r2

def i_RankText_l2 (kj22 : (List Str) → Option Str) (list1 : List Result) (e25 : Tied) : Nat → (List Str) → Int → Option Str
  | 0, _, _ => none
  | N + 1, l32, x34 =>
    bif decide (x34 < (List.length e25.list : Int)) then
    (idx e25.list x34).bind fun e36 =>
    (i_Decimal e25.place).bind fun r38 =>
    (cat r38 [46, 32]).bind fun s40 =>
    (idx list1 e36).bind fun e42 =>
    (cat s40 e42.name).bind fun s47 =>
    (app l32 [s47]).bind fun l50 =>
    i_RankText_l2 kj22 list1 e25 N l50 (w64 (x34 + 1))
    else
    kj22 l32

def i_RankText_l1 (kj10 : (List Str) → Option Str) (list1 : List Result) (r12 : (List Tied)) : Nat → (List Str) → Int → Option Str
  | 0, _, _ => none
  | N + 1, l16, x18 =>
    bif decide (x18 < (List.length r12 : Int)) then
    withK (fun (l20 : List Str) =>
    i_RankText_l1 kj10 list1 r12 N l20 (w64 (x18 + 1))) fun (kj22 : (List Str) → Option Str) =>
    (idx r12 x18).bind fun e25 =>
    i_RankText_l2 kj22 list1 e25 N l16 0
    else
    kj10 l16

def i_RankText (N : Nat) (list1 : List Result) : Option Str :=
  (i_ValidResults N list1).bind fun r4 =>
  bif !r4 then
  some []
  else
  withK (fun (l8 : List Str) =>
  (joinO l8 [44, 32]).bind fun r53 =>
  some r53) fun (kj10 : (List Str) → Option Str) =>
  (i_ties N list1).bind fun r12 =>
  i_RankText_l1 kj10 list1 r12 N [] 0

def s_l01Dec_l1 (kj5 : (List UInt8) → Option Str) : Nat → (List UInt8) → Int → Option Str
  | 0, _, _ => none
  | N + 1, l7, k9 =>
    bif (k9 != 0) then
    withK (fun (d11 : Int) =>
    (app [UInt8.ofInt (w64 (48 + d11))] l7).bind fun l16 =>
    s_l01Dec_l1 kj5 N l16 (w64 (Int.tdiv k9 10))) fun (kj12 : Int → Option Str) =>
    bif decide ((Int.tmod k9 10) < 0) then
    kj12 (w64 (0 - (Int.tmod k9 10)))
    else
    kj12 (Int.tmod k9 10)
    else
    kj5 l7

def s_l01Dec (N : Nat) (n1 : Int) : Option Str :=
  withK (fun (l3 : List UInt8) =>
  bif ((List.length l3 : Int) == 0) then
  some [48]
  else
  bif decide (n1 < 0) then
  (cat [45] l3).bind fun s21 =>
  some s21
  else
  some l3) fun (kj5 : (List UInt8) → Option Str) =>
  s_l01Dec_l1 kj5 N [] n1

def s_RankText_l1 (kj11 : Str → Option Str) (list1 : List Result) (r7 : (List Int)) : Nat → Str → Int → Option Str
  | 0, _, _ => none
  | N + 1, out13, i14 =>
    bif decide (i14 < (List.length r7 : Int)) then
    withK (fun (out16 : Str) =>
    (idx r7 i14).bind fun e22 =>
    (s_l22Place N list1 e22).bind fun r24 =>
    (s_l01Dec N r24).bind fun r26 =>
    (cat r26 [46, 32]).bind fun s28 =>
    (idx list1 e22).bind fun e30 =>
    (cat s28 e30.name).bind fun s35 =>
    (cat out16 s35).bind fun s37 =>
    s_RankText_l1 kj11 list1 r7 N s37 (w64 (i14 + 1))) fun (kj17 : Str → Option Str) =>
    bif decide (i14 > 0) then
    (cat out13 [44, 32]).bind fun s20 =>
    kj17 s20
    else
    kj17 out13
    else
    kj11 out13

def s_RankText (N : Nat) (list1 : List Result) : Option Str :=
  (s_l22Ok N list1).bind fun r4 =>
  bif !r4 then
  some []
  else
  (s_l22Rank N list1).bind fun r7 =>
  withK (fun (out10 : Str) =>
  some out10) fun (kj11 : Str → Option Str) =>
  s_RankText_l1 kj11 list1 r7 N [] 0

def s_ValidResults (N : Nat) (list1 : List Result) : Option Bool :=
  (s_l22Ok N list1).bind fun r4 =>
  some r4

def w_FnRankings_l2 (kj118 : Option Bool) (r25 : (List Int) × Int) (r52 : (List (List Int)) × Int) (i116 : Int) : Nat → Int → Option Bool
  | 0, _ => none
  | N + 1, k140 =>
    (idx r52.1 i116).bind fun e143 =>
    bif decide (k140 < (List.length e143 : Int)) then
    (idx r52.1 i116).bind fun e150 =>
    (idx e150 k140).bind fun e154 =>
    (idx r25.1 e154).bind fun e156 =>
    (idx r52.1 i116).bind fun e158 =>
    (idx e158 0).bind fun e162 =>
    (idx r25.1 e162).bind fun e164 =>
    bif (e156 != e164) then
    some false
    else
    w_FnRankings_l2 kj118 r25 r52 i116 N (w64 (k140 + 1))
    else
    kj118 

def w_FnRankings_l1 (kj114 : Option Bool) (r25 : (List Int) × Int) (r48 : (List (List Int)) × Int) (r52 : (List (List Int)) × Int) : Nat → Int → Option Bool
  | 0, _ => none
  | N + 1, i116 =>
    bif decide (i116 < (List.length r52.1 : Int)) then
    withK (w_FnRankings_l1 kj114 r25 r48 r52 N (w64 (i116 + 1))) fun (kj118 : Option Bool) =>
    (idx r48.1 i116).bind fun e122 =>
    (idx r52.1 i116).bind fun e126 =>
    (w_f6ints N e122 e126).bind fun r130 =>
    (orO (!r130) ((idx r52.1 i116).bind fun e135 =>
    some (decide ((List.length e135 : Int) < 2)))).bind fun t132 =>
    bif t132 then
    some false
    else
    w_FnRankings_l2 kj118 r25 r52 i116 N 0
    else
    kj114 

def w_FnRankings_l3 (kj167 : Option Bool) (r7 : (List Result) × Int) (r19 : (List Int) × Int) (r25 : (List Int) × Int) : Nat → Int → Option Bool
  | 0, _ => none
  | N + 1, i170 =>
    bif decide (i170 < (List.length r19.1 : Int)) then
    (idx r19.1 (w64 (i170 - 1))).bind fun e172 =>
    (idx r7.1 e172).bind fun e174 =>
    (idx r19.1 i170).bind fun e176 =>
    (idx r7.1 e176).bind fun e178 =>
    (orO (decide (e174.net < e178.net)) ((andO (e174.net == e178.net) (some (decide (e174.errors > e178.errors)))).bind fun t183 =>
    some t183)).bind fun t180 =>
    (orO t180 ((idx r19.1 i170).bind fun e189 =>
    (idx r25.1 e189).bind fun e191 =>
    (idx r19.1 (w64 (i170 - 1))).bind fun e193 =>
    (idx r25.1 e193).bind fun e195 =>
    some (decide (e191 < e195)))).bind fun t186 =>
    (orO t186 ((idx r19.1 i170).bind fun e200 =>
    (idx r25.1 e200).bind fun e202 =>
    some (decide (e202 > (w64 (i170 + 1)))))).bind fun t197 =>
    bif t197 then
    some false
    else
    w_FnRankings_l3 kj167 r7 r19 r25 N (w64 (i170 + 1))
    else
    kj167 

def w_FnRankings_l4 (kj214 : (List Int) → Option Bool) (r7 : (List Result) × Int) (r13 : (List Int) × Int) : Nat → (List Int) → Int → Option Bool
  | 0, _, _ => none
  | N + 1, l216, i217 =>
    bif decide (i217 < (List.length r13.1 : Int)) then
    (idx r13.1 i217).bind fun e219 =>
    (orO (decide (e219 < 0)) ((idx r13.1 i217).bind fun e224 =>
    some (decide (e224 ≥ r7.2)))).bind fun t221 =>
    bif t221 then
    some false
    else
    (idx r13.1 i217).bind fun e227 =>
    (idx r13.1 i217).bind fun e229 =>
    (idx l216 e229).bind fun e231 =>
    (idx l216 e227).bind fun e233 =>
    w_FnRankings_l4 kj214 r7 r13 N (List.set l216 (Int.toNat e227) (w64 (e231 + 1))) (w64 (i217 + 1))
    else
    kj214 l216

def w_FnRankings_l6 (kj239 : Option Bool) (l213 : List Int) (i237 : Int) : Nat → Int → Option Bool
  | 0, _ => none
  | N + 1, k241 =>
    bif decide (k241 < (List.length l213 : Int)) then
    (idx l213 i237).bind fun e243 =>
    (idx l213 k241).bind fun e245 =>
    bif decide (e243 > (w64 (e245 + 1))) then
    some false
    else
    w_FnRankings_l6 kj239 l213 i237 N (w64 (k241 + 1))
    else
    kj239 

def w_FnRankings_l5 (kj235 : Option Bool) (l213 : List Int) : Nat → Int → Option Bool
  | 0, _ => none
  | N + 1, i237 =>
    bif decide (i237 < (List.length l213 : Int)) then
    withK (w_FnRankings_l5 kj235 l213 N (w64 (i237 + 1))) fun (kj239 : Option Bool) =>
    w_FnRankings_l6 kj239 l213 i237 N 0
    else
    kj235 

def w_FnRankings (N : Nat) (code1 : List UInt8) : Option Bool :=
  (w_f6big code1).bind fun r4 =>
  bif r4 then
  some true
  else
  (s_DrawHeatsOf N code1).bind fun r7 =>
  (i_HeatsOf N r7.1 r7.2).bind fun r10 =>
  (s_HeatsOf N r7.1 r7.2).bind fun r13 =>
  (i_RankResults N r7.1).bind fun r16 =>
  (s_RankResults N r7.1).bind fun r19 =>
  (i_PlacesOfResults N r7.1).bind fun r22 =>
  (s_PlacesOfResults N r7.1).bind fun r25 =>
  (s_DrawQualifyFrom N code1).bind fun r28 =>
  (i_QualifyFrom N r28.1 r28.2.1 r28.2.2.1 r28.2.2.2).bind fun r32 =>
  (s_QualifyFrom N r28.1 r28.2.1 r28.2.2.1 r28.2.2.2).bind fun r35 =>
  (s_DrawBestOfRounds N code1).bind fun r38 =>
  (i_BestOfRounds N r38).bind fun r42 =>
  (s_BestOfRounds N r38).bind fun r45 =>
  (i_TiedResults N r7.1).bind fun r48 =>
  (s_TiedResults N r7.1).bind fun r52 =>
  (orO (r10.2 != r13.2) ((w_f6ints N r10.1 r13.1).bind fun r59 =>
  some (!r59))).bind fun t56 =>
  (orO t56 (some (r16.2 != r19.2))).bind fun t61 =>
  (orO t61 ((w_f6ints N r16.1 r19.1).bind fun r67 =>
  some (!r67))).bind fun t64 =>
  (orO t64 (some (r22.2 != r25.2))).bind fun t69 =>
  (orO t69 ((w_f6ints N r22.1 r25.1).bind fun r75 =>
  some (!r75))).bind fun t72 =>
  (orO t72 (some (r32.2 != r35.2))).bind fun t77 =>
  (orO t77 ((w_f6ints N r32.1 r35.1).bind fun r83 =>
  some (!r83))).bind fun t80 =>
  (orO t80 (some (r42.2 != r45.2))).bind fun t85 =>
  (orO t85 ((s_SameResults N r42.1 r45.1).bind fun r91 =>
  some (!r91))).bind fun t88 =>
  (orO t88 (some (r48.2 != r52.2))).bind fun t93 =>
  (orO t93 (some ((List.length r48.1 : Int) != (List.length r52.1 : Int)))).bind fun t96 =>
  (orO t96 ((i_RankText N r7.1).bind fun r102 =>
  (s_RankText N r7.1).bind fun r104 =>
  some (r102 != r104))).bind fun t99 =>
  (orO t99 ((i_ValidResults N r7.1).bind fun r109 =>
  (s_ValidResults N r7.1).bind fun r111 =>
  some (r109 != r111))).bind fun t106 =>
  bif t106 then
  some false
  else
  withK (withK ((andO (r32.2 == 0) (some (decide ((List.length r35.1 : Int) > (List.length r28.1 : Int))))).bind fun t205 =>
  bif t205 then
  some false
  else
  bif (r10.2 != 0) then
  some true
  else
  (mk r7.2 (0 : Int)).bind fun l210 =>
  withK (fun (l213 : List Int) =>
  withK (some true) fun (kj235 : Option Bool) =>
  w_FnRankings_l5 kj235 l213 N 0) fun (kj214 : (List Int) → Option Bool) =>
  w_FnRankings_l4 kj214 r7 r13 N l210 0) fun (kj167 : Option Bool) =>
  bif (r16.2 == 0) then
  w_FnRankings_l3 kj167 r7 r19 r25 N 1
  else
  kj167 ) fun (kj114 : Option Bool) =>
  w_FnRankings_l1 kj114 r25 r48 r52 N 0

end Go.Proofs.YtikkolkickclhaaDoor
