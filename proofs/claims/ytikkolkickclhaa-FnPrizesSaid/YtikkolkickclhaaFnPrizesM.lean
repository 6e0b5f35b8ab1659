/-
  Plain functions that compute what the Go functions compute. No conditions.
-/
import Derived.Test.YtikkolkickclhaaSortMore
namespace Go.Proofs.Ytikkolkickclhaa
set_option linter.unusedVariables false
set_option linter.unusedSimpArgs false

structure Result where
  name : Str
  net : Int
  errors : Int

def Result.beq (x y : Result) : Bool := x.name == y.name && (x.net == y.net && (x.errors == y.errors))

structure L00Src where
  code : List UInt8
  at_ : Int
  seed : Int

structure Tied where
  place : Int
  list : List Int

structure Fraction where
  num : Int
  den : Int

def Fraction.beq (x y : Fraction) : Bool := x.num == y.num && (x.den == y.den)



def w_f6big (code1 : List UInt8) : Option Bool :=
  some (decide ((List.length code1 : Int) > 4096))

def s_l00From (code1 : List UInt8) : Option L00Src :=
  some (L00Src.mk code1 0 0)

def s_l00Src_next (s1 : L00Src) : Option (Int × L00Src) :=
  withK (fun (b5 : Int) =>
  bif decide ((w64 (s1.at_ + 1)) ≤ (List.length s1.code : Int)) then
  some (b5, (L00Src.mk s1.code (w64 (s1.at_ + 1)) (IntKind.u64.wrap ((IntKind.u64.wrap ((IntKind.u64.wrap (s1.seed * 6364136223846793005)) + (IntKind.u64.wrap b5))) + 1442695040888963407))))
  else
  some (w64 (uand (ushr (IntKind.u64.wrap ((IntKind.u64.wrap ((IntKind.u64.wrap (s1.seed * 6364136223846793005)) + (IntKind.u64.wrap b5))) + 1442695040888963407)) 40) 255), (L00Src.mk s1.code (w64 (s1.at_ + 1)) (IntKind.u64.wrap ((IntKind.u64.wrap ((IntKind.u64.wrap (s1.seed * 6364136223846793005)) + (IntKind.u64.wrap b5))) + 1442695040888963407))))) fun (kj6 : Int → Option (Int × L00Src)) =>
  bif decide (s1.at_ < (List.length s1.code : Int)) then
  (idx s1.code s1.at_).bind fun e9 =>
  kj6 (UInt8.toNat e9 : Int)
  else
  kj6 0

def s_l00Src_pick (s1 : L00Src) (n5 : Int) : Option (Int × L00Src) :=
  bif decide (n5 ≤ 1) then
  some (0, (L00Src.mk s1.code s1.at_ s1.seed))
  else
  (s_l00Src_next (L00Src.mk s1.code s1.at_ s1.seed)).bind fun r7 =>
  withK (fun (x9 : Int) (x10 : Int) (x11 : Int) =>
  (remO x11 n5).bind fun q17 =>
  some (q17, (L00Src.mk s1.code x9 x10))) fun (kj12 : Int → Int → Int → Option (Int × L00Src)) =>
  bif decide (n5 > 200) then
  (s_l00Src_next (L00Src.mk s1.code r7.2.at_ r7.2.seed)).bind fun r15 =>
  kj12 r15.2.at_ r15.2.seed (w64 ((w64 (r7.1 * 256)) + r15.1))
  else
  kj12 r7.2.at_ r7.2.seed r7.1

def s_l22New (s1 : L00Src) (name5 : Str) : Option (Result × L00Src) :=
  (s_l00Src_pick (L00Src.mk s1.code s1.at_ s1.seed) 12).bind fun r7 =>
  (s_l00Src_pick (L00Src.mk s1.code r7.2.at_ r7.2.seed) 4).bind fun r10 =>
  some ((Result.mk ((Result.mk name5 (w64 (50 * r7.1)) 0).name) ((Result.mk name5 (w64 (50 * r7.1)) 0).net) r10.1), (L00Src.mk s1.code r10.2.at_ r10.2.seed))

def s_l22Draw_l1 (kj11 : Int → Int → (List Result) → Option ((List Result) × L00Src)) (s1 : L00Src) : Nat → Int → Int → (List Result) → Int → Option ((List Result) × L00Src)
  | 0, _, _, _, _ => none
  | N + 1, x15, x16, l17, k19 =>
    bif decide (k19 > 0) then
    (idx ([[97, 100, 97], [98, 101, 110], [99, 108, 101, 111], [100, 111, 114, 97], [101, 109, 105, 108], [102, 97, 121], [103, 117, 115], [104, 97, 108, 45, 50], [105, 118, 121]] : List Str) (List.length l17 : Int)).bind fun e21 =>
    (s_l22New (L00Src.mk s1.code x15 x16) e21).bind fun r23 =>
    (app l17 [r23.1]).bind fun l26 =>
    s_l22Draw_l1 kj11 s1 N r23.2.at_ r23.2.seed l26 (w64 (k19 - 1))
    else
    kj11 x15 x16 l17

def s_l22Draw (N : Nat) (s1 : L00Src) : Option ((List Result) × L00Src) :=
  withK (fun (x7 : Int) (x8 : Int) (l9 : List Result) =>
  some (l9, (L00Src.mk s1.code x7 x8))) fun (kj11 : Int → Int → (List Result) → Option ((List Result) × L00Src)) =>
  (s_l00Src_pick (L00Src.mk s1.code s1.at_ s1.seed) 10).bind fun r13 =>
  s_l22Draw_l1 kj11 s1 N r13.2.at_ r13.2.seed [] r13.1

def s_l00Src_one (s1 : L00Src) (n5 : Int) : Option (Bool × L00Src) :=
  (s_l00Src_pick (L00Src.mk s1.code s1.at_ s1.seed) n5).bind fun r6 =>
  some ((r6.1 == 0), (L00Src.mk s1.code r6.2.at_ r6.2.seed))

def s_l00Src_text (s1 : L00Src) (list5 : List Str) : Option (Str × L00Src) :=
  (s_l00Src_pick (L00Src.mk s1.code s1.at_ s1.seed) (List.length list5 : Int)).bind fun r8 =>
  (idx list5 r8.1).bind fun e10 =>
  some (e10, (L00Src.mk s1.code r8.2.at_ r8.2.seed))

def s_l00Src_among (s1 : L00Src) (list5 : List Int) : Option (Int × L00Src) :=
  (s_l00Src_pick (L00Src.mk s1.code s1.at_ s1.seed) (List.length list5 : Int)).bind fun r8 =>
  (idx list5 r8.1).bind fun e10 =>
  some (e10, (L00Src.mk s1.code r8.2.at_ r8.2.seed))

def s_l22Bent_l1 (kj12 : Int → Int → (List Result) → Option ((List Result) × L00Src)) (r18 : Int × L00Src) : Nat → (List Result) → Int → Option ((List Result) × L00Src)
  | 0, _, _ => none
  | N + 1, l20, k22 =>
    bif decide (k22 > 0) then
    (app l20 [(Result.mk [(97 : UInt8) + (UInt8.ofInt (Int.tdiv (UInt8.toNat (UInt8.ofInt (List.length l20 : Int)) : Int) 26)), (97 : UInt8) + (UInt8.ofInt (Int.tmod (UInt8.toNat (UInt8.ofInt (List.length l20 : Int)) : Int) 26))] (Int.tmod k22 7) 0)]).bind fun l26 =>
    s_l22Bent_l1 kj12 r18 N l26 (w64 (k22 - 1))
    else
    kj12 r18.2.at_ r18.2.seed l20

def s_l22Bent (N : Nat) (s1 : L00Src) : Option ((List Result) × L00Src) :=
  (s_l22Draw N (L00Src.mk s1.code s1.at_ s1.seed)).bind fun r5 =>
  withK (fun (x8 : Int) (x9 : Int) (l10 : List Result) =>
  bif ((List.length l10 : Int) == 0) then
  some (l10, (L00Src.mk s1.code x8 x9))
  else
  (s_l00Src_pick (L00Src.mk s1.code x8 x9) (List.length l10 : Int)).bind fun r30 =>
  (idx l10 r30.1).bind fun e32 =>
  withK (fun (x34 : Int) (x35 : Int) (l36 : List Result) =>
  some (l36, (L00Src.mk s1.code x34 x35))) fun (kj37 : Int → Int → (List Result) → Option ((List Result) × L00Src)) =>
  (s_l00Src_pick (L00Src.mk s1.code r30.2.at_ r30.2.seed) 24).bind fun r39 =>
  bif (r39.1 == 0) then
  (s_l00Src_text (L00Src.mk s1.code r39.2.at_ r39.2.seed) ([[], [65, 100, 97], [97, 100, 97]] : List Str)).bind fun r43 =>
  kj37 r43.2.at_ r43.2.seed (List.set l10 (Int.toNat r30.1) (Result.mk r43.1 e32.net e32.errors))
  else
  bif (r39.1 == 1) then
  (s_l00Src_among (L00Src.mk s1.code r39.2.at_ r39.2.seed) [(-1), 0, 100000, 100001, (-9223372036854775808)]).bind fun r47 =>
  kj37 r47.2.at_ r47.2.seed (List.set l10 (Int.toNat r30.1) (Result.mk e32.name r47.1 e32.errors))
  else
  bif (r39.1 == 2) then
  (s_l00Src_among (L00Src.mk s1.code r39.2.at_ r39.2.seed) [(-1), 0, 100000, 100001]).bind fun r51 =>
  kj37 r51.2.at_ r51.2.seed (List.set l10 (Int.toNat r30.1) (Result.mk e32.name e32.net r51.1))
  else
  kj37 r39.2.at_ r39.2.seed l10) fun (kj12 : Int → Int → (List Result) → Option ((List Result) × L00Src)) =>
  (s_l00Src_one (L00Src.mk s1.code r5.2.at_ r5.2.seed) 24).bind fun r14 =>
  bif r14.1 then
  (s_l00Src_pick (L00Src.mk s1.code r14.2.at_ r14.2.seed) 2).bind fun r18 =>
  s_l22Bent_l1 kj12 r18 N [] (w64 (40 + r18.1))
  else
  kj12 r14.2.at_ r14.2.seed r5.1

def s_l00Max (a1 : Int) (b2 : Int) : Option Int :=
  bif decide (a1 > b2) then
  some a1
  else
  some b2

def s_l22DrawTable_l1 (kj22 : Int → Int → (List Int) → Option ((List Int) × L00Src)) (s1 : L00Src) : Nat → Int → Int → (List Int) → Int → Int → Option ((List Int) × L00Src)
  | 0, _, _, _, _, _ => none
  | N + 1, x24, x25, l26, at28, k29 =>
    bif decide (k29 > 0) then
    (app l26 [at28]).bind fun l32 =>
    (s_l00Src_pick (L00Src.mk s1.code x24 x25) 30).bind fun r35 =>
    (s_l00Max 0 (w64 (at28 - r35.1))).bind fun r37 =>
    s_l22DrawTable_l1 kj22 s1 N r35.2.at_ r35.2.seed l32 r37 (w64 (k29 - 1))
    else
    kj22 x24 x25 l26

def s_l22DrawTable (N : Nat) (s1 : L00Src) : Option ((List Int) × L00Src) :=
  (s_l00Src_pick (L00Src.mk s1.code s1.at_ s1.seed) 6).bind fun r6 =>
  withK (fun (x8 : Int) (x9 : Int) (n10 : Int) =>
  withK (fun (x18 : Int) (x19 : Int) (l20 : List Int) =>
  withK (fun (x39 : Int) (x40 : Int) (l41 : List Int) =>
  some (l41, (L00Src.mk s1.code x39 x40))) fun (kj42 : Int → Int → (List Int) → Option ((List Int) × L00Src)) =>
  (bif decide (n10 > 0) then (s_l00Src_one (L00Src.mk s1.code x18 x19) 12).bind fun r48 =>
  some (r48.1, (L00Src.mk s1.code r48.2.at_ r48.2.seed)) else some (false, (L00Src.mk s1.code x18 x19))).bind fun x46 =>
  bif x46.1 then
  (s_l00Src_among (L00Src.mk s1.code x46.2.at_ x46.2.seed) [(-1), 0, 100000, 100001]).bind fun r52 =>
  (idx l20 0).bind fun e54 =>
  kj42 r52.2.at_ r52.2.seed (List.set l20 (Int.toNat 0) r52.1)
  else
  kj42 x46.2.at_ x46.2.seed l20) fun (kj22 : Int → Int → (List Int) → Option ((List Int) × L00Src)) =>
  s_l22DrawTable_l1 kj22 s1 N x8 x9 [] 100 n10) fun (kj11 : Int → Int → Int → Option ((List Int) × L00Src)) =>
  (s_l00Src_one (L00Src.mk s1.code r6.2.at_ r6.2.seed) 20).bind fun r13 =>
  bif r13.1 then
  (s_l00Src_pick (L00Src.mk s1.code r13.2.at_ r13.2.seed) 2).bind fun r16 =>
  kj11 r16.2.at_ r16.2.seed (w64 (20 + r16.1))
  else
  kj11 r13.2.at_ r13.2.seed r6.1

def s_DrawPointsFor (N : Nat) (code1 : List UInt8) : Option ((List Result) × (List Int)) :=
  (s_l00From code1).bind fun r4 =>
  (s_l22Bent N (L00Src.mk code1 r4.at_ r4.seed)).bind fun r7 =>
  (s_l22DrawTable N (L00Src.mk code1 r7.2.at_ r7.2.seed)).bind fun r10 =>
  some (r7.1, r10.1)

def s_DrawPrizesFor (N : Nat) (code1 : List UInt8) : Option ((List Result) × (List Int)) :=
  (s_DrawPointsFor N code1).bind fun r4 =>
  some (r4.1, r4.2)

def i_isDigit (b1 : UInt8) : Option Bool :=
  (andO (decide (b1 ≥ (48 : UInt8))) (some (decide (b1 ≤ (57 : UInt8))))).bind fun t2 =>
  some t2

def i_IsName_l1 (kj6 : Option Bool) (s1 : Str) : Nat → Int → Option Bool
  | 0, _ => none
  | N + 1, x8 =>
    bif decide (x8 < (List.length s1 : Int)) then
    (idx s1 x8).bind fun c10 =>
    (andO (decide (c10 ≥ (97 : UInt8))) ((idx s1 x8).bind fun c15 =>
    some (decide (c15 ≤ (122 : UInt8))))).bind fun t12 =>
    (andO (!t12) ((orO (x8 == 0) ((idx s1 x8).bind fun c23 =>
    (andO (c23 != (45 : UInt8)) ((idx s1 x8).bind fun c28 =>
    (i_isDigit c28).bind fun r30 =>
    some (!r30))).bind fun t25 =>
    some t25)).bind fun t20 =>
    some t20)).bind fun t17 =>
    bif t17 then
    some false
    else
    i_IsName_l1 kj6 s1 N (w64 (x8 + 1))
    else
    kj6 

def i_IsName (N : Nat) (s1 : Str) : Option Bool :=
  (orO ((List.length s1 : Int) == 0) (some (decide ((List.length s1 : Int) > 12)))).bind fun t2 =>
  bif t2 then
  some false
  else
  withK (some true) fun (kj6 : Option Bool) =>
  i_IsName_l1 kj6 s1 N 0

def i_between (n1 : Int) (low2 : Int) (high3 : Int) : Option Bool :=
  (andO (decide (n1 ≥ low2)) (some (decide (n1 ≤ high3)))).bind fun t4 =>
  some t4

def i_ValidResults_l1 (kj5 : Option Bool) (list1 : List Result) : Nat → (List (Str × Bool)) → Int → Option Bool
  | 0, _, _ => none
  | N + 1, mp7, x8 =>
    bif decide (x8 < (List.length list1 : Int)) then
    (idx list1 x8).bind fun e10 =>
    (i_IsName N e10.name).bind fun r16 =>
    (orO (!r16) (some (mget mp7 e10.name))).bind fun t18 =>
    (orO t18 ((i_between e10.net 0 100000).bind fun r24 =>
    some (!r24))).bind fun t21 =>
    (orO t21 ((i_between e10.errors 0 100000).bind fun r29 =>
    some (!r29))).bind fun t26 =>
    bif t26 then
    some false
    else
    i_ValidResults_l1 kj5 list1 N (mset mp7 e10.name true) (w64 (x8 + 1))
    else
    kj5 

def i_ValidResults (N : Nat) (list1 : List Result) : Option Bool :=
  withK (some (decide ((List.length list1 : Int) ≤ 40))) fun (kj5 : Option Bool) =>
  i_ValidResults_l1 kj5 list1 N [] 0

def i_isPointTable_l1 (kj4 : Option Bool) (table1 : List Int) : Nat → Int → Option Bool
  | 0, _ => none
  | N + 1, x6 =>
    bif decide (x6 < (List.length table1 : Int)) then
    (idx table1 x6).bind fun e8 =>
    (i_between e8 0 100000).bind fun r13 =>
    bif !r13 then
    some false
    else
    i_isPointTable_l1 kj4 table1 N (w64 (x6 + 1))
    else
    kj4 

def i_isPointTable (N : Nat) (table1 : List Int) : Option Bool :=
  withK (some (decide ((List.length table1 : Int) ≤ 20))) fun (kj4 : Option Bool) =>
  i_isPointTable_l1 kj4 table1 N 0

def i_Result_better (x1 : Result) (y2 : Result) : Option Bool :=
  (orO (decide (x1.net > y2.net)) ((andO (x1.net == y2.net) (some (decide (x1.errors < y2.errors)))).bind fun t8 =>
  some t8)).bind fun t5 =>
  some t5

def i_ranking_c1 (i1 : Int) (k2 : Int) (x3 : List Result) (x8 : List Int) : Option Bool :=
  (idx x8 i1).bind fun e13 =>
  (idx x3 e13).bind fun e18 =>
  (idx x8 k2).bind fun e23 =>
  (idx x3 e23).bind fun e28 =>
  (i_Result_better e18 e28).bind fun r33 =>
  some r33

def i_ranking_l1 (kj10 : (List Int) → Option (List Int)) (list1 : List Result) : Nat → (List Int) → Int → Option (List Int)
  | 0, _, _ => none
  | N + 1, l12, x14 =>
    bif decide (x14 < (List.length list1 : Int)) then
    (app l12 [x14]).bind fun l17 =>
    i_ranking_l1 kj10 list1 N l17 (w64 (x14 + 1))
    else
    kj10 l12

def i_ranking (N : Nat) (list1 : List Result) : Option (List Int) :=
  withK (fun (l8 : List Int) =>
  (srtS (fun i j dk => i_ranking_c1 i j list1 dk) l8).bind fun l21 =>
  some l21) fun (kj10 : (List Int) → Option (List Int)) =>
  i_ranking_l1 kj10 list1 N [] 0

def i_ties_l1 (kj8 : (List Tied) → Option (List Tied)) (list1 : List Result) (r10 : (List Int)) : Nat → (List Tied) → Int → Option (List Tied)
  | 0, _, _ => none
  | N + 1, l13, x16 =>
    bif decide (x16 < (List.length r10 : Int)) then
    withK (fun (l18 : List Tied) =>
    i_ties_l1 kj8 list1 r10 N l18 (w64 (x16 + 1))) fun (kj21 : (List Tied) → Option (List Tied)) =>
    (idx r10 x16).bind fun e23 =>
    (andO (decide ((w64 ((List.length l13 : Int) - 1)) ≥ 0)) ((idx l13 (w64 ((List.length l13 : Int) - 1))).bind fun e29 =>
    (idx e29.list 0).bind fun e34 =>
    (idx list1 e34).bind fun e36 =>
    (idx list1 e23).bind fun e41 =>
    (i_Result_better e36 e41).bind fun r46 =>
    some (!r46))).bind fun t26 =>
    bif t26 then
    (idx l13 (w64 ((List.length l13 : Int) - 1))).bind fun e50 =>
    (app e50.list [e23]).bind fun l56 =>
    (idx l13 (w64 ((List.length l13 : Int) - 1))).bind fun e59 =>
    kj21 (List.set l13 (Int.toNat (w64 ((List.length l13 : Int) - 1))) (Tied.mk e59.place l56))
    else
    (app l13 ([(Tied.mk (w64 (x16 + 1)) [e23])] : List Tied)).bind fun l71 =>
    kj21 l71
    else
    kj8 l13

def i_ties (N : Nat) (list1 : List Result) : Option (List Tied) :=
  withK (fun (l5 : List Tied) =>
  some l5) fun (kj8 : (List Tied) → Option (List Tied)) =>
  (i_ranking N list1).bind fun r10 =>
  i_ties_l1 kj8 list1 r10 N ([] : List Tied) 0

def i_tied_total_l1 (kj9 : Int → Option Int) (t1 : Tied) (table4 : List Int) : Nat → Int → Int → Option Int
  | 0, _, _ => none
  | N + 1, sum11, x12 =>
    bif decide (x12 < (List.length t1.list : Int)) then
    withK (fun (sum14 : Int) =>
    i_tied_total_l1 kj9 t1 table4 N sum14 (w64 (x12 + 1))) fun (kj15 : Int → Option Int) =>
    bif decide ((w64 ((w64 (t1.place - 1)) + x12)) < (List.length table4 : Int)) then
    (idx table4 (w64 ((w64 (t1.place - 1)) + x12))).bind fun e18 =>
    kj15 (w64 (sum11 + e18))
    else
    kj15 sum11
    else
    kj9 sum11

def i_tied_total (N : Nat) (t1 : Tied) (table4 : List Int) : Option Int :=
  withK (fun (sum8 : Int) =>
  some sum8) fun (kj9 : Int → Option Int) =>
  i_tied_total_l1 kj9 t1 table4 N 0 0

def i_PrizesFor_l2 (kj27 : (List Int) → Option ((List Int) × Int)) (e30 : Tied) (r37 : Int) : Nat → (List Int) → Int → Option ((List Int) × Int)
  | 0, _, _ => none
  | N + 1, l39, x40 =>
    bif decide (x40 < (List.length e30.list : Int)) then
    withK (fun (l42 : List Int) =>
    i_PrizesFor_l2 kj27 e30 r37 N l42 (w64 (x40 + 1))) fun (kj43 : (List Int) → Option ((List Int) × Int)) =>
    (idx e30.list x40).bind fun e45 =>
    (quoO r37 (List.length e30.list : Int)).bind fun q47 =>
    (idx l39 e45).bind fun e49 =>
    (remO r37 (List.length e30.list : Int)).bind fun q51 =>
    bif decide (x40 < q51) then
    (idx (List.set l39 (Int.toNat e45) q47) e45).bind fun e54 =>
    (idx (List.set l39 (Int.toNat e45) q47) e45).bind fun e56 =>
    kj43 (List.set (List.set l39 (Int.toNat e45) q47) (Int.toNat e45) (w64 (e54 + 1)))
    else
    kj43 (List.set l39 (Int.toNat e45) q47)
    else
    kj27 l39

def i_PrizesFor_l1 (kj17 : (List Int) → Option ((List Int) × Int)) (prizes4 : List Int) (r19 : (List Tied)) : Nat → (List Int) → Int → Option ((List Int) × Int)
  | 0, _, _ => none
  | N + 1, l23, x24 =>
    bif decide (x24 < (List.length r19 : Int)) then
    withK (fun (l26 : List Int) =>
    i_PrizesFor_l1 kj17 prizes4 r19 N l26 (w64 (x24 + 1))) fun (kj27 : (List Int) → Option ((List Int) × Int)) =>
    (idx r19 x24).bind fun e30 =>
    (i_tied_total N (Tied.mk e30.place e30.list) prizes4).bind fun r37 =>
    i_PrizesFor_l2 kj27 e30 r37 N l23 0
    else
    kj17 l23

def i_PrizesFor (N : Nat) (list1 : List Result) (prizes4 : List Int) : Option ((List Int) × Int) :=
  (i_ValidResults N list1).bind fun r7 =>
  bif !r7 then
  some ([], 1)
  else
  (i_isPointTable N prizes4).bind fun r10 =>
  bif !r10 then
  some ([], 2)
  else
  (mk (List.length list1 : Int) (0 : Int)).bind fun l13 =>
  withK (fun (l16 : List Int) =>
  some (l16, 0)) fun (kj17 : (List Int) → Option ((List Int) × Int)) =>
  (i_ties N list1).bind fun r19 =>
  i_PrizesFor_l1 kj17 prizes4 r19 N l13 0

def s_l01Small (c1 : UInt8) : Option Bool :=
  (andO (decide (c1 ≥ (97 : UInt8))) (some (decide (c1 ≤ (122 : UInt8))))).bind fun t2 =>
  some t2

def s_l01Digit (c1 : UInt8) : Option Bool :=
  (andO (decide (c1 ≥ (48 : UInt8))) (some (decide (c1 ≤ (57 : UInt8))))).bind fun t2 =>
  some t2

def s_IsName_l1 (kj13 : Option Bool) (s1 : Str) : Nat → Int → Option Bool
  | 0, _ => none
  | N + 1, i15 =>
    bif decide (i15 < (List.length s1 : Int)) then
    (idx s1 i15).bind fun c17 =>
    (s_l01Small c17).bind fun r19 =>
    (andO (!r19) ((idx s1 i15).bind fun c24 =>
    (s_l01Digit c24).bind fun r26 =>
    some (!r26))).bind fun t21 =>
    (andO t21 ((idx s1 i15).bind fun c31 =>
    some (c31 != (45 : UInt8)))).bind fun t28 =>
    bif t28 then
    some false
    else
    s_IsName_l1 kj13 s1 N (w64 (i15 + 1))
    else
    kj13 

def s_IsName (N : Nat) (s1 : Str) : Option Bool :=
  (orO (s1 == []) (some (decide ((List.length s1 : Int) > 12)))).bind fun t2 =>
  (orO t2 ((idx s1 0).bind fun c8 =>
  (s_l01Small c8).bind fun r10 =>
  some (!r10))).bind fun t5 =>
  bif t5 then
  some false
  else
  withK (some true) fun (kj13 : Option Bool) =>
  s_IsName_l1 kj13 s1 N 0

def s_l00In (n1 : Int) (low2 : Int) (high3 : Int) : Option Bool :=
  (andO (decide (n1 ≥ low2)) (some (decide (n1 ≤ high3)))).bind fun t4 =>
  some t4

def s_l22One (N : Nat) (x1 : Result) : Option Bool :=
  (s_IsName N x1.name).bind fun r4 =>
  (andO r4 ((s_l00In x1.net 0 100000).bind fun r9 =>
  some r9)).bind fun t6 =>
  (andO t6 ((s_l00In x1.errors 0 100000).bind fun r14 =>
  some r14)).bind fun t11 =>
  some t11

def s_l22Ok_l2 (kj8 : Option Bool) (list1 : List Result) (i6 : Int) : Nat → Int → Option Bool
  | 0, _ => none
  | N + 1, k18 =>
    bif decide (k18 < i6) then
    (idx list1 k18).bind fun e20 =>
    (idx list1 i6).bind fun e25 =>
    bif (e20.name == e25.name) then
    some false
    else
    s_l22Ok_l2 kj8 list1 i6 N (w64 (k18 + 1))
    else
    kj8 

def s_l22Ok_l1 (kj4 : Option Bool) (list1 : List Result) : Nat → Int → Option Bool
  | 0, _ => none
  | N + 1, i6 =>
    bif decide (i6 < (List.length list1 : Int)) then
    withK (s_l22Ok_l1 kj4 list1 N (w64 (i6 + 1))) fun (kj8 : Option Bool) =>
    (idx list1 i6).bind fun e10 =>
    (s_l22One N e10).bind fun r15 =>
    bif !r15 then
    some false
    else
    s_l22Ok_l2 kj8 list1 i6 N 0
    else
    kj4 

def s_l22Ok (N : Nat) (list1 : List Result) : Option Bool :=
  withK (some (decide ((List.length list1 : Int) ≤ 40))) fun (kj4 : Option Bool) =>
  s_l22Ok_l1 kj4 list1 N 0

def s_l22Table_l1 (kj4 : Option Bool) (table1 : List Int) : Nat → Int → Option Bool
  | 0, _ => none
  | N + 1, i6 =>
    bif decide (i6 < (List.length table1 : Int)) then
    (idx table1 i6).bind fun e8 =>
    (s_l00In e8 0 100000).bind fun r13 =>
    bif !r13 then
    some false
    else
    s_l22Table_l1 kj4 table1 N (w64 (i6 + 1))
    else
    kj4 

def s_l22Table (N : Nat) (table1 : List Int) : Option Bool :=
  withK (some (decide ((List.length table1 : Int) ≤ 20))) fun (kj4 : Option Bool) =>
  s_l22Table_l1 kj4 table1 N 0

def s_l22Better (a1 : Result) (b4 : Result) : Option Bool :=
  (orO (decide (a1.net > b4.net)) ((andO (a1.net == b4.net) (some (decide (a1.errors < b4.errors)))).bind fun t10 =>
  some t10)).bind fun t7 =>
  some t7

def s_l00Own (list1 : List Int) : Option (List Int) :=
  (app [] list1).bind fun l5 =>
  some l5

def s_l22Rank_l2 (kj18 : Int → Option (List Int)) (list1 : List Result) (l9 : List Int) (i11 : Int) : Nat → Int → Option (List Int)
  | 0, _ => none
  | N + 1, k20 =>
    (andO (decide (k20 > 0)) ((idx list1 i11).bind fun e24 =>
    (idx l9 (w64 (k20 - 1))).bind fun e29 =>
    (idx list1 e29).bind fun e31 =>
    (s_l22Better e24 e31).bind fun r36 =>
    some r36)).bind fun t21 =>
    bif t21 then
    s_l22Rank_l2 kj18 list1 l9 i11 N (w64 (k20 - 1))
    else
    kj18 k20

def s_l22Rank_l1 (kj7 : (List Int) → Option (List Int)) (list1 : List Result) : Nat → (List Int) → Int → Option (List Int)
  | 0, _, _ => none
  | N + 1, l9, i11 =>
    bif decide (i11 < (List.length list1 : Int)) then
    withK (fun (l13 : List Int) =>
    s_l22Rank_l1 kj7 list1 N l13 (w64 (i11 + 1))) fun (kj15 : (List Int) → Option (List Int)) =>
    withK (fun (k17 : Int) =>
    (sub l9 0 k17).bind fun l39 =>
    (s_l00Own l39).bind fun r41 =>
    (app r41 [i11]).bind fun l45 =>
    (sub l9 k17 (List.length l9 : Int)).bind fun l48 =>
    (app l45 l48).bind fun l50 =>
    kj15 l50) fun (kj18 : Int → Option (List Int)) =>
    s_l22Rank_l2 kj18 list1 l9 i11 N (List.length l9 : Int)
    else
    kj7 l9

def s_l22Rank (N : Nat) (list1 : List Result) : Option (List Int) :=
  withK (fun (l5 : List Int) =>
  some l5) fun (kj7 : (List Int) → Option (List Int)) =>
  s_l22Rank_l1 kj7 list1 N [] 0

def s_l22Groups_l1 (kj11 : (List (List Int)) → Option (List (List Int))) (list1 : List Result) (r5 : (List Int)) : Nat → (List (List Int)) → Int → Option (List (List Int))
  | 0, _, _ => none
  | N + 1, l13, i16 =>
    bif decide (i16 < (List.length r5 : Int)) then
    withK (fun (l18 : List (List Int)) =>
    s_l22Groups_l1 kj11 list1 r5 N l18 (w64 (i16 + 1))) fun (kj21 : (List (List Int)) → Option (List (List Int))) =>
    (andO (decide (i16 > 0)) ((idx r5 (w64 (i16 - 1))).bind fun e26 =>
    (idx list1 e26).bind fun e28 =>
    (idx r5 i16).bind fun e33 =>
    (idx list1 e33).bind fun e35 =>
    (s_l22Better e28 e35).bind fun r40 =>
    some (!r40))).bind fun t23 =>
    bif t23 then
    (idx l13 (w64 ((List.length l13 : Int) - 1))).bind fun e44 =>
    (idx r5 i16).bind fun e48 =>
    (app e44 [e48]).bind fun l51 =>
    (idx l13 (w64 ((List.length l13 : Int) - 1))).bind fun e54 =>
    kj21 (List.set l13 (Int.toNat (w64 ((List.length l13 : Int) - 1))) l51)
    else
    (idx r5 i16).bind fun e60 =>
    (app l13 ([[e60]] : List (List Int))).bind fun l67 =>
    kj21 l67
    else
    kj11 l13

def s_l22Groups (N : Nat) (list1 : List Result) : Option (List (List Int)) :=
  (s_l22Rank N list1).bind fun r5 =>
  withK (fun (l8 : List (List Int)) =>
  some l8) fun (kj11 : (List (List Int)) → Option (List (List Int))) =>
  s_l22Groups_l1 kj11 list1 r5 N ([] : List (List Int)) 0

def s_l22Sum_l1 (kj7 : Int → Option Int) (table1 : List Int) (to5 : Int) : Nat → Int → Int → Option Int
  | 0, _, _ => none
  | N + 1, sum9, i10 =>
    (andO (decide (i10 < to5)) (some (decide (i10 < (List.length table1 : Int))))).bind fun t11 =>
    bif t11 then
    (idx table1 i10).bind fun e15 =>
    s_l22Sum_l1 kj7 table1 to5 N (w64 (sum9 + e15)) (w64 (i10 + 1))
    else
    kj7 sum9

def s_l22Sum (N : Nat) (table1 : List Int) (from4 : Int) (to5 : Int) : Option Int :=
  withK (fun (sum6 : Int) =>
  some sum6) fun (kj7 : Int → Option Int) =>
  s_l22Sum_l1 kj7 table1 to5 N 0 from4

def s_PrizesFor_l2 (kj39 : (List Int) → Option ((List Int) × Int)) (r16 : (List (List Int))) (i25 : Int) (e32 : List Int) (r36 : Int) : Nat → (List Int) → Int → Option ((List Int) × Int)
  | 0, _, _ => none
  | N + 1, l41, k42 =>
    bif decide (k42 < (List.length e32 : Int)) then
    withK (fun (l44 : List Int) =>
    s_PrizesFor_l2 kj39 r16 i25 e32 r36 N l44 (w64 (k42 + 1))) fun (kj45 : (List Int) → Option ((List Int) × Int)) =>
    (idx r16 i25).bind fun e48 =>
    (idx e48 k42).bind fun e52 =>
    (quoO r36 (List.length e32 : Int)).bind fun q54 =>
    (idx l41 e52).bind fun e56 =>
    (remO r36 (List.length e32 : Int)).bind fun q58 =>
    bif decide (k42 < q58) then
    (idx r16 i25).bind fun e62 =>
    (idx e62 k42).bind fun e66 =>
    (idx (List.set l41 (Int.toNat e52) q54) e66).bind fun e68 =>
    (idx (List.set l41 (Int.toNat e52) q54) e66).bind fun e70 =>
    kj45 (List.set (List.set l41 (Int.toNat e52) q54) (Int.toNat e66) (w64 (e68 + 1)))
    else
    kj45 (List.set l41 (Int.toNat e52) q54)
    else
    kj39 l41

def s_PrizesFor_l1 (kj21 : (List Int) → Option ((List Int) × Int)) (prizes4 : List Int) (r16 : (List (List Int))) : Nat → (List Int) → Int → Int → Option ((List Int) × Int)
  | 0, _, _, _ => none
  | N + 1, l23, at24, i25 =>
    bif decide (i25 < (List.length r16 : Int)) then
    withK (fun (l27 : List Int) (at28 : Int) =>
    s_PrizesFor_l1 kj21 prizes4 r16 N l27 at28 (w64 (i25 + 1))) fun (kj29 : (List Int) → Int → Option ((List Int) × Int)) =>
    (idx r16 i25).bind fun e32 =>
    (s_l22Sum N prizes4 at24 (w64 (at24 + (List.length e32 : Int)))).bind fun r36 =>
    withK (fun (l38 : List Int) =>
    kj29 l38 (w64 (at24 + (List.length e32 : Int)))) fun (kj39 : (List Int) → Option ((List Int) × Int)) =>
    s_PrizesFor_l2 kj39 r16 i25 e32 r36 N l23 0
    else
    kj21 l23

def s_PrizesFor (N : Nat) (list1 : List Result) (prizes4 : List Int) : Option ((List Int) × Int) :=
  (s_l22Ok N list1).bind fun r7 =>
  bif !r7 then
  some ([], 1)
  else
  (s_l22Table N prizes4).bind fun r10 =>
  bif !r10 then
  some ([], 2)
  else
  (mk (List.length list1 : Int) (0 : Int)).bind fun l13 =>
  (s_l22Groups N list1).bind fun r16 =>
  withK (fun (l20 : List Int) =>
  some (l20, 0)) fun (kj21 : (List Int) → Option ((List Int) × Int)) =>
  s_PrizesFor_l1 kj21 prizes4 r16 N l13 0 0

def i_absolute (n1 : Int) : Option Int :=
  bif decide (n1 < 0) then
  some (w64 (0 - n1))
  else
  some n1

def i_divisor_l1 (kj4 : Int → Option Int) : Nat → Int → Int → Option Int
  | 0, _, _ => none
  | N + 1, a6, b7 =>
    bif (b7 != 0) then
    (remO a6 b7).bind fun q9 =>
    i_divisor_l1 kj4 N b7 q9
    else
    kj4 a6

def i_divisor (N : Nat) (a1 : Int) (b2 : Int) : Option Int :=
  withK (fun (a3 : Int) =>
  some a3) fun (kj4 : Int → Option Int) =>
  i_divisor_l1 kj4 N a1 b2

def i_lowest (N : Nat) (num1 : Int) (den2 : Int) : Option Fraction :=
  (i_absolute num1).bind fun r4 =>
  (i_divisor N r4 den2).bind fun r6 =>
  (quoO num1 r6).bind fun q8 =>
  (quoO den2 r6).bind fun q10 =>
  some (Fraction.mk q8 q10)

def i_pointsOf_l2 (kj21 : (List Fraction) → Option (List Fraction)) (table4 : List Int) (e24 : Tied) : Nat → (List Fraction) → Int → Option (List Fraction)
  | 0, _, _ => none
  | N + 1, l31, x32 =>
    bif decide (x32 < (List.length e24.list : Int)) then
    (idx e24.list x32).bind fun e34 =>
    (i_tied_total N (Tied.mk e24.place e24.list) table4).bind fun r36 =>
    (i_lowest N r36 (List.length e24.list : Int)).bind fun r38 =>
    (idx l31 e34).bind fun e40 =>
    i_pointsOf_l2 kj21 table4 e24 N (List.set l31 (Int.toNat e34) r38) (w64 (x32 + 1))
    else
    kj21 l31

def i_pointsOf_l1 (kj11 : (List Fraction) → Option (List Fraction)) (table4 : List Int) (r13 : (List Tied)) : Nat → (List Fraction) → Int → Option (List Fraction)
  | 0, _, _ => none
  | N + 1, l17, x18 =>
    bif decide (x18 < (List.length r13 : Int)) then
    withK (fun (l20 : List Fraction) =>
    i_pointsOf_l1 kj11 table4 r13 N l20 (w64 (x18 + 1))) fun (kj21 : (List Fraction) → Option (List Fraction)) =>
    (idx r13 x18).bind fun e24 =>
    i_pointsOf_l2 kj21 table4 e24 N l17 0
    else
    kj11 l17

def i_pointsOf (N : Nat) (list1 : List Result) (table4 : List Int) : Option (List Fraction) :=
  (mk (List.length list1 : Int) (Fraction.mk 0 0)).bind fun l7 =>
  withK (fun (l10 : List Fraction) =>
  some l10) fun (kj11 : (List Fraction) → Option (List Fraction)) =>
  (i_ties N list1).bind fun r13 =>
  i_pointsOf_l1 kj11 table4 r13 N l7 0

def i_PointsFor (N : Nat) (list1 : List Result) (table4 : List Int) : Option ((List Fraction) × Int) :=
  (i_ValidResults N list1).bind fun r7 =>
  bif !r7 then
  some ([], 1)
  else
  (i_isPointTable N table4).bind fun r10 =>
  bif !r10 then
  some ([], 2)
  else
  (i_pointsOf N list1 table4).bind fun r13 =>
  some (r13, 0)

def s_l00Size (n1 : Int) : Option Int :=
  bif decide (n1 < 0) then
  some (w64 (0 - n1))
  else
  some n1

def s_l00Gcd_l1 (kj4 : Int → Option Int) : Nat → Int → Int → Option Int
  | 0, _, _ => none
  | N + 1, a6, b7 =>
    bif (b7 != 0) then
    (remO a6 b7).bind fun q9 =>
    s_l00Gcd_l1 kj4 N b7 q9
    else
    kj4 a6

def s_l00Gcd (N : Nat) (a1 : Int) (b2 : Int) : Option Int :=
  withK (fun (a3 : Int) =>
  some a3) fun (kj4 : Int → Option Int) =>
  s_l00Gcd_l1 kj4 N a1 b2

def s_l02Make (N : Nat) (num1 : Int) (den2 : Int) : Option Fraction :=
  (s_l00Size num1).bind fun r4 =>
  (s_l00Gcd N r4 den2).bind fun r6 =>
  (quoO num1 r6).bind fun q8 =>
  (quoO den2 r6).bind fun q10 =>
  some (Fraction.mk q8 q10)

def s_l22Points_l2 (kj36 : (List Fraction) → Option (List Fraction)) (r10 : (List (List Int))) (i19 : Int) (e26 : List Int) (r32 : Fraction) : Nat → (List Fraction) → Int → Option (List Fraction)
  | 0, _, _ => none
  | N + 1, l38, k39 =>
    bif decide (k39 < (List.length e26 : Int)) then
    (idx r10 i19).bind fun e42 =>
    (idx e42 k39).bind fun e46 =>
    (idx l38 e46).bind fun e48 =>
    s_l22Points_l2 kj36 r10 i19 e26 r32 N (List.set l38 (Int.toNat e46) r32) (w64 (k39 + 1))
    else
    kj36 l38

def s_l22Points_l1 (kj15 : (List Fraction) → Option (List Fraction)) (table4 : List Int) (r10 : (List (List Int))) : Nat → (List Fraction) → Int → Int → Option (List Fraction)
  | 0, _, _, _ => none
  | N + 1, l17, at18, i19 =>
    bif decide (i19 < (List.length r10 : Int)) then
    withK (fun (l21 : List Fraction) (at22 : Int) =>
    s_l22Points_l1 kj15 table4 r10 N l21 at22 (w64 (i19 + 1))) fun (kj23 : (List Fraction) → Int → Option (List Fraction)) =>
    (idx r10 i19).bind fun e26 =>
    (s_l22Sum N table4 at18 (w64 (at18 + (List.length e26 : Int)))).bind fun r30 =>
    (s_l02Make N r30 (List.length e26 : Int)).bind fun r32 =>
    withK (fun (l35 : List Fraction) =>
    kj23 l35 (w64 (at18 + (List.length e26 : Int)))) fun (kj36 : (List Fraction) → Option (List Fraction)) =>
    s_l22Points_l2 kj36 r10 i19 e26 r32 N l17 0
    else
    kj15 l17

def s_l22Points (N : Nat) (list1 : List Result) (table4 : List Int) : Option (List Fraction) :=
  (mk (List.length list1 : Int) (Fraction.mk 0 0)).bind fun l7 =>
  (s_l22Groups N list1).bind fun r10 =>
  withK (fun (l14 : List Fraction) =>
  some l14) fun (kj15 : (List Fraction) → Option (List Fraction)) =>
  s_l22Points_l1 kj15 table4 r10 N l7 0 0

def s_PointsFor (N : Nat) (list1 : List Result) (table4 : List Int) : Option ((List Fraction) × Int) :=
  (s_l22Ok N list1).bind fun r7 =>
  bif !r7 then
  some ([], 1)
  else
  (s_l22Table N table4).bind fun r10 =>
  bif !r10 then
  some ([], 2)
  else
  (s_l22Points N list1 table4).bind fun r13 =>
  some (r13, 0)

def s_l22DrawHeats_l1 (kj13 : (List Int) → Int → Int → Option ((List Int) × L00Src)) (s1 : L00Src) (list5 : List Result) : Nat → (List Int) → Int → Int → Int → Option ((List Int) × L00Src)
  | 0, _, _, _, _ => none
  | N + 1, l15, x17, x18, i19 =>
    bif decide (i19 < (List.length list5 : Int)) then
    (s_l00Src_pick (L00Src.mk s1.code x17 x18) 3).bind fun r21 =>
    (app l15 [r21.1]).bind fun l24 =>
    s_l22DrawHeats_l1 kj13 s1 list5 N l24 r21.2.at_ r21.2.seed (w64 (i19 + 1))
    else
    kj13 l15 x17 x18

def s_l22DrawHeats (N : Nat) (s1 : L00Src) (list5 : List Result) : Option ((List Int) × L00Src) :=
  withK (fun (l9 : List Int) (x11 : Int) (x12 : Int) =>
  withK (fun (x27 : Int) (x28 : Int) (l29 : List Int) =>
  some (l29, (L00Src.mk s1.code x27 x28))) fun (kj31 : Int → Int → (List Int) → Option ((List Int) × L00Src)) =>
  (s_l00Src_pick (L00Src.mk s1.code x11 x12) 12).bind fun r33 =>
  bif (r33.1 == 0) then
  (app l9 [0]).bind fun l37 =>
  kj31 r33.2.at_ r33.2.seed l37
  else
  bif (r33.1 == 1) then
  bif decide ((List.length l9 : Int) > 0) then
  (s_l00Src_among (L00Src.mk s1.code r33.2.at_ r33.2.seed) [(-1), 0, 9, 10]).bind fun r43 =>
  (idx l9 0).bind fun e45 =>
  kj31 r43.2.at_ r43.2.seed (List.set l9 (Int.toNat 0) r43.1)
  else
  kj31 r33.2.at_ r33.2.seed l9
  else
  kj31 r33.2.at_ r33.2.seed l9) fun (kj13 : (List Int) → Int → Int → Option ((List Int) × L00Src)) =>
  s_l22DrawHeats_l1 kj13 s1 list5 N [] s1.at_ s1.seed 0

def s_DrawTeamTotals (N : Nat) (code1 : List UInt8) : Option ((List Result) × (List Int) × (List Int)) :=
  (s_l00From code1).bind fun r4 =>
  (s_l22Bent N (L00Src.mk code1 r4.at_ r4.seed)).bind fun r7 =>
  (s_l22DrawHeats N (L00Src.mk code1 r7.2.at_ r7.2.seed) r7.1).bind fun r10 =>
  (s_l22DrawTable N (L00Src.mk code1 r10.2.at_ r10.2.seed)).bind fun r13 =>
  some (r7.1, r10.1, r13.1)

def i_areHeats_l1 (kj5 : Option Bool) (heats1 : List Int) : Nat → Int → Option Bool
  | 0, _ => none
  | N + 1, x7 =>
    bif decide (x7 < (List.length heats1 : Int)) then
    (idx heats1 x7).bind fun e9 =>
    (i_between e9 0 9).bind fun r14 =>
    bif !r14 then
    some false
    else
    i_areHeats_l1 kj5 heats1 N (w64 (x7 + 1))
    else
    kj5 

def i_areHeats (N : Nat) (heats1 : List Int) (n4 : Int) : Option Bool :=
  withK (some ((List.length heats1 : Int) == n4)) fun (kj5 : Option Bool) =>
  i_areHeats_l1 kj5 heats1 N 0

def i_TeamTotals_l1 (kj25 : (List Fraction) → Option ((List Fraction) × Int)) (l21 : List Fraction) : Nat → (List Fraction) → Int → Option ((List Fraction) × Int)
  | 0, _, _ => none
  | N + 1, l27, x28 =>
    bif decide (x28 < (List.length l21 : Int)) then
    (idx l27 x28).bind fun e30 =>
    i_TeamTotals_l1 kj25 l21 N (List.set l27 (Int.toNat x28) (Fraction.mk e30.num 1)) (w64 (x28 + 1))
    else
    kj25 l27

def i_TeamTotals_l2 (kj33 : (List Fraction) → Option ((List Fraction) × Int)) (teams4 : List Int) (r35 : (List Fraction)) : Nat → (List Fraction) → Int → Option ((List Fraction) × Int)
  | 0, _, _ => none
  | N + 1, l38, x39 =>
    bif decide (x39 < (List.length r35 : Int)) then
    (idx r35 x39).bind fun e41 =>
    (idx teams4 x39).bind fun e44 =>
    (idx l38 e44).bind fun e49 =>
    (idx teams4 x39).bind fun e52 =>
    (i_lowest N (w64 ((w64 (e49.num * e41.den)) + (w64 (e41.num * e49.den)))) (w64 (e49.den * e41.den))).bind fun r57 =>
    (idx l38 e52).bind fun e59 =>
    i_TeamTotals_l2 kj33 teams4 r35 N (List.set l38 (Int.toNat e52) r57) (w64 (x39 + 1))
    else
    kj33 l38

def i_TeamTotals (N : Nat) (list1 : List Result) (teams4 : List Int) (table7 : List Int) : Option ((List Fraction) × Int) :=
  (i_ValidResults N list1).bind fun r10 =>
  bif !r10 then
  some ([], 1)
  else
  (i_areHeats N teams4 (List.length list1 : Int)).bind fun r13 =>
  (orO (!r13) ((i_isPointTable N table7).bind fun r18 =>
  some (!r18))).bind fun t15 =>
  bif t15 then
  some ([], 2)
  else
  (mk 10 (Fraction.mk 0 0)).bind fun l21 =>
  withK (fun (l24 : List Fraction) =>
  withK (fun (l32 : List Fraction) =>
  some (l32, 0)) fun (kj33 : (List Fraction) → Option ((List Fraction) × Int)) =>
  (i_pointsOf N list1 table7).bind fun r35 =>
  i_TeamTotals_l2 kj33 teams4 r35 N l24 0) fun (kj25 : (List Fraction) → Option ((List Fraction) × Int)) =>
  i_TeamTotals_l1 kj25 l21 N l21 0

def s_l22Add (N : Nat) (a1 : Fraction) (b2 : Fraction) : Option Fraction :=
  (s_l00Gcd N a1.den b2.den).bind fun r6 =>
  (quoO b2.den r6).bind fun q8 =>
  (quoO a1.den r6).bind fun q10 =>
  (quoO a1.den r6).bind fun q12 =>
  (s_l02Make N (w64 ((w64 (a1.num * q8)) + (w64 (b2.num * q10)))) (w64 (q12 * b2.den))).bind fun r14 =>
  some r14

def s_TeamTotals_l1 (kj13 : Option ((List Fraction) × Int)) (teams4 : List Int) : Nat → Int → Option ((List Fraction) × Int)
  | 0, _ => none
  | N + 1, i15 =>
    bif decide (i15 < (List.length teams4 : Int)) then
    (idx teams4 i15).bind fun e17 =>
    (s_l00In e17 0 9).bind fun r22 =>
    bif !r22 then
    some ([], 2)
    else
    s_TeamTotals_l1 kj13 teams4 N (w64 (i15 + 1))
    else
    kj13 

def s_TeamTotals_l2 (kj34 : (List Fraction) → Option ((List Fraction) × Int)) : Nat → (List Fraction) → Int → Option ((List Fraction) × Int)
  | 0, _, _ => none
  | N + 1, l36, k38 =>
    bif decide (k38 < 10) then
    (app l36 [(Fraction.mk 0 1)]).bind fun l41 =>
    s_TeamTotals_l2 kj34 N l41 (w64 (k38 + 1))
    else
    kj34 l36

def s_TeamTotals_l3 (kj48 : (List Fraction) → Option ((List Fraction) × Int)) (list1 : List Result) (teams4 : List Int) (r44 : (List Fraction)) : Nat → (List Fraction) → Int → Option ((List Fraction) × Int)
  | 0, _, _ => none
  | N + 1, l50, i51 =>
    bif decide (i51 < (List.length list1 : Int)) then
    (idx teams4 i51).bind fun e53 =>
    (idx teams4 i51).bind fun e58 =>
    (idx l50 e58).bind fun e63 =>
    (idx r44 i51).bind fun e65 =>
    (s_l22Add N e63 e65).bind fun r67 =>
    (idx l50 e53).bind fun e69 =>
    s_TeamTotals_l3 kj48 list1 teams4 r44 N (List.set l50 (Int.toNat e53) r67) (w64 (i51 + 1))
    else
    kj48 l50

def s_TeamTotals (N : Nat) (list1 : List Result) (teams4 : List Int) (table7 : List Int) : Option ((List Fraction) × Int) :=
  (s_l22Ok N list1).bind fun r10 =>
  bif !r10 then
  some ([], 1)
  else
  withK ((orO ((List.length teams4 : Int) != (List.length list1 : Int)) ((s_l22Table N table7).bind fun r28 =>
  some (!r28))).bind fun t25 =>
  bif t25 then
  some ([], 2)
  else
  withK (fun (l32 : List Fraction) =>
  (s_l22Points N list1 table7).bind fun r44 =>
  withK (fun (l47 : List Fraction) =>
  some (l47, 0)) fun (kj48 : (List Fraction) → Option ((List Fraction) × Int)) =>
  s_TeamTotals_l3 kj48 list1 teams4 r44 N l32 0) fun (kj34 : (List Fraction) → Option ((List Fraction) × Int)) =>
  s_TeamTotals_l2 kj34 N [] 0) fun (kj13 : Option ((List Fraction) × Int)) =>
  s_TeamTotals_l1 kj13 teams4 N 0

def w_f6ints_l1 (kj8 : Option Bool) (a1 : List Int) (b4 : List Int) : Nat → Int → Option Bool
  | 0, _ => none
  | N + 1, i10 =>
    bif decide (i10 < (List.length a1 : Int)) then
    (idx a1 i10).bind fun e12 =>
    (idx b4 i10).bind fun e17 =>
    bif (e12 != e17) then
    some false
    else
    w_f6ints_l1 kj8 a1 b4 N (w64 (i10 + 1))
    else
    kj8 

def w_f6ints (N : Nat) (a1 : List Int) (b4 : List Int) : Option Bool :=
  bif ((List.length a1 : Int) != (List.length b4 : Int)) then
  some false
  else
  withK (some true) fun (kj8 : Option Bool) =>
  w_f6ints_l1 kj8 a1 b4 N 0

def w_f6sum_l1 (kj5 : Int → Option Int) (list1 : List Int) : Nat → Int → Int → Option Int
  | 0, _, _ => none
  | N + 1, sum7, i8 =>
    bif decide (i8 < (List.length list1 : Int)) then
    (idx list1 i8).bind fun e10 =>
    w_f6sum_l1 kj5 list1 N (w64 (sum7 + e10)) (w64 (i8 + 1))
    else
    kj5 sum7

def w_f6sum (N : Nat) (list1 : List Int) : Option Int :=
  withK (fun (sum4 : Int) =>
  some sum4) fun (kj5 : Int → Option Int) =>
  w_f6sum_l1 kj5 list1 N 0 0

def w_FnPrizes_l1 (kj52 : Option Bool) (r17 : (List Fraction) × Int) (r20 : (List Fraction) × Int) : Nat → Int → Option Bool
  | 0, _ => none
  | N + 1, i54 =>
    bif decide (i54 < (List.length r20.1 : Int)) then
    (idx r17.1 i54).bind fun e56 =>
    (idx r20.1 i54).bind fun e58 =>
    bif !(Fraction.beq e56 e58) then
    some false
    else
    w_FnPrizes_l1 kj52 r17 r20 N (w64 (i54 + 1))
    else
    kj52 

def w_FnPrizes_l2 (kj61 : Option Bool) (r28 : (List Fraction) × Int) (r31 : (List Fraction) × Int) : Nat → Int → Option Bool
  | 0, _ => none
  | N + 1, i63 =>
    bif decide (i63 < (List.length r31.1 : Int)) then
    (idx r28.1 i63).bind fun e65 =>
    (idx r31.1 i63).bind fun e67 =>
    (orO (!(Fraction.beq e65 e67)) ((idx r31.1 i63).bind fun e72 =>
    some (decide (e72.num < 0)))).bind fun t69 =>
    bif t69 then
    some false
    else
    w_FnPrizes_l2 kj61 r28 r31 N (w64 (i63 + 1))
    else
    kj61 

def w_FnPrizes_l3 (kj77 : Int → Option Bool) (r7 : (List Result) × (List Int)) : Nat → Int → Int → Option Bool
  | 0, _, _ => none
  | N + 1, sum79, i80 =>
    (andO (decide (i80 < (List.length r7.1 : Int))) (some (decide (i80 < (List.length r7.2 : Int))))).bind fun t81 =>
    bif t81 then
    (idx r7.2 i80).bind fun e85 =>
    w_FnPrizes_l3 kj77 r7 N (w64 (sum79 + e85)) (w64 (i80 + 1))
    else
    kj77 sum79

def w_FnPrizes_l4 (kj87 : Option Bool) (r7 : (List Result) × (List Int)) (r14 : (List Int) × Int) (r20 : (List Fraction) × Int) : Nat → Int → Option Bool
  | 0, _ => none
  | N + 1, i89 =>
    bif decide (i89 < (List.length r7.1 : Int)) then
    (idx r20.1 i89).bind fun e91 =>
    (idx r14.1 i89).bind fun e94 =>
    (orO (decide ((w64 (e94 * e91.den)) < (w64 ((w64 (e91.num - e91.den)) + 1)))) ((idx r14.1 i89).bind fun e99 =>
    some (decide ((w64 (e99 * e91.den)) > (w64 ((w64 (e91.num + e91.den)) - 1)))))).bind fun t96 =>
    bif t96 then
    some false
    else
    w_FnPrizes_l4 kj87 r7 r14 r20 N (w64 (i89 + 1))
    else
    kj87 

def w_FnPrizes (N : Nat) (code1 : List UInt8) : Option Bool :=
  (w_f6big code1).bind fun r4 =>
  bif r4 then
  some true
  else
  (s_DrawPrizesFor N code1).bind fun r7 =>
  (i_PrizesFor N r7.1 r7.2).bind fun r11 =>
  (s_PrizesFor N r7.1 r7.2).bind fun r14 =>
  (i_PointsFor N r7.1 r7.2).bind fun r17 =>
  (s_PointsFor N r7.1 r7.2).bind fun r20 =>
  (s_DrawTeamTotals N code1).bind fun r23 =>
  (i_TeamTotals N r23.1 r23.2.1 r23.2.2).bind fun r28 =>
  (s_TeamTotals N r23.1 r23.2.1 r23.2.2).bind fun r31 =>
  (orO (r11.2 != r14.2) ((w_f6ints N r11.1 r14.1).bind fun r37 =>
  some (!r37))).bind fun t34 =>
  (orO t34 (some (r17.2 != r20.2))).bind fun t39 =>
  (orO t39 (some ((List.length r17.1 : Int) != (List.length r20.1 : Int)))).bind fun t42 =>
  (orO t42 (some (r28.2 != r31.2))).bind fun t45 =>
  (orO t45 (some ((List.length r28.1 : Int) != (List.length r31.1 : Int)))).bind fun t48 =>
  bif t48 then
  some false
  else
  withK (withK (bif (r11.2 != 0) then
  some true
  else
  withK (fun (sum76 : Int) =>
  withK ((w_f6sum N r14.1).bind fun r102 =>
  some (r102 == sum76)) fun (kj87 : Option Bool) =>
  w_FnPrizes_l4 kj87 r7 r14 r20 N 0) fun (kj77 : Int → Option Bool) =>
  w_FnPrizes_l3 kj77 r7 N 0 0) fun (kj61 : Option Bool) =>
  w_FnPrizes_l2 kj61 r28 r31 N 0) fun (kj52 : Option Bool) =>
  w_FnPrizes_l1 kj52 r17 r20 N 0

end Go.Proofs.Ytikkolkickclhaa
