/-
  Plain functions that compute what the Go functions compute. No conditions.
-/
import Derived.Test.YtdkhpbfciajaeaaBase
namespace Go.Proofs.Ytdkhpbfciajaeaa
set_option linter.unusedVariables false
set_option linter.unusedSimpArgs false

structure Basket where
  bars : Int
  rise : Int
  fall : Int
  clear : Int
  near : Int

def Basket.beq (x y : Basket) : Bool := x.bars == y.bars && (x.rise == y.rise && (x.fall == y.fall && (x.clear == y.clear && (x.near == y.near))))

structure L00Src where
  code : List UInt8
  at_ : Int
  seed : Int

structure Stroke where
  bar : Int
  tick : Int

def Stroke.beq (x y : Stroke) : Bool := x.bar == y.bar && (x.tick == y.tick)



def w_a2Long (code1 : List UInt8) (more4 : List UInt8) : Option Bool :=
  (orO (decide ((List.length code1 : Int) > 3000)) (some (decide ((List.length more4 : Int) > 3000)))).bind fun t7 =>
  some t7

def s_l00From (code1 : List UInt8) : Option L00Src :=
  some (L00Src.mk code1 0 0)

def s_l00Src_next (s1 : L00Src) : Option (Int × L00Src) :=
  withK (fun (b5 : Int) =>
  bif decide ((w64 (s1.at_ + 1)) ≤ (List.length s1.code : Int)) then
  some (b5, (L00Src.mk s1.code (w64 (s1.at_ + 1)) (IntKind.u64.wrap ((IntKind.u64.wrap ((IntKind.u64.wrap (s1.seed * 6364136223846793005)) + (IntKind.u64.wrap b5))) + 1442695040888963407))))
  else
  some (w64 (uand (ushr (IntKind.u64.wrap ((IntKind.u64.wrap ((IntKind.u64.wrap (s1.seed * 6364136223846793005)) + (IntKind.u64.wrap b5))) + 1442695040888963407)) 40) 255), (L00Src.mk s1.code (w64 (s1.at_ + 1)) (IntKind.u64.wrap ((IntKind.u64.wrap ((IntKind.u64.wrap (s1.seed * 6364136223846793005)) + (IntKind.u64.wrap b5))) + 1442695040888963407))))) fun (kj6 : Int → Option (Int × L00Src)) =>
  bif decide (s1.at_ < (List.length s1.code : Int)) then
  (idx s1.code s1.at_).bind fun e9 =>
  kj6 (UInt8.toNat e9 : Int)
  else
  kj6 0

def s_l00Src_pick (s1 : L00Src) (n5 : Int) : Option (Int × L00Src) :=
  bif decide (n5 ≤ 1) then
  some (0, (L00Src.mk s1.code s1.at_ s1.seed))
  else
  (s_l00Src_next (L00Src.mk s1.code s1.at_ s1.seed)).bind fun r7 =>
  withK (fun (x9 : Int) (x10 : Int) (x11 : Int) =>
  (remO x11 n5).bind fun q17 =>
  some (q17, (L00Src.mk s1.code x9 x10))) fun (kj12 : Int → Int → Int → Option (Int × L00Src)) =>
  bif decide (n5 > 200) then
  (s_l00Src_next (L00Src.mk s1.code r7.2.at_ r7.2.seed)).bind fun r15 =>
  kj12 r15.2.at_ r15.2.seed (w64 ((w64 (r7.1 * 256)) + r15.1))
  else
  kj12 r7.2.at_ r7.2.seed r7.1

def s_l03Draw (s1 : L00Src) : Option (Basket × L00Src) :=
  (s_l00Src_pick (L00Src.mk s1.code s1.at_ s1.seed) 10).bind fun r6 =>
  (s_l00Src_pick (L00Src.mk s1.code r6.2.at_ r6.2.seed) 6).bind fun r9 =>
  (s_l00Src_pick (L00Src.mk s1.code r9.2.at_ r9.2.seed) 6).bind fun r11 =>
  (s_l00Src_pick (L00Src.mk s1.code r11.2.at_ r11.2.seed) 4).bind fun r13 =>
  (s_l00Src_pick (L00Src.mk s1.code r13.2.at_ r13.2.seed) 6).bind fun r15 =>
  some ((Basket.mk ((Basket.mk (w64 (2 + r6.1)) 0 0 0 0).bars) (w64 (1 + r9.1)) (w64 (1 + r11.1)) (w64 (1 + r13.1)) r15.1), (L00Src.mk s1.code r15.2.at_ r15.2.seed))

def s_A2Basket (code1 : List UInt8) : Option Basket :=
  (s_l00From code1).bind fun r5 =>
  (s_l03Draw (L00Src.mk code1 r5.at_ r5.seed)).bind fun r8 =>
  some (Basket.mk (w64 (r8.1.bars + 5)) r8.1.rise r8.1.fall r8.1.clear r8.1.near)

def s_A2Bars_l1 (kj12 : (List Int) → Option (List Int)) (code1 : List UInt8) (b4 : Basket) : Nat → Int → Int → (List Int) → Int → Option (List Int)
  | 0, _, _, _, _ => none
  | N + 1, x16, x17, l18, k20 =>
    bif decide (k20 > 0) then
    (s_l00Src_pick (L00Src.mk code1 x16 x17) b4.bars).bind fun r22 =>
    (app l18 [r22.1]).bind fun l25 =>
    s_A2Bars_l1 kj12 code1 b4 N r22.2.at_ r22.2.seed l25 (w64 (k20 - 1))
    else
    kj12 l18

def s_A2Bars (N : Nat) (code1 : List UInt8) (b4 : Basket) : Option (List Int) :=
  (s_l00From code1).bind fun r6 =>
  withK (fun (l10 : List Int) =>
  some l10) fun (kj12 : (List Int) → Option (List Int)) =>
  (s_l00Src_pick (L00Src.mk code1 r6.at_ r6.seed) 12).bind fun r14 =>
  s_A2Bars_l1 kj12 code1 b4 N r14.2.at_ r14.2.seed [] r14.1

def i_between (n1 : Int) (low2 : Int) (high3 : Int) : Option Bool :=
  (andO (decide (n1 ≥ low2)) (some (decide (n1 ≤ high3)))).bind fun t4 =>
  some t4

def i_ValidBasket (b1 : Basket) : Option Bool :=
  (i_between b1.bars 2 60).bind fun r3 =>
  (andO r3 ((i_between b1.rise 1 100).bind fun r8 =>
  some r8)).bind fun t5 =>
  (andO t5 ((i_between b1.fall 1 100).bind fun r13 =>
  some r13)).bind fun t10 =>
  (andO t10 ((i_between b1.clear 1 100).bind fun r18 =>
  some r18)).bind fun t15 =>
  (andO t15 ((i_between b1.near 0 100).bind fun r23 =>
  some r23)).bind fun t20 =>
  some t20

def i_Basket_hasBar (b1 : Basket) (bar2 : Int) : Option Bool :=
  (i_between bar2 0 (w64 (b1.bars - 1))).bind fun r4 =>
  some r4

def i_Basket_areBars_l1 (kj6 : Option Bool) (b1 : Basket) (bars2 : List Int) : Nat → Int → Option Bool
  | 0, _ => none
  | N + 1, x8 =>
    bif decide (x8 < (List.length bars2 : Int)) then
    (idx bars2 x8).bind fun e10 =>
    (i_Basket_hasBar b1 e10).bind fun r15 =>
    bif !r15 then
    some false
    else
    i_Basket_areBars_l1 kj6 b1 bars2 N (w64 (x8 + 1))
    else
    kj6 

def i_Basket_areBars (N : Nat) (b1 : Basket) (bars2 : List Int) : Option Bool :=
  withK (some (decide ((List.length bars2 : Int) ≤ 60))) fun (kj6 : Option Bool) =>
  i_Basket_areBars_l1 kj6 b1 bars2 N 0

def i_absolute (n1 : Int) : Option Int :=
  bif decide (n1 < 0) then
  some (w64 (0 - n1))
  else
  some n1

def i_Basket_waits (b1 : Basket) (first2 : Int) (second3 : Int) : Option Int :=
  bif (first2 == second3) then
  some (w64 (b1.rise + b1.fall))
  else
  (i_absolute (w64 (first2 - second3))).bind fun r6 =>
  some (w64 (b1.clear + (imax (w64 (b1.near - r6)) 0)))

def i_Basket_fastest_l2 (kj27 : Int → Option (List Stroke)) (b1 : Basket) (l11 : List Stroke) (e21 : Int) : Nat → Int → Int → Option (List Stroke)
  | 0, _, _ => none
  | N + 1, tick29, x30 =>
    bif decide (x30 < (List.length l11 : Int)) then
    (idx l11 x30).bind fun e32 =>
    (i_Basket_waits b1 e32.bar e21).bind fun r35 =>
    i_Basket_fastest_l2 kj27 b1 l11 e21 N (imax tick29 (w64 (e32.tick + r35))) (w64 (x30 + 1))
    else
    kj27 tick29

def i_Basket_fastest_l1 (kj9 : (List Stroke) → Option (List Stroke)) (b1 : Basket) (bars2 : List Int) : Nat → (List Stroke) → Int → Int → Option (List Stroke)
  | 0, _, _, _ => none
  | N + 1, l11, tick13, x14 =>
    bif decide (x14 < (List.length bars2 : Int)) then
    withK (fun (l16 : List Stroke) (tick18 : Int) =>
    i_Basket_fastest_l1 kj9 b1 bars2 N l16 tick18 (w64 (x14 + 1))) fun (kj19 : (List Stroke) → Int → Option (List Stroke)) =>
    (idx bars2 x14).bind fun e21 =>
    withK (fun (tick26 : Int) =>
    (app l11 [(Stroke.mk e21 tick26)]).bind fun l38 =>
    kj19 l38 tick26) fun (kj27 : Int → Option (List Stroke)) =>
    i_Basket_fastest_l2 kj27 b1 l11 e21 N tick13 0
    else
    kj9 l11

def i_Basket_fastest (N : Nat) (b1 : Basket) (bars2 : List Int) : Option (List Stroke) :=
  withK (fun (l7 : List Stroke) =>
  some l7) fun (kj9 : (List Stroke) → Option (List Stroke)) =>
  i_Basket_fastest_l1 kj9 b1 bars2 N [] 0 0

def i_FastestStrokes (N : Nat) (b1 : Basket) (bars2 : List Int) : Option ((List Stroke) × Int) :=
  (i_ValidBasket b1).bind fun r6 =>
  bif !r6 then
  some ([], 1)
  else
  (i_Basket_areBars N b1 bars2).bind fun r9 =>
  bif !r9 then
  some ([], 2)
  else
  (i_Basket_fastest N b1 bars2).bind fun r12 =>
  some (r12, 0)

def i_TicksFor (N : Nat) (b1 : Basket) (bars2 : List Int) : Option (Int × Int) :=
  (i_ValidBasket b1).bind fun r6 =>
  bif !r6 then
  some (0, 1)
  else
  (i_Basket_areBars N b1 bars2).bind fun r9 =>
  bif !r9 then
  some (0, 2)
  else
  bif ((List.length bars2 : Int) == 0) then
  some (0, 0)
  else
  (i_Basket_fastest N b1 bars2).bind fun r13 =>
  (idx r13 (w64 ((List.length r13 : Int) - 1))).bind fun e16 =>
  some (w64 ((w64 (e16.tick + b1.rise)) + b1.fall), 0)

def s_l00In (n1 : Int) (low2 : Int) (high3 : Int) : Option Bool :=
  (andO (decide (n1 ≥ low2)) (some (decide (n1 ≤ high3)))).bind fun t4 =>
  some t4

def s_l03Bar (b1 : Basket) (n2 : Int) : Option Bool :=
  (s_l00In n2 0 (w64 (b1.bars - 1))).bind fun r4 =>
  some r4

def s_l03Ok (b1 : Basket) : Option Bool :=
  (s_l00In b1.bars 2 60).bind fun r3 =>
  (andO r3 ((s_l00In b1.rise 1 100).bind fun r8 =>
  some r8)).bind fun t5 =>
  (andO t5 ((s_l00In b1.fall 1 100).bind fun r13 =>
  some r13)).bind fun t10 =>
  (andO t10 ((s_l00In b1.clear 1 100).bind fun r18 =>
  some r18)).bind fun t15 =>
  (andO t15 ((s_l00In b1.near 0 100).bind fun r23 =>
  some r23)).bind fun t20 =>
  some t20

def s_l03Strokes_l1 (kj6 : Option Bool) (b1 : Basket) (list2 : List Stroke) : Nat → Int → Option Bool
  | 0, _ => none
  | N + 1, i8 =>
    bif decide (i8 < (List.length list2 : Int)) then
    (idx list2 i8).bind fun e10 =>
    (s_l03Bar b1 e10.bar).bind fun r15 =>
    (orO (!r15) ((idx list2 i8).bind fun e20 =>
    (s_l00In e20.tick 0 1000000).bind fun r25 =>
    some (!r25))).bind fun t17 =>
    (orO t17 ((andO (decide (i8 > 0)) ((idx list2 (w64 (i8 - 1))).bind fun e33 =>
    (idx list2 i8).bind fun e38 =>
    some (decide (e33.tick > e38.tick)))).bind fun t30 =>
    some t30)).bind fun t27 =>
    bif t27 then
    some false
    else
    s_l03Strokes_l1 kj6 b1 list2 N (w64 (i8 + 1))
    else
    kj6 

def s_l03Strokes (N : Nat) (b1 : Basket) (list2 : List Stroke) : Option Bool :=
  withK ((s_l03Ok b1).bind fun r44 =>
  (andO r44 (some (decide ((List.length list2 : Int) ≤ 60)))).bind fun t46 =>
  some t46) fun (kj6 : Option Bool) =>
  s_l03Strokes_l1 kj6 b1 list2 N 0

def s_ValidStrokes (N : Nat) (b1 : Basket) (list2 : List Stroke) : Option Bool :=
  (s_l03Strokes N b1 list2).bind fun r6 =>
  some r6

def i_ValidStrokes_l1 (kj12 : Option Bool) (b1 : Basket) (list2 : List Stroke) : Nat → Int → Int → Option Bool
  | 0, _, _ => none
  | N + 1, last14, x15 =>
    bif decide (x15 < (List.length list2 : Int)) then
    (idx list2 x15).bind fun e17 =>
    (i_Basket_hasBar b1 e17.bar).bind fun r23 =>
    (orO (!r23) ((i_between e17.tick last14 1000000).bind fun r28 =>
    some (!r28))).bind fun t25 =>
    bif t25 then
    some false
    else
    i_ValidStrokes_l1 kj12 b1 list2 N e17.tick (w64 (x15 + 1))
    else
    kj12 

def i_ValidStrokes (N : Nat) (b1 : Basket) (list2 : List Stroke) : Option Bool :=
  (i_ValidBasket b1).bind fun r6 =>
  (orO (!r6) (some (decide ((List.length list2 : Int) > 60)))).bind fun t8 =>
  bif t8 then
  some false
  else
  withK (some true) fun (kj12 : Option Bool) =>
  i_ValidStrokes_l1 kj12 b1 list2 N 0 0

def i_Basket_jams (b1 : Basket) (one2 : Stroke) (two3 : Stroke) : Option Bool :=
  (i_absolute (w64 (one2.tick - two3.tick))).bind fun r7 =>
  (i_Basket_waits b1 one2.bar two3.bar).bind fun r9 =>
  some (decide (r7 < r9))

def i_CountJams_l2 (kj16 : Int → Option (Int × Int)) (b1 : Basket) (list2 : List Stroke) (x13 : Int) : Nat → Int → Int → Option (Int × Int)
  | 0, _, _ => none
  | N + 1, jams18, x19 =>
    bif decide (x19 < x13) then
    withK (fun (jams21 : Int) =>
    i_CountJams_l2 kj16 b1 list2 x13 N jams21 (w64 (x19 + 1))) fun (kj22 : Int → Option (Int × Int)) =>
    (idx list2 x13).bind fun e24 =>
    (idx list2 x19).bind fun e29 =>
    (i_Basket_jams b1 e24 e29).bind fun r34 =>
    bif r34 then
    kj22 (w64 (jams18 + 1))
    else
    kj22 jams18
    else
    kj16 jams18

def i_CountJams_l1 (kj10 : Int → Option (Int × Int)) (b1 : Basket) (list2 : List Stroke) : Nat → Int → Int → Option (Int × Int)
  | 0, _, _ => none
  | N + 1, jams12, x13 =>
    bif decide (x13 < (List.length list2 : Int)) then
    withK (fun (jams15 : Int) =>
    i_CountJams_l1 kj10 b1 list2 N jams15 (w64 (x13 + 1))) fun (kj16 : Int → Option (Int × Int)) =>
    i_CountJams_l2 kj16 b1 list2 x13 N jams12 0
    else
    kj10 jams12

def i_CountJams (N : Nat) (b1 : Basket) (list2 : List Stroke) : Option (Int × Int) :=
  (i_ValidStrokes N b1 list2).bind fun r6 =>
  bif !r6 then
  some (0, 1)
  else
  withK (fun (jams9 : Int) =>
  some (jams9, 0)) fun (kj10 : Int → Option (Int × Int)) =>
  i_CountJams_l1 kj10 b1 list2 N 0 0

def i_InTheAir_c1 (i1 : Int) (k2 : Int) (x3 : List Int) : Option Bool :=
  (idx x3 i1).bind fun e8 =>
  (idx x3 k2).bind fun e13 =>
  some (decide (e8 < e13))

def i_InTheAir_l1 (kj15 : (List Bool) → Option ((List Int) × Int)) (b1 : Basket) (list2 : List Stroke) (tick5 : Int) : Nat → (List Bool) → Int → Option ((List Int) × Int)
  | 0, _, _ => none
  | N + 1, l17, x18 =>
    bif decide (x18 < (List.length list2 : Int)) then
    withK (fun (l20 : List Bool) =>
    i_InTheAir_l1 kj15 b1 list2 tick5 N l20 (w64 (x18 + 1))) fun (kj21 : (List Bool) → Option ((List Int) × Int)) =>
    (idx list2 x18).bind fun e23 =>
    (andO (decide (e23.tick ≤ tick5)) (some (decide (tick5 < (w64 ((w64 (e23.tick + b1.rise)) + b1.fall)))))).bind fun t29 =>
    bif t29 then
    (idx l17 e23.bar).bind fun e33 =>
    kj21 (List.set l17 (Int.toNat e23.bar) true)
    else
    kj21 l17
    else
    kj15 l17

def i_InTheAir_l2 (kj40 : (List Int) → Option ((List Int) × Int)) (l14 : List Bool) : Nat → (List Int) → Int → Option ((List Int) × Int)
  | 0, _, _ => none
  | N + 1, l42, x44 =>
    bif decide (x44 < 60) then
    withK (fun (l46 : List Int) =>
    i_InTheAir_l2 kj40 l14 N l46 (w64 (x44 + 1))) fun (kj48 : (List Int) → Option ((List Int) × Int)) =>
    (idxA 60 l14 x44).bind fun e50 =>
    bif e50 then
    (app l42 [x44]).bind fun l54 =>
    kj48 l54
    else
    kj48 l42
    else
    kj40 l42

def i_InTheAir (N : Nat) (b1 : Basket) (list2 : List Stroke) (tick5 : Int) : Option ((List Int) × Int) :=
  (i_ValidStrokes N b1 list2).bind fun r7 =>
  bif !r7 then
  some ([], 1)
  else
  (i_between tick5 0 1000000).bind fun r10 =>
  bif !r10 then
  some ([], 2)
  else
  withK (fun (l14 : List Bool) =>
  withK (fun (l38 : List Int) =>
  (srtO (fun i j dk => i_InTheAir_c1 i j dk) l38).bind fun l58 =>
  some (l58, 0)) fun (kj40 : (List Int) → Option ((List Int) × Int)) =>
  i_InTheAir_l2 kj40 l14 N [] 0) fun (kj15 : (List Bool) → Option ((List Int) × Int)) =>
  i_InTheAir_l1 kj15 b1 list2 tick5 N (List.replicate 60 false) 0

def w_a2Has_l1 (kj5 : Option Bool) (list1 : List Int) (n4 : Int) : Nat → Int → Option Bool
  | 0, _ => none
  | N + 1, i7 =>
    bif decide (i7 < (List.length list1 : Int)) then
    (idx list1 i7).bind fun e9 =>
    bif (e9 == n4) then
    some true
    else
    w_a2Has_l1 kj5 list1 n4 N (w64 (i7 + 1))
    else
    kj5 

def w_a2Has (N : Nat) (list1 : List Int) (n4 : Int) : Option Bool :=
  withK (some false) fun (kj5 : Option Bool) =>
  w_a2Has_l1 kj5 list1 n4 N 0

def i_SlowestPair_l1 (kj14 : Int → Option (Int × Int)) (b1 : Basket) (bars2 : List Int) : Nat → Int → Int → Int → Option (Int × Int)
  | 0, _, _, _ => none
  | N + 1, best16, most17, i18 =>
    bif decide (i18 < (List.length bars2 : Int)) then
    withK (fun (best20 : Int) (most21 : Int) =>
    i_SlowestPair_l1 kj14 b1 bars2 N best20 most21 (w64 (i18 + 1))) fun (kj22 : Int → Int → Option (Int × Int)) =>
    (idx bars2 (w64 (i18 - 1))).bind fun e24 =>
    (idx bars2 i18).bind fun e29 =>
    (i_Basket_waits b1 e24 e29).bind fun r34 =>
    bif decide (r34 > most17) then
    kj22 i18 r34
    else
    kj22 best16 most17
    else
    kj14 best16

def i_SlowestPair (N : Nat) (b1 : Basket) (bars2 : List Int) : Option (Int × Int) :=
  (i_ValidBasket b1).bind fun r6 =>
  bif !r6 then
  some (0, 1)
  else
  (i_Basket_areBars N b1 bars2).bind fun r9 =>
  bif !r9 then
  some (0, 2)
  else
  bif decide ((List.length bars2 : Int) < 2) then
  some (0, 3)
  else
  withK (fun (best13 : Int) =>
  some (best13, 0)) fun (kj14 : Int → Option (Int × Int)) =>
  i_SlowestPair_l1 kj14 b1 bars2 N 1 0 1

def s_l00Size (n1 : Int) : Option Int :=
  bif decide (n1 < 0) then
  some (w64 (0 - n1))
  else
  some n1

def s_l00Max (a1 : Int) (b2 : Int) : Option Int :=
  bif decide (a1 > b2) then
  some a1
  else
  some b2

def s_l03Wait (b1 : Basket) (a2 : Int) (c3 : Int) : Option Int :=
  bif (a2 == c3) then
  some (w64 (b1.rise + b1.fall))
  else
  (s_l00Size (w64 (a2 - c3))).bind fun r6 =>
  (s_l00Max 0 (w64 (b1.near - r6))).bind fun r8 =>
  some (w64 (b1.clear + r8))

def s_MustWait (b1 : Basket) (first2 : Int) (second3 : Int) : Option (Int × Int) :=
  (s_l03Ok b1).bind fun r5 =>
  bif !r5 then
  some (0, 1)
  else
  (s_l03Bar b1 first2).bind fun r8 =>
  (orO (!r8) ((s_l03Bar b1 second3).bind fun r13 =>
  some (!r13))).bind fun t10 =>
  bif t10 then
  some (0, 2)
  else
  (s_l03Wait b1 first2 second3).bind fun r16 =>
  some (r16, 0)

def w_FnFastest_l1 (kj47 : Option Bool) (r10 : Basket) (r13 : (List Int)) (r16 : (List Stroke) × Int) : Nat → Int → Option Bool
  | 0, _ => none
  | N + 1, i49 =>
    bif decide (i49 < (List.length r16.1 : Int)) then
    withK (w_FnFastest_l1 kj47 r10 r13 r16 N (w64 (i49 + 1))) fun (kj51 : Option Bool) =>
    (idx r16.1 i49).bind fun e53 =>
    (idx r13 i49).bind fun e55 =>
    bif (e53.bar != e55) then
    some false
    else
    (orO (i49 == 0) ((idx r16.1 i49).bind fun e61 =>
    (idx r16.1 (w64 (i49 - 1))).bind fun e63 =>
    some (e61.tick == e63.tick))).bind fun t58 =>
    bif t58 then
    kj51 
    else
    (sub r16.1 0 i49).bind fun l67 =>
    (app [] l67).bind fun l69 =>
    (idx r13 i49).bind fun e72 =>
    (idx r16.1 i49).bind fun e74 =>
    (app l69 [(Stroke.mk e72 (w64 (e74.tick - 1)))]).bind fun l77 =>
    (i_CountJams N r10 l77).bind fun r80 =>
    (orO (r80.2 != 0) (some (decide (r80.1 < 1)))).bind fun t82 =>
    bif t82 then
    some false
    else
    kj51 
    else
    kj47 

def w_FnFastest_l2 (kj127 : Option Bool) (r10 : Basket) (r13 : (List Int)) (r111 : Int × Int) (r125 : Int × Int) : Nat → Int → Option Bool
  | 0, _ => none
  | N + 1, i129 =>
    bif decide (i129 < (List.length r13 : Int)) then
    (idx r13 (w64 (i129 - 1))).bind fun e131 =>
    (idx r13 i129).bind fun e133 =>
    (s_MustWait r10 e131 e133).bind fun r135 =>
    (orO (r135.2 != 0) (some (decide (r135.1 > r125.1)))).bind fun t137 =>
    (orO t137 ((andO (decide (i129 < r111.1)) (some (r135.1 == r125.1))).bind fun t143 =>
    some t143)).bind fun t140 =>
    bif t140 then
    some false
    else
    w_FnFastest_l2 kj127 r10 r13 r111 r125 N (w64 (i129 + 1))
    else
    kj127 

def w_FnFastest (N : Nat) (code1 : List UInt8) (more4 : List UInt8) : Option Bool :=
  (w_a2Long code1 more4).bind fun r7 =>
  bif r7 then
  some true
  else
  (s_A2Basket code1).bind fun r10 =>
  (s_A2Bars N more4 r10).bind fun r13 =>
  (i_FastestStrokes N r10 r13).bind fun r16 =>
  (i_TicksFor N r10 r13).bind fun r19 =>
  (orO (r16.2 != 0) (some ((List.length r16.1 : Int) != (List.length r13 : Int)))).bind fun t21 =>
  (orO t21 (some (r19.2 != 0))).bind fun t24 =>
  (orO t24 ((s_ValidStrokes N r10 r16.1).bind fun r30 =>
  some (!r30))).bind fun t27 =>
  bif t27 then
  some false
  else
  (i_CountJams N r10 r16.1).bind fun r33 =>
  (orO (r33.2 != 0) (some (r33.1 != 0))).bind fun t35 =>
  (orO t35 ((andO (decide ((List.length r16.1 : Int) > 0)) ((idx r16.1 0).bind fun e44 =>
  some (e44.tick != 0))).bind fun t41 =>
  some t41)).bind fun t38 =>
  bif t38 then
  some false
  else
  withK (bif ((List.length r16.1 : Int) == 0) then
  some (r19.1 == 0)
  else
  (orO (decide (r19.1 < 1)) (some (decide (r19.1 > 1000000)))).bind fun t87 =>
  bif t87 then
  some false
  else
  (i_InTheAir N r10 r16.1 r19.1).bind fun r91 =>
  (i_InTheAir N r10 r16.1 (w64 (r19.1 - 1))).bind fun r94 =>
  (orO (r91.2 != 0) (some ((List.length r91.1 : Int) != 0))).bind fun t97 =>
  (orO t97 (some (r94.2 != 0))).bind fun t100 =>
  (orO t100 ((idx r13 (w64 ((List.length r13 : Int) - 1))).bind fun e106 =>
  (w_a2Has N r94.1 e106).bind fun r108 =>
  some (!r108))).bind fun t103 =>
  bif t103 then
  some false
  else
  (i_SlowestPair N r10 r13).bind fun r111 =>
  bif decide ((List.length r13 : Int) < 2) then
  some (r111.2 == 3)
  else
  (orO (r111.2 != 0) (some (decide (r111.1 < 1)))).bind fun t114 =>
  (orO t114 (some (decide (r111.1 ≥ (List.length r13 : Int))))).bind fun t117 =>
  bif t117 then
  some false
  else
  (idx r13 (w64 (r111.1 - 1))).bind fun e121 =>
  (idx r13 r111.1).bind fun e123 =>
  (s_MustWait r10 e121 e123).bind fun r125 =>
  withK (some (r125.2 == 0)) fun (kj127 : Option Bool) =>
  w_FnFastest_l2 kj127 r10 r13 r111 r125 N 1) fun (kj47 : Option Bool) =>
  w_FnFastest_l1 kj47 r10 r13 r16 N 0

end Go.Proofs.Ytdkhpbfciajaeaa
