/-
  Plain functions that compute what the Go functions compute. No conditions.
-/
import Derived.Test.YtkjccgkpieakpaaBase
namespace Go.Proofs.Ytkjccgkpieakpaa
set_option linter.unusedVariables false
set_option linter.unusedSimpArgs false

structure L00Src where
  code : List UInt8
  at_ : Int
  seed : Int



def w_f6big (code1 : List UInt8) : Option Bool :=
  some (decide ((List.length code1 : Int) > 4096))

def s_l00From (code1 : List UInt8) : Option L00Src :=
  some (L00Src.mk code1 0 0)

def s_l00Src_next (s1 : L00Src) : Option (Int × L00Src) :=
  withK (fun (b5 : Int) =>
  bif decide ((w64 (s1.at_ + 1)) ≤ (List.length s1.code : Int)) then
  some (b5, (L00Src.mk s1.code (w64 (s1.at_ + 1)) (IntKind.u64.wrap ((IntKind.u64.wrap ((IntKind.u64.wrap (s1.seed * 6364136223846793005)) + (IntKind.u64.wrap b5))) + 1442695040888963407))))
  else
  some (w64 (uand (ushr (IntKind.u64.wrap ((IntKind.u64.wrap ((IntKind.u64.wrap (s1.seed * 6364136223846793005)) + (IntKind.u64.wrap b5))) + 1442695040888963407)) 40) 255), (L00Src.mk s1.code (w64 (s1.at_ + 1)) (IntKind.u64.wrap ((IntKind.u64.wrap ((IntKind.u64.wrap (s1.seed * 6364136223846793005)) + (IntKind.u64.wrap b5))) + 1442695040888963407))))) fun (k6 : Int → Option (Int × L00Src)) =>
  bif decide (s1.at_ < (List.length s1.code : Int)) then
  (idx s1.code s1.at_).bind fun e9 =>
  k6 (UInt8.toNat e9 : Int)
  else
  k6 0

def s_l00Src_pick (s1 : L00Src) (n5 : Int) : Option (Int × L00Src) :=
  bif decide (n5 ≤ 1) then
  some (0, (L00Src.mk s1.code s1.at_ s1.seed))
  else
  (s_l00Src_next (L00Src.mk s1.code s1.at_ s1.seed)).bind fun r7 =>
  withK (fun (x9 : Int) (x10 : Int) (x11 : Int) =>
  (remO x11 n5).bind fun q17 =>
  some (q17, (L00Src.mk s1.code x9 x10))) fun (k12 : Int → Int → Int → Option (Int × L00Src)) =>
  bif decide (n5 > 200) then
  (s_l00Src_next (L00Src.mk s1.code r7.2.at_ r7.2.seed)).bind fun r15 =>
  k12 r15.2.at_ r15.2.seed (w64 ((w64 (r7.1 * 256)) + r15.1))
  else
  k12 r7.2.at_ r7.2.seed r7.1

def s_l00Src_one (s1 : L00Src) (n5 : Int) : Option (Bool × L00Src) :=
  (s_l00Src_pick (L00Src.mk s1.code s1.at_ s1.seed) n5).bind fun r6 =>
  some ((r6.1 == 0), (L00Src.mk s1.code r6.2.at_ r6.2.seed))

def s_l00Src_among (s1 : L00Src) (list5 : List Int) : Option (Int × L00Src) :=
  (s_l00Src_pick (L00Src.mk s1.code s1.at_ s1.seed) (List.length list5 : Int)).bind fun r8 =>
  (idx list5 r8.1).bind fun e10 =>
  some (e10, (L00Src.mk s1.code r8.2.at_ r8.2.seed))

def s_l08Draw_l1 (k24 : Int → Int → (List Int) → Option ((List Int) × L00Src)) (s1 : L00Src) : Nat → Int → Int → (List Int) → Int → Int → Option ((List Int) × L00Src)
  | 0, _, _, _, _, _ => none
  | N + 1, x26, x27, l28, at30, k31 =>
    bif decide (k31 > 0) then
    (app l28 [at30]).bind fun l34 =>
    (s_l00Src_pick (L00Src.mk s1.code x26 x27) 9).bind fun r37 =>
    s_l08Draw_l1 k24 s1 N r37.2.at_ r37.2.seed l34 (w64 (at30 + (w64 (1 + r37.1)))) (w64 (k31 - 1))
    else
    k24 x26 x27 l28

def s_l08Draw (N : Nat) (s1 : L00Src) : Option ((List Int) × L00Src) :=
  (s_l00Src_pick (L00Src.mk s1.code s1.at_ s1.seed) 9).bind fun r6 =>
  (s_l00Src_pick (L00Src.mk s1.code r6.2.at_ r6.2.seed) 6).bind fun r8 =>
  withK (fun (x10 : Int) (x11 : Int) (n12 : Int) =>
  withK (fun (x20 : Int) (x21 : Int) (l22 : List Int) =>
  withK (fun (x39 : Int) (x40 : Int) (l41 : List Int) =>
  some (l41, (L00Src.mk s1.code x39 x40))) fun (k43 : Int → Int → (List Int) → Option ((List Int) × L00Src)) =>
  (s_l00Src_one (L00Src.mk s1.code x20 x21) 16).bind fun r45 =>
  bif r45.1 then
  (s_l00Src_among (L00Src.mk s1.code r45.2.at_ r45.2.seed) [(-1), 0, 119, 120]).bind fun r49 =>
  (app l22 [r49.1]).bind fun l52 =>
  k43 r49.2.at_ r49.2.seed l52
  else
  k43 r45.2.at_ r45.2.seed l22) fun (k24 : Int → Int → (List Int) → Option ((List Int) × L00Src)) =>
  s_l08Draw_l1 k24 s1 N x10 x11 [] r6.1 n12) fun (k13 : Int → Int → Int → Option ((List Int) × L00Src)) =>
  (s_l00Src_one (L00Src.mk s1.code r8.2.at_ r8.2.seed) 16).bind fun r15 =>
  bif r15.1 then
  (s_l00Src_pick (L00Src.mk s1.code r15.2.at_ r15.2.seed) 2).bind fun r18 =>
  k13 r18.2.at_ r18.2.seed (w64 (12 + r18.1))
  else
  k13 r15.2.at_ r15.2.seed r8.1

def s_l08Ask (N : Nat) (code1 : List UInt8) : Option ((List Int) × Int) :=
  (s_l00From code1).bind fun r4 =>
  (s_l08Draw N (L00Src.mk code1 r4.at_ r4.seed)).bind fun r7 =>
  (s_l00Src_one (L00Src.mk code1 r7.2.at_ r7.2.seed) 10).bind fun r10 =>
  bif r10.1 then
  (s_l00Src_among (L00Src.mk code1 r10.2.at_ r10.2.seed) [(-1), 0, 119, 120]).bind fun r14 =>
  some (r7.1, r14.1)
  else
  (bif decide ((List.length r7.1 : Int) > 0) then (s_l00Src_one (L00Src.mk code1 r10.2.at_ r10.2.seed) 3).bind fun r20 =>
  some (r20.1, (L00Src.mk code1 r20.2.at_ r20.2.seed)) else some (false, (L00Src.mk code1 r10.2.at_ r10.2.seed))).bind fun x18 =>
  bif x18.1 then
  (s_l00Src_among (L00Src.mk code1 x18.2.at_ x18.2.seed) r7.1).bind fun r23 =>
  some (r7.1, r23.1)
  else
  (s_l00Src_pick (L00Src.mk code1 x18.2.at_ x18.2.seed) 50).bind fun r25 =>
  some (r7.1, r25.1)

def s_DrawSetStop (N : Nat) (code1 : List UInt8) : Option ((List Int) × Int) :=
  (s_l08Ask N code1).bind fun r4 =>
  some (r4.1, r4.2)

def i_between (n1 : Int) (low2 : Int) (high3 : Int) : Option Bool :=
  (andO (decide (n1 ≥ low2)) (some (decide (n1 ≤ high3)))).bind fun t4 =>
  some t4

def i_isColumn (n1 : Int) : Option Bool :=
  (i_between n1 0 119).bind fun r2 =>
  some r2

def i_ValidRack_l1 (k5 : Option Bool) (stops1 : List Int) : Nat → Int → Option Bool
  | 0, _ => none
  | N + 1, x7 =>
    bif decide (x7 < (List.length stops1 : Int)) then
    (idx stops1 x7).bind fun e9 =>
    (i_isColumn e9).bind fun r14 =>
    (orO (!r14) ((andO (decide (x7 > 0)) ((idx stops1 (w64 (x7 - 1))).bind fun e22 =>
    some (decide (e9 ≤ e22)))).bind fun t19 =>
    some t19)).bind fun t16 =>
    bif t16 then
    some false
    else
    i_ValidRack_l1 k5 stops1 N (w64 (x7 + 1))
    else
    k5 

def i_ValidRack (N : Nat) (stops1 : List Int) : Option Bool :=
  bif decide ((List.length stops1 : Int) > 12) then
  some false
  else
  withK (some true) fun (k5 : Option Bool) =>
  i_ValidRack_l1 k5 stops1 N 0

def i_rackCode (N : Nat) (stops1 : List Int) (column4 : Int) : Option Int :=
  (i_ValidRack N stops1).bind fun r5 =>
  bif !r5 then
  some 1
  else
  (i_isColumn column4).bind fun r8 =>
  bif !r8 then
  some 2
  else
  some 0

def i_SetStop_l1 (k9 : Int → Option ((List Int) × Int)) (stops1 : List Int) (column4 : Int) : Nat → Int → Option ((List Int) × Int)
  | 0, _ => none
  | N + 1, at11 =>
    (andO (decide (at11 < (List.length stops1 : Int))) ((idx stops1 at11).bind fun e15 =>
    some (decide (e15 < column4)))).bind fun t12 =>
    bif t12 then
    i_SetStop_l1 k9 stops1 column4 N (w64 (at11 + 1))
    else
    k9 at11

def i_SetStop (N : Nat) (stops1 : List Int) (column4 : Int) : Option ((List Int) × Int) :=
  (i_rackCode N stops1 column4).bind fun r5 =>
  bif (r5 != 0) then
  some ([], r5)
  else
  withK (fun (at8 : Int) =>
  (andO (decide (at8 < (List.length stops1 : Int))) ((idx stops1 at8).bind fun e24 =>
  some (e24 == column4))).bind fun t21 =>
  bif t21 then
  some ([], 4)
  else
  bif ((List.length stops1 : Int) == 12) then
  some ([], 5)
  else
  (sub stops1 0 at8).bind fun l32 =>
  (app [] l32).bind fun l37 =>
  (app l37 [column4]).bind fun l41 =>
  (sub stops1 at8 (List.length stops1 : Int)).bind fun l44 =>
  (app l41 l44).bind fun l49 =>
  some (l49, 0)) fun (k9 : Int → Option ((List Int) × Int)) =>
  i_SetStop_l1 k9 stops1 column4 N 0

def s_l00In (n1 : Int) (low2 : Int) (high3 : Int) : Option Bool :=
  (andO (decide (n1 ≥ low2)) (some (decide (n1 ≤ high3)))).bind fun t4 =>
  some t4

def s_l00Rises_l1 (k6 : Option Bool) (list1 : List Int) (low4 : Int) (high5 : Int) : Nat → Int → Option Bool
  | 0, _ => none
  | N + 1, i8 =>
    bif decide (i8 < (List.length list1 : Int)) then
    (idx list1 i8).bind fun e10 =>
    (s_l00In e10 low4 high5).bind fun r15 =>
    (orO (!r15) ((andO (decide (i8 > 0)) ((idx list1 (w64 (i8 - 1))).bind fun e23 =>
    (idx list1 i8).bind fun e28 =>
    some (decide (e23 ≥ e28)))).bind fun t20 =>
    some t20)).bind fun t17 =>
    bif t17 then
    some false
    else
    s_l00Rises_l1 k6 list1 low4 high5 N (w64 (i8 + 1))
    else
    k6 

def s_l00Rises (N : Nat) (list1 : List Int) (low4 : Int) (high5 : Int) : Option Bool :=
  withK (some true) fun (k6 : Option Bool) =>
  s_l00Rises_l1 k6 list1 low4 high5 N 0

def s_l08Ok (N : Nat) (stops1 : List Int) : Option Bool :=
  (andO (decide ((List.length stops1 : Int) ≤ 12)) ((s_l00Rises N stops1 0 119).bind fun r7 =>
  some r7)).bind fun t4 =>
  some t4

def s_l08Code (N : Nat) (stops1 : List Int) (column4 : Int) : Option Int :=
  (s_l08Ok N stops1).bind fun r5 =>
  bif !r5 then
  some 1
  else
  (s_l00In column4 0 119).bind fun r8 =>
  bif !r8 then
  some 2
  else
  some 0

def s_l00Has_l1 (k5 : Option Bool) (list1 : List Int) (n4 : Int) : Nat → Int → Option Bool
  | 0, _ => none
  | N + 1, i7 =>
    bif decide (i7 < (List.length list1 : Int)) then
    (idx list1 i7).bind fun e9 =>
    bif (e9 == n4) then
    some true
    else
    s_l00Has_l1 k5 list1 n4 N (w64 (i7 + 1))
    else
    k5 

def s_l00Has (N : Nat) (list1 : List Int) (n4 : Int) : Option Bool :=
  withK (some false) fun (k5 : Option Bool) =>
  s_l00Has_l1 k5 list1 n4 N 0

def s_l00Own (list1 : List Int) : Option (List Int) :=
  (app [] list1).bind fun l5 =>
  some l5

def s_l00Put_l1 (k9 : (List Int) → Bool → Option (List Int)) (list1 : List Int) (n4 : Int) : Nat → (List Int) → Bool → Int → Option (List Int)
  | 0, _, _, _ => none
  | N + 1, l11, done13, i14 =>
    bif decide (i14 < (List.length list1 : Int)) then
    withK (fun (l16 : List Int) (done18 : Bool) =>
    (idx list1 i14).bind fun e40 =>
    (app l16 [e40]).bind fun l46 =>
    s_l00Put_l1 k9 list1 n4 N l46 done18 (w64 (i14 + 1))) fun (k20 : (List Int) → Bool → Option (List Int)) =>
    (andO (!done13) ((idx list1 i14).bind fun e24 =>
    some (decide (e24 ≥ n4)))).bind fun t21 =>
    bif t21 then
    (idx list1 i14).bind fun e30 =>
    bif decide (e30 > n4) then
    (app l11 [n4]).bind fun l37 =>
    k20 l37 true
    else
    k20 l11 true
    else
    k20 l11 done13
    else
    k9 l11 done13

def s_l00Put (N : Nat) (list1 : List Int) (n4 : Int) : Option (List Int) :=
  withK (fun (l6 : List Int) (done8 : Bool) =>
  withK (fun (l49 : List Int) =>
  some l49) fun (k51 : (List Int) → Option (List Int)) =>
  bif !done8 then
  (app l6 [n4]).bind fun l55 =>
  k51 l55
  else
  k51 l6) fun (k9 : (List Int) → Bool → Option (List Int)) =>
  s_l00Put_l1 k9 list1 n4 N [] false 0

def s_SetStop (N : Nat) (stops1 : List Int) (column4 : Int) : Option ((List Int) × Int) :=
  (s_l08Code N stops1 column4).bind fun r5 =>
  withK (fun (code7 : Int) =>
  withK (fun (code16 : Int) =>
  bif (code16 != 0) then
  some ([], code16)
  else
  (s_l00Own stops1).bind fun r24 =>
  (s_l00Put N r24 column4).bind fun r27 =>
  some (r27, 0)) fun (k17 : Int → Option ((List Int) × Int)) =>
  (andO (code7 == 0) (some (decide ((List.length stops1 : Int) ≥ 12)))).bind fun t19 =>
  bif t19 then
  k17 5
  else
  k17 code7) fun (k8 : Int → Option ((List Int) × Int)) =>
  (andO (r5 == 0) ((s_l00Has N stops1 column4).bind fun r13 =>
  some r13)).bind fun t10 =>
  bif t10 then
  k8 4
  else
  k8 r5

def s_DrawClearStop (N : Nat) (code1 : List UInt8) : Option ((List Int) × Int) :=
  (s_l08Ask N code1).bind fun r4 =>
  some (r4.1, r4.2)

def i_ClearStop_l1 (k11 : (List Int) → Option ((List Int) × Int)) (stops1 : List Int) (column4 : Int) : Nat → (List Int) → Int → Option ((List Int) × Int)
  | 0, _, _ => none
  | N + 1, l13, x15 =>
    bif decide (x15 < (List.length stops1 : Int)) then
    withK (fun (l17 : List Int) =>
    i_ClearStop_l1 k11 stops1 column4 N l17 (w64 (x15 + 1))) fun (k20 : (List Int) → Option ((List Int) × Int)) =>
    (idx stops1 x15).bind fun e21 =>
    bif (e21 != column4) then
    (app l13 [e21]).bind fun l28 =>
    k20 l28
    else
    k20 l13
    else
    k11 l13

def i_ClearStop (N : Nat) (stops1 : List Int) (column4 : Int) : Option ((List Int) × Int) :=
  (i_rackCode N stops1 column4).bind fun r5 =>
  bif (r5 != 0) then
  some ([], r5)
  else
  withK (fun (l9 : List Int) =>
  bif ((List.length l9 : Int) == (List.length stops1 : Int)) then
  some ([], 3)
  else
  some (l9, 0)) fun (k11 : (List Int) → Option ((List Int) × Int)) =>
  i_ClearStop_l1 k11 stops1 column4 N [] 0

def s_ClearStop_l1 (k20 : (List Int) → Option ((List Int) × Int)) (stops1 : List Int) (column4 : Int) : Nat → (List Int) → Int → Option ((List Int) × Int)
  | 0, _, _ => none
  | N + 1, l22, i24 =>
    bif decide (i24 < (List.length stops1 : Int)) then
    withK (fun (l26 : List Int) =>
    s_ClearStop_l1 k20 stops1 column4 N l26 (w64 (i24 + 1))) fun (k29 : (List Int) → Option ((List Int) × Int)) =>
    (idx stops1 i24).bind fun e30 =>
    bif (e30 != column4) then
    (idx stops1 i24).bind fun e36 =>
    (app l22 [e36]).bind fun l42 =>
    k29 l42
    else
    k29 l22
    else
    k20 l22

def s_ClearStop (N : Nat) (stops1 : List Int) (column4 : Int) : Option ((List Int) × Int) :=
  (s_l08Code N stops1 column4).bind fun r5 =>
  withK (fun (code7 : Int) =>
  bif (code7 != 0) then
  some ([], code7)
  else
  withK (fun (l18 : List Int) =>
  some (l18, 0)) fun (k20 : (List Int) → Option ((List Int) × Int)) =>
  s_ClearStop_l1 k20 stops1 column4 N [] 0) fun (k8 : Int → Option ((List Int) × Int)) =>
  (andO (r5 == 0) ((s_l00Has N stops1 column4).bind fun r13 =>
  some (!r13))).bind fun t10 =>
  bif t10 then
  k8 3
  else
  k8 r5

def s_DrawNextStop (N : Nat) (code1 : List UInt8) : Option ((List Int) × Int) :=
  (s_l08Ask N code1).bind fun r4 =>
  some (r4.1, r4.2)

def i_NextStop_l1 (k8 : Option (Int × Int)) (stops1 : List Int) (column4 : Int) : Nat → Int → Option (Int × Int)
  | 0, _ => none
  | N + 1, x10 =>
    bif decide (x10 < (List.length stops1 : Int)) then
    (idx stops1 x10).bind fun e12 =>
    bif decide (e12 > column4) then
    some (e12, 0)
    else
    i_NextStop_l1 k8 stops1 column4 N (w64 (x10 + 1))
    else
    k8 

def i_NextStop (N : Nat) (stops1 : List Int) (column4 : Int) : Option (Int × Int) :=
  (i_rackCode N stops1 column4).bind fun r5 =>
  bif (r5 != 0) then
  some (0, r5)
  else
  withK (some (0, 3)) fun (k8 : Option (Int × Int)) =>
  i_NextStop_l1 k8 stops1 column4 N 0

def s_NextStop_l1 (k8 : Option (Int × Int)) (stops1 : List Int) (column4 : Int) : Nat → Int → Option (Int × Int)
  | 0, _ => none
  | N + 1, i10 =>
    bif decide (i10 < (List.length stops1 : Int)) then
    (idx stops1 i10).bind fun e12 =>
    bif decide (e12 > column4) then
    (idx stops1 i10).bind fun e18 =>
    some (e18, 0)
    else
    s_NextStop_l1 k8 stops1 column4 N (w64 (i10 + 1))
    else
    k8 

def s_NextStop (N : Nat) (stops1 : List Int) (column4 : Int) : Option (Int × Int) :=
  (s_l08Code N stops1 column4).bind fun r5 =>
  bif (r5 != 0) then
  some (0, r5)
  else
  withK (some (0, 3)) fun (k8 : Option (Int × Int)) =>
  s_NextStop_l1 k8 stops1 column4 N 0

def w_f6ints_l1 (k8 : Option Bool) (a1 : List Int) (b4 : List Int) : Nat → Int → Option Bool
  | 0, _ => none
  | N + 1, i10 =>
    bif decide (i10 < (List.length a1 : Int)) then
    (idx a1 i10).bind fun e12 =>
    (idx b4 i10).bind fun e17 =>
    bif (e12 != e17) then
    some false
    else
    w_f6ints_l1 k8 a1 b4 N (w64 (i10 + 1))
    else
    k8 

def w_f6ints (N : Nat) (a1 : List Int) (b4 : List Int) : Option Bool :=
  bif ((List.length a1 : Int) != (List.length b4 : Int)) then
  some false
  else
  withK (some true) fun (k8 : Option Bool) =>
  w_f6ints_l1 k8 a1 b4 N 0

def i_repeat_l1 (k6 : (List UInt8) → Option Str) (s1 : Str) (n2 : Int) : Nat → (List UInt8) → Int → Option Str
  | 0, _, _ => none
  | N + 1, l8, x10 =>
    bif decide (x10 < (imax n2 0)) then
    (app l8 s1).bind fun l12 =>
    i_repeat_l1 k6 s1 n2 N l12 (w64 (x10 + 1))
    else
    k6 l8

def i_repeat (N : Nat) (s1 : Str) (n2 : Int) : Option Str :=
  withK (fun (l4 : List UInt8) =>
  some l4) fun (k6 : (List UInt8) → Option Str) =>
  i_repeat_l1 k6 s1 n2 N [] 0

def i_RackText_l1 (k8 : Str → Option Str) (stops1 : List Int) : Nat → Str → Int → Option Str
  | 0, _, _ => none
  | N + 1, out10, x11 =>
    bif decide (x11 < (List.length stops1 : Int)) then
    (idx stops1 x11).bind fun e13 =>
    (i_repeat N [46] (w64 (e13 - (List.length out10 : Int)))).bind fun r18 =>
    (cat r18 [84]).bind fun s20 =>
    (cat out10 s20).bind fun s22 =>
    i_RackText_l1 k8 stops1 N s22 (w64 (x11 + 1))
    else
    k8 out10

def i_RackText (N : Nat) (stops1 : List Int) : Option Str :=
  (i_ValidRack N stops1).bind fun r4 =>
  bif !r4 then
  some []
  else
  withK (fun (out7 : Str) =>
  some out7) fun (k8 : Str → Option Str) =>
  i_RackText_l1 k8 stops1 N [] 0

def s_RackText_l2 (k24 : (List UInt8) → Option Str) (stops1 : List Int) (i14 : Int) : Nat → (List UInt8) → Option Str
  | 0, _ => none
  | N + 1, l24 =>
    (idx stops1 i14).bind fun e26 =>
    bif decide ((List.length l24 : Int) < e26) then
    (app l24 [46]).bind fun l33 =>
    s_RackText_l2 k24 stops1 i14 N l33
    else
    k24 l24

def s_RackText_l1 (k10 : (List UInt8) → Option Str) (stops1 : List Int) : Nat → (List UInt8) → Int → Option Str
  | 0, _, _ => none
  | N + 1, l12, i14 =>
    bif decide (i14 < (List.length stops1 : Int)) then
    withK (fun (l16 : List UInt8) =>
    s_RackText_l1 k10 stops1 N l16 (w64 (i14 + 1))) fun (k19 : (List UInt8) → Option Str) =>
    withK (fun (l20 : List UInt8) =>
    (app l20 [84]).bind fun l37 =>
    k19 l37) fun (k24 : (List UInt8) → Option Str) =>
    s_RackText_l2 k24 stops1 i14 N l12
    else
    k10 l12

def s_RackText (N : Nat) (stops1 : List Int) : Option Str :=
  (s_l08Ok N stops1).bind fun r4 =>
  bif !r4 then
  some []
  else
  withK (fun (l8 : List UInt8) =>
  some l8) fun (k10 : (List UInt8) → Option Str) =>
  s_RackText_l1 k10 stops1 N [] 0

def s_ValidRack (N : Nat) (stops1 : List Int) : Option Bool :=
  (s_l08Ok N stops1).bind fun r4 =>
  some r4

def w_f6has_l1 (k5 : Option Bool) (list1 : List Int) (n4 : Int) : Nat → Int → Option Bool
  | 0, _ => none
  | N + 1, i7 =>
    bif decide (i7 < (List.length list1 : Int)) then
    (idx list1 i7).bind fun e9 =>
    bif (e9 == n4) then
    some true
    else
    w_f6has_l1 k5 list1 n4 N (w64 (i7 + 1))
    else
    k5 

def w_f6has (N : Nat) (list1 : List Int) (n4 : Int) : Option Bool :=
  withK (some false) fun (k5 : Option Bool) =>
  w_f6has_l1 k5 list1 n4 N 0

def w_FnRacks_l1 (k66 : Option Bool) (r25 : (List Int) × Int) (r28 : Int × Int) : Nat → Int → Option Bool
  | 0, _ => none
  | N + 1, i75 =>
    bif decide (i75 < (List.length r25.1 : Int)) then
    (idx r25.1 i75).bind fun e77 =>
    (andO (decide (e77 > r25.2)) ((idx r25.1 i75).bind fun e82 =>
    some (decide (e82 < r28.1)))).bind fun t79 =>
    bif t79 then
    some false
    else
    w_FnRacks_l1 k66 r25 r28 N (w64 (i75 + 1))
    else
    k66 

def w_FnRacks (N : Nat) (code1 : List UInt8) : Option Bool :=
  (w_f6big code1).bind fun r4 =>
  bif r4 then
  some true
  else
  (s_DrawSetStop N code1).bind fun r7 =>
  (i_SetStop N r7.1 r7.2).bind fun r10 =>
  (s_SetStop N r7.1 r7.2).bind fun r13 =>
  (s_DrawClearStop N code1).bind fun r16 =>
  (i_ClearStop N r16.1 r16.2).bind fun r19 =>
  (s_ClearStop N r16.1 r16.2).bind fun r22 =>
  (s_DrawNextStop N code1).bind fun r25 =>
  (i_NextStop N r25.1 r25.2).bind fun r28 =>
  (s_NextStop N r25.1 r25.2).bind fun r30 =>
  (orO (r10.2 != r13.2) ((w_f6ints N r10.1 r13.1).bind fun r35 =>
  some (!r35))).bind fun t32 =>
  (orO t32 (some (r19.2 != r22.2))).bind fun t37 =>
  (orO t37 ((w_f6ints N r19.1 r22.1).bind fun r43 =>
  some (!r43))).bind fun t40 =>
  (orO t40 (some (r28.2 != r30.2))).bind fun t45 =>
  (orO t45 (some (r28.1 != r30.1))).bind fun t48 =>
  (orO t48 ((i_RackText N r7.1).bind fun r54 =>
  (s_RackText N r7.1).bind fun r56 =>
  some (r54 != r56))).bind fun t51 =>
  (orO t51 ((i_ValidRack N r7.1).bind fun r61 =>
  (s_ValidRack N r7.1).bind fun r63 =>
  some (r61 != r63))).bind fun t58 =>
  bif t58 then
  some false
  else
  withK (withK (bif (r10.2 != 0) then
  some true
  else
  (i_ClearStop N r10.1 r7.2).bind fun r98 =>
  (andO (r98.2 == 0) ((w_f6ints N r98.1 r7.1).bind fun r104 =>
  some r104)).bind fun t101 =>
  some t101) fun (k85 : Option Bool) =>
  bif (r19.2 == 0) then
  (i_SetStop N r19.1 r16.2).bind fun r88 =>
  (orO (r88.2 != 0) ((w_f6ints N r88.1 r16.1).bind fun r94 =>
  some (!r94))).bind fun t91 =>
  bif t91 then
  some false
  else
  k85 
  else
  k85 ) fun (k66 : Option Bool) =>
  bif (r28.2 == 0) then
  (orO (decide (r28.1 ≤ r25.2)) ((w_f6has N r25.1 r28.1).bind fun r72 =>
  some (!r72))).bind fun t69 =>
  bif t69 then
  some false
  else
  w_FnRacks_l1 k66 r25 r28 N 0
  else
  k66 

end Go.Proofs.Ytkjccgkpieakpaa
