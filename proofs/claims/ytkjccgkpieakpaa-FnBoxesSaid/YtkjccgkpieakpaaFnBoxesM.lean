/-
  Plain functions that compute what the Go functions compute. No conditions.
-/
import Derived.Test.YtkjccgkpieakpaaBase
namespace Go.Proofs.Ytkjccgkpieakpaa
set_option linter.unusedVariables false
set_option linter.unusedSimpArgs false

structure L00Src where
  code : List UInt8
  at_ : Int
  seed : Int



def w_f6big (code1 : List UInt8) : Option Bool :=
  some (decide ((List.length code1 : Int) > 4096))

def s_l00From (code1 : List UInt8) : Option L00Src :=
  some (L00Src.mk code1 0 0)

def s_l00Src_next (s1 : L00Src) : Option (Int × L00Src) :=
  withK (fun (b5 : Int) =>
  bif decide ((w64 (s1.at_ + 1)) ≤ (List.length s1.code : Int)) then
  some (b5, (L00Src.mk s1.code (w64 (s1.at_ + 1)) (IntKind.u64.wrap ((IntKind.u64.wrap ((IntKind.u64.wrap (s1.seed * 6364136223846793005)) + (IntKind.u64.wrap b5))) + 1442695040888963407))))
  else
  some (w64 (uand (ushr (IntKind.u64.wrap ((IntKind.u64.wrap ((IntKind.u64.wrap (s1.seed * 6364136223846793005)) + (IntKind.u64.wrap b5))) + 1442695040888963407)) 40) 255), (L00Src.mk s1.code (w64 (s1.at_ + 1)) (IntKind.u64.wrap ((IntKind.u64.wrap ((IntKind.u64.wrap (s1.seed * 6364136223846793005)) + (IntKind.u64.wrap b5))) + 1442695040888963407))))) fun (k6 : Int → Option (Int × L00Src)) =>
  bif decide (s1.at_ < (List.length s1.code : Int)) then
  (idx s1.code s1.at_).bind fun e9 =>
  k6 (UInt8.toNat e9 : Int)
  else
  k6 0

def s_l00Src_pick (s1 : L00Src) (n5 : Int) : Option (Int × L00Src) :=
  bif decide (n5 ≤ 1) then
  some (0, (L00Src.mk s1.code s1.at_ s1.seed))
  else
  (s_l00Src_next (L00Src.mk s1.code s1.at_ s1.seed)).bind fun r7 =>
  withK (fun (x9 : Int) (x10 : Int) (x11 : Int) =>
  (remO x11 n5).bind fun q17 =>
  some (q17, (L00Src.mk s1.code x9 x10))) fun (k12 : Int → Int → Int → Option (Int × L00Src)) =>
  bif decide (n5 > 200) then
  (s_l00Src_next (L00Src.mk s1.code r7.2.at_ r7.2.seed)).bind fun r15 =>
  k12 r15.2.at_ r15.2.seed (w64 ((w64 (r7.1 * 256)) + r15.1))
  else
  k12 r7.2.at_ r7.2.seed r7.1

def s_l00Src_one (s1 : L00Src) (n5 : Int) : Option (Bool × L00Src) :=
  (s_l00Src_pick (L00Src.mk s1.code s1.at_ s1.seed) n5).bind fun r6 =>
  some ((r6.1 == 0), (L00Src.mk s1.code r6.2.at_ r6.2.seed))

def s_l00Src_text (s1 : L00Src) (list5 : List Str) : Option (Str × L00Src) :=
  (s_l00Src_pick (L00Src.mk s1.code s1.at_ s1.seed) (List.length list5 : Int)).bind fun r8 =>
  (idx list5 r8.1).bind fun e10 =>
  some (e10, (L00Src.mk s1.code r8.2.at_ r8.2.seed))

def s_l00Src_among (s1 : L00Src) (list5 : List Int) : Option (Int × L00Src) :=
  (s_l00Src_pick (L00Src.mk s1.code s1.at_ s1.seed) (List.length list5 : Int)).bind fun r8 =>
  (idx list5 r8.1).bind fun e10 =>
  some (e10, (L00Src.mk s1.code r8.2.at_ r8.2.seed))

def s_l10Rule_l1 (k6 : (List UInt8) → Option Str) (c1 : UInt8) (width2 : Int) : Nat → (List UInt8) → Int → Option Str
  | 0, _, _ => none
  | N + 1, l8, k10 =>
    bif decide (k10 < width2) then
    (app l8 [c1]).bind fun l13 =>
    s_l10Rule_l1 k6 c1 width2 N l13 (w64 (k10 + 1))
    else
    k6 l8

def s_l10Rule (N : Nat) (c1 : UInt8) (width2 : Int) : Option Str :=
  withK (fun (l4 : List UInt8) =>
  some l4) fun (k6 : (List UInt8) → Option Str) =>
  s_l10Rule_l1 k6 c1 width2 N [] 0

def s_l10Some_l1 (k22 : Int → Int → (List Str) → Option ((List Str) × L00Src)) (s1 : L00Src) : Nat → Int → Int → (List Str) → Int → Option ((List Str) × L00Src)
  | 0, _, _, _, _ => none
  | N + 1, x24, x25, l26, k28 =>
    bif decide (k28 > 0) then
    (s_l00Src_text (L00Src.mk s1.code x24 x25) [[], [105, 110, 107], [97, 32, 98], [32, 32, 116, 119, 111], [114, 105, 98, 98, 111, 110, 32], [84, 104, 101, 32, 83, 116, 97, 110, 100, 97, 114, 100, 32, 87, 114, 105, 116, 101, 114]]).bind fun r31 =>
    (app l26 [r31.1]).bind fun l34 =>
    s_l10Some_l1 k22 s1 N r31.2.at_ r31.2.seed l34 (w64 (k28 - 1))
    else
    k22 x24 x25 l26

def s_l10Some (N : Nat) (s1 : L00Src) : Option ((List Str) × L00Src) :=
  (s_l00Src_pick (L00Src.mk s1.code s1.at_ s1.seed) 5).bind fun r6 =>
  withK (fun (x8 : Int) (x9 : Int) (n10 : Int) =>
  withK (fun (x18 : Int) (x19 : Int) (l20 : List Str) =>
  withK (fun (x37 : Int) (x38 : Int) (l39 : List Str) =>
  some (l39, (L00Src.mk s1.code x37 x38))) fun (k40 : Int → Int → (List Str) → Option ((List Str) × L00Src)) =>
  bif decide (n10 > 0) then
  (s_l00Src_pick (L00Src.mk s1.code x18 x19) 20).bind fun r43 =>
  bif (r43.1 == 0) then
  (s_l00Src_among (L00Src.mk s1.code r43.2.at_ r43.2.seed) [96, 97, 100, 101]).bind fun r47 =>
  (s_l10Rule N 109 r47.1).bind fun r49 =>
  (idx l20 0).bind fun e51 =>
  k40 r47.2.at_ r47.2.seed (List.set l20 (Int.toNat 0) r49)
  else
  bif (r43.1 == 1) then
  (idx l20 0).bind fun e54 =>
  k40 r43.2.at_ r43.2.seed (List.set l20 (Int.toNat 0) [127])
  else
  k40 r43.2.at_ r43.2.seed l20
  else
  k40 x18 x19 l20) fun (k22 : Int → Int → (List Str) → Option ((List Str) × L00Src)) =>
  s_l10Some_l1 k22 s1 N x8 x9 [] n10) fun (k11 : Int → Int → Int → Option ((List Str) × L00Src)) =>
  (s_l00Src_one (L00Src.mk s1.code r6.2.at_ r6.2.seed) 20).bind fun r13 =>
  bif r13.1 then
  (s_l00Src_pick (L00Src.mk s1.code r13.2.at_ r13.2.seed) 2).bind fun r16 =>
  k11 r16.2.at_ r16.2.seed (w64 (30 + r16.1))
  else
  k11 r13.2.at_ r13.2.seed r6.1

def s_DrawBoxLines (N : Nat) (code1 : List UInt8) : Option (List Str) :=
  (s_l00From code1).bind fun r4 =>
  (s_l10Some N (L00Src.mk code1 r4.at_ r4.seed)).bind fun r7 =>
  some r7.1

def i_isText_l1 (k5 : Option Bool) (s1 : Str) (low2 : UInt8) : Nat → Int → Option Bool
  | 0, _ => none
  | N + 1, x7 =>
    bif decide (x7 < (List.length s1 : Int)) then
    (idx s1 x7).bind fun c9 =>
    (orO (decide (c9 < low2)) ((idx s1 x7).bind fun c14 =>
    some (decide (c14 > (126 : UInt8))))).bind fun t11 =>
    bif t11 then
    some false
    else
    i_isText_l1 k5 s1 low2 N (w64 (x7 + 1))
    else
    k5 

def i_isText (N : Nat) (s1 : Str) (low2 : UInt8) (most3 : Int) : Option Bool :=
  bif decide ((List.length s1 : Int) > most3) then
  some false
  else
  withK (some true) fun (k5 : Option Bool) =>
  i_isText_l1 k5 s1 low2 N 0

def i_areLines_l1 (k4 : Option Bool) (lines1 : List Str) : Nat → Int → Option Bool
  | 0, _ => none
  | N + 1, x6 =>
    bif decide (x6 < (List.length lines1 : Int)) then
    (idx lines1 x6).bind fun e8 =>
    (i_isText N e8 32 100).bind fun r13 =>
    bif !r13 then
    some false
    else
    i_areLines_l1 k4 lines1 N (w64 (x6 + 1))
    else
    k4 

def i_areLines (N : Nat) (lines1 : List Str) : Option Bool :=
  withK (some (decide ((List.length lines1 : Int) ≤ 30))) fun (k4 : Option Bool) =>
  i_areLines_l1 k4 lines1 N 0

def i_longest_l1 (k5 : Int → Option Int) (lines1 : List Str) : Nat → Int → Int → Option Int
  | 0, _, _ => none
  | N + 1, most7, x8 =>
    bif decide (x8 < (List.length lines1 : Int)) then
    (idx lines1 x8).bind fun e10 =>
    i_longest_l1 k5 lines1 N (imax most7 (List.length e10 : Int)) (w64 (x8 + 1))
    else
    k5 most7

def i_longest (N : Nat) (lines1 : List Str) : Option Int :=
  withK (fun (most4 : Int) =>
  some most4) fun (k5 : Int → Option Int) =>
  i_longest_l1 k5 lines1 N 0 0

def i_repeat_l1 (k6 : (List UInt8) → Option Str) (s1 : Str) (n2 : Int) : Nat → (List UInt8) → Int → Option Str
  | 0, _, _ => none
  | N + 1, l8, x10 =>
    bif decide (x10 < (imax n2 0)) then
    (app l8 s1).bind fun l12 =>
    i_repeat_l1 k6 s1 n2 N l12 (w64 (x10 + 1))
    else
    k6 l8

def i_repeat (N : Nat) (s1 : Str) (n2 : Int) : Option Str :=
  withK (fun (l4 : List UInt8) =>
  some l4) fun (k6 : (List UInt8) → Option Str) =>
  i_repeat_l1 k6 s1 n2 N [] 0

def i_BoxLines_l1 (k19 : (List Str) → Option ((List Str) × Int)) (lines1 : List Str) (r7 : Int) : Nat → (List Str) → Int → Option ((List Str) × Int)
  | 0, _, _ => none
  | N + 1, l21, x23 =>
    bif decide (x23 < (List.length lines1 : Int)) then
    (idx lines1 x23).bind fun e25 =>
    (cat [124, 32] e25).bind fun s30 =>
    (i_repeat N [32] (w64 (r7 - (List.length e25 : Int)))).bind fun r32 =>
    (cat s30 r32).bind fun s34 =>
    (cat s34 [32, 124]).bind fun s36 =>
    (app l21 [s36]).bind fun l39 =>
    i_BoxLines_l1 k19 lines1 r7 N l39 (w64 (x23 + 1))
    else
    k19 l21

def i_BoxLines (N : Nat) (lines1 : List Str) : Option ((List Str) × Int) :=
  (i_areLines N lines1).bind fun r4 =>
  bif !r4 then
  some ([], 2)
  else
  (i_longest N lines1).bind fun r7 =>
  bif decide ((w64 (r7 + 4)) > 100) then
  some ([], 5)
  else
  (i_repeat N [45] (w64 (r7 + 2))).bind fun r10 =>
  (cat [43] r10).bind fun s12 =>
  (cat s12 [43]).bind fun s14 =>
  withK (fun (l17 : List Str) =>
  (app l17 [s14]).bind fun l43 =>
  some (l43, 0)) fun (k19 : (List Str) → Option ((List Str) × Int)) =>
  i_BoxLines_l1 k19 lines1 r7 N [s14] 0

def s_l00Text_l1 (k3 : Option Bool) (s1 : Str) : Nat → Int → Option Bool
  | 0, _ => none
  | N + 1, i5 =>
    bif decide (i5 < (List.length s1 : Int)) then
    (idx s1 i5).bind fun c7 =>
    (orO (decide (c7 < (32 : UInt8))) ((idx s1 i5).bind fun c12 =>
    some (decide (c12 > (126 : UInt8))))).bind fun t9 =>
    bif t9 then
    some false
    else
    s_l00Text_l1 k3 s1 N (w64 (i5 + 1))
    else
    k3 

def s_l00Text (N : Nat) (s1 : Str) (most2 : Int) : Option Bool :=
  withK (some (decide ((List.length s1 : Int) ≤ most2))) fun (k3 : Option Bool) =>
  s_l00Text_l1 k3 s1 N 0

def s_l00Max (a1 : Int) (b2 : Int) : Option Int :=
  bif decide (a1 > b2) then
  some a1
  else
  some b2

def s_l10Lines_l1 (k5 : Int → Option Int) (lines1 : List Str) : Nat → Int → Int → Option Int
  | 0, _, _ => none
  | N + 1, most7, i8 =>
    bif decide (i8 < (List.length lines1 : Int)) then
    (idx lines1 i8).bind fun e10 =>
    (s_l00Text N e10 100).bind fun r15 =>
    bif !r15 then
    some (-1)
    else
    (idx lines1 i8).bind fun e18 =>
    (s_l00Max most7 (List.length e18 : Int)).bind fun r23 =>
    s_l10Lines_l1 k5 lines1 N r23 (w64 (i8 + 1))
    else
    k5 most7

def s_l10Lines (N : Nat) (lines1 : List Str) : Option Int :=
  withK (fun (most4 : Int) =>
  bif decide ((List.length lines1 : Int) > 30) then
  some (-1)
  else
  some most4) fun (k5 : Int → Option Int) =>
  s_l10Lines_l1 k5 lines1 N 0 0

def s_l08Blanks_l1 (k5 : (List UInt8) → Option Str) (n1 : Int) : Nat → (List UInt8) → Int → Option Str
  | 0, _, _ => none
  | N + 1, l7, k9 =>
    bif decide (k9 < n1) then
    (app l7 [32]).bind fun l12 =>
    s_l08Blanks_l1 k5 n1 N l12 (w64 (k9 + 1))
    else
    k5 l7

def s_l08Blanks (N : Nat) (n1 : Int) : Option Str :=
  withK (fun (l3 : List UInt8) =>
  some l3) fun (k5 : (List UInt8) → Option Str) =>
  s_l08Blanks_l1 k5 n1 N [] 0

def s_BoxLines_l1 (k17 : (List Str) → Option ((List Str) × Int)) (lines1 : List Str) (r4 : Int) : Nat → (List Str) → Int → Option ((List Str) × Int)
  | 0, _, _ => none
  | N + 1, l19, i21 =>
    bif decide (i21 < (List.length lines1 : Int)) then
    (idx lines1 i21).bind fun e23 =>
    (cat [124, 32] e23).bind fun s28 =>
    (idx lines1 i21).bind fun e30 =>
    (s_l08Blanks N (w64 (r4 - (List.length e30 : Int)))).bind fun r35 =>
    (cat s28 r35).bind fun s37 =>
    (cat s37 [32, 124]).bind fun s39 =>
    (app l19 [s39]).bind fun l42 =>
    s_BoxLines_l1 k17 lines1 r4 N l42 (w64 (i21 + 1))
    else
    k17 l19

def s_BoxLines (N : Nat) (lines1 : List Str) : Option ((List Str) × Int) :=
  (s_l10Lines N lines1).bind fun r4 =>
  bif decide (r4 < 0) then
  some ([], 2)
  else
  bif decide (r4 > 96) then
  some ([], 5)
  else
  (s_l10Rule N 45 (w64 (r4 + 2))).bind fun r8 =>
  (cat [43] r8).bind fun s10 =>
  (cat s10 [43]).bind fun s12 =>
  withK (fun (l15 : List Str) =>
  (app l15 [s12]).bind fun l46 =>
  some (l46, 0)) fun (k17 : (List Str) → Option ((List Str) × Int)) =>
  s_BoxLines_l1 k17 lines1 r4 N [s12] 0

def s_l10Width (s1 : L00Src) : Option (Int × L00Src) :=
  (s_l00Src_one (L00Src.mk s1.code s1.at_ s1.seed) 10).bind fun r5 =>
  bif r5.1 then
  (s_l00Src_among (L00Src.mk s1.code r5.2.at_ r5.2.seed) [(-1), 0, 1, 100, 101, (-9223372036854775808)]).bind fun r9 =>
  some (r9.1, (L00Src.mk s1.code r9.2.at_ r9.2.seed))
  else
  (s_l00Src_pick (L00Src.mk s1.code r5.2.at_ r5.2.seed) 50).bind fun r11 =>
  some (w64 (1 + r11.1), (L00Src.mk s1.code r11.2.at_ r11.2.seed))

def s_DrawCentreBlock (N : Nat) (code1 : List UInt8) : Option ((List Str) × Int) :=
  (s_l00From code1).bind fun r4 =>
  (s_l10Some N (L00Src.mk code1 r4.at_ r4.seed)).bind fun r7 =>
  (s_l10Width (L00Src.mk code1 r7.2.at_ r7.2.seed)).bind fun r10 =>
  some (r7.1, r10.1)

def i_between (n1 : Int) (low2 : Int) (high3 : Int) : Option Bool :=
  (andO (decide (n1 ≥ low2)) (some (decide (n1 ≤ high3)))).bind fun t4 =>
  some t4

def i_isWidth (width1 : Int) : Option Bool :=
  (i_between width1 1 100).bind fun r2 =>
  some r2

def i_centred (N : Nat) (text1 : Str) (room2 : Int) : Option Str :=
  (i_repeat N [32] (w64 (Int.tdiv room2 2))).bind fun r3 =>
  (cat r3 text1).bind fun s5 =>
  some s5

def i_CentreBlock_l1 (k19 : (List Str) → Option ((List Str) × Int)) (lines1 : List Str) (width4 : Int) (r13 : Int) : Nat → (List Str) → Int → Option ((List Str) × Int)
  | 0, _, _ => none
  | N + 1, l21, x23 =>
    bif decide (x23 < (List.length lines1 : Int)) then
    (idx lines1 x23).bind fun e25 =>
    (i_centred N e25 (w64 (width4 - r13))).bind fun r30 =>
    (app l21 [r30]).bind fun l33 =>
    i_CentreBlock_l1 k19 lines1 width4 r13 N l33 (w64 (x23 + 1))
    else
    k19 l21

def i_CentreBlock (N : Nat) (lines1 : List Str) (width4 : Int) : Option ((List Str) × Int) :=
  (i_areLines N lines1).bind fun r5 =>
  (orO (!r5) ((i_isWidth width4).bind fun r10 =>
  some (!r10))).bind fun t7 =>
  bif t7 then
  some ([], 2)
  else
  (i_longest N lines1).bind fun r13 =>
  bif decide ((w64 (width4 - r13)) < 0) then
  some ([], 5)
  else
  withK (fun (l17 : List Str) =>
  some (l17, 0)) fun (k19 : (List Str) → Option ((List Str) × Int)) =>
  i_CentreBlock_l1 k19 lines1 width4 r13 N [] 0

def s_l00In (n1 : Int) (low2 : Int) (high3 : Int) : Option Bool :=
  (andO (decide (n1 ≥ low2)) (some (decide (n1 ≤ high3)))).bind fun t4 =>
  some t4

def s_CentreBlock_l1 (k17 : (List Str) → Option ((List Str) × Int)) (lines1 : List Str) (width4 : Int) (r5 : Int) : Nat → (List Str) → Int → Option ((List Str) × Int)
  | 0, _, _ => none
  | N + 1, l19, i21 =>
    bif decide (i21 < (List.length lines1 : Int)) then
    (s_l08Blanks N (w64 (Int.tdiv (w64 (width4 - r5)) 2))).bind fun r23 =>
    (idx lines1 i21).bind fun e25 =>
    (cat r23 e25).bind fun s30 =>
    (app l19 [s30]).bind fun l33 =>
    s_CentreBlock_l1 k17 lines1 width4 r5 N l33 (w64 (i21 + 1))
    else
    k17 l19

def s_CentreBlock (N : Nat) (lines1 : List Str) (width4 : Int) : Option ((List Str) × Int) :=
  (s_l10Lines N lines1).bind fun r5 =>
  (orO (decide (r5 < 0)) ((s_l00In width4 1 100).bind fun r10 =>
  some (!r10))).bind fun t7 =>
  bif t7 then
  some ([], 2)
  else
  bif decide (r5 > width4) then
  some ([], 5)
  else
  withK (fun (l15 : List Str) =>
  some (l15, 0)) fun (k17 : (List Str) → Option ((List Str) × Int)) =>
  s_CentreBlock_l1 k17 lines1 width4 r5 N [] 0

def s_l10Draw (N : Nat) (s1 : L00Src) : Option (Str × L00Src) :=
  (s_l00Src_text (L00Src.mk s1.code s1.at_ s1.seed) [[], [97], [80, 114, 105, 99, 101, 32, 108, 105, 115, 116], [111, 102, 32, 116, 121, 112, 101, 119, 114, 105, 116, 101, 114, 115], [78, 111, 46, 32, 53], [84, 104, 101, 32, 83, 116, 97, 110, 100, 97, 114, 100, 32, 87, 114, 105, 116, 101, 114], [120, 32, 121]]).bind fun r6 =>
  withK (fun (x8 : Int) (x9 : Int) (out10 : Str) =>
  some (out10, (L00Src.mk s1.code x8 x9))) fun (k11 : Int → Int → Str → Option (Str × L00Src)) =>
  (s_l00Src_pick (L00Src.mk s1.code r6.2.at_ r6.2.seed) 20).bind fun r13 =>
  bif (r13.1 == 0) then
  (s_l00Src_text (L00Src.mk s1.code r13.2.at_ r13.2.seed) [[32], [127]]).bind fun r17 =>
  (cat r6.1 r17.1).bind fun s19 =>
  k11 r17.2.at_ r17.2.seed s19
  else
  bif (r13.1 == 1) then
  (s_l00Src_pick (L00Src.mk s1.code r13.2.at_ r13.2.seed) 2).bind fun r22 =>
  (s_l10Rule N 119 (w64 (100 + r22.1))).bind fun r24 =>
  k11 r22.2.at_ r22.2.seed r24
  else
  bif (r13.1 == 2) then
  (cat [32] r6.1).bind fun s27 =>
  k11 r13.2.at_ r13.2.seed s27
  else
  k11 r13.2.at_ r13.2.seed r6.1

def s_DrawTitlePage_l1 (k24 : Int → Int → (List Str) → Option ((List Str) × Int × Int)) (code1 : List UInt8) : Nat → Int → Int → (List Str) → Int → Option ((List Str) × Int × Int)
  | 0, _, _, _, _ => none
  | N + 1, x26, x27, l28, k30 =>
    bif decide (k30 > 0) then
    withK (fun (x32 : Int) (x33 : Int) (l34 : List Str) =>
    s_DrawTitlePage_l1 k24 code1 N x32 x33 l34 (w64 (k30 - 1))) fun (k37 : Int → Int → (List Str) → Option ((List Str) × Int × Int)) =>
    (s_l10Draw N (L00Src.mk code1 x26 x27)).bind fun r38 =>
    (app l28 [r38.1]).bind fun l41 =>
    (s_l00Src_one (L00Src.mk code1 r38.2.at_ r38.2.seed) 2).bind fun r44 =>
    bif r44.1 then
    (idx l41 (w64 ((List.length l41 : Int) - 1))).bind fun e47 =>
    k37 r44.2.at_ r44.2.seed (List.set l41 (Int.toNat (w64 ((List.length l41 : Int) - 1))) [105, 110, 107])
    else
    k37 r44.2.at_ r44.2.seed l41
    else
    k24 x26 x27 l28

def s_DrawTitlePage (N : Nat) (code1 : List UInt8) : Option ((List Str) × Int × Int) :=
  (s_l00From code1).bind fun r4 =>
  (s_l00Src_pick (L00Src.mk code1 r4.at_ r4.seed) 5).bind fun r8 =>
  withK (fun (x10 : Int) (x11 : Int) (n12 : Int) =>
  withK (fun (x20 : Int) (x21 : Int) (l22 : List Str) =>
  (s_l10Width (L00Src.mk code1 x20 x21)).bind fun r49 =>
  (s_l00Src_one (L00Src.mk code1 r49.2.at_ r49.2.seed) 8).bind fun r51 =>
  bif r51.1 then
  (s_l00Src_among (L00Src.mk code1 r51.2.at_ r51.2.seed) [(-1), 0, 1, 30, 31]).bind fun r55 =>
  some (l22, r49.1, r55.1)
  else
  (s_l00Src_pick (L00Src.mk code1 r51.2.at_ r51.2.seed) 12).bind fun r57 =>
  some (l22, r49.1, w64 (1 + r57.1))) fun (k24 : Int → Int → (List Str) → Option ((List Str) × Int × Int)) =>
  s_DrawTitlePage_l1 k24 code1 N x10 x11 [] n12) fun (k13 : Int → Int → Int → Option ((List Str) × Int × Int)) =>
  (s_l00Src_one (L00Src.mk code1 r8.2.at_ r8.2.seed) 20).bind fun r15 =>
  bif r15.1 then
  (s_l00Src_pick (L00Src.mk code1 r15.2.at_ r15.2.seed) 2).bind fun r18 =>
  k13 r18.2.at_ r18.2.seed (w64 (30 + r18.1))
  else
  k13 r15.2.at_ r15.2.seed r8.1

def i_isSetting (N : Nat) (s1 : Str) : Option Bool :=
  (i_isText N s1 32 100).bind fun r2 =>
  (andO r2 ((orO (s1 == []) ((idx s1 0).bind fun c10 =>
  (andO (c10 != (32 : UInt8)) ((idx s1 (w64 ((List.length s1 : Int) - 1))).bind fun c15 =>
  some (c15 != (32 : UInt8)))).bind fun t12 =>
  some t12)).bind fun t7 =>
  some t7)).bind fun t4 =>
  some t4

def i_TitlePage_l1 (k17 : Option ((List Str) × Int)) (lines1 : List Str) : Nat → Int → Option ((List Str) × Int)
  | 0, _ => none
  | N + 1, x19 =>
    bif decide (x19 < (List.length lines1 : Int)) then
    (idx lines1 x19).bind fun e21 =>
    (i_isSetting N e21).bind fun r26 =>
    bif !r26 then
    some ([], 2)
    else
    i_TitlePage_l1 k17 lines1 N (w64 (x19 + 1))
    else
    k17 

def i_TitlePage_l2 (k40 : (List Str) → Option ((List Str) × Int)) (lines1 : List Str) (width4 : Int) : Nat → (List Str) → Int → Option ((List Str) × Int)
  | 0, _, _ => none
  | N + 1, l42, x44 =>
    bif decide (x44 < (List.length lines1 : Int)) then
    (idx lines1 x44).bind fun e46 =>
    (i_centred N e46 (w64 (width4 - (List.length e46 : Int)))).bind fun r51 =>
    (app l42 [r51]).bind fun l54 =>
    i_TitlePage_l2 k40 lines1 width4 N l54 (w64 (x44 + 1))
    else
    k40 l42

def i_TitlePage (N : Nat) (lines1 : List Str) (width4 : Int) (height5 : Int) : Option ((List Str) × Int) :=
  (orO (decide ((List.length lines1 : Int) > 30)) ((i_isWidth width4).bind fun r9 =>
  some (!r9))).bind fun t6 =>
  (orO t6 ((i_between height5 1 30).bind fun r14 =>
  some (!r14))).bind fun t11 =>
  bif t11 then
  some ([], 2)
  else
  withK ((i_longest N lines1).bind fun r29 =>
  (orO (decide (r29 > width4)) (some (decide ((w64 (height5 - (List.length lines1 : Int))) < 0)))).bind fun t31 =>
  bif t31 then
  some ([], 5)
  else
  (mk (w64 (Int.tdiv (w64 (height5 - (List.length lines1 : Int))) 2)) []).bind fun l35 =>
  withK (fun (l38 : List Str) =>
  (mk (w64 ((w64 (height5 - (List.length lines1 : Int))) - (w64 (Int.tdiv (w64 (height5 - (List.length lines1 : Int))) 2)))) []).bind fun l57 =>
  (app l38 l57).bind fun l59 =>
  some (l59, 0)) fun (k40 : (List Str) → Option ((List Str) × Int)) =>
  i_TitlePage_l2 k40 lines1 width4 N l35 0) fun (k17 : Option ((List Str) × Int)) =>
  i_TitlePage_l1 k17 lines1 N 0

def s_l10Text (N : Nat) (s1 : Str) : Option Bool :=
  (s_l00Text N s1 100).bind fun r2 =>
  bif !r2 then
  some false
  else
  (orO ((List.length s1 : Int) == 0) ((idx s1 0).bind fun c8 =>
  (andO (c8 != (32 : UInt8)) ((idx s1 (w64 ((List.length s1 : Int) - 1))).bind fun c13 =>
  some (c13 != (32 : UInt8)))).bind fun t10 =>
  some t10)).bind fun t5 =>
  some t5

def s_TitlePage_l1 (k6 : Option ((List Str) × Int)) (lines1 : List Str) : Nat → Int → Option ((List Str) × Int)
  | 0, _ => none
  | N + 1, i8 =>
    bif decide (i8 < (List.length lines1 : Int)) then
    (idx lines1 i8).bind fun e10 =>
    (s_l10Text N e10).bind fun r15 =>
    bif !r15 then
    some ([], 2)
    else
    s_TitlePage_l1 k6 lines1 N (w64 (i8 + 1))
    else
    k6 

def s_TitlePage_l2 (k29 : Option ((List Str) × Int)) (lines1 : List Str) (width4 : Int) : Nat → Int → Option ((List Str) × Int)
  | 0, _ => none
  | N + 1, i31 =>
    bif decide (i31 < (List.length lines1 : Int)) then
    (idx lines1 i31).bind fun e33 =>
    bif decide ((List.length e33 : Int) > width4) then
    some ([], 5)
    else
    s_TitlePage_l2 k29 lines1 width4 N (w64 (i31 + 1))
    else
    k29 

def s_TitlePage_l3 (k43 : (List Str) → Option ((List Str) × Int)) : Nat → (List Str) → Int → Option ((List Str) × Int)
  | 0, _, _ => none
  | N + 1, l45, k47 =>
    bif decide (k47 > 0) then
    (app l45 [[]]).bind fun l50 =>
    s_TitlePage_l3 k43 N l50 (w64 (k47 - 1))
    else
    k43 l45

def s_TitlePage_l4 (k55 : (List Str) → Option ((List Str) × Int)) (lines1 : List Str) (width4 : Int) : Nat → (List Str) → Int → Option ((List Str) × Int)
  | 0, _, _ => none
  | N + 1, l57, i59 =>
    bif decide (i59 < (List.length lines1 : Int)) then
    (idx lines1 i59).bind fun e61 =>
    (s_l08Blanks N (w64 (Int.tdiv (w64 (width4 - (List.length e61 : Int))) 2))).bind fun r66 =>
    (idx lines1 i59).bind fun e68 =>
    (cat r66 e68).bind fun s73 =>
    (app l57 [s73]).bind fun l76 =>
    s_TitlePage_l4 k55 lines1 width4 N l76 (w64 (i59 + 1))
    else
    k55 l57

def s_TitlePage_l5 (k81 : (List Str) → Option ((List Str) × Int)) (height5 : Int) : Nat → (List Str) → Option ((List Str) × Int)
  | 0, _ => none
  | N + 1, l83 =>
    bif decide ((List.length l83 : Int) < height5) then
    (app l83 [[]]).bind fun l87 =>
    s_TitlePage_l5 k81 height5 N l87
    else
    k81 l83

def s_TitlePage (N : Nat) (lines1 : List Str) (width4 : Int) (height5 : Int) : Option ((List Str) × Int) :=
  withK ((orO (decide ((List.length lines1 : Int) > 30)) ((s_l00In width4 1 100).bind fun r21 =>
  some (!r21))).bind fun t18 =>
  (orO t18 ((s_l00In height5 1 30).bind fun r26 =>
  some (!r26))).bind fun t23 =>
  bif t23 then
  some ([], 2)
  else
  withK (bif decide ((List.length lines1 : Int) > height5) then
  some ([], 5)
  else
  withK (fun (l41 : List Str) =>
  withK (fun (l53 : List Str) =>
  withK (fun (l79 : List Str) =>
  some (l79, 0)) fun (k81 : (List Str) → Option ((List Str) × Int)) =>
  s_TitlePage_l5 k81 height5 N l53) fun (k55 : (List Str) → Option ((List Str) × Int)) =>
  s_TitlePage_l4 k55 lines1 width4 N l41 0) fun (k43 : (List Str) → Option ((List Str) × Int)) =>
  s_TitlePage_l3 k43 N [] (w64 (Int.tdiv (w64 (height5 - (List.length lines1 : Int))) 2))) fun (k29 : Option ((List Str) × Int)) =>
  s_TitlePage_l2 k29 lines1 width4 N 0) fun (k6 : Option ((List Str) × Int)) =>
  s_TitlePage_l1 k6 lines1 N 0

def s_DrawRuleLine (code1 : List UInt8) : Option (Str × Int) :=
  (s_l00From code1).bind fun r4 =>
  (s_l00Src_text (L00Src.mk code1 r4.at_ r4.seed) [[45], [61], [95], [42], [], [32], [45, 45]]).bind fun r8 =>
  (s_l10Width (L00Src.mk code1 r8.2.at_ r8.2.seed)).bind fun r10 =>
  some (r8.1, r10.1)

def i_isLetter (N : Nat) (s1 : Str) : Option Bool :=
  (andO ((List.length s1 : Int) == 1) ((i_isText N s1 33 1).bind fun r5 =>
  some r5)).bind fun t2 =>
  some t2

def i_RuleLine (N : Nat) (letter1 : Str) (width2 : Int) : Option (Str × Int) :=
  (i_isLetter N letter1).bind fun r3 =>
  (orO (!r3) ((i_isWidth width2).bind fun r8 =>
  some (!r8))).bind fun t5 =>
  bif t5 then
  some ([], 2)
  else
  (i_repeat N letter1 width2).bind fun r11 =>
  some (r11, 0)

def s_l02Letter (s1 : Str) : Option Bool :=
  (andO ((List.length s1 : Int) == 1) ((idx s1 0).bind fun c5 =>
  some (decide (c5 > (32 : UInt8))))).bind fun t2 =>
  (andO t2 ((idx s1 0).bind fun c10 =>
  some (decide (c10 < (127 : UInt8))))).bind fun t7 =>
  some t7

def s_RuleLine (N : Nat) (letter1 : Str) (width2 : Int) : Option (Str × Int) :=
  (s_l02Letter letter1).bind fun r3 =>
  (orO (!r3) ((s_l00In width2 1 100).bind fun r8 =>
  some (!r8))).bind fun t5 =>
  bif t5 then
  some ([], 2)
  else
  (idx letter1 0).bind fun c11 =>
  (s_l10Rule N c11 width2).bind fun r13 =>
  some (r13, 0)

def w_f6texts_l1 (k8 : Option Bool) (a1 : List Str) (b4 : List Str) : Nat → Int → Option Bool
  | 0, _ => none
  | N + 1, i10 =>
    bif decide (i10 < (List.length a1 : Int)) then
    (idx a1 i10).bind fun e12 =>
    (idx b4 i10).bind fun e17 =>
    bif (e12 != e17) then
    some false
    else
    w_f6texts_l1 k8 a1 b4 N (w64 (i10 + 1))
    else
    k8 

def w_f6texts (N : Nat) (a1 : List Str) (b4 : List Str) : Option Bool :=
  bif ((List.length a1 : Int) != (List.length b4 : Int)) then
  some false
  else
  withK (some true) fun (k8 : Option Bool) =>
  w_f6texts_l1 k8 a1 b4 N 0

def w_f6trim_l1 (k3 : Int → Option Str) (s1 : Str) : Nat → Int → Option Str
  | 0, _ => none
  | N + 1, n5 =>
    (andO (decide (n5 > 0)) ((idx s1 (w64 (n5 - 1))).bind fun c9 =>
    some (c9 == (32 : UInt8)))).bind fun t6 =>
    bif t6 then
    w_f6trim_l1 k3 s1 N (w64 (n5 - 1))
    else
    k3 n5

def w_f6trim (N : Nat) (s1 : Str) : Option Str :=
  withK (fun (n2 : Int) =>
  (sub s1 0 n2).bind fun s12 =>
  some s12) fun (k3 : Int → Option Str) =>
  w_f6trim_l1 k3 s1 N (List.length s1 : Int)

def w_FnBoxes_l1 (k78 : Int → Option Bool) (r25 : (List Str) × Int × Int) (r31 : (List Str) × Int) : Nat → Int → Int → Option Bool
  | 0, _, _ => none
  | N + 1, filled79, i80 =>
    bif decide (i80 < (List.length r31.1 : Int)) then
    withK (fun (filled82 : Int) =>
    w_FnBoxes_l1 k78 r25 r31 N filled82 (w64 (i80 + 1))) fun (k85 : Int → Option Bool) =>
    (idx r31.1 i80).bind fun e85 =>
    bif decide ((List.length e85 : Int) > r25.2.1) then
    some false
    else
    (idx r31.1 i80).bind fun e88 =>
    (w_f6trim N e88).bind fun r90 =>
    bif (r90 != []) then
    k85 (w64 (filled79 + 1))
    else
    k85 filled79
    else
    k78 filled79

def w_FnBoxes_l2 (k94 : Option Bool) (r16 : (List Str) × Int) (r22 : (List Str) × Int) : Nat → Int → Option Bool
  | 0, _ => none
  | N + 1, i97 =>
    bif decide (i97 < (List.length r22.1 : Int)) then
    (idx r22.1 i97).bind fun e99 =>
    (idx r16.1 i97).bind fun e101 =>
    (idx r22.1 0).bind fun e103 =>
    (idx r16.1 0).bind fun e105 =>
    (orO ((w64 ((List.length e99 : Int) - (List.length e101 : Int))) != (w64 ((List.length e103 : Int) - (List.length e105 : Int)))) ((idx r22.1 i97).bind fun e110 =>
    some (decide ((List.length e110 : Int) > r16.2)))).bind fun t107 =>
    bif t107 then
    some false
    else
    w_FnBoxes_l2 k94 r16 r22 N (w64 (i97 + 1))
    else
    k94 

def w_FnBoxes_l3 (k114 : Option Bool) (r13 : (List Str) × Int) : Nat → Int → Option Bool
  | 0, _ => none
  | N + 1, i116 =>
    bif decide (i116 < (List.length r13.1 : Int)) then
    (idx r13.1 i116).bind fun e118 =>
    (idx r13.1 0).bind fun e120 =>
    bif ((List.length e118 : Int) != (List.length e120 : Int)) then
    some false
    else
    w_FnBoxes_l3 k114 r13 N (w64 (i116 + 1))
    else
    k114 

def w_FnBoxes (N : Nat) (code1 : List UInt8) : Option Bool :=
  (w_f6big code1).bind fun r4 =>
  bif r4 then
  some true
  else
  (s_DrawBoxLines N code1).bind fun r7 =>
  (i_BoxLines N r7).bind fun r10 =>
  (s_BoxLines N r7).bind fun r13 =>
  (s_DrawCentreBlock N code1).bind fun r16 =>
  (i_CentreBlock N r16.1 r16.2).bind fun r19 =>
  (s_CentreBlock N r16.1 r16.2).bind fun r22 =>
  (s_DrawTitlePage N code1).bind fun r25 =>
  (i_TitlePage N r25.1 r25.2.1 r25.2.2).bind fun r28 =>
  (s_TitlePage N r25.1 r25.2.1 r25.2.2).bind fun r31 =>
  (s_DrawRuleLine code1).bind fun r34 =>
  (i_RuleLine N r34.1 r34.2).bind fun r36 =>
  (s_RuleLine N r34.1 r34.2).bind fun r38 =>
  (orO (r10.2 != r13.2) ((w_f6texts N r10.1 r13.1).bind fun r43 =>
  some (!r43))).bind fun t40 =>
  (orO t40 (some (r19.2 != r22.2))).bind fun t45 =>
  (orO t45 ((w_f6texts N r19.1 r22.1).bind fun r51 =>
  some (!r51))).bind fun t48 =>
  (orO t48 (some (r28.2 != r31.2))).bind fun t53 =>
  (orO t53 ((w_f6texts N r28.1 r31.1).bind fun r59 =>
  some (!r59))).bind fun t56 =>
  (orO t56 (some (r36.2 != r38.2))).bind fun t61 =>
  (orO t61 (some (r36.1 != r38.1))).bind fun t64 =>
  bif t64 then
  some false
  else
  (andO (r36.2 == 0) (some ((List.length r36.1 : Int) != r34.2))).bind fun t68 =>
  bif t68 then
  some false
  else
  withK (withK (bif (r10.2 != 0) then
  some true
  else
  withK ((andO ((List.length r13.1 : Int) == (w64 ((List.length r7 : Int) + 2))) ((idx r13.1 0).bind fun e126 =>
  (idx r13.1 (w64 ((List.length r13.1 : Int) - 1))).bind fun e128 =>
  some (e126 == e128))).bind fun t123 =>
  some t123) fun (k114 : Option Bool) =>
  w_FnBoxes_l3 k114 r13 N 0) fun (k94 : Option Bool) =>
  bif (r19.2 == 0) then
  w_FnBoxes_l2 k94 r16 r22 N 0
  else
  k94 ) fun (k72 : Option Bool) =>
  bif (r28.2 == 0) then
  bif ((List.length r31.1 : Int) != r25.2.2) then
  some false
  else
  withK (fun (filled76 : Int) =>
  bif decide (filled76 > (List.length r25.1 : Int)) then
  some false
  else
  k72 ) fun (k78 : Int → Option Bool) =>
  w_FnBoxes_l1 k78 r25 r31 N 0 0
  else
  k72 

def s_l10Code (N : Nat) (text1 : Str) (width2 : Int) : Option Int :=
  (s_l10Text N text1).bind fun r3 =>
  (orO (!r3) ((s_l00In width2 1 100).bind fun r8 =>
  some (!r8))).bind fun t5 =>
  bif t5 then
  some 2
  else
  bif decide ((List.length text1 : Int) > width2) then
  some 5
  else
  some 0

def i_CentreText (N : Nat) (text1 : Str) (width2 : Int) : Option (Str × Int) :=
  (i_isSetting N text1).bind fun r3 =>
  (orO (!r3) ((i_isWidth width2).bind fun r8 =>
  some (!r8))).bind fun t5 =>
  bif t5 then
  some ([], 2)
  else
  bif decide ((w64 (width2 - (List.length text1 : Int))) < 0) then
  some ([], 5)
  else
  (i_centred N text1 (w64 (width2 - (List.length text1 : Int)))).bind fun r12 =>
  some (r12, 0)

def s_CentreText (N : Nat) (text1 : Str) (width2 : Int) : Option (Str × Int) :=
  (s_l10Code N text1 width2).bind fun r3 =>
  bif (r3 != 0) then
  some ([], r3)
  else
  (s_l08Blanks N (w64 (Int.tdiv (w64 (width2 - (List.length text1 : Int))) 2))).bind fun r6 =>
  (cat r6 text1).bind fun s8 =>
  some (s8, 0)

def i_RightText (N : Nat) (text1 : Str) (width2 : Int) : Option (Str × Int) :=
  (i_isSetting N text1).bind fun r3 =>
  (orO (!r3) ((i_isWidth width2).bind fun r8 =>
  some (!r8))).bind fun t5 =>
  bif t5 then
  some ([], 2)
  else
  bif decide ((w64 (width2 - (List.length text1 : Int))) < 0) then
  some ([], 5)
  else
  (i_repeat N [32] (w64 (width2 - (List.length text1 : Int)))).bind fun r12 =>
  (cat r12 text1).bind fun s14 =>
  some (s14, 0)

def s_RightText (N : Nat) (text1 : Str) (width2 : Int) : Option (Str × Int) :=
  (s_l10Code N text1 width2).bind fun r3 =>
  bif (r3 != 0) then
  some ([], r3)
  else
  (s_l08Blanks N (w64 (width2 - (List.length text1 : Int)))).bind fun r6 =>
  (cat r6 text1).bind fun s8 =>
  some (s8, 0)

def s_l10Spread_l1 (k5 : (List UInt8) → Option Str) (text1 : Str) : Nat → (List UInt8) → Int → Option Str
  | 0, _, _ => none
  | N + 1, l7, i9 =>
    bif decide (i9 < (List.length text1 : Int)) then
    withK (fun (l11 : List UInt8) =>
    (idx text1 i9).bind fun c20 =>
    (app l11 [c20]).bind fun l23 =>
    s_l10Spread_l1 k5 text1 N l23 (w64 (i9 + 1))) fun (k14 : (List UInt8) → Option Str) =>
    bif decide (i9 > 0) then
    (app l7 [32]).bind fun l17 =>
    k14 l17
    else
    k14 l7
    else
    k5 l7

def s_l10Spread (N : Nat) (text1 : Str) : Option Str :=
  withK (fun (l3 : List UInt8) =>
  some l3) fun (k5 : (List UInt8) → Option Str) =>
  s_l10Spread_l1 k5 text1 N [] 0

def i_SpreadText_l1 (k6 : Str → Option (Str × Int)) (text1 : Str) : Nat → Str → Int → Option (Str × Int)
  | 0, _, _ => none
  | N + 1, out8, x9 =>
    bif decide (x9 < (List.length text1 : Int)) then
    withK (fun (out11 : Str) =>
    (sub text1 x9 (w64 (x9 + 1))).bind fun s17 =>
    (cat out11 s17).bind fun s19 =>
    i_SpreadText_l1 k6 text1 N s19 (w64 (x9 + 1))) fun (k13 : Str → Option (Str × Int)) =>
    bif decide (x9 > 0) then
    (cat out8 [32]).bind fun s15 =>
    k13 s15
    else
    k13 out8
    else
    k6 out8

def i_SpreadText (N : Nat) (text1 : Str) : Option (Str × Int) :=
  (i_isSetting N text1).bind fun r2 =>
  bif !r2 then
  some ([], 2)
  else
  withK (fun (out5 : Str) =>
  bif decide ((List.length out5 : Int) > 100) then
  some ([], 5)
  else
  some (out5, 0)) fun (k6 : Str → Option (Str × Int)) =>
  i_SpreadText_l1 k6 text1 N [] 0

def s_SpreadText (N : Nat) (text1 : Str) : Option (Str × Int) :=
  (s_l10Text N text1).bind fun r2 =>
  bif !r2 then
  some ([], 2)
  else
  (s_l10Spread N text1).bind fun r5 =>
  bif decide ((List.length r5 : Int) > 100) then
  some ([], 5)
  else
  some (r5, 0)

end Go.Proofs.Ytkjccgkpieakpaa
