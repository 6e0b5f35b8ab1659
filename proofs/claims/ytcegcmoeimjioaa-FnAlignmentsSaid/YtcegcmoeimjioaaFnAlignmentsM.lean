/-
  Plain functions that compute what the Go functions compute. No conditions.
-/
import Derived.Test.YtcegcmoeimjioaaBase2
namespace Go.Proofs.Ytcegcmoeimjioaa
set_option linter.unusedVariables false
set_option linter.unusedSimpArgs false

structure L00Src where
  code : List UInt8
  at_ : Int
  seed : Int



def w_a2Long (code1 : List UInt8) (more4 : List UInt8) : Option Bool :=
  (orO (decide ((List.length code1 : Int) > 3000)) (some (decide ((List.length more4 : Int) > 3000)))).bind fun t7 =>
  some t7

def s_l00From (code1 : List UInt8) : Option L00Src :=
  some (L00Src.mk code1 0 0)

def s_l00Src_next (s1 : L00Src) : Option (Int × L00Src) :=
  withK (fun (b5 : Int) =>
  bif decide ((w64 (s1.at_ + 1)) ≤ (List.length s1.code : Int)) then
  some (b5, (L00Src.mk s1.code (w64 (s1.at_ + 1)) (IntKind.u64.wrap ((IntKind.u64.wrap ((IntKind.u64.wrap (s1.seed * 6364136223846793005)) + (IntKind.u64.wrap b5))) + 1442695040888963407))))
  else
  some (w64 (uand (ushr (IntKind.u64.wrap ((IntKind.u64.wrap ((IntKind.u64.wrap (s1.seed * 6364136223846793005)) + (IntKind.u64.wrap b5))) + 1442695040888963407)) 40) 255), (L00Src.mk s1.code (w64 (s1.at_ + 1)) (IntKind.u64.wrap ((IntKind.u64.wrap ((IntKind.u64.wrap (s1.seed * 6364136223846793005)) + (IntKind.u64.wrap b5))) + 1442695040888963407))))) fun (kj6 : Int → Option (Int × L00Src)) =>
  bif decide (s1.at_ < (List.length s1.code : Int)) then
  (idx s1.code s1.at_).bind fun e9 =>
  kj6 (UInt8.toNat e9 : Int)
  else
  kj6 0

def s_l00Src_pick (s1 : L00Src) (n5 : Int) : Option (Int × L00Src) :=
  bif decide (n5 ≤ 1) then
  some (0, (L00Src.mk s1.code s1.at_ s1.seed))
  else
  (s_l00Src_next (L00Src.mk s1.code s1.at_ s1.seed)).bind fun r7 =>
  withK (fun (x9 : Int) (x10 : Int) (x11 : Int) =>
  (remO x11 n5).bind fun q17 =>
  some (q17, (L00Src.mk s1.code x9 x10))) fun (kj12 : Int → Int → Int → Option (Int × L00Src)) =>
  bif decide (n5 > 200) then
  (s_l00Src_next (L00Src.mk s1.code r7.2.at_ r7.2.seed)).bind fun r15 =>
  kj12 r15.2.at_ r15.2.seed (w64 ((w64 (r7.1 * 256)) + r15.1))
  else
  kj12 r7.2.at_ r7.2.seed r7.1

def s_l19Draw_l1 (kj10 : Int → Int → (List UInt8) → Option (Str × L00Src)) (s1 : L00Src) : Nat → Int → Int → (List UInt8) → Int → Option (Str × L00Src)
  | 0, _, _, _, _ => none
  | N + 1, x14, x15, l16, k18 =>
    bif decide (k18 > 0) then
    (s_l00Src_pick (L00Src.mk s1.code x14 x15) 6).bind fun r20 =>
    (idx [97, 101, 104, 110, 116, 32] r20.1).bind fun c22 =>
    (app l16 [c22]).bind fun l25 =>
    s_l19Draw_l1 kj10 s1 N r20.2.at_ r20.2.seed l25 (w64 (k18 - 1))
    else
    kj10 x14 x15 l16

def s_l19Draw (N : Nat) (s1 : L00Src) : Option (Str × L00Src) :=
  withK (fun (x6 : Int) (x7 : Int) (l8 : List UInt8) =>
  some (l8, (L00Src.mk s1.code x6 x7))) fun (kj10 : Int → Int → (List UInt8) → Option (Str × L00Src)) =>
  (s_l00Src_pick (L00Src.mk s1.code s1.at_ s1.seed) 12).bind fun r12 =>
  s_l19Draw_l1 kj10 s1 N r12.2.at_ r12.2.seed [] r12.1

def s_l19Near_l1 (kj13 : Int → Int → (List UInt8) → Option (Str × L00Src)) (s1 : L00Src) : Nat → Int → Int → (List UInt8) → Int → Option (Str × L00Src)
  | 0, _, _, _, _ => none
  | N + 1, x17, x18, l19, k21 =>
    (andO (decide (k21 > 0)) (some (decide ((List.length l19 : Int) > 1)))).bind fun t22 =>
    bif t22 then
    withK (fun (x26 : Int) (x27 : Int) (l28 : List UInt8) =>
    s_l19Near_l1 kj13 s1 N x26 x27 l28 (w64 (k21 - 1))) fun (kj30 : Int → Int → (List UInt8) → Option (Str × L00Src)) =>
    (s_l00Src_pick (L00Src.mk s1.code x17 x18) (w64 ((List.length l19 : Int) - 1))).bind fun r32 =>
    (s_l00Src_pick (L00Src.mk s1.code r32.2.at_ r32.2.seed) 4).bind fun r34 =>
    bif (r34.1 == 0) then
    (s_l00Src_pick (L00Src.mk s1.code r34.2.at_ r34.2.seed) 4).bind fun r37 =>
    (idx [120, 121, 97, 101] r37.1).bind fun c39 =>
    (idx l19 r32.1).bind fun e41 =>
    kj30 r37.2.at_ r37.2.seed (List.set l19 (Int.toNat r32.1) c39)
    else
    bif (r34.1 == 1) then
    (idx l19 r32.1).bind fun e44 =>
    (idx l19 (w64 (r32.1 + 1))).bind fun e46 =>
    (idx l19 r32.1).bind fun e48 =>
    (idx (List.set l19 (Int.toNat r32.1) e46) (w64 (r32.1 + 1))).bind fun e50 =>
    kj30 r34.2.at_ r34.2.seed (List.set (List.set l19 (Int.toNat r32.1) e46) (Int.toNat (w64 (r32.1 + 1))) e44)
    else
    bif (r34.1 == 2) then
    (sub l19 0 r32.1).bind fun l54 =>
    (app [] l54).bind fun l56 =>
    (sub l19 (w64 (r32.1 + 1)) (List.length l19 : Int)).bind fun l59 =>
    (app l56 l59).bind fun l61 =>
    kj30 r34.2.at_ r34.2.seed l61
    else
    (sub l19 0 r32.1).bind fun l65 =>
    (app [] l65).bind fun l67 =>
    (s_l00Src_pick (L00Src.mk s1.code r34.2.at_ r34.2.seed) 2).bind fun r70 =>
    (idx [113, 116] r70.1).bind fun c72 =>
    (app l67 [c72]).bind fun l75 =>
    (sub l19 r32.1 (List.length l19 : Int)).bind fun l78 =>
    (app l75 l78).bind fun l80 =>
    kj30 r70.2.at_ r70.2.seed l80
    else
    kj13 x17 x18 l19

def s_l19Near (N : Nat) (s1 : L00Src) (want5 : Str) : Option (Str × L00Src) :=
  (app ([] : Str) want5).bind fun l6 =>
  withK (fun (x9 : Int) (x10 : Int) (l11 : List UInt8) =>
  some (l11, (L00Src.mk s1.code x9 x10))) fun (kj13 : Int → Int → (List UInt8) → Option (Str × L00Src)) =>
  (s_l00Src_pick (L00Src.mk s1.code s1.at_ s1.seed) 4).bind fun r15 =>
  s_l19Near_l1 kj13 s1 N r15.2.at_ r15.2.seed l6 r15.1

def s_A2Typed (N : Nat) (code1 : List UInt8) : Option (Str × Str) :=
  (s_l00From code1).bind fun r4 =>
  (s_l19Draw N (L00Src.mk code1 r4.at_ r4.seed)).bind fun r7 =>
  (s_l19Near N (L00Src.mk code1 r7.2.at_ r7.2.seed) r7.1).bind fun r9 =>
  some (r7.1, r9.1)

def i_isText_l1 (kj5 : Option Bool) (s1 : Str) (low2 : UInt8) : Nat → Int → Option Bool
  | 0, _ => none
  | N + 1, x7 =>
    bif decide (x7 < (List.length s1 : Int)) then
    (idx s1 x7).bind fun c9 =>
    (orO (decide (c9 < low2)) ((idx s1 x7).bind fun c14 =>
    some (decide (c14 > (126 : UInt8))))).bind fun t11 =>
    bif t11 then
    some false
    else
    i_isText_l1 kj5 s1 low2 N (w64 (x7 + 1))
    else
    kj5 

def i_isText (N : Nat) (s1 : Str) (low2 : UInt8) (most3 : Int) : Option Bool :=
  bif decide ((List.length s1 : Int) > most3) then
  some false
  else
  withK (some true) fun (kj5 : Option Bool) =>
  i_isText_l1 kj5 s1 low2 N 0

def i_isTyped (N : Nat) (s1 : Str) : Option Bool :=
  (i_isText N s1 32 60).bind fun r2 =>
  some r2

def i_stepAt (want1 : Str) (typed2 : Str) (step3 : UInt8) : Option (Int × Int × Int × Bool) :=
  (andO (want1 != []) (some (typed2 != []))).bind fun t4 =>
  bif (step3 == (61 : UInt8)) then
  (andO t4 ((idx want1 0).bind fun c11 =>
  (idx typed2 0).bind fun c13 =>
  some (c11 == c13))).bind fun t8 =>
  some (1, 1, 0, t8)
  else
  bif (step3 == (120 : UInt8)) then
  (andO t4 ((idx want1 0).bind fun c19 =>
  (idx typed2 0).bind fun c21 =>
  some (c19 != c21))).bind fun t16 =>
  some (1, 1, 1, t16)
  else
  bif (step3 == (45 : UInt8)) then
  some (1, 0, 1, (want1 != []))
  else
  bif (step3 == (43 : UInt8)) then
  some (0, 1, 1, (typed2 != []))
  else
  bif (step3 == (126 : UInt8)) then
  (andO (decide ((List.length want1 : Int) > 1)) (some (decide ((List.length typed2 : Int) > 1)))).bind fun t26 =>
  (andO t26 ((idx want1 0).bind fun c32 =>
  (idx want1 1).bind fun c34 =>
  some (c32 != c34))).bind fun t29 =>
  (andO t29 ((idx want1 0).bind fun c39 =>
  (idx typed2 1).bind fun c41 =>
  some (c39 == c41))).bind fun t36 =>
  (andO t36 ((idx want1 1).bind fun c46 =>
  (idx typed2 0).bind fun c48 =>
  some (c46 == c48))).bind fun t43 =>
  some (2, 2, 1, t43)
  else
  some (0, 0, 0, false)

def i_leastFrom_l1 (kj8 : (List (List Int)) → Option (List (List Int))) (typed2 : Str) (l3 : List (List Int)) : Nat → (List (List Int)) → Int → Option (List (List Int))
  | 0, _, _ => none
  | N + 1, l10, x12 =>
    bif decide (x12 < (List.length l3 : Int)) then
    (mk (w64 ((List.length typed2 : Int) + 1)) (0 : Int)).bind fun l15 =>
    (idx l10 x12).bind fun e18 =>
    i_leastFrom_l1 kj8 typed2 l3 N (List.set l10 (Int.toNat x12) l15) (w64 (x12 + 1))
    else
    kj8 l10

def i_leastFrom_l4 (kj39 : Int → Option (List (List Int))) (want1 : Str) (typed2 : Str) (i27 : Int) (l32 : List (List Int)) (k33 : Int) : Nat → Int → Int → Option (List (List Int))
  | 0, _, _ => none
  | N + 1, best42, x43 =>
    bif decide (x43 < (List.length [43, 45, 61, 120, 126] : Int)) then
    withK (fun (best45 : Int) =>
    i_leastFrom_l4 kj39 want1 typed2 i27 l32 k33 N best45 (w64 (x43 + 1))) fun (kj46 : Int → Option (List (List Int))) =>
    (idx [43, 45, 61, 120, 126] x43).bind fun e48 =>
    (sub want1 i27 (List.length want1 : Int)).bind fun s50 =>
    (sub typed2 k33 (List.length typed2 : Int)).bind fun s52 =>
    (i_stepAt s50 s52 e48).bind fun r54 =>
    (andO r54.2.2.2 ((orO (decide (best42 < 0)) ((idx l32 (w64 (i27 + r54.1))).bind fun e63 =>
    (idx e63 (w64 (k33 + r54.2.1))).bind fun e67 =>
    some (decide ((w64 (e67 + r54.2.2.1)) < best42)))).bind fun t60 =>
    some t60)).bind fun t57 =>
    bif t57 then
    (idx l32 (w64 (i27 + r54.1))).bind fun e71 =>
    (idx e71 (w64 (k33 + r54.2.1))).bind fun e75 =>
    kj46 (w64 (e75 + r54.2.2.1))
    else
    kj46 best42
    else
    kj39 best42

def i_leastFrom_l3 (kj30 : (List (List Int)) → Option (List (List Int))) (want1 : Str) (typed2 : Str) (i27 : Int) : Nat → (List (List Int)) → Int → Option (List (List Int))
  | 0, _, _ => none
  | N + 1, l32, k33 =>
    bif decide (k33 ≥ 0) then
    withK (fun (l35 : List (List Int)) =>
    i_leastFrom_l3 kj30 want1 typed2 i27 N l35 (w64 (k33 - 1))) fun (kj36 : (List (List Int)) → Option (List (List Int))) =>
    withK (fun (best38 : Int) =>
    (idx l32 i27).bind fun e78 =>
    (idx e78 k33).bind fun e82 =>
    kj36 (List.set l32 (Int.toNat i27) (List.set e78 (Int.toNat k33) (imax best38 0)))) fun (kj39 : Int → Option (List (List Int))) =>
    i_leastFrom_l4 kj39 want1 typed2 i27 l32 k33 N (-1) 0
    else
    kj30 l32

def i_leastFrom_l2 (kj24 : (List (List Int)) → Option (List (List Int))) (want1 : Str) (typed2 : Str) : Nat → (List (List Int)) → Int → Option (List (List Int))
  | 0, _, _ => none
  | N + 1, l26, i27 =>
    bif decide (i27 ≥ 0) then
    withK (fun (l29 : List (List Int)) =>
    i_leastFrom_l2 kj24 want1 typed2 N l29 (w64 (i27 - 1))) fun (kj30 : (List (List Int)) → Option (List (List Int))) =>
    i_leastFrom_l3 kj30 want1 typed2 i27 N l26 (List.length typed2 : Int)
    else
    kj24 l26

def i_leastFrom (N : Nat) (want1 : Str) (typed2 : Str) : Option (List (List Int)) :=
  (mk (w64 ((List.length want1 : Int) + 1)) ([] : List Int)).bind fun l3 =>
  withK (fun (l6 : List (List Int)) =>
  withK (fun (l23 : List (List Int)) =>
  some l23) fun (kj24 : (List (List Int)) → Option (List (List Int))) =>
  i_leastFrom_l2 kj24 want1 typed2 N l6 (List.length want1 : Int)) fun (kj8 : (List (List Int)) → Option (List (List Int))) =>
  i_leastFrom_l1 kj8 typed2 l3 N l3 0

def i_LeastErrors (N : Nat) (want1 : Str) (typed2 : Str) : Option (Int × Int) :=
  (i_isTyped N want1).bind fun r3 =>
  (orO (!r3) ((i_isTyped N typed2).bind fun r8 =>
  some (!r8))).bind fun t5 =>
  bif t5 then
  some (0, 2)
  else
  (i_leastFrom N want1 typed2).bind fun r11 =>
  (idx r11 0).bind fun e16 =>
  (idx e16 0).bind fun e20 =>
  some (e20, 0)

def i_alignment_l2 (kj20 : (List UInt8) → Int → Int → Option Str) (want1 : Str) (typed2 : Str) (r3 : (List (List Int))) : Nat → (List UInt8) → Int → Int → Int → Option Str
  | 0, _, _, _, _ => none
  | N + 1, l27, i29, k30, x31 =>
    bif decide (x31 < (List.length [43, 45, 61, 120, 126] : Int)) then
    (idx [43, 45, 61, 120, 126] x31).bind fun e33 =>
    (sub want1 i29 (List.length want1 : Int)).bind fun s35 =>
    (sub typed2 k30 (List.length typed2 : Int)).bind fun s37 =>
    (i_stepAt s35 s37 e33).bind fun r39 =>
    (andO r39.2.2.2 ((idx r3 (w64 (i29 + r39.1))).bind fun e45 =>
    (idx e45 (w64 (k30 + r39.2.1))).bind fun e49 =>
    (idx r3 i29).bind fun e51 =>
    (idx e51 k30).bind fun e55 =>
    some ((w64 (e49 + r39.2.2.1)) == e55))).bind fun t42 =>
    bif t42 then
    (app l27 [e33]).bind fun l59 =>
    kj20 l59 (w64 (i29 + r39.1)) (w64 (k30 + r39.2.1))
    else
    i_alignment_l2 kj20 want1 typed2 r3 N l27 i29 k30 (w64 (x31 + 1))
    else
    kj20 l27 i29 k30

def i_alignment_l1 (kj10 : (List UInt8) → Option Str) (want1 : Str) (typed2 : Str) (r3 : (List (List Int))) : Nat → (List UInt8) → Int → Int → Option Str
  | 0, _, _, _ => none
  | N + 1, l12, i14, k15 =>
    withK (fun (l16 : List UInt8) (i18 : Int) (k19 : Int) =>
    i_alignment_l1 kj10 want1 typed2 r3 N l16 i18 k19) fun (kj20 : (List UInt8) → Int → Int → Option Str) =>
    (orO (decide (i14 < (List.length want1 : Int))) (some (decide (k15 < (List.length typed2 : Int))))).bind fun t22 =>
    bif t22 then
    i_alignment_l2 kj20 want1 typed2 r3 N l12 i14 k15 0
    else
    kj10 l12

def i_alignment (N : Nat) (want1 : Str) (typed2 : Str) : Option Str :=
  (i_leastFrom N want1 typed2).bind fun r3 =>
  withK (fun (l8 : List UInt8) =>
  some l8) fun (kj10 : (List UInt8) → Option Str) =>
  i_alignment_l1 kj10 want1 typed2 r3 N [] 0 0

def i_AlignTexts (N : Nat) (want1 : Str) (typed2 : Str) : Option (Str × Int) :=
  (i_isTyped N want1).bind fun r3 =>
  (orO (!r3) ((i_isTyped N typed2).bind fun r8 =>
  some (!r8))).bind fun t5 =>
  bif t5 then
  some ([], 2)
  else
  (i_alignment N want1 typed2).bind fun r11 =>
  some (r11, 0)

def i_areSteps_l1 (kj2 : Option Bool) (steps1 : Str) : Nat → Int → Option Bool
  | 0, _ => none
  | N + 1, x4 =>
    bif decide (x4 < (List.length steps1 : Int)) then
    (idx steps1 x4).bind fun c6 =>
    withK (fun (x8 : Bool) =>
    bif x8 then
    i_areSteps_l1 kj2 steps1 N (w64 (x4 + 1))
    else
    some false) fun (kj9 : Bool → Option Bool) =>
    bif (c6 == (61 : UInt8)) then
    kj9 (c6 == (61 : UInt8))
    else
    bif (c6 == (120 : UInt8)) then
    kj9 (c6 == (120 : UInt8))
    else
    bif (c6 == (45 : UInt8)) then
    kj9 (c6 == (45 : UInt8))
    else
    bif (c6 == (43 : UInt8)) then
    kj9 (c6 == (43 : UInt8))
    else
    kj9 (c6 == (126 : UInt8))
    else
    kj2 

def i_areSteps (N : Nat) (steps1 : Str) : Option Bool :=
  withK (some (decide ((List.length steps1 : Int) ≤ 120))) fun (kj2 : Option Bool) =>
  i_areSteps_l1 kj2 steps1 N 0

def i_aligns_l1 (kj6 : Int → Int → Option Bool) (want1 : Str) (typed2 : Str) (steps3 : Str) : Nat → Int → Int → Int → Option Bool
  | 0, _, _, _ => none
  | N + 1, i8, k9, x10 =>
    bif decide (x10 < (List.length steps3 : Int)) then
    (sub want1 i8 (List.length want1 : Int)).bind fun s12 =>
    (sub typed2 k9 (List.length typed2 : Int)).bind fun s14 =>
    (idx steps3 x10).bind fun c16 =>
    (i_stepAt s12 s14 c16).bind fun r18 =>
    bif !r18.2.2.2 then
    some false
    else
    i_aligns_l1 kj6 want1 typed2 steps3 N (w64 (i8 + r18.1)) (w64 (k9 + r18.2.1)) (w64 (x10 + 1))
    else
    kj6 i8 k9

def i_aligns (N : Nat) (want1 : Str) (typed2 : Str) (steps3 : Str) : Option Bool :=
  withK (fun (i4 : Int) (k5 : Int) =>
  (andO (i4 == (List.length want1 : Int)) (some (k5 == (List.length typed2 : Int)))).bind fun t21 =>
  some t21) fun (kj6 : Int → Int → Option Bool) =>
  i_aligns_l1 kj6 want1 typed2 steps3 N 0 0 0

def i_TypedFrom_l1 (kj19 : (List UInt8) → Int → Option (Str × Int)) (want1 : Str) (steps2 : Str) (extra3 : Str) : Nat → (List UInt8) → Int → Int → Int → Option (Str × Int)
  | 0, _, _, _, _ => none
  | N + 1, l21, at23, used24, x25 =>
    bif decide (x25 < (List.length steps2 : Int)) then
    (idx steps2 x25).bind fun c27 =>
    withK (fun (need29 : Int) (more30 : Int) =>
    (orO (decide ((w64 (at23 + need29)) > (List.length want1 : Int))) (some (decide ((w64 (used24 + more30)) > (List.length extra3 : Int))))).bind fun t36 =>
    bif t36 then
    some ([], 9)
    else
    withK (fun (l40 : List UInt8) =>
    i_TypedFrom_l1 kj19 want1 steps2 extra3 N l40 (w64 (at23 + need29)) (w64 (used24 + more30)) (w64 (x25 + 1))) fun (kj42 : (List UInt8) → Option (Str × Int)) =>
    bif (c27 == (61 : UInt8)) then
    (idx want1 at23).bind fun c45 =>
    (app l21 [c45]).bind fun l48 =>
    kj42 l48
    else
    withK (fun (x51 : Bool) =>
    bif x51 then
    (idx extra3 used24).bind fun c56 =>
    (app l21 [c56]).bind fun l59 =>
    kj42 l59
    else
    bif (c27 == (126 : UInt8)) then
    (idx want1 (w64 (at23 + 1))).bind fun c63 =>
    (idx want1 at23).bind fun c65 =>
    (app l21 [c63, c65]).bind fun l68 =>
    kj42 l68
    else
    kj42 l21) fun (kj52 : Bool → Option (Str × Int)) =>
    bif (c27 == (120 : UInt8)) then
    kj52 (c27 == (120 : UInt8))
    else
    kj52 (c27 == (43 : UInt8))) fun (kj31 : Int → Int → Option (Str × Int)) =>
    bif (c27 == (43 : UInt8)) then
    kj31 0 1
    else
    bif (c27 == (120 : UInt8)) then
    kj31 1 1
    else
    bif (c27 == (126 : UInt8)) then
    kj31 2 0
    else
    kj31 1 0
    else
    kj19 l21 used24

def i_TypedFrom (N : Nat) (want1 : Str) (steps2 : Str) (extra3 : Str) : Option (Str × Int) :=
  (i_isTyped N want1).bind fun r4 =>
  (orO (!r4) ((i_isTyped N extra3).bind fun r9 =>
  some (!r9))).bind fun t6 =>
  bif t6 then
  some ([], 2)
  else
  (i_areSteps N steps2).bind fun r12 =>
  bif !r12 then
  some ([], 7)
  else
  withK (fun (l16 : List UInt8) (used18 : Int) =>
  (orO (used18 != (List.length extra3 : Int)) ((i_aligns N want1 l16 steps2).bind fun r74 =>
  some (!r74))).bind fun t71 =>
  bif t71 then
  some ([], 9)
  else
  bif decide ((List.length l16 : Int) > 60) then
  some ([], 5)
  else
  some (l16, 0)) fun (kj19 : (List UInt8) → Int → Option (Str × Int)) =>
  i_TypedFrom_l1 kj19 want1 steps2 extra3 N [] 0 0 0

def i_BestTry_l1 (kj11 : Option (Int × Int)) (tries2 : List Str) : Nat → Int → Option (Int × Int)
  | 0, _ => none
  | N + 1, x13 =>
    bif decide (x13 < (List.length tries2 : Int)) then
    (idx tries2 x13).bind fun e15 =>
    (i_isTyped N e15).bind fun r20 =>
    bif !r20 then
    some (0, 2)
    else
    i_BestTry_l1 kj11 tries2 N (w64 (x13 + 1))
    else
    kj11 

def i_BestTry_l2 (kj24 : Int → Option (Int × Int)) (want1 : Str) (tries2 : List Str) : Nat → Int → Int → Int → Option (Int × Int)
  | 0, _, _, _ => none
  | N + 1, best26, least27, x28 =>
    bif decide (x28 < (List.length tries2 : Int)) then
    withK (fun (best30 : Int) (least31 : Int) =>
    i_BestTry_l2 kj24 want1 tries2 N best30 least31 (w64 (x28 + 1))) fun (kj32 : Int → Int → Option (Int × Int)) =>
    (idx tries2 x28).bind fun e34 =>
    (i_leastFrom N want1 e34).bind fun r39 =>
    (idx r39 0).bind fun e44 =>
    (idx e44 0).bind fun e48 =>
    (orO (decide (best26 < 0)) (some (decide (e48 < least27)))).bind fun t50 =>
    bif t50 then
    kj32 x28 e48
    else
    kj32 best26 least27
    else
    kj24 best26

def i_BestTry (N : Nat) (want1 : Str) (tries2 : List Str) : Option (Int × Int) :=
  (i_isTyped N want1).bind fun r5 =>
  (orO (!r5) (some (decide ((List.length tries2 : Int) > 12)))).bind fun t7 =>
  bif t7 then
  some (0, 2)
  else
  withK (withK (fun (best23 : Int) =>
  bif decide (best23 < 0) then
  some (0, 3)
  else
  some (best23, 0)) fun (kj24 : Int → Option (Int × Int)) =>
  i_BestTry_l2 kj24 want1 tries2 N (-1) 0 0) fun (kj11 : Option (Int × Int)) =>
  i_BestTry_l1 kj11 tries2 N 0

def w_FnAlignments_l1 (kj35 : Str → Option Bool) (r10 : Str × Str) (r16 : Str × Int) : Nat → Str → Int → Int → Option Bool
  | 0, _, _, _ => none
  | N + 1, extra37, at38, i39 =>
    bif decide (i39 < (List.length r16.1 : Int)) then
    withK (fun (extra41 : Str) (at42 : Int) =>
    w_FnAlignments_l1 kj35 r10 r16 N extra41 at42 (w64 (i39 + 1))) fun (kj43 : Str → Int → Option Bool) =>
    (andO (decide (at38 ≥ (List.length r10.2 : Int))) ((idx r16.1 i39).bind fun c48 =>
    some (c48 != (45 : UInt8)))).bind fun t45 =>
    bif t45 then
    some false
    else
    (idx r16.1 i39).bind fun c51 =>
    withK (fun (x53 : Bool) =>
    bif x53 then
    (sub r10.2 at38 (w64 (at38 + 1))).bind fun s58 =>
    (cat extra37 s58).bind fun s60 =>
    kj43 s60 (w64 (at38 + 1))
    else
    bif (c51 == (61 : UInt8)) then
    kj43 extra37 (w64 (at38 + 1))
    else
    bif (c51 == (126 : UInt8)) then
    kj43 extra37 (w64 (at38 + 2))
    else
    kj43 extra37 at38) fun (kj54 : Bool → Option Bool) =>
    bif (c51 == (43 : UInt8)) then
    kj54 (c51 == (43 : UInt8))
    else
    kj54 (c51 == (120 : UInt8))
    else
    kj35 extra37

def w_FnAlignments (N : Nat) (code1 : List UInt8) (more4 : List UInt8) : Option Bool :=
  (w_a2Long code1 more4).bind fun r7 =>
  bif r7 then
  some true
  else
  (s_A2Typed N code1).bind fun r10 =>
  (i_LeastErrors N r10.1 r10.2).bind fun r12 =>
  (i_LeastErrors N r10.2 r10.1).bind fun r14 =>
  (i_AlignTexts N r10.1 r10.2).bind fun r16 =>
  (orO (r12.2 != 0) (some (r14.2 != 0))).bind fun t18 =>
  (orO t18 (some (r12.1 != r14.1))).bind fun t21 =>
  (orO t21 (some (r16.2 != 0))).bind fun t24 =>
  (orO t24 (some ((r12.1 == 0) != (r10.1 == r10.2)))).bind fun t27 =>
  (orO t27 (some (decide ((List.length r16.1 : Int) > 60)))).bind fun t30 =>
  bif t30 then
  some false
  else
  withK (fun (extra34 : Str) =>
  (i_TypedFrom N r10.1 r16.1 extra34).bind fun r64 =>
  (orO (r64.2 != 0) (some (r64.1 != r10.2))).bind fun t66 =>
  bif t66 then
  some false
  else
  (cat r10.2 [113]).bind fun s70 =>
  (i_LeastErrors N r10.1 s70).bind fun r72 =>
  (s_A2Typed N more4).bind fun r74 =>
  (i_LeastErrors N r10.1 r74.1).bind fun r76 =>
  (i_BestTry N r10.1 [r74.1, r10.2]).bind fun r79 =>
  (andO (r72.2 == 0) (some (decide (r72.1 ≥ (w64 (r12.1 - 1)))))).bind fun t81 =>
  (andO t81 (some (decide (r72.1 ≤ (w64 (r12.1 + 1)))))).bind fun t84 =>
  (andO t84 (some (r76.2 == 0))).bind fun t87 =>
  (andO t87 (some (r79.2 == 0))).bind fun t90 =>
  (andO t90 (some ((r79.1 == 0) == (decide (r76.1 ≤ r12.1))))).bind fun t93 =>
  (andO t93 ((orO (r79.1 == 0) (some (r79.1 == 1))).bind fun t99 =>
  some t99)).bind fun t96 =>
  some t96) fun (kj35 : Str → Option Bool) =>
  w_FnAlignments_l1 kj35 r10 r16 N [] 0 0

end Go.Proofs.Ytcegcmoeimjioaa
