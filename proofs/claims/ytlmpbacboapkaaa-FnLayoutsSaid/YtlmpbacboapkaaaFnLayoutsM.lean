/-
  Plain functions that compute what the Go functions compute. No conditions.
-/
import Derived.Test.YtlmpbacboapkaaaBase2
namespace Go.Proofs.Ytlmpbacboapkaaa
set_option linter.unusedVariables false
set_option linter.unusedSimpArgs false

structure L00Src where
  code : List UInt8
  at_ : Int
  seed : Int

structure Layout where
  rows : List Str



def w_f6big (code1 : List UInt8) : Option Bool :=
  some (decide ((List.length code1 : Int) > 4096))

def s_l00From (code1 : List UInt8) : Option L00Src :=
  some (L00Src.mk code1 0 0)

def s_l00Src_next (s1 : L00Src) : Option (Int × L00Src) :=
  withK (fun (b5 : Int) =>
  bif decide ((w64 (s1.at_ + 1)) ≤ (List.length s1.code : Int)) then
  some (b5, (L00Src.mk s1.code (w64 (s1.at_ + 1)) (IntKind.u64.wrap ((IntKind.u64.wrap ((IntKind.u64.wrap (s1.seed * 6364136223846793005)) + (IntKind.u64.wrap b5))) + 1442695040888963407))))
  else
  some (w64 (uand (ushr (IntKind.u64.wrap ((IntKind.u64.wrap ((IntKind.u64.wrap (s1.seed * 6364136223846793005)) + (IntKind.u64.wrap b5))) + 1442695040888963407)) 40) 255), (L00Src.mk s1.code (w64 (s1.at_ + 1)) (IntKind.u64.wrap ((IntKind.u64.wrap ((IntKind.u64.wrap (s1.seed * 6364136223846793005)) + (IntKind.u64.wrap b5))) + 1442695040888963407))))) fun (kj6 : Int → Option (Int × L00Src)) =>
  bif decide (s1.at_ < (List.length s1.code : Int)) then
  (idx s1.code s1.at_).bind fun e9 =>
  kj6 (UInt8.toNat e9 : Int)
  else
  kj6 0

def s_l00Src_pick (s1 : L00Src) (n5 : Int) : Option (Int × L00Src) :=
  bif decide (n5 ≤ 1) then
  some (0, (L00Src.mk s1.code s1.at_ s1.seed))
  else
  (s_l00Src_next (L00Src.mk s1.code s1.at_ s1.seed)).bind fun r7 =>
  withK (fun (x9 : Int) (x10 : Int) (x11 : Int) =>
  (remO x11 n5).bind fun q17 =>
  some (q17, (L00Src.mk s1.code x9 x10))) fun (kj12 : Int → Int → Int → Option (Int × L00Src)) =>
  bif decide (n5 > 200) then
  (s_l00Src_next (L00Src.mk s1.code r7.2.at_ r7.2.seed)).bind fun r15 =>
  kj12 r15.2.at_ r15.2.seed (w64 ((w64 (r7.1 * 256)) + r15.1))
  else
  kj12 r7.2.at_ r7.2.seed r7.1

def s_l06Draw_l2 (kj42 : Int → Int → (List UInt8) → (List UInt8) → Option (Layout × L00Src)) (s1 : L00Src) : Nat → Int → Int → (List UInt8) → (List UInt8) → Int → Option (Layout × L00Src)
  | 0, _, _, _, _, _ => none
  | N + 1, x46, x47, l48, l50, c52 =>
    bif decide (c52 > 0) then
    (s_l00Src_pick (L00Src.mk s1.code x46 x47) (List.length l50 : Int)).bind fun r54 =>
    (idx l50 r54.1).bind fun e56 =>
    (app l48 [e56]).bind fun l59 =>
    (sub l50 0 r54.1).bind fun l63 =>
    (app [] l63).bind fun l65 =>
    (sub l50 (w64 (r54.1 + 1)) (List.length l50 : Int)).bind fun l68 =>
    (app l65 l68).bind fun l70 =>
    s_l06Draw_l2 kj42 s1 N r54.2.at_ r54.2.seed l59 l70 (w64 (c52 - 1))
    else
    kj42 x46 x47 l48 l50

def s_l06Draw_l1 (kj15 : Int → Int → (List Str) → Option (Layout × L00Src)) (s1 : L00Src) : Nat → Int → Int → (List Str) → (List UInt8) → Int → Option (Layout × L00Src)
  | 0, _, _, _, _, _ => none
  | N + 1, x19, x20, l21, l23, r25 =>
    bif decide (r25 > 0) then
    withK (fun (x27 : Int) (x28 : Int) (l29 : List Str) (l31 : List UInt8) =>
    s_l06Draw_l1 kj15 s1 N x27 x28 l29 l31 (w64 (r25 - 1))) fun (kj33 : Int → Int → (List Str) → (List UInt8) → Option (Layout × L00Src)) =>
    withK (fun (x36 : Int) (x37 : Int) (l38 : List UInt8) (l40 : List UInt8) =>
    (app l21 [l38]).bind fun l74 =>
    kj33 x36 x37 l74 l40) fun (kj42 : Int → Int → (List UInt8) → (List UInt8) → Option (Layout × L00Src)) =>
    (s_l00Src_pick (L00Src.mk s1.code x19 x20) 6).bind fun r44 =>
    s_l06Draw_l2 kj42 s1 N r44.2.at_ r44.2.seed [] l23 (w64 (1 + r44.1))
    else
    kj15 x19 x20 l21

def s_l06Draw (N : Nat) (s1 : L00Src) : Option (Layout × L00Src) :=
  withK (fun (x11 : Int) (x12 : Int) (l13 : List Str) =>
  some ((Layout.mk l13), (L00Src.mk s1.code x11 x12))) fun (kj15 : Int → Int → (List Str) → Option (Layout × L00Src)) =>
  (s_l00Src_pick (L00Src.mk s1.code s1.at_ s1.seed) 3).bind fun r17 =>
  s_l06Draw_l1 kj15 s1 N r17.2.at_ r17.2.seed [] [113, 119, 101, 114, 116, 121, 117, 105, 111, 112, 97, 115, 100, 102, 103, 104, 106, 107, 108, 122] (w64 (1 + r17.1))

def s_l00Src_text (s1 : L00Src) (list5 : List Str) : Option (Str × L00Src) :=
  (s_l00Src_pick (L00Src.mk s1.code s1.at_ s1.seed) (List.length list5 : Int)).bind fun r8 =>
  (idx list5 r8.1).bind fun e10 =>
  some (e10, (L00Src.mk s1.code r8.2.at_ r8.2.seed))

def s_l00Src_one (s1 : L00Src) (n5 : Int) : Option (Bool × L00Src) :=
  (s_l00Src_pick (L00Src.mk s1.code s1.at_ s1.seed) n5).bind fun r6 =>
  some ((r6.1 == 0), (L00Src.mk s1.code r6.2.at_ r6.2.seed))

def s_l06Bent (N : Nat) (s1 : L00Src) : Option (Layout × L00Src) :=
  (s_l06Draw N (L00Src.mk s1.code s1.at_ s1.seed)).bind fun r6 =>
  withK (fun (x11 : Int) (x12 : Int) (l13 : List Str) =>
  some ((Layout.mk l13), (L00Src.mk s1.code x11 x12))) fun (kj15 : Int → Int → (List Str) → Option (Layout × L00Src)) =>
  (s_l00Src_pick (L00Src.mk s1.code r6.2.at_ r6.2.seed) 20).bind fun r17 =>
  bif (r17.1 == 0) then
  (idx r6.1.rows 0).bind fun e20 =>
  (s_l00Src_text (L00Src.mk s1.code r17.2.at_ r17.2.seed) ([[47], [32], [113, 113], [127]] : List Str)).bind fun r23 =>
  (cat e20 r23.1).bind fun s25 =>
  (idx r6.1.rows 0).bind fun e27 =>
  kj15 r23.2.at_ r23.2.seed (List.set r6.1.rows (Int.toNat 0) s25)
  else
  bif (r17.1 == 1) then
  (s_l00Src_text (L00Src.mk s1.code r17.2.at_ r17.2.seed) ([[], [43], [113]] : List Str)).bind fun r32 =>
  (app r6.1.rows [r32.1]).bind fun l35 =>
  kj15 r32.2.at_ r32.2.seed l35
  else
  bif (r17.1 == 2) then
  withK (fun (x43 : Int) (x44 : Int) (l45 : List Str) =>
  (s_l00Src_one (L00Src.mk s1.code x43 x44) 3).bind fun r59 =>
  bif r59.1 then
  (app l45 ([[121, 122]] : List Str)).bind fun l63 =>
  kj15 r59.2.at_ r59.2.seed l63
  else
  kj15 r59.2.at_ r59.2.seed l45) fun (kj46 : Int → Int → (List Str) → Option (Layout × L00Src)) =>
  (s_l00Src_one (L00Src.mk s1.code r17.2.at_ r17.2.seed) 2).bind fun r48 =>
  bif r48.1 then
  (s_l00Src_pick (L00Src.mk s1.code r48.2.at_ r48.2.seed) 4).bind fun r51 =>
  (idx ([[97, 98, 99, 100, 101, 102, 103, 104, 105, 106, 107, 108], [65, 66, 67, 68, 69, 70, 71, 72, 73, 74, 75, 76], [49, 50, 51, 52, 53, 54, 55, 56, 57, 43, 45, 61], [109, 110, 111, 112, 113, 114, 115, 116, 117, 118, 119, 120]] : List Str) r51.1).bind fun e53 =>
  (cat e53 [122]).bind fun s55 =>
  (idx ([[97, 98, 99, 100, 101, 102, 103, 104, 105, 106, 107, 108], [65, 66, 67, 68, 69, 70, 71, 72, 73, 74, 75, 76], [49, 50, 51, 52, 53, 54, 55, 56, 57, 43, 45, 61], [109, 110, 111, 112, 113, 114, 115, 116, 117, 118, 119, 120]] : List Str) r51.1).bind fun e57 =>
  kj46 r51.2.at_ r51.2.seed (List.set ([[97, 98, 99, 100, 101, 102, 103, 104, 105, 106, 107, 108], [65, 66, 67, 68, 69, 70, 71, 72, 73, 74, 75, 76], [49, 50, 51, 52, 53, 54, 55, 56, 57, 43, 45, 61], [109, 110, 111, 112, 113, 114, 115, 116, 117, 118, 119, 120]] : List Str) (Int.toNat r51.1) s55)
  else
  kj46 r48.2.at_ r48.2.seed ([[97, 98, 99, 100, 101, 102, 103, 104, 105, 106, 107, 108], [65, 66, 67, 68, 69, 70, 71, 72, 73, 74, 75, 76], [49, 50, 51, 52, 53, 54, 55, 56, 57, 43, 45, 61], [109, 110, 111, 112, 113, 114, 115, 116, 117, 118, 119, 120]] : List Str)
  else
  bif (r17.1 == 3) then
  kj15 r17.2.at_ r17.2.seed []
  else
  kj15 r17.2.at_ r17.2.seed r6.1.rows

def s_l06Text_l1 (kj7 : Str → Option Str) (x1 : Layout) : Nat → Str → Int → Option Str
  | 0, _, _ => none
  | N + 1, out9, r10 =>
    bif decide (r10 < (List.length x1.rows : Int)) then
    withK (fun (out12 : Str) =>
    (idx x1.rows r10).bind fun e18 =>
    (cat out12 e18).bind fun s23 =>
    s_l06Text_l1 kj7 x1 N s23 (w64 (r10 + 1))) fun (kj13 : Str → Option Str) =>
    bif decide (r10 > 0) then
    (cat out9 [47]).bind fun s16 =>
    kj13 s16
    else
    kj13 out9
    else
    kj7 out9

def s_l06Text (N : Nat) (x1 : Layout) : Option Str :=
  withK (fun (out6 : Str) =>
  some out6) fun (kj7 : Str → Option Str) =>
  s_l06Text_l1 kj7 x1 N [] 0

def s_l01Spoil (s1 : L00Src) (t5 : Str) : Option (Str × L00Src) :=
  withK (fun (x6 : Int) (x7 : Int) (t8 : Str) =>
  some (t8, (L00Src.mk s1.code x6 x7))) fun (kj9 : Int → Int → Str → Option (Str × L00Src)) =>
  (s_l00Src_pick (L00Src.mk s1.code s1.at_ s1.seed) 5).bind fun r11 =>
  bif (r11.1 == 0) then
  (s_l00Src_pick (L00Src.mk s1.code r11.2.at_ r11.2.seed) (w64 ((List.length t5 : Int) + 1))).bind fun r14 =>
  (sub t5 0 r14.1).bind fun s16 =>
  (s_l00Src_text (L00Src.mk s1.code r14.2.at_ r14.2.seed) ([[32], [48], [45], [120], [49], [57], [46]] : List Str)).bind fun r19 =>
  (cat s16 r19.1).bind fun s21 =>
  (sub t5 r14.1 (List.length t5 : Int)).bind fun s23 =>
  (cat s21 s23).bind fun s25 =>
  kj9 r19.2.at_ r19.2.seed s25
  else
  bif (r11.1 == 1) then
  bif (t5 != []) then
  (s_l00Src_pick (L00Src.mk s1.code r11.2.at_ r11.2.seed) (List.length t5 : Int)).bind fun r29 =>
  (sub t5 0 r29.1).bind fun s31 =>
  (sub t5 (w64 (r29.1 + 1)) (List.length t5 : Int)).bind fun s33 =>
  (cat s31 s33).bind fun s35 =>
  kj9 r29.2.at_ r29.2.seed s35
  else
  kj9 r11.2.at_ r11.2.seed t5
  else
  kj9 r11.2.at_ r11.2.seed t5

def s_DrawLayoutFault (N : Nat) (code1 : List UInt8) : Option Str :=
  (s_l00From code1).bind fun r4 =>
  (s_l06Bent N (L00Src.mk code1 r4.at_ r4.seed)).bind fun r7 =>
  (s_l06Text N (Layout.mk r7.1.rows)).bind fun r12 =>
  (s_l00Src_one (L00Src.mk code1 r7.2.at_ r7.2.seed) 3).bind fun r14 =>
  bif r14.1 then
  (s_l01Spoil (L00Src.mk code1 r14.2.at_ r14.2.seed) r12).bind fun r17 =>
  some r17.1
  else
  some r12

def i_isText_l1 (kj5 : Option Bool) (s1 : Str) (low2 : UInt8) : Nat → Int → Option Bool
  | 0, _ => none
  | N + 1, x7 =>
    bif decide (x7 < (List.length s1 : Int)) then
    (idx s1 x7).bind fun c9 =>
    (orO (decide (c9 < low2)) ((idx s1 x7).bind fun c14 =>
    some (decide (c14 > (126 : UInt8))))).bind fun t11 =>
    bif t11 then
    some false
    else
    i_isText_l1 kj5 s1 low2 N (w64 (x7 + 1))
    else
    kj5 

def i_isText (N : Nat) (s1 : Str) (low2 : UInt8) (most3 : Int) : Option Bool :=
  bif decide ((List.length s1 : Int) > most3) then
  some false
  else
  withK (some true) fun (kj5 : Option Bool) =>
  i_isText_l1 kj5 s1 low2 N 0

def i_isLetter (N : Nat) (s1 : Str) : Option Bool :=
  (andO ((List.length s1 : Int) == 1) ((i_isText N s1 33 1).bind fun r5 =>
  some r5)).bind fun t2 =>
  some t2

def i_LayoutFault_l1 (kj4 : Int → Option (Int × Int)) (s1 : Str) : Nat → (List Bool) → Int → Int → Int → Option (Int × Int)
  | 0, _, _, _, _ => none
  | N + 1, l6, rows7, length8, x9 =>
    bif decide (x9 < (List.length s1 : Int)) then
    withK (fun (l11 : List Bool) (rows12 : Int) (length13 : Int) =>
    i_LayoutFault_l1 kj4 s1 N l11 rows12 length13 (w64 (x9 + 1))) fun (kj14 : (List Bool) → Int → Int → Option (Int × Int)) =>
    (idx s1 x9).bind fun c16 =>
    bif (c16 == (47 : UInt8)) then
    (orO (length8 == 0) (some (rows7 == 4))).bind fun t19 =>
    bif t19 then
    some (1, x9)
    else
    kj14 l6 (w64 (rows7 + 1)) 0
    else
    (sub s1 x9 (w64 (x9 + 1))).bind fun s23 =>
    (i_isLetter N s23).bind fun r25 =>
    bif !r25 then
    some (2, x9)
    else
    (idx l6 (UInt8.toNat c16 : Int)).bind fun e28 =>
    bif e28 then
    some (3, x9)
    else
    bif decide ((w64 (length8 + 1)) > 12) then
    some (4, x9)
    else
    (idx l6 (UInt8.toNat c16 : Int)).bind fun e32 =>
    kj14 (List.set l6 (Int.toNat (UInt8.toNat c16 : Int)) true) rows7 (w64 (length8 + 1))
    else
    kj4 length8

def i_LayoutFault (N : Nat) (s1 : Str) : Option (Int × Int) :=
  withK (fun (length3 : Int) =>
  bif (length3 == 0) then
  some (1, (List.length s1 : Int))
  else
  some (0, 0)) fun (kj4 : Int → Option (Int × Int)) =>
  i_LayoutFault_l1 kj4 s1 N (List.replicate 256 false) 1 0 0

def s_l02Letter (s1 : Str) : Option Bool :=
  (andO ((List.length s1 : Int) == 1) ((idx s1 0).bind fun c5 =>
  some (decide (c5 > (32 : UInt8))))).bind fun t2 =>
  (andO t2 ((idx s1 0).bind fun c10 =>
  some (decide (c10 < (127 : UInt8))))).bind fun t7 =>
  some t7

def s_l06Fault_l2 (kj25 : Option (Int × Int)) (s1 : Str) (i7 : Int) : Nat → Int → Option (Int × Int)
  | 0, _ => none
  | N + 1, k27 =>
    bif decide (k27 < i7) then
    (idx s1 k27).bind fun c29 =>
    (idx s1 i7).bind fun c31 =>
    bif (c29 == c31) then
    some (3, i7)
    else
    s_l06Fault_l2 kj25 s1 i7 N (w64 (k27 + 1))
    else
    kj25 

def s_l06Fault_l1 (kj3 : Int → Option (Int × Int)) (s1 : Str) : Nat → Int → Int → Int → Option (Int × Int)
  | 0, _, _, _ => none
  | N + 1, rows5, long6, i7 =>
    bif decide (i7 < (List.length s1 : Int)) then
    withK (fun (rows9 : Int) (long10 : Int) =>
    s_l06Fault_l1 kj3 s1 N rows9 long10 (w64 (i7 + 1))) fun (kj11 : Int → Int → Option (Int × Int)) =>
    (idx s1 i7).bind fun c13 =>
    bif (c13 == (47 : UInt8)) then
    (orO (long6 == 0) (some (decide ((w64 (rows5 + 1)) > 4)))).bind fun t16 =>
    bif t16 then
    some (1, i7)
    else
    kj11 (w64 (rows5 + 1)) 0
    else
    (sub s1 i7 (w64 (i7 + 1))).bind fun s20 =>
    (s_l02Letter s20).bind fun r22 =>
    bif !r22 then
    some (2, i7)
    else
    withK (bif decide ((w64 (long6 + 1)) > 12) then
    some (4, i7)
    else
    kj11 rows5 (w64 (long6 + 1))) fun (kj25 : Option (Int × Int)) =>
    s_l06Fault_l2 kj25 s1 i7 N 0
    else
    kj3 long6

def s_l06Fault (N : Nat) (s1 : Str) : Option (Int × Int) :=
  withK (fun (long2 : Int) =>
  bif (long2 == 0) then
  some (1, (List.length s1 : Int))
  else
  some (0, 0)) fun (kj3 : Int → Option (Int × Int)) =>
  s_l06Fault_l1 kj3 s1 N 1 0 0

def s_LayoutFault (N : Nat) (s1 : Str) : Option (Int × Int) :=
  (s_l06Fault N s1).bind fun r2 =>
  some (r2.1, r2.2)

def i_ReadLayout_l1 (kj10 : (List Str) → Int → Option (Layout × Bool)) (s1 : Str) : Nat → (List Str) → Int → Int → Option (Layout × Bool)
  | 0, _, _, _ => none
  | N + 1, l12, start14, x15 =>
    bif decide (x15 < (List.length s1 : Int)) then
    withK (fun (l17 : List Str) (start19 : Int) =>
    i_ReadLayout_l1 kj10 s1 N l17 start19 (w64 (x15 + 1))) fun (kj20 : (List Str) → Int → Option (Layout × Bool)) =>
    (idx s1 x15).bind fun c22 =>
    bif (c22 == (47 : UInt8)) then
    (sub s1 start14 x15).bind fun s25 =>
    (app l12 [s25]).bind fun l28 =>
    kj20 l28 (w64 (x15 + 1))
    else
    kj20 l12 start14
    else
    kj10 l12 start14

def i_ReadLayout (N : Nat) (s1 : Str) : Option (Layout × Bool) :=
  (i_LayoutFault N s1).bind fun r3 =>
  bif (r3.1 != 0) then
  some ((Layout.mk []), false)
  else
  withK (fun (l7 : List Str) (start9 : Int) =>
  (sub s1 start9 (List.length s1 : Int)).bind fun s33 =>
  (app l7 [s33]).bind fun l36 =>
  some ((Layout.mk l36), true)) fun (kj10 : (List Str) → Int → Option (Layout × Bool)) =>
  i_ReadLayout_l1 kj10 s1 N [] 0 0

def s_l01Split_l1 (kj7 : (List Str) → Int → Option (List Str)) (s1 : Str) (by2 : UInt8) : Nat → (List Str) → Int → Int → Option (List Str)
  | 0, _, _, _ => none
  | N + 1, l9, from11, i12 =>
    bif decide (i12 < (List.length s1 : Int)) then
    withK (fun (l14 : List Str) (from16 : Int) =>
    s_l01Split_l1 kj7 s1 by2 N l14 from16 (w64 (i12 + 1))) fun (kj17 : (List Str) → Int → Option (List Str)) =>
    (idx s1 i12).bind fun c19 =>
    bif (c19 == by2) then
    (sub s1 from11 i12).bind fun s22 =>
    (app l9 [s22]).bind fun l25 =>
    kj17 l25 (w64 (i12 + 1))
    else
    kj17 l9 from11
    else
    kj7 l9 from11

def s_l01Split (N : Nat) (s1 : Str) (by2 : UInt8) : Option (List Str) :=
  withK (fun (l4 : List Str) (from6 : Int) =>
  (sub s1 from6 (List.length s1 : Int)).bind fun s28 =>
  (app l4 [s28]).bind fun l31 =>
  some l31) fun (kj7 : (List Str) → Int → Option (List Str)) =>
  s_l01Split_l1 kj7 s1 by2 N [] 0 0

def s_ReadLayout (N : Nat) (s1 : Str) : Option (Layout × Bool) :=
  (s_l06Fault N s1).bind fun r3 =>
  bif (r3.1 != 0) then
  some ((Layout.mk []), false)
  else
  (s_l01Split N s1 47).bind fun r6 =>
  some ((Layout.mk r6), true)

def s_DrawExchangeLetters (N : Nat) (code1 : List UInt8) : Option (Layout × Str × Str) :=
  (s_l00From code1).bind fun r5 =>
  (s_l06Bent N (L00Src.mk code1 r5.at_ r5.seed)).bind fun r8 =>
  (s_l00Src_one (L00Src.mk code1 r8.2.at_ r8.2.seed) 8).bind fun r14 =>
  bif r14.1 then
  (s_l00Src_text (L00Src.mk code1 r14.2.at_ r14.2.seed) ([[], [120], [113, 119]] : List Str)).bind fun r18 =>
  some ((Layout.mk r8.1.rows), [113], r18.1)
  else
  (s_l00Src_text (L00Src.mk code1 r14.2.at_ r14.2.seed) ([[113], [119], [101], [114], [116], [121], [97], [115], [100], [102]] : List Str)).bind fun r21 =>
  (s_l00Src_text (L00Src.mk code1 r21.2.at_ r21.2.seed) ([[113], [119], [101], [114], [116], [121], [97], [115], [100], [102]] : List Str)).bind fun r23 =>
  some ((Layout.mk r8.1.rows), r21.1, r23.1)

def i_between (n1 : Int) (low2 : Int) (high3 : Int) : Option Bool :=
  (andO (decide (n1 ≥ low2)) (some (decide (n1 ≤ high3)))).bind fun t4 =>
  some t4

def i_ValidLayout_l2 (kj15 : (List Bool) → Option Bool) (e17 : Str) : Nat → (List Bool) → Int → Option Bool
  | 0, _, _ => none
  | N + 1, l28, x29 =>
    bif decide (x29 < (List.length e17 : Int)) then
    (idx e17 x29).bind fun c31 =>
    (orO (c31 == (47 : UInt8)) ((idx e17 x29).bind fun c36 =>
    (idx l28 (UInt8.toNat c36 : Int)).bind fun e38 =>
    some e38)).bind fun t33 =>
    bif t33 then
    some false
    else
    (idx e17 x29).bind fun c41 =>
    (idx l28 (UInt8.toNat c41 : Int)).bind fun e43 =>
    i_ValidLayout_l2 kj15 e17 N (List.set l28 (Int.toNat (UInt8.toNat c41 : Int)) true) (w64 (x29 + 1))
    else
    kj15 l28

def i_ValidLayout_l1 (kj9 : Option Bool) (x1 : Layout) : Nat → (List Bool) → Int → Option Bool
  | 0, _, _ => none
  | N + 1, l11, x12 =>
    bif decide (x12 < (List.length x1.rows : Int)) then
    withK (fun (l14 : List Bool) =>
    i_ValidLayout_l1 kj9 x1 N l14 (w64 (x12 + 1))) fun (kj15 : (List Bool) → Option Bool) =>
    (idx x1.rows x12).bind fun e17 =>
    (orO ((List.length e17 : Int) == 0) ((i_isText N e17 33 12).bind fun r25 =>
    some (!r25))).bind fun t22 =>
    bif t22 then
    some false
    else
    i_ValidLayout_l2 kj15 e17 N l11 0
    else
    kj9 

def i_ValidLayout (N : Nat) (x1 : Layout) : Option Bool :=
  (i_between (List.length x1.rows : Int) 1 4).bind fun r5 =>
  bif !r5 then
  some false
  else
  withK (some true) fun (kj9 : Option Bool) =>
  i_ValidLayout_l1 kj9 x1 N (List.replicate 256 false) 0

def i_Layout_spot_l2 (kj10 : Option (Int × Int × Bool)) (letter4 : UInt8) (x8 : Int) (e12 : Str) : Nat → Int → Option (Int × Int × Bool)
  | 0, _ => none
  | N + 1, x17 =>
    bif decide (x17 < (List.length e12 : Int)) then
    (idx e12 x17).bind fun c19 =>
    bif (c19 == letter4) then
    some (x8, x17, true)
    else
    i_Layout_spot_l2 kj10 letter4 x8 e12 N (w64 (x17 + 1))
    else
    kj10 

def i_Layout_spot_l1 (kj6 : Option (Int × Int × Bool)) (x1 : Layout) (letter4 : UInt8) : Nat → Int → Option (Int × Int × Bool)
  | 0, _ => none
  | N + 1, x8 =>
    bif decide (x8 < (List.length x1.rows : Int)) then
    withK (i_Layout_spot_l1 kj6 x1 letter4 N (w64 (x8 + 1))) fun (kj10 : Option (Int × Int × Bool)) =>
    (idx x1.rows x8).bind fun e12 =>
    i_Layout_spot_l2 kj10 letter4 x8 e12 N 0
    else
    kj6 

def i_Layout_spot (N : Nat) (x1 : Layout) (letter4 : UInt8) : Option (Int × Int × Bool) :=
  withK (some (0, 0, false)) fun (kj6 : Option (Int × Int × Bool)) =>
  i_Layout_spot_l1 kj6 x1 letter4 N 0

def i_Layout_exchanged_l2 (kj30 : (List UInt8) → Option Layout) (a4 : UInt8) (b5 : UInt8) (l26 : List UInt8) : Nat → (List UInt8) → Int → Option Layout
  | 0, _, _ => none
  | N + 1, l32, x33 =>
    bif decide (x33 < (List.length l26 : Int)) then
    withK (fun (l35 : List UInt8) =>
    i_Layout_exchanged_l2 kj30 a4 b5 l26 N l35 (w64 (x33 + 1))) fun (kj36 : (List UInt8) → Option Layout) =>
    (idx l32 x33).bind fun e38 =>
    bif (e38 == a4) then
    (idx l32 x33).bind fun e41 =>
    kj36 (List.set l32 (Int.toNat x33) b5)
    else
    bif (e38 == b5) then
    (idx l32 x33).bind fun e44 =>
    kj36 (List.set l32 (Int.toNat x33) a4)
    else
    kj36 l32
    else
    kj30 l32

def i_Layout_exchanged_l1 (kj11 : (List Str) → Option Layout) (x1 : Layout) (a4 : UInt8) (b5 : UInt8) : Nat → (List Str) → Int → Option Layout
  | 0, _, _ => none
  | N + 1, l13, x15 =>
    bif decide (x15 < (List.length x1.rows : Int)) then
    withK (fun (l17 : List Str) =>
    i_Layout_exchanged_l1 kj11 x1 a4 b5 N l17 (w64 (x15 + 1))) fun (kj19 : (List Str) → Option Layout) =>
    (idx x1.rows x15).bind fun e21 =>
    (app ([] : Str) e21).bind fun l26 =>
    withK (fun (l29 : List UInt8) =>
    (app l13 [l29]).bind fun l47 =>
    kj19 l47) fun (kj30 : (List UInt8) → Option Layout) =>
    i_Layout_exchanged_l2 kj30 a4 b5 l26 N l26 0
    else
    kj11 l13

def i_Layout_exchanged (N : Nat) (x1 : Layout) (a4 : UInt8) (b5 : UInt8) : Option Layout :=
  withK (fun (l9 : List Str) =>
  some (Layout.mk l9)) fun (kj11 : (List Str) → Option Layout) =>
  i_Layout_exchanged_l1 kj11 x1 a4 b5 N [] 0

def i_ExchangeLetters (N : Nat) (x1 : Layout) (a4 : Str) (b5 : Str) : Option (Layout × Int) :=
  (i_ValidLayout N (Layout.mk x1.rows)).bind fun r8 =>
  bif !r8 then
  some ((Layout.mk []), 1)
  else
  (i_isLetter N a4).bind fun r11 =>
  (orO (!r11) ((i_isLetter N b5).bind fun r16 =>
  some (!r16))).bind fun t13 =>
  bif t13 then
  some ((Layout.mk []), 2)
  else
  (idx a4 0).bind fun c19 =>
  (i_Layout_spot N (Layout.mk x1.rows) c19).bind fun r21 =>
  (idx b5 0).bind fun c23 =>
  (i_Layout_spot N (Layout.mk x1.rows) c23).bind fun r25 =>
  (orO (!r21.2.2) (some (!r25.2.2))).bind fun t27 =>
  bif t27 then
  some ((Layout.mk []), 3)
  else
  (idx a4 0).bind fun c31 =>
  (idx b5 0).bind fun c33 =>
  (i_Layout_exchanged N (Layout.mk x1.rows) c31 c33).bind fun r35 =>
  some ((Layout.mk r35.rows), 0)

def s_l00In (n1 : Int) (low2 : Int) (high3 : Int) : Option Bool :=
  (andO (decide (n1 ≥ low2)) (some (decide (n1 ≤ high3)))).bind fun t4 =>
  some t4

def s_l06Row_l1 (kj2 : Option Bool) (s1 : Str) : Nat → Int → Option Bool
  | 0, _ => none
  | N + 1, i4 =>
    bif decide (i4 < (List.length s1 : Int)) then
    (sub s1 i4 (w64 (i4 + 1))).bind fun s6 =>
    (s_l02Letter s6).bind fun r8 =>
    (orO (!r8) ((idx s1 i4).bind fun c13 =>
    some (c13 == (47 : UInt8)))).bind fun t10 =>
    bif t10 then
    some false
    else
    s_l06Row_l1 kj2 s1 N (w64 (i4 + 1))
    else
    kj2 

def s_l06Row (N : Nat) (s1 : Str) : Option Bool :=
  withK ((s_l00In (List.length s1 : Int) 1 12).bind fun r16 =>
  some r16) fun (kj2 : Option Bool) =>
  s_l06Row_l1 kj2 s1 N 0

def s_l06At_l2 (kj9 : Option (Int × Int)) (rows1 : List Str) (letter4 : UInt8) (r7 : Int) : Nat → Int → Option (Int × Int)
  | 0, _ => none
  | N + 1, c11 =>
    (idx rows1 r7).bind fun e12 =>
    bif decide (c11 < (List.length e12 : Int)) then
    (idx rows1 r7).bind fun e18 =>
    (idx e18 c11).bind fun c23 =>
    bif (c23 == letter4) then
    some (r7, c11)
    else
    s_l06At_l2 kj9 rows1 letter4 r7 N (w64 (c11 + 1))
    else
    kj9 

def s_l06At_l1 (kj5 : Option (Int × Int)) (rows1 : List Str) (letter4 : UInt8) : Nat → Int → Option (Int × Int)
  | 0, _ => none
  | N + 1, r7 =>
    bif decide (r7 < (List.length rows1 : Int)) then
    withK (s_l06At_l1 kj5 rows1 letter4 N (w64 (r7 + 1))) fun (kj9 : Option (Int × Int)) =>
    s_l06At_l2 kj9 rows1 letter4 r7 N 0
    else
    kj5 

def s_l06At (N : Nat) (rows1 : List Str) (letter4 : UInt8) : Option (Int × Int) :=
  withK (some ((-1), (-1))) fun (kj5 : Option (Int × Int)) =>
  s_l06At_l1 kj5 rows1 letter4 N 0

def s_l06Ok_l2 (kj10 : Option Bool) (x1 : Layout) (r8 : Int) : Nat → Int → Option Bool
  | 0, _ => none
  | N + 1, c20 =>
    (idx x1.rows r8).bind fun e21 =>
    bif decide (c20 < (List.length e21 : Int)) then
    (idx x1.rows r8).bind fun e27 =>
    (idx e27 c20).bind fun c32 =>
    (s_l06At N x1.rows c32).bind fun r34 =>
    (orO (r34.1 != r8) (some (r34.2 != c20))).bind fun t36 =>
    bif t36 then
    some false
    else
    s_l06Ok_l2 kj10 x1 r8 N (w64 (c20 + 1))
    else
    kj10 

def s_l06Ok_l1 (kj6 : Option Bool) (x1 : Layout) : Nat → Int → Option Bool
  | 0, _ => none
  | N + 1, r8 =>
    bif decide (r8 < (List.length x1.rows : Int)) then
    withK (s_l06Ok_l1 kj6 x1 N (w64 (r8 + 1))) fun (kj10 : Option Bool) =>
    (idx x1.rows r8).bind fun e12 =>
    (s_l06Row N e12).bind fun r17 =>
    bif !r17 then
    some false
    else
    s_l06Ok_l2 kj10 x1 r8 N 0
    else
    kj6 

def s_l06Ok (N : Nat) (x1 : Layout) : Option Bool :=
  withK ((s_l00In (List.length x1.rows : Int) 1 4).bind fun r40 =>
  some r40) fun (kj6 : Option Bool) =>
  s_l06Ok_l1 kj6 x1 N 0

def s_l06Change_l2 (kj34 : (List UInt8) → Option Layout) (a6 : UInt8) (b7 : UInt8) : Nat → (List UInt8) → Int → Option Layout
  | 0, _, _ => none
  | N + 1, l36, c37 =>
    bif decide (c37 < (List.length l36 : Int)) then
    withK (fun (l39 : List UInt8) =>
    s_l06Change_l2 kj34 a6 b7 N l39 (w64 (c37 + 1))) fun (kj40 : (List UInt8) → Option Layout) =>
    (idx l36 c37).bind fun e42 =>
    bif (e42 == a6) then
    (idx l36 c37).bind fun e45 =>
    kj40 (List.set l36 (Int.toNat c37) b7)
    else
    bif (e42 == b7) then
    (idx l36 c37).bind fun e48 =>
    kj40 (List.set l36 (Int.toNat c37) a6)
    else
    kj40 l36
    else
    kj34 l36

def s_l06Change_l1 (kj15 : (List Str) → Option Layout) (x1 : Layout) (a6 : UInt8) (b7 : UInt8) : Nat → (List Str) → Int → Option Layout
  | 0, _, _ => none
  | N + 1, l17, r19 =>
    bif decide (r19 < (List.length x1.rows : Int)) then
    withK (fun (l21 : List Str) =>
    s_l06Change_l1 kj15 x1 a6 b7 N l21 (w64 (r19 + 1))) fun (kj23 : (List Str) → Option Layout) =>
    (idx x1.rows r19).bind fun e25 =>
    (app ([] : Str) e25).bind fun l30 =>
    withK (fun (l33 : List UInt8) =>
    (app l17 [l33]).bind fun l51 =>
    kj23 l51) fun (kj34 : (List UInt8) → Option Layout) =>
    s_l06Change_l2 kj34 a6 b7 N l30 0
    else
    kj15 l17

def s_l06Change (N : Nat) (x1 : Layout) (a6 : UInt8) (b7 : UInt8) : Option Layout :=
  withK (fun (l13 : List Str) =>
  some (Layout.mk l13)) fun (kj15 : (List Str) → Option Layout) =>
  s_l06Change_l1 kj15 x1 a6 b7 N [] 0

def s_ExchangeLetters (N : Nat) (x1 : Layout) (a4 : Str) (b5 : Str) : Option (Layout × Int) :=
  (s_l06Ok N (Layout.mk x1.rows)).bind fun r8 =>
  bif !r8 then
  some ((Layout.mk []), 1)
  else
  (s_l02Letter a4).bind fun r11 =>
  (orO (!r11) ((s_l02Letter b5).bind fun r16 =>
  some (!r16))).bind fun t13 =>
  bif t13 then
  some ((Layout.mk []), 2)
  else
  (idx a4 0).bind fun c19 =>
  (s_l06At N x1.rows c19).bind fun r21 =>
  (idx b5 0).bind fun c23 =>
  (s_l06At N x1.rows c23).bind fun r25 =>
  (orO (decide (r21.1 < 0)) (some (decide (r25.1 < 0)))).bind fun t27 =>
  bif t27 then
  some ((Layout.mk []), 3)
  else
  (idx a4 0).bind fun c31 =>
  (idx b5 0).bind fun c33 =>
  (s_l06Change N (Layout.mk x1.rows) c31 c33).bind fun r35 =>
  some ((Layout.mk r35.rows), 0)

def s_DrawSpotOfLetter (N : Nat) (code1 : List UInt8) : Option (Layout × Str) :=
  (s_l00From code1).bind fun r5 =>
  (s_l06Bent N (L00Src.mk code1 r5.at_ r5.seed)).bind fun r8 =>
  (s_l00Src_text (L00Src.mk code1 r8.2.at_ r8.2.seed) ([[113], [119], [101], [114], [116], [121], [97], [115], [], [120], [113, 119]] : List Str)).bind fun r14 =>
  some ((Layout.mk r8.1.rows), r14.1)

def i_SpotOfLetter (N : Nat) (x1 : Layout) (letter4 : Str) : Option (Int × Int × Int) :=
  (i_ValidLayout N (Layout.mk x1.rows)).bind fun r6 =>
  bif !r6 then
  some (0, 0, 1)
  else
  (i_isLetter N letter4).bind fun r9 =>
  bif !r9 then
  some (0, 0, 2)
  else
  (idx letter4 0).bind fun c12 =>
  (i_Layout_spot N (Layout.mk x1.rows) c12).bind fun r14 =>
  bif !r14.2.2 then
  some (0, 0, 3)
  else
  some (r14.1, r14.2.1, 0)

def s_SpotOfLetter (N : Nat) (x1 : Layout) (letter4 : Str) : Option (Int × Int × Int) :=
  (s_l06Ok N (Layout.mk x1.rows)).bind fun r6 =>
  bif !r6 then
  some (0, 0, 1)
  else
  (s_l02Letter letter4).bind fun r9 =>
  bif !r9 then
  some (0, 0, 2)
  else
  (idx letter4 0).bind fun c12 =>
  (s_l06At N x1.rows c12).bind fun r14 =>
  bif decide (r14.1 < 0) then
  some (0, 0, 3)
  else
  some (r14.1, r14.2, 0)

def i_MirrorLayout_l2 (kj30 : (List UInt8) → Option (Layout × Int)) (e22 : Str) : Nat → (List UInt8) → Int → Option (Layout × Int)
  | 0, _, _ => none
  | N + 1, l32, i34 =>
    bif decide (i34 ≥ 0) then
    (idx e22 i34).bind fun c36 =>
    (app l32 [c36]).bind fun l39 =>
    i_MirrorLayout_l2 kj30 e22 N l39 (w64 (i34 - 1))
    else
    kj30 l32

def i_MirrorLayout_l1 (kj12 : (List Str) → Option (Layout × Int)) (x1 : Layout) : Nat → (List Str) → Int → Option (Layout × Int)
  | 0, _, _ => none
  | N + 1, l14, x16 =>
    bif decide (x16 < (List.length x1.rows : Int)) then
    withK (fun (l18 : List Str) =>
    i_MirrorLayout_l1 kj12 x1 N l18 (w64 (x16 + 1))) fun (kj20 : (List Str) → Option (Layout × Int)) =>
    (idx x1.rows x16).bind fun e22 =>
    withK (fun (l28 : List UInt8) =>
    (app l14 [l28]).bind fun l43 =>
    kj20 l43) fun (kj30 : (List UInt8) → Option (Layout × Int)) =>
    i_MirrorLayout_l2 kj30 e22 N [] (w64 ((List.length e22 : Int) - 1))
    else
    kj12 l14

def i_MirrorLayout (N : Nat) (x1 : Layout) : Option (Layout × Int) :=
  (i_ValidLayout N (Layout.mk x1.rows)).bind fun r6 =>
  bif !r6 then
  some ((Layout.mk []), 1)
  else
  withK (fun (l10 : List Str) =>
  some ((Layout.mk l10), 0)) fun (kj12 : (List Str) → Option (Layout × Int)) =>
  i_MirrorLayout_l1 kj12 x1 N [] 0

def s_MirrorLayout_l2 (kj28 : (List UInt8) → Option (Layout × Int)) (x1 : Layout) (r19 : Int) : Nat → (List UInt8) → Int → Option (Layout × Int)
  | 0, _, _ => none
  | N + 1, l35, c37 =>
    bif decide (c37 ≥ 0) then
    (idx x1.rows r19).bind fun e39 =>
    (idx e39 c37).bind fun c44 =>
    (app l35 [c44]).bind fun l47 =>
    s_MirrorLayout_l2 kj28 x1 r19 N l47 (w64 (c37 - 1))
    else
    kj28 l35

def s_MirrorLayout_l1 (kj15 : (List Str) → Option (Layout × Int)) (x1 : Layout) : Nat → (List Str) → Int → Option (Layout × Int)
  | 0, _, _ => none
  | N + 1, l17, r19 =>
    bif decide (r19 < (List.length x1.rows : Int)) then
    withK (fun (l21 : List Str) =>
    s_MirrorLayout_l1 kj15 x1 N l21 (w64 (r19 + 1))) fun (kj23 : (List Str) → Option (Layout × Int)) =>
    withK (fun (l26 : List UInt8) =>
    (app l17 [l26]).bind fun l51 =>
    kj23 l51) fun (kj28 : (List UInt8) → Option (Layout × Int)) =>
    (idx x1.rows r19).bind fun e30 =>
    s_MirrorLayout_l2 kj28 x1 r19 N [] (w64 ((List.length e30 : Int) - 1))
    else
    kj15 l17

def s_MirrorLayout (N : Nat) (x1 : Layout) : Option (Layout × Int) :=
  (s_l06Ok N (Layout.mk x1.rows)).bind fun r6 =>
  bif !r6 then
  some ((Layout.mk []), 1)
  else
  withK (fun (l13 : List Str) =>
  some ((Layout.mk l13), 0)) fun (kj15 : (List Str) → Option (Layout × Int)) =>
  s_MirrorLayout_l1 kj15 x1 N [] 0

def s_DrawRowShares_l1 (kj18 : Int → Int → Str → Option (Layout × Str)) (code1 : List UInt8) (r13 : Str) : Nat → Int → Int → Str → Int → Option (Layout × Str)
  | 0, _, _, _, _ => none
  | N + 1, x22, x23, text24, k25 =>
    (andO (decide (k25 > 0)) (some (r13 != []))).bind fun t26 =>
    bif t26 then
    withK (fun (x30 : Int) (x31 : Int) (text32 : Str) =>
    s_DrawRowShares_l1 kj18 code1 r13 N x30 x31 text32 (w64 (k25 - 1))) fun (kj33 : Int → Int → Str → Option (Layout × Str)) =>
    (s_l00Src_pick (L00Src.mk code1 x22 x23) (List.length r13 : Int)).bind fun r35 =>
    (idx r13 r35.1).bind fun c37 =>
    bif (c37 != (47 : UInt8)) then
    (sub r13 r35.1 (w64 (r35.1 + 1))).bind fun s40 =>
    (cat text24 s40).bind fun s42 =>
    kj33 r35.2.at_ r35.2.seed s42
    else
    kj33 r35.2.at_ r35.2.seed text24
    else
    kj18 x22 x23 text24

def s_DrawRowShares_l2 (kj45 : Str → Option (Layout × Str)) (r56 : Int × L00Src) : Nat → Str → Option (Layout × Str)
  | 0, _ => none
  | N + 1, text58 =>
    bif decide ((List.length text58 : Int) < (w64 (100 + r56.1))) then
    (cat text58 [113]).bind fun s60 =>
    s_DrawRowShares_l2 kj45 r56 N s60
    else
    kj45 text58

def s_DrawRowShares (N : Nat) (code1 : List UInt8) : Option (Layout × Str) :=
  (s_l00From code1).bind fun r5 =>
  (s_l06Bent N (L00Src.mk code1 r5.at_ r5.seed)).bind fun r8 =>
  (s_l06Text N (Layout.mk r8.1.rows)).bind fun r13 =>
  withK (fun (x15 : Int) (x16 : Int) (text17 : Str) =>
  withK (fun (text44 : Str) =>
  some ((Layout.mk r8.1.rows), text44)) fun (kj45 : Str → Option (Layout × Str)) =>
  (s_l00Src_pick (L00Src.mk code1 x15 x16) 12).bind fun r47 =>
  bif (r47.1 == 0) then
  (s_l00Src_text (L00Src.mk code1 r47.2.at_ r47.2.seed) ([[126], [32], [127]] : List Str)).bind fun r51 =>
  (cat text17 r51.1).bind fun s53 =>
  kj45 s53
  else
  bif (r47.1 == 1) then
  (s_l00Src_pick (L00Src.mk code1 r47.2.at_ r47.2.seed) 2).bind fun r56 =>
  s_DrawRowShares_l2 kj45 r56 N text17
  else
  kj45 text17) fun (kj18 : Int → Int → Str → Option (Layout × Str)) =>
  (s_l00Src_pick (L00Src.mk code1 r8.2.at_ r8.2.seed) 20).bind fun r20 =>
  s_DrawRowShares_l1 kj18 code1 r13 N r20.2.at_ r20.2.seed [] r20.1

def i_RowShares_l1 (kj16 : (List Int) → Option ((List Int) × Int)) (x1 : Layout) (text4 : Str) : Nat → (List Int) → Int → Option ((List Int) × Int)
  | 0, _, _ => none
  | N + 1, l18, x19 =>
    bif decide (x19 < (List.length text4 : Int)) then
    (idx text4 x19).bind fun c21 =>
    (i_Layout_spot N (Layout.mk x1.rows) c21).bind fun r23 =>
    bif !r23.2.2 then
    some ([], 3)
    else
    (idx l18 r23.1).bind fun e26 =>
    (idx l18 r23.1).bind fun e28 =>
    i_RowShares_l1 kj16 x1 text4 N (List.set l18 (Int.toNat r23.1) (w64 (e26 + 1))) (w64 (x19 + 1))
    else
    kj16 l18

def i_RowShares (N : Nat) (x1 : Layout) (text4 : Str) : Option ((List Int) × Int) :=
  (i_ValidLayout N (Layout.mk x1.rows)).bind fun r6 =>
  bif !r6 then
  some ([], 1)
  else
  (i_isText N text4 33 100).bind fun r9 =>
  bif !r9 then
  some ([], 2)
  else
  (mk (List.length x1.rows : Int) (0 : Int)).bind fun l12 =>
  withK (fun (l15 : List Int) =>
  some (l15, 0)) fun (kj16 : (List Int) → Option ((List Int) × Int)) =>
  i_RowShares_l1 kj16 x1 text4 N l12 0

def s_l02Text_l1 (kj2 : Option Bool) (s1 : Str) : Nat → Int → Option Bool
  | 0, _ => none
  | N + 1, i4 =>
    bif decide (i4 < (List.length s1 : Int)) then
    (idx s1 i4).bind fun c6 =>
    (orO (decide (c6 < (33 : UInt8))) ((idx s1 i4).bind fun c11 =>
    some (decide (c11 > (126 : UInt8))))).bind fun t8 =>
    bif t8 then
    some false
    else
    s_l02Text_l1 kj2 s1 N (w64 (i4 + 1))
    else
    kj2 

def s_l02Text (N : Nat) (s1 : Str) : Option Bool :=
  withK (some (decide ((List.length s1 : Int) ≤ 100))) fun (kj2 : Option Bool) =>
  s_l02Text_l1 kj2 s1 N 0

def s_RowShares_l1 (kj16 : (List Int) → Option ((List Int) × Int)) (x1 : Layout) (text4 : Str) : Nat → (List Int) → Int → Option ((List Int) × Int)
  | 0, _, _ => none
  | N + 1, l18, i19 =>
    bif decide (i19 < (List.length text4 : Int)) then
    (idx text4 i19).bind fun c21 =>
    (s_l06At N x1.rows c21).bind fun r23 =>
    bif decide (r23.1 < 0) then
    some ([], 3)
    else
    (idx l18 r23.1).bind fun e26 =>
    (idx l18 r23.1).bind fun e28 =>
    s_RowShares_l1 kj16 x1 text4 N (List.set l18 (Int.toNat r23.1) (w64 (e26 + 1))) (w64 (i19 + 1))
    else
    kj16 l18

def s_RowShares (N : Nat) (x1 : Layout) (text4 : Str) : Option ((List Int) × Int) :=
  (s_l06Ok N (Layout.mk x1.rows)).bind fun r6 =>
  bif !r6 then
  some ([], 1)
  else
  (s_l02Text N text4).bind fun r9 =>
  bif !r9 then
  some ([], 2)
  else
  (mk (List.length x1.rows : Int) (0 : Int)).bind fun l12 =>
  withK (fun (l15 : List Int) =>
  some (l15, 0)) fun (kj16 : (List Int) → Option ((List Int) × Int)) =>
  s_RowShares_l1 kj16 x1 text4 N l12 0

def s_SameLayout_l1 (kj10 : Option Bool) (a1 : Layout) (b4 : Layout) : Nat → Int → Option Bool
  | 0, _ => none
  | N + 1, i12 =>
    bif decide (i12 < (List.length a1.rows : Int)) then
    (idx a1.rows i12).bind fun e14 =>
    (idx b4.rows i12).bind fun e19 =>
    bif (e14 != e19) then
    some false
    else
    s_SameLayout_l1 kj10 a1 b4 N (w64 (i12 + 1))
    else
    kj10 

def s_SameLayout (N : Nat) (a1 : Layout) (b4 : Layout) : Option Bool :=
  bif ((List.length a1.rows : Int) != (List.length b4.rows : Int)) then
  some false
  else
  withK (some true) fun (kj10 : Option Bool) =>
  s_SameLayout_l1 kj10 a1 b4 N 0

def w_f6ints_l1 (kj8 : Option Bool) (a1 : List Int) (b4 : List Int) : Nat → Int → Option Bool
  | 0, _ => none
  | N + 1, i10 =>
    bif decide (i10 < (List.length a1 : Int)) then
    (idx a1 i10).bind fun e12 =>
    (idx b4 i10).bind fun e17 =>
    bif (e12 != e17) then
    some false
    else
    w_f6ints_l1 kj8 a1 b4 N (w64 (i10 + 1))
    else
    kj8 

def w_f6ints (N : Nat) (a1 : List Int) (b4 : List Int) : Option Bool :=
  bif ((List.length a1 : Int) != (List.length b4 : Int)) then
  some false
  else
  withK (some true) fun (kj8 : Option Bool) =>
  w_f6ints_l1 kj8 a1 b4 N 0

def i_LayoutText (N : Nat) (x1 : Layout) : Option Str :=
  (i_ValidLayout N (Layout.mk x1.rows)).bind fun r5 =>
  bif !r5 then
  some []
  else
  (joinO x1.rows [47]).bind fun r8 =>
  some r8

def s_LayoutText (N : Nat) (x1 : Layout) : Option Str :=
  (s_l06Ok N (Layout.mk x1.rows)).bind fun r5 =>
  bif !r5 then
  some []
  else
  (s_l06Text N (Layout.mk x1.rows)).bind fun r8 =>
  some r8

def s_ValidLayout (N : Nat) (x1 : Layout) : Option Bool :=
  (s_l06Ok N (Layout.mk x1.rows)).bind fun r5 =>
  some r5

def w_f6sum_l1 (kj5 : Int → Option Int) (list1 : List Int) : Nat → Int → Int → Option Int
  | 0, _, _ => none
  | N + 1, sum7, i8 =>
    bif decide (i8 < (List.length list1 : Int)) then
    (idx list1 i8).bind fun e10 =>
    w_f6sum_l1 kj5 list1 N (w64 (sum7 + e10)) (w64 (i8 + 1))
    else
    kj5 sum7

def w_f6sum (N : Nat) (list1 : List Int) : Option Int :=
  withK (fun (sum4 : Int) =>
  some sum4) fun (kj5 : Int → Option Int) =>
  w_f6sum_l1 kj5 list1 N 0 0

def w_FnLayouts (N : Nat) (code1 : List UInt8) : Option Bool :=
  (w_f6big code1).bind fun r4 =>
  bif r4 then
  some true
  else
  (s_DrawLayoutFault N code1).bind fun r7 =>
  (i_LayoutFault N r7).bind fun r9 =>
  (s_LayoutFault N r7).bind fun r11 =>
  (i_ReadLayout N r7).bind fun r13 =>
  (s_ReadLayout N r7).bind fun r18 =>
  (s_DrawExchangeLetters N code1).bind fun r23 =>
  (i_ExchangeLetters N (Layout.mk r23.1.rows) r23.2.1 r23.2.2).bind fun r28 =>
  (s_ExchangeLetters N (Layout.mk r23.1.rows) r23.2.1 r23.2.2).bind fun r33 =>
  (s_DrawSpotOfLetter N code1).bind fun r38 =>
  (i_SpotOfLetter N (Layout.mk r38.1.rows) r38.2).bind fun r43 =>
  (s_SpotOfLetter N (Layout.mk r38.1.rows) r38.2).bind fun r45 =>
  (i_MirrorLayout N (Layout.mk r38.1.rows)).bind fun r47 =>
  (s_MirrorLayout N (Layout.mk r38.1.rows)).bind fun r52 =>
  (s_DrawRowShares N code1).bind fun r57 =>
  (i_RowShares N (Layout.mk r57.1.rows) r57.2).bind fun r62 =>
  (s_RowShares N (Layout.mk r57.1.rows) r57.2).bind fun r65 =>
  (orO (r9.1 != r11.1) (some (r9.2 != r11.2))).bind fun t68 =>
  (orO t68 (some (r13.2 != r18.2))).bind fun t71 =>
  (orO t71 ((s_SameLayout N (Layout.mk r13.1.rows) (Layout.mk r18.1.rows)).bind fun r77 =>
  some (!r77))).bind fun t74 =>
  (orO t74 (some (r28.2 != r33.2))).bind fun t79 =>
  (orO t79 ((s_SameLayout N (Layout.mk r28.1.rows) (Layout.mk r33.1.rows)).bind fun r85 =>
  some (!r85))).bind fun t82 =>
  (orO t82 (some (r43.2.2 != r45.2.2))).bind fun t87 =>
  (orO t87 (some (r43.1 != r45.1))).bind fun t90 =>
  (orO t90 (some (r43.2.1 != r45.2.1))).bind fun t93 =>
  (orO t93 (some (r47.2 != r52.2))).bind fun t96 =>
  (orO t96 ((s_SameLayout N (Layout.mk r47.1.rows) (Layout.mk r52.1.rows)).bind fun r102 =>
  some (!r102))).bind fun t99 =>
  (orO t99 (some (r62.2 != r65.2))).bind fun t104 =>
  (orO t104 ((w_f6ints N r62.1 r65.1).bind fun r110 =>
  some (!r110))).bind fun t107 =>
  (orO t107 ((i_LayoutText N (Layout.mk r38.1.rows)).bind fun r115 =>
  (s_LayoutText N (Layout.mk r38.1.rows)).bind fun r117 =>
  some (r115 != r117))).bind fun t112 =>
  (orO t112 ((i_ValidLayout N (Layout.mk r38.1.rows)).bind fun r122 =>
  (s_ValidLayout N (Layout.mk r38.1.rows)).bind fun r124 =>
  some (r122 != r124))).bind fun t119 =>
  bif t119 then
  some false
  else
  (orO (r13.2 != (r9.1 == 0)) ((andO r13.2 ((i_LayoutText N (Layout.mk r13.1.rows)).bind fun r133 =>
  some (r133 != r7))).bind fun t130 =>
  some t130)).bind fun t127 =>
  (orO t127 (some (decide (r9.2 < 0)))).bind fun t135 =>
  (orO t135 (some (decide (r9.2 > (List.length r7 : Int))))).bind fun t138 =>
  bif t138 then
  some false
  else
  withK ((andO (r43.2.2 == 0) ((idx r38.1.rows r43.1).bind fun e159 =>
  (idx e159 r43.2.1).bind fun c161 =>
  (idx r38.2 0).bind fun c163 =>
  some (c161 != c163))).bind fun t156 =>
  bif t156 then
  some false
  else
  withK ((orO (r62.2 != 0) ((w_f6sum N r65.1).bind fun r183 =>
  some (r183 == (List.length r57.2 : Int)))).bind fun t180 =>
  some t180) fun (kj166 : Option Bool) =>
  bif (r47.2 == 0) then
  (i_MirrorLayout N (Layout.mk r47.1.rows)).bind fun r169 =>
  (orO (r169.2 != 0) ((s_SameLayout N (Layout.mk r169.1.rows) (Layout.mk r38.1.rows)).bind fun r177 =>
  some (!r177))).bind fun t174 =>
  bif t174 then
  some false
  else
  kj166 
  else
  kj166 ) fun (kj142 : Option Bool) =>
  bif (r28.2 == 0) then
  (i_ExchangeLetters N (Layout.mk r28.1.rows) r23.2.1 r23.2.2).bind fun r145 =>
  (orO (r145.2 != 0) ((s_SameLayout N (Layout.mk r145.1.rows) (Layout.mk r23.1.rows)).bind fun r153 =>
  some (!r153))).bind fun t150 =>
  bif t150 then
  some false
  else
  kj142 
  else
  kj142 

end Go.Proofs.Ytlmpbacboapkaaa
