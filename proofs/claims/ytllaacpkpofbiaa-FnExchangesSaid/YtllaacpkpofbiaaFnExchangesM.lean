/-
  Plain functions that compute what the Go functions compute. No conditions.
-/
import Derived.Test.YtllaacpkpofbiaaBase2
namespace Go.Proofs.Ytllaacpkpofbiaa
set_option linter.unusedVariables false
set_option linter.unusedSimpArgs false

structure Layout where
  rows : List Str

structure L00Src where
  code : List UInt8
  at_ : Int
  seed : Int



def w_f6big (code1 : List UInt8) : Option Bool :=
  some (decide ((List.length code1 : Int) > 4096))

def s_l00From (code1 : List UInt8) : Option L00Src :=
  some (L00Src.mk code1 0 0)

def s_l00Src_next (s1 : L00Src) : Option (Int × L00Src) :=
  withK (fun (b5 : Int) =>
  bif decide ((w64 (s1.at_ + 1)) ≤ (List.length s1.code : Int)) then
  some (b5, (L00Src.mk s1.code (w64 (s1.at_ + 1)) (IntKind.u64.wrap ((IntKind.u64.wrap ((IntKind.u64.wrap (s1.seed * 6364136223846793005)) + (IntKind.u64.wrap b5))) + 1442695040888963407))))
  else
  some (w64 (uand (ushr (IntKind.u64.wrap ((IntKind.u64.wrap ((IntKind.u64.wrap (s1.seed * 6364136223846793005)) + (IntKind.u64.wrap b5))) + 1442695040888963407)) 40) 255), (L00Src.mk s1.code (w64 (s1.at_ + 1)) (IntKind.u64.wrap ((IntKind.u64.wrap ((IntKind.u64.wrap (s1.seed * 6364136223846793005)) + (IntKind.u64.wrap b5))) + 1442695040888963407))))) fun (kj6 : Int → Option (Int × L00Src)) =>
  bif decide (s1.at_ < (List.length s1.code : Int)) then
  (idx s1.code s1.at_).bind fun e9 =>
  kj6 (UInt8.toNat e9 : Int)
  else
  kj6 0

def s_l00Src_pick (s1 : L00Src) (n5 : Int) : Option (Int × L00Src) :=
  bif decide (n5 ≤ 1) then
  some (0, (L00Src.mk s1.code s1.at_ s1.seed))
  else
  (s_l00Src_next (L00Src.mk s1.code s1.at_ s1.seed)).bind fun r7 =>
  withK (fun (x9 : Int) (x10 : Int) (x11 : Int) =>
  (remO x11 n5).bind fun q17 =>
  some (q17, (L00Src.mk s1.code x9 x10))) fun (kj12 : Int → Int → Int → Option (Int × L00Src)) =>
  bif decide (n5 > 200) then
  (s_l00Src_next (L00Src.mk s1.code r7.2.at_ r7.2.seed)).bind fun r15 =>
  kj12 r15.2.at_ r15.2.seed (w64 ((w64 (r7.1 * 256)) + r15.1))
  else
  kj12 r7.2.at_ r7.2.seed r7.1

def s_l06Draw_l2 (kj42 : Int → Int → (List UInt8) → (List UInt8) → Option (Layout × L00Src)) (s1 : L00Src) : Nat → Int → Int → (List UInt8) → (List UInt8) → Int → Option (Layout × L00Src)
  | 0, _, _, _, _, _ => none
  | N + 1, x46, x47, l48, l50, c52 =>
    bif decide (c52 > 0) then
    (s_l00Src_pick (L00Src.mk s1.code x46 x47) (List.length l50 : Int)).bind fun r54 =>
    (idx l50 r54.1).bind fun e56 =>
    (app l48 [e56]).bind fun l59 =>
    (sub l50 0 r54.1).bind fun l63 =>
    (app [] l63).bind fun l65 =>
    (sub l50 (w64 (r54.1 + 1)) (List.length l50 : Int)).bind fun l68 =>
    (app l65 l68).bind fun l70 =>
    s_l06Draw_l2 kj42 s1 N r54.2.at_ r54.2.seed l59 l70 (w64 (c52 - 1))
    else
    kj42 x46 x47 l48 l50

def s_l06Draw_l1 (kj15 : Int → Int → (List Str) → Option (Layout × L00Src)) (s1 : L00Src) : Nat → Int → Int → (List Str) → (List UInt8) → Int → Option (Layout × L00Src)
  | 0, _, _, _, _, _ => none
  | N + 1, x19, x20, l21, l23, r25 =>
    bif decide (r25 > 0) then
    withK (fun (x27 : Int) (x28 : Int) (l29 : List Str) (l31 : List UInt8) =>
    s_l06Draw_l1 kj15 s1 N x27 x28 l29 l31 (w64 (r25 - 1))) fun (kj33 : Int → Int → (List Str) → (List UInt8) → Option (Layout × L00Src)) =>
    withK (fun (x36 : Int) (x37 : Int) (l38 : List UInt8) (l40 : List UInt8) =>
    (app l21 [l38]).bind fun l74 =>
    kj33 x36 x37 l74 l40) fun (kj42 : Int → Int → (List UInt8) → (List UInt8) → Option (Layout × L00Src)) =>
    (s_l00Src_pick (L00Src.mk s1.code x19 x20) 6).bind fun r44 =>
    s_l06Draw_l2 kj42 s1 N r44.2.at_ r44.2.seed [] l23 (w64 (1 + r44.1))
    else
    kj15 x19 x20 l21

def s_l06Draw (N : Nat) (s1 : L00Src) : Option (Layout × L00Src) :=
  withK (fun (x11 : Int) (x12 : Int) (l13 : List Str) =>
  some ((Layout.mk l13), (L00Src.mk s1.code x11 x12))) fun (kj15 : Int → Int → (List Str) → Option (Layout × L00Src)) =>
  (s_l00Src_pick (L00Src.mk s1.code s1.at_ s1.seed) 3).bind fun r17 =>
  s_l06Draw_l1 kj15 s1 N r17.2.at_ r17.2.seed [] [113, 119, 101, 114, 116, 121, 117, 105, 111, 112, 97, 115, 100, 102, 103, 104, 106, 107, 108, 122] (w64 (1 + r17.1))

def s_l00Src_text (s1 : L00Src) (list5 : List Str) : Option (Str × L00Src) :=
  (s_l00Src_pick (L00Src.mk s1.code s1.at_ s1.seed) (List.length list5 : Int)).bind fun r8 =>
  (idx list5 r8.1).bind fun e10 =>
  some (e10, (L00Src.mk s1.code r8.2.at_ r8.2.seed))

def s_l00Src_one (s1 : L00Src) (n5 : Int) : Option (Bool × L00Src) :=
  (s_l00Src_pick (L00Src.mk s1.code s1.at_ s1.seed) n5).bind fun r6 =>
  some ((r6.1 == 0), (L00Src.mk s1.code r6.2.at_ r6.2.seed))

def s_l06Bent (N : Nat) (s1 : L00Src) : Option (Layout × L00Src) :=
  (s_l06Draw N (L00Src.mk s1.code s1.at_ s1.seed)).bind fun r6 =>
  withK (fun (x11 : Int) (x12 : Int) (l13 : List Str) =>
  some ((Layout.mk l13), (L00Src.mk s1.code x11 x12))) fun (kj15 : Int → Int → (List Str) → Option (Layout × L00Src)) =>
  (s_l00Src_pick (L00Src.mk s1.code r6.2.at_ r6.2.seed) 20).bind fun r17 =>
  bif (r17.1 == 0) then
  (idx r6.1.rows 0).bind fun e20 =>
  (s_l00Src_text (L00Src.mk s1.code r17.2.at_ r17.2.seed) ([[47], [32], [113, 113], [127]] : List Str)).bind fun r23 =>
  (cat e20 r23.1).bind fun s25 =>
  (idx r6.1.rows 0).bind fun e27 =>
  kj15 r23.2.at_ r23.2.seed (List.set r6.1.rows (Int.toNat 0) s25)
  else
  bif (r17.1 == 1) then
  (s_l00Src_text (L00Src.mk s1.code r17.2.at_ r17.2.seed) ([[], [43], [113]] : List Str)).bind fun r32 =>
  (app r6.1.rows [r32.1]).bind fun l35 =>
  kj15 r32.2.at_ r32.2.seed l35
  else
  bif (r17.1 == 2) then
  withK (fun (x43 : Int) (x44 : Int) (l45 : List Str) =>
  (s_l00Src_one (L00Src.mk s1.code x43 x44) 3).bind fun r59 =>
  bif r59.1 then
  (app l45 ([[121, 122]] : List Str)).bind fun l63 =>
  kj15 r59.2.at_ r59.2.seed l63
  else
  kj15 r59.2.at_ r59.2.seed l45) fun (kj46 : Int → Int → (List Str) → Option (Layout × L00Src)) =>
  (s_l00Src_one (L00Src.mk s1.code r17.2.at_ r17.2.seed) 2).bind fun r48 =>
  bif r48.1 then
  (s_l00Src_pick (L00Src.mk s1.code r48.2.at_ r48.2.seed) 4).bind fun r51 =>
  (idx ([[97, 98, 99, 100, 101, 102, 103, 104, 105, 106, 107, 108], [65, 66, 67, 68, 69, 70, 71, 72, 73, 74, 75, 76], [49, 50, 51, 52, 53, 54, 55, 56, 57, 43, 45, 61], [109, 110, 111, 112, 113, 114, 115, 116, 117, 118, 119, 120]] : List Str) r51.1).bind fun e53 =>
  (cat e53 [122]).bind fun s55 =>
  (idx ([[97, 98, 99, 100, 101, 102, 103, 104, 105, 106, 107, 108], [65, 66, 67, 68, 69, 70, 71, 72, 73, 74, 75, 76], [49, 50, 51, 52, 53, 54, 55, 56, 57, 43, 45, 61], [109, 110, 111, 112, 113, 114, 115, 116, 117, 118, 119, 120]] : List Str) r51.1).bind fun e57 =>
  kj46 r51.2.at_ r51.2.seed (List.set ([[97, 98, 99, 100, 101, 102, 103, 104, 105, 106, 107, 108], [65, 66, 67, 68, 69, 70, 71, 72, 73, 74, 75, 76], [49, 50, 51, 52, 53, 54, 55, 56, 57, 43, 45, 61], [109, 110, 111, 112, 113, 114, 115, 116, 117, 118, 119, 120]] : List Str) (Int.toNat r51.1) s55)
  else
  kj46 r48.2.at_ r48.2.seed ([[97, 98, 99, 100, 101, 102, 103, 104, 105, 106, 107, 108], [65, 66, 67, 68, 69, 70, 71, 72, 73, 74, 75, 76], [49, 50, 51, 52, 53, 54, 55, 56, 57, 43, 45, 61], [109, 110, 111, 112, 113, 114, 115, 116, 117, 118, 119, 120]] : List Str)
  else
  bif (r17.1 == 3) then
  kj15 r17.2.at_ r17.2.seed []
  else
  kj15 r17.2.at_ r17.2.seed r6.1.rows

def s_l06Change_l2 (kj34 : (List UInt8) → Option Layout) (a6 : UInt8) (b7 : UInt8) : Nat → (List UInt8) → Int → Option Layout
  | 0, _, _ => none
  | N + 1, l36, c37 =>
    bif decide (c37 < (List.length l36 : Int)) then
    withK (fun (l39 : List UInt8) =>
    s_l06Change_l2 kj34 a6 b7 N l39 (w64 (c37 + 1))) fun (kj40 : (List UInt8) → Option Layout) =>
    (idx l36 c37).bind fun e42 =>
    bif (e42 == a6) then
    (idx l36 c37).bind fun e45 =>
    kj40 (List.set l36 (Int.toNat c37) b7)
    else
    bif (e42 == b7) then
    (idx l36 c37).bind fun e48 =>
    kj40 (List.set l36 (Int.toNat c37) a6)
    else
    kj40 l36
    else
    kj34 l36

def s_l06Change_l1 (kj15 : (List Str) → Option Layout) (x1 : Layout) (a6 : UInt8) (b7 : UInt8) : Nat → (List Str) → Int → Option Layout
  | 0, _, _ => none
  | N + 1, l17, r19 =>
    bif decide (r19 < (List.length x1.rows : Int)) then
    withK (fun (l21 : List Str) =>
    s_l06Change_l1 kj15 x1 a6 b7 N l21 (w64 (r19 + 1))) fun (kj23 : (List Str) → Option Layout) =>
    (idx x1.rows r19).bind fun e25 =>
    (app ([] : Str) e25).bind fun l30 =>
    withK (fun (l33 : List UInt8) =>
    (app l17 [l33]).bind fun l51 =>
    kj23 l51) fun (kj34 : (List UInt8) → Option Layout) =>
    s_l06Change_l2 kj34 a6 b7 N l30 0
    else
    kj15 l17

def s_l06Change (N : Nat) (x1 : Layout) (a6 : UInt8) (b7 : UInt8) : Option Layout :=
  withK (fun (l13 : List Str) =>
  some (Layout.mk l13)) fun (kj15 : (List Str) → Option Layout) =>
  s_l06Change_l1 kj15 x1 a6 b7 N [] 0

def s_l06Other_l1 (kj22 : Str → Option (Layout × Layout)) (r9 : Layout × L00Src) : Nat → Str → Int → Option (Layout × Layout)
  | 0, _, _ => none
  | N + 1, all24, r25 =>
    bif decide (r25 < (List.length r9.1.rows : Int)) then
    (idx r9.1.rows r25).bind fun e27 =>
    (cat all24 e27).bind fun s29 =>
    s_l06Other_l1 kj22 r9 N s29 (w64 (r25 + 1))
    else
    kj22 all24

def s_l06Other_l2 (kj35 : Int → Int → (List Str) → Option (Layout × Layout)) (code1 : List UInt8) (all21 : Str) : Nat → Int → Int → (List Str) → Int → Option (Layout × Layout)
  | 0, _, _, _, _ => none
  | N + 1, x39, x40, l41, k43 =>
    (andO (decide (k43 > 0)) (some (all21 != []))).bind fun t44 =>
    bif t44 then
    (s_l00Src_pick (L00Src.mk code1 x39 x40) (List.length all21 : Int)).bind fun r48 =>
    (s_l00Src_pick (L00Src.mk code1 r48.2.at_ r48.2.seed) (List.length all21 : Int)).bind fun r50 =>
    (idx all21 r48.1).bind fun c52 =>
    (idx all21 r50.1).bind fun c54 =>
    (s_l06Change N (Layout.mk l41) c52 c54).bind fun r56 =>
    s_l06Other_l2 kj35 code1 all21 N r50.2.at_ r50.2.seed r56.rows (w64 (k43 - 1))
    else
    kj35 x39 x40 l41

def s_l06Other (N : Nat) (code1 : List UInt8) : Option (Layout × Layout) :=
  (s_l00From code1).bind fun r6 =>
  (s_l06Bent N (L00Src.mk code1 r6.at_ r6.seed)).bind fun r9 =>
  (app [] r9.1.rows).bind fun l15 =>
  withK (fun (all21 : Str) =>
  withK (fun (x31 : Int) (x32 : Int) (l33 : List Str) =>
  withK (fun (l60 : List Str) =>
  some ((Layout.mk r9.1.rows), (Layout.mk l60))) fun (kj62 : (List Str) → Option (Layout × Layout)) =>
  (s_l00Src_one (L00Src.mk code1 x31 x32) 6).bind fun r64 =>
  bif r64.1 then
  (s_l06Bent N (L00Src.mk code1 r64.2.at_ r64.2.seed)).bind fun r67 =>
  kj62 r67.1.rows
  else
  kj62 l33) fun (kj35 : Int → Int → (List Str) → Option (Layout × Layout)) =>
  (s_l00Src_pick (L00Src.mk code1 r9.2.at_ r9.2.seed) 6).bind fun r37 =>
  s_l06Other_l2 kj35 code1 all21 N r37.2.at_ r37.2.seed l15 r37.1) fun (kj22 : Str → Option (Layout × Layout)) =>
  s_l06Other_l1 kj22 r9 N [] 0

def s_DrawExchangePlan (N : Nat) (code1 : List UInt8) : Option (Layout × Layout) :=
  (s_l06Other N code1).bind fun r6 =>
  some ((Layout.mk r6.1.rows), (Layout.mk r6.2.rows))

def i_between (n1 : Int) (low2 : Int) (high3 : Int) : Option Bool :=
  (andO (decide (n1 ≥ low2)) (some (decide (n1 ≤ high3)))).bind fun t4 =>
  some t4

def i_isText_l1 (kj5 : Option Bool) (s1 : Str) (low2 : UInt8) : Nat → Int → Option Bool
  | 0, _ => none
  | N + 1, x7 =>
    bif decide (x7 < (List.length s1 : Int)) then
    (idx s1 x7).bind fun c9 =>
    (orO (decide (c9 < low2)) ((idx s1 x7).bind fun c14 =>
    some (decide (c14 > (126 : UInt8))))).bind fun t11 =>
    bif t11 then
    some false
    else
    i_isText_l1 kj5 s1 low2 N (w64 (x7 + 1))
    else
    kj5 

def i_isText (N : Nat) (s1 : Str) (low2 : UInt8) (most3 : Int) : Option Bool :=
  bif decide ((List.length s1 : Int) > most3) then
  some false
  else
  withK (some true) fun (kj5 : Option Bool) =>
  i_isText_l1 kj5 s1 low2 N 0

def i_ValidLayout_l2 (kj15 : (List Bool) → Option Bool) (e17 : Str) : Nat → (List Bool) → Int → Option Bool
  | 0, _, _ => none
  | N + 1, l28, x29 =>
    bif decide (x29 < (List.length e17 : Int)) then
    (idx e17 x29).bind fun c31 =>
    (orO (c31 == (47 : UInt8)) ((idx e17 x29).bind fun c36 =>
    (idx l28 (UInt8.toNat c36 : Int)).bind fun e38 =>
    some e38)).bind fun t33 =>
    bif t33 then
    some false
    else
    (idx e17 x29).bind fun c41 =>
    (idx l28 (UInt8.toNat c41 : Int)).bind fun e43 =>
    i_ValidLayout_l2 kj15 e17 N (List.set l28 (Int.toNat (UInt8.toNat c41 : Int)) true) (w64 (x29 + 1))
    else
    kj15 l28

def i_ValidLayout_l1 (kj9 : Option Bool) (x1 : Layout) : Nat → (List Bool) → Int → Option Bool
  | 0, _, _ => none
  | N + 1, l11, x12 =>
    bif decide (x12 < (List.length x1.rows : Int)) then
    withK (fun (l14 : List Bool) =>
    i_ValidLayout_l1 kj9 x1 N l14 (w64 (x12 + 1))) fun (kj15 : (List Bool) → Option Bool) =>
    (idx x1.rows x12).bind fun e17 =>
    (orO ((List.length e17 : Int) == 0) ((i_isText N e17 33 12).bind fun r25 =>
    some (!r25))).bind fun t22 =>
    bif t22 then
    some false
    else
    i_ValidLayout_l2 kj15 e17 N l11 0
    else
    kj9 

def i_ValidLayout (N : Nat) (x1 : Layout) : Option Bool :=
  (i_between (List.length x1.rows : Int) 1 4).bind fun r5 =>
  bif !r5 then
  some false
  else
  withK (some true) fun (kj9 : Option Bool) =>
  i_ValidLayout_l1 kj9 x1 N (List.replicate 256 false) 0

def i_Layout_spot_l2 (kj10 : Option (Int × Int × Bool)) (letter4 : UInt8) (x8 : Int) (e12 : Str) : Nat → Int → Option (Int × Int × Bool)
  | 0, _ => none
  | N + 1, x17 =>
    bif decide (x17 < (List.length e12 : Int)) then
    (idx e12 x17).bind fun c19 =>
    bif (c19 == letter4) then
    some (x8, x17, true)
    else
    i_Layout_spot_l2 kj10 letter4 x8 e12 N (w64 (x17 + 1))
    else
    kj10 

def i_Layout_spot_l1 (kj6 : Option (Int × Int × Bool)) (x1 : Layout) (letter4 : UInt8) : Nat → Int → Option (Int × Int × Bool)
  | 0, _ => none
  | N + 1, x8 =>
    bif decide (x8 < (List.length x1.rows : Int)) then
    withK (i_Layout_spot_l1 kj6 x1 letter4 N (w64 (x8 + 1))) fun (kj10 : Option (Int × Int × Bool)) =>
    (idx x1.rows x8).bind fun e12 =>
    i_Layout_spot_l2 kj10 letter4 x8 e12 N 0
    else
    kj6 

def i_Layout_spot (N : Nat) (x1 : Layout) (letter4 : UInt8) : Option (Int × Int × Bool) :=
  withK (some (0, 0, false)) fun (kj6 : Option (Int × Int × Bool)) =>
  i_Layout_spot_l1 kj6 x1 letter4 N 0

def i_compareCode_l2 (kj22 : Option Int) (b4 : Layout) (e24 : Str) : Nat → Int → Option Int
  | 0, _ => none
  | N + 1, x35 =>
    bif decide (x35 < (List.length e24 : Int)) then
    (idx e24 x35).bind fun c37 =>
    (i_Layout_spot N (Layout.mk b4.rows) c37).bind fun r39 =>
    bif !r39.2.2 then
    some 9
    else
    i_compareCode_l2 kj22 b4 e24 N (w64 (x35 + 1))
    else
    kj22 

def i_compareCode_l1 (kj18 : Option Int) (a1 : Layout) (b4 : Layout) : Nat → Int → Option Int
  | 0, _ => none
  | N + 1, x20 =>
    bif decide (x20 < (List.length a1.rows : Int)) then
    withK (i_compareCode_l1 kj18 a1 b4 N (w64 (x20 + 1))) fun (kj22 : Option Int) =>
    (idx a1.rows x20).bind fun e24 =>
    (idx b4.rows x20).bind fun e29 =>
    bif ((List.length e24 : Int) != (List.length e29 : Int)) then
    some 9
    else
    i_compareCode_l2 kj22 b4 e24 N 0
    else
    kj18 

def i_compareCode (N : Nat) (a1 : Layout) (b4 : Layout) : Option Int :=
  (i_ValidLayout N (Layout.mk a1.rows)).bind fun r9 =>
  (orO (!r9) ((i_ValidLayout N (Layout.mk b4.rows)).bind fun r14 =>
  some (!r14))).bind fun t11 =>
  bif t11 then
  some 1
  else
  bif ((List.length a1.rows : Int) != (List.length b4.rows : Int)) then
  some 9
  else
  withK (some 0) fun (kj18 : Option Int) =>
  i_compareCode_l1 kj18 a1 b4 N 0

def i_Layout_exchanged_l2 (kj30 : (List UInt8) → Option Layout) (a4 : UInt8) (b5 : UInt8) (l26 : List UInt8) : Nat → (List UInt8) → Int → Option Layout
  | 0, _, _ => none
  | N + 1, l32, x33 =>
    bif decide (x33 < (List.length l26 : Int)) then
    withK (fun (l35 : List UInt8) =>
    i_Layout_exchanged_l2 kj30 a4 b5 l26 N l35 (w64 (x33 + 1))) fun (kj36 : (List UInt8) → Option Layout) =>
    (idx l32 x33).bind fun e38 =>
    bif (e38 == a4) then
    (idx l32 x33).bind fun e41 =>
    kj36 (List.set l32 (Int.toNat x33) b5)
    else
    bif (e38 == b5) then
    (idx l32 x33).bind fun e44 =>
    kj36 (List.set l32 (Int.toNat x33) a4)
    else
    kj36 l32
    else
    kj30 l32

def i_Layout_exchanged_l1 (kj11 : (List Str) → Option Layout) (x1 : Layout) (a4 : UInt8) (b5 : UInt8) : Nat → (List Str) → Int → Option Layout
  | 0, _, _ => none
  | N + 1, l13, x15 =>
    bif decide (x15 < (List.length x1.rows : Int)) then
    withK (fun (l17 : List Str) =>
    i_Layout_exchanged_l1 kj11 x1 a4 b5 N l17 (w64 (x15 + 1))) fun (kj19 : (List Str) → Option Layout) =>
    (idx x1.rows x15).bind fun e21 =>
    (app ([] : Str) e21).bind fun l26 =>
    withK (fun (l29 : List UInt8) =>
    (app l13 [l29]).bind fun l47 =>
    kj19 l47) fun (kj30 : (List UInt8) → Option Layout) =>
    i_Layout_exchanged_l2 kj30 a4 b5 l26 N l26 0
    else
    kj11 l13

def i_Layout_exchanged (N : Nat) (x1 : Layout) (a4 : UInt8) (b5 : UInt8) : Option Layout :=
  withK (fun (l9 : List Str) =>
  some (Layout.mk l9)) fun (kj11 : (List Str) → Option Layout) =>
  i_Layout_exchanged_l1 kj11 x1 a4 b5 N [] 0

def i_exchangePlan_l2 (kj24 : (List Str) → (List Str) → Option (List Str)) (b4 : Layout) (x18 : Int) (e26 : Str) : Nat → (List Str) → (List Str) → Int → Option (List Str)
  | 0, _, _, _ => none
  | N + 1, l31, l33, x35 =>
    bif decide (x35 < (List.length e26 : Int)) then
    withK (fun (l37 : List Str) (l39 : List Str) =>
    i_exchangePlan_l2 kj24 b4 x18 e26 N l37 l39 (w64 (x35 + 1))) fun (kj41 : (List Str) → (List Str) → Option (List Str)) =>
    (idx l31 x18).bind fun e43 =>
    (idx e43 x35).bind fun c45 =>
    (idx b4.rows x18).bind fun e47 =>
    (idx e47 x35).bind fun c52 =>
    bif (c45 != c52) then
    (app l33 [[c45, c52]]).bind fun l57 =>
    (i_Layout_exchanged N (Layout.mk l31) c45 c52).bind fun r60 =>
    kj41 r60.rows l57
    else
    kj41 l31 l33
    else
    kj24 l31 l33

def i_exchangePlan_l1 (kj12 : (List Str) → Option (List Str)) (b4 : Layout) : Nat → (List Str) → (List Str) → Int → Option (List Str)
  | 0, _, _, _ => none
  | N + 1, l14, l16, x18 =>
    bif decide (x18 < (List.length b4.rows : Int)) then
    withK (fun (l20 : List Str) (l22 : List Str) =>
    i_exchangePlan_l1 kj12 b4 N l20 l22 (w64 (x18 + 1))) fun (kj24 : (List Str) → (List Str) → Option (List Str)) =>
    (idx b4.rows x18).bind fun e26 =>
    i_exchangePlan_l2 kj24 b4 x18 e26 N l14 l16 0
    else
    kj12 l16

def i_exchangePlan (N : Nat) (a1 : Layout) (b4 : Layout) : Option (List Str) :=
  withK (fun (l10 : List Str) =>
  some l10) fun (kj12 : (List Str) → Option (List Str)) =>
  i_exchangePlan_l1 kj12 b4 N a1.rows [] 0

def i_ExchangePlan (N : Nat) (a1 : Layout) (b4 : Layout) : Option ((List Str) × Int) :=
  (i_compareCode N (Layout.mk a1.rows) (Layout.mk b4.rows)).bind fun r9 =>
  bif (r9 != 0) then
  some ([], r9)
  else
  (i_exchangePlan N (Layout.mk a1.rows) (Layout.mk b4.rows)).bind fun r12 =>
  some (r12, 0)

def s_l02Letter (s1 : Str) : Option Bool :=
  (andO ((List.length s1 : Int) == 1) ((idx s1 0).bind fun c5 =>
  some (decide (c5 > (32 : UInt8))))).bind fun t2 =>
  (andO t2 ((idx s1 0).bind fun c10 =>
  some (decide (c10 < (127 : UInt8))))).bind fun t7 =>
  some t7

def s_l00In (n1 : Int) (low2 : Int) (high3 : Int) : Option Bool :=
  (andO (decide (n1 ≥ low2)) (some (decide (n1 ≤ high3)))).bind fun t4 =>
  some t4

def s_l06Row_l1 (kj2 : Option Bool) (s1 : Str) : Nat → Int → Option Bool
  | 0, _ => none
  | N + 1, i4 =>
    bif decide (i4 < (List.length s1 : Int)) then
    (sub s1 i4 (w64 (i4 + 1))).bind fun s6 =>
    (s_l02Letter s6).bind fun r8 =>
    (orO (!r8) ((idx s1 i4).bind fun c13 =>
    some (c13 == (47 : UInt8)))).bind fun t10 =>
    bif t10 then
    some false
    else
    s_l06Row_l1 kj2 s1 N (w64 (i4 + 1))
    else
    kj2 

def s_l06Row (N : Nat) (s1 : Str) : Option Bool :=
  withK ((s_l00In (List.length s1 : Int) 1 12).bind fun r16 =>
  some r16) fun (kj2 : Option Bool) =>
  s_l06Row_l1 kj2 s1 N 0

def s_l06At_l2 (kj9 : Option (Int × Int)) (rows1 : List Str) (letter4 : UInt8) (r7 : Int) : Nat → Int → Option (Int × Int)
  | 0, _ => none
  | N + 1, c11 =>
    (idx rows1 r7).bind fun e12 =>
    bif decide (c11 < (List.length e12 : Int)) then
    (idx rows1 r7).bind fun e18 =>
    (idx e18 c11).bind fun c23 =>
    bif (c23 == letter4) then
    some (r7, c11)
    else
    s_l06At_l2 kj9 rows1 letter4 r7 N (w64 (c11 + 1))
    else
    kj9 

def s_l06At_l1 (kj5 : Option (Int × Int)) (rows1 : List Str) (letter4 : UInt8) : Nat → Int → Option (Int × Int)
  | 0, _ => none
  | N + 1, r7 =>
    bif decide (r7 < (List.length rows1 : Int)) then
    withK (s_l06At_l1 kj5 rows1 letter4 N (w64 (r7 + 1))) fun (kj9 : Option (Int × Int)) =>
    s_l06At_l2 kj9 rows1 letter4 r7 N 0
    else
    kj5 

def s_l06At (N : Nat) (rows1 : List Str) (letter4 : UInt8) : Option (Int × Int) :=
  withK (some ((-1), (-1))) fun (kj5 : Option (Int × Int)) =>
  s_l06At_l1 kj5 rows1 letter4 N 0

def s_l06Ok_l2 (kj10 : Option Bool) (x1 : Layout) (r8 : Int) : Nat → Int → Option Bool
  | 0, _ => none
  | N + 1, c20 =>
    (idx x1.rows r8).bind fun e21 =>
    bif decide (c20 < (List.length e21 : Int)) then
    (idx x1.rows r8).bind fun e27 =>
    (idx e27 c20).bind fun c32 =>
    (s_l06At N x1.rows c32).bind fun r34 =>
    (orO (r34.1 != r8) (some (r34.2 != c20))).bind fun t36 =>
    bif t36 then
    some false
    else
    s_l06Ok_l2 kj10 x1 r8 N (w64 (c20 + 1))
    else
    kj10 

def s_l06Ok_l1 (kj6 : Option Bool) (x1 : Layout) : Nat → Int → Option Bool
  | 0, _ => none
  | N + 1, r8 =>
    bif decide (r8 < (List.length x1.rows : Int)) then
    withK (s_l06Ok_l1 kj6 x1 N (w64 (r8 + 1))) fun (kj10 : Option Bool) =>
    (idx x1.rows r8).bind fun e12 =>
    (s_l06Row N e12).bind fun r17 =>
    bif !r17 then
    some false
    else
    s_l06Ok_l2 kj10 x1 r8 N 0
    else
    kj6 

def s_l06Ok (N : Nat) (x1 : Layout) : Option Bool :=
  withK ((s_l00In (List.length x1.rows : Int) 1 4).bind fun r40 =>
  some r40) fun (kj6 : Option Bool) =>
  s_l06Ok_l1 kj6 x1 N 0

def s_l06Both_l2 (kj24 : Option Int) (a1 : Layout) (b6 : Layout) (r22 : Int) : Nat → Int → Option Int
  | 0, _ => none
  | N + 1, c37 =>
    (idx a1.rows r22).bind fun e38 =>
    bif decide (c37 < (List.length e38 : Int)) then
    (idx a1.rows r22).bind fun e44 =>
    (idx e44 c37).bind fun c49 =>
    (s_l06At N b6.rows c49).bind fun r51 =>
    bif decide (r51.1 < 0) then
    some 9
    else
    s_l06Both_l2 kj24 a1 b6 r22 N (w64 (c37 + 1))
    else
    kj24 

def s_l06Both_l1 (kj20 : Option Int) (a1 : Layout) (b6 : Layout) : Nat → Int → Option Int
  | 0, _ => none
  | N + 1, r22 =>
    bif decide (r22 < (List.length a1.rows : Int)) then
    withK (s_l06Both_l1 kj20 a1 b6 N (w64 (r22 + 1))) fun (kj24 : Option Int) =>
    (idx a1.rows r22).bind fun e26 =>
    (idx b6.rows r22).bind fun e31 =>
    bif ((List.length e26 : Int) != (List.length e31 : Int)) then
    some 9
    else
    s_l06Both_l2 kj24 a1 b6 r22 N 0
    else
    kj20 

def s_l06Both (N : Nat) (a1 : Layout) (b6 : Layout) : Option Int :=
  (s_l06Ok N (Layout.mk a1.rows)).bind fun r11 =>
  (orO (!r11) ((s_l06Ok N (Layout.mk b6.rows)).bind fun r16 =>
  some (!r16))).bind fun t13 =>
  bif t13 then
  some 1
  else
  bif ((List.length a1.rows : Int) != (List.length b6.rows : Int)) then
  some 9
  else
  withK (some 0) fun (kj20 : Option Int) =>
  s_l06Both_l1 kj20 a1 b6 N 0

def s_l06Plan_l2 (kj33 : (List Str) → (List Str) → Option (List Str)) (b6 : Layout) (r27 : Int) : Nat → (List Str) → (List Str) → Int → Option (List Str)
  | 0, _, _, _ => none
  | N + 1, l35, l37, c39 =>
    (idx b6.rows r27).bind fun e40 =>
    bif decide (c39 < (List.length e40 : Int)) then
    withK (fun (l46 : List Str) (l48 : List Str) =>
    s_l06Plan_l2 kj33 b6 r27 N l46 l48 (w64 (c39 + 1))) fun (kj50 : (List Str) → (List Str) → Option (List Str)) =>
    (idx l35 r27).bind fun e52 =>
    (idx e52 c39).bind fun c54 =>
    (idx b6.rows r27).bind fun e56 =>
    (idx e56 c39).bind fun c61 =>
    bif (c54 != c61) then
    (s_l06Change N (Layout.mk l35) c54 c61).bind fun r64 =>
    (app l37 [[c54, c61]]).bind fun l70 =>
    kj50 r64.rows l70
    else
    kj50 l35 l37
    else
    kj33 l35 l37

def s_l06Plan_l1 (kj21 : (List Str) → Option (List Str)) (b6 : Layout) : Nat → (List Str) → (List Str) → Int → Option (List Str)
  | 0, _, _, _ => none
  | N + 1, l23, l25, r27 =>
    bif decide (r27 < (List.length b6.rows : Int)) then
    withK (fun (l29 : List Str) (l31 : List Str) =>
    s_l06Plan_l1 kj21 b6 N l29 l31 (w64 (r27 + 1))) fun (kj33 : (List Str) → (List Str) → Option (List Str)) =>
    s_l06Plan_l2 kj33 b6 r27 N l23 l25 0
    else
    kj21 l25

def s_l06Plan (N : Nat) (a1 : Layout) (b6 : Layout) : Option (List Str) :=
  (app [] a1.rows).bind fun l13 =>
  withK (fun (l19 : List Str) =>
  some l19) fun (kj21 : (List Str) → Option (List Str)) =>
  s_l06Plan_l1 kj21 b6 N l13 [] 0

def s_ExchangePlan (N : Nat) (a1 : Layout) (b4 : Layout) : Option ((List Str) × Int) :=
  (s_l06Both N (Layout.mk a1.rows) (Layout.mk b4.rows)).bind fun r9 =>
  bif (r9 != 0) then
  some ([], r9)
  else
  (s_l06Plan N (Layout.mk a1.rows) (Layout.mk b4.rows)).bind fun r12 =>
  some (r12, 0)

def i_FewestExchanges (N : Nat) (a1 : Layout) (b4 : Layout) : Option (Int × Int) :=
  (i_compareCode N (Layout.mk a1.rows) (Layout.mk b4.rows)).bind fun r9 =>
  bif (r9 != 0) then
  some (0, r9)
  else
  (i_exchangePlan N (Layout.mk a1.rows) (Layout.mk b4.rows)).bind fun r12 =>
  some ((List.length r12 : Int), 0)

def s_FewestExchanges (N : Nat) (a1 : Layout) (b4 : Layout) : Option (Int × Int) :=
  (s_l06Both N (Layout.mk a1.rows) (Layout.mk b4.rows)).bind fun r9 =>
  bif (r9 != 0) then
  some (0, r9)
  else
  (s_l06Plan N (Layout.mk a1.rows) (Layout.mk b4.rows)).bind fun r12 =>
  some ((List.length r12 : Int), 0)

def i_ascending_l1 (kj7 : (List UInt8) → Option Str) (marked1 : List Bool) : Nat → (List UInt8) → Int → Option Str
  | 0, _, _ => none
  | N + 1, l9, x11 =>
    bif decide (x11 < 256) then
    withK (fun (l13 : List UInt8) =>
    i_ascending_l1 kj7 marked1 N l13 (w64 (x11 + 1))) fun (kj15 : (List UInt8) → Option Str) =>
    (idx marked1 x11).bind fun e17 =>
    bif e17 then
    (app l9 [UInt8.ofInt x11]).bind fun l24 =>
    kj15 l24
    else
    kj15 l9
    else
    kj7 l9

def i_ascending (N : Nat) (marked1 : List Bool) : Option Str :=
  withK (fun (l5 : List UInt8) =>
  some l5) fun (kj7 : (List UInt8) → Option Str) =>
  i_ascending_l1 kj7 marked1 N [] 0

def i_MovedLetters_l2 (kj20 : (List Bool) → Option (Str × Int)) (b4 : Layout) (x17 : Int) (e22 : Str) : Nat → (List Bool) → Int → Option (Str × Int)
  | 0, _, _ => none
  | N + 1, l27, x28 =>
    bif decide (x28 < (List.length e22 : Int)) then
    (idx e22 x28).bind fun c30 =>
    (idx b4.rows x17).bind fun e32 =>
    (idx e32 x28).bind fun c37 =>
    (idx e22 x28).bind fun c39 =>
    (idx l27 (UInt8.toNat c30 : Int)).bind fun e41 =>
    i_MovedLetters_l2 kj20 b4 x17 e22 N (List.set l27 (Int.toNat (UInt8.toNat c30 : Int)) (c37 != c39)) (w64 (x28 + 1))
    else
    kj20 l27

def i_MovedLetters_l1 (kj14 : (List Bool) → Option (Str × Int)) (a1 : Layout) (b4 : Layout) : Nat → (List Bool) → Int → Option (Str × Int)
  | 0, _, _ => none
  | N + 1, l16, x17 =>
    bif decide (x17 < (List.length a1.rows : Int)) then
    withK (fun (l19 : List Bool) =>
    i_MovedLetters_l1 kj14 a1 b4 N l19 (w64 (x17 + 1))) fun (kj20 : (List Bool) → Option (Str × Int)) =>
    (idx a1.rows x17).bind fun e22 =>
    i_MovedLetters_l2 kj20 b4 x17 e22 N l16 0
    else
    kj14 l16

def i_MovedLetters (N : Nat) (a1 : Layout) (b4 : Layout) : Option (Str × Int) :=
  (i_compareCode N (Layout.mk a1.rows) (Layout.mk b4.rows)).bind fun r9 =>
  bif (r9 != 0) then
  some ([], r9)
  else
  withK (fun (l13 : List Bool) =>
  (i_ascending N l13).bind fun r43 =>
  some (r43, 0)) fun (kj14 : (List Bool) → Option (Str × Int)) =>
  i_MovedLetters_l1 kj14 a1 b4 N (List.replicate 256 false) 0

def s_l02PutLetter_l1 (kj4 : Int → Option Str) (list1 : Str) (letter2 : Str) : Nat → Int → Option Str
  | 0, _ => none
  | N + 1, k6 =>
    (andO (decide (k6 < (List.length list1 : Int))) ((idx list1 k6).bind fun c10 =>
    (idx letter2 0).bind fun c12 =>
    some (decide (c10 < c12)))).bind fun t7 =>
    bif t7 then
    s_l02PutLetter_l1 kj4 list1 letter2 N (w64 (k6 + 1))
    else
    kj4 k6

def s_l02PutLetter (N : Nat) (list1 : Str) (letter2 : Str) : Option Str :=
  withK (fun (k3 : Int) =>
  (andO (decide (k3 < (List.length list1 : Int))) ((idx list1 k3).bind fun c18 =>
  (idx letter2 0).bind fun c20 =>
  some (c18 == c20))).bind fun t15 =>
  bif t15 then
  some list1
  else
  (sub list1 0 k3).bind fun s23 =>
  (cat s23 letter2).bind fun s25 =>
  (sub list1 k3 (List.length list1 : Int)).bind fun s27 =>
  (cat s25 s27).bind fun s29 =>
  some s29) fun (kj4 : Int → Option Str) =>
  s_l02PutLetter_l1 kj4 list1 letter2 N 0

def s_MovedLetters_l2 (kj19 : Str → Option (Str × Int)) (a1 : Layout) (b4 : Layout) (r16 : Int) : Nat → Str → Int → Option (Str × Int)
  | 0, _, _ => none
  | N + 1, out21, c22 =>
    (idx a1.rows r16).bind fun e23 =>
    bif decide (c22 < (List.length e23 : Int)) then
    withK (fun (out29 : Str) =>
    s_MovedLetters_l2 kj19 a1 b4 r16 N out29 (w64 (c22 + 1))) fun (kj30 : Str → Option (Str × Int)) =>
    (idx a1.rows r16).bind fun e32 =>
    (idx e32 c22).bind fun c37 =>
    (idx b4.rows r16).bind fun e39 =>
    (idx e39 c22).bind fun c44 =>
    bif (c37 != c44) then
    (idx a1.rows r16).bind fun e47 =>
    (sub e47 c22 (w64 (c22 + 1))).bind fun s52 =>
    (s_l02PutLetter N out21 s52).bind fun r54 =>
    kj30 r54
    else
    kj30 out21
    else
    kj19 out21

def s_MovedLetters_l1 (kj13 : Str → Option (Str × Int)) (a1 : Layout) (b4 : Layout) : Nat → Str → Int → Option (Str × Int)
  | 0, _, _ => none
  | N + 1, out15, r16 =>
    bif decide (r16 < (List.length a1.rows : Int)) then
    withK (fun (out18 : Str) =>
    s_MovedLetters_l1 kj13 a1 b4 N out18 (w64 (r16 + 1))) fun (kj19 : Str → Option (Str × Int)) =>
    s_MovedLetters_l2 kj19 a1 b4 r16 N out15 0
    else
    kj13 out15

def s_MovedLetters (N : Nat) (a1 : Layout) (b4 : Layout) : Option (Str × Int) :=
  (s_l06Both N (Layout.mk a1.rows) (Layout.mk b4.rows)).bind fun r9 =>
  bif (r9 != 0) then
  some ([], r9)
  else
  withK (fun (out12 : Str) =>
  some (out12, 0)) fun (kj13 : Str → Option (Str × Int)) =>
  s_MovedLetters_l1 kj13 a1 b4 N [] 0

def i_absolute (n1 : Int) : Option Int :=
  bif decide (n1 < 0) then
  some (w64 (0 - n1))
  else
  some n1

def i_DistanceOf_l2 (kj19 : Int → Option (Int × Int)) (b4 : Layout) (x16 : Int) (e21 : Str) : Nat → Int → Int → Option (Int × Int)
  | 0, _, _ => none
  | N + 1, sum26, x27 =>
    bif decide (x27 < (List.length e21 : Int)) then
    (idx e21 x27).bind fun c29 =>
    (i_Layout_spot N (Layout.mk b4.rows) c29).bind fun r31 =>
    (i_absolute (w64 (r31.1 - x16))).bind fun r33 =>
    (i_absolute (w64 (r31.2.1 - x27))).bind fun r35 =>
    i_DistanceOf_l2 kj19 b4 x16 e21 N (w64 (sum26 + (w64 (r33 + r35)))) (w64 (x27 + 1))
    else
    kj19 sum26

def i_DistanceOf_l1 (kj13 : Int → Option (Int × Int)) (a1 : Layout) (b4 : Layout) : Nat → Int → Int → Option (Int × Int)
  | 0, _, _ => none
  | N + 1, sum15, x16 =>
    bif decide (x16 < (List.length a1.rows : Int)) then
    withK (fun (sum18 : Int) =>
    i_DistanceOf_l1 kj13 a1 b4 N sum18 (w64 (x16 + 1))) fun (kj19 : Int → Option (Int × Int)) =>
    (idx a1.rows x16).bind fun e21 =>
    i_DistanceOf_l2 kj19 b4 x16 e21 N sum15 0
    else
    kj13 sum15

def i_DistanceOf (N : Nat) (a1 : Layout) (b4 : Layout) : Option (Int × Int) :=
  (i_compareCode N (Layout.mk a1.rows) (Layout.mk b4.rows)).bind fun r9 =>
  bif (r9 != 0) then
  some (0, r9)
  else
  withK (fun (sum12 : Int) =>
  some (sum12, 0)) fun (kj13 : Int → Option (Int × Int)) =>
  i_DistanceOf_l1 kj13 a1 b4 N 0 0

def s_l00Size (n1 : Int) : Option Int :=
  bif decide (n1 < 0) then
  some (w64 (0 - n1))
  else
  some n1

def s_DistanceOf_l2 (kj19 : Int → Option (Int × Int)) (a1 : Layout) (b4 : Layout) (r16 : Int) : Nat → Int → Int → Option (Int × Int)
  | 0, _, _ => none
  | N + 1, sum21, c22 =>
    (idx a1.rows r16).bind fun e23 =>
    bif decide (c22 < (List.length e23 : Int)) then
    (idx a1.rows r16).bind fun e29 =>
    (idx e29 c22).bind fun c34 =>
    (s_l06At N b4.rows c34).bind fun r36 =>
    (s_l00Size (w64 (r36.1 - r16))).bind fun r38 =>
    (s_l00Size (w64 (r36.2 - c22))).bind fun r40 =>
    s_DistanceOf_l2 kj19 a1 b4 r16 N (w64 (sum21 + (w64 (r38 + r40)))) (w64 (c22 + 1))
    else
    kj19 sum21

def s_DistanceOf_l1 (kj13 : Int → Option (Int × Int)) (a1 : Layout) (b4 : Layout) : Nat → Int → Int → Option (Int × Int)
  | 0, _, _ => none
  | N + 1, sum15, r16 =>
    bif decide (r16 < (List.length a1.rows : Int)) then
    withK (fun (sum18 : Int) =>
    s_DistanceOf_l1 kj13 a1 b4 N sum18 (w64 (r16 + 1))) fun (kj19 : Int → Option (Int × Int)) =>
    s_DistanceOf_l2 kj19 a1 b4 r16 N sum15 0
    else
    kj13 sum15

def s_DistanceOf (N : Nat) (a1 : Layout) (b4 : Layout) : Option (Int × Int) :=
  (s_l06Both N (Layout.mk a1.rows) (Layout.mk b4.rows)).bind fun r9 =>
  bif (r9 != 0) then
  some (0, r9)
  else
  withK (fun (sum12 : Int) =>
  some (sum12, 0)) fun (kj13 : Int → Option (Int × Int)) =>
  s_DistanceOf_l1 kj13 a1 b4 N 0 0

def w_f6texts_l1 (kj8 : Option Bool) (a1 : List Str) (b4 : List Str) : Nat → Int → Option Bool
  | 0, _ => none
  | N + 1, i10 =>
    bif decide (i10 < (List.length a1 : Int)) then
    (idx a1 i10).bind fun e12 =>
    (idx b4 i10).bind fun e17 =>
    bif (e12 != e17) then
    some false
    else
    w_f6texts_l1 kj8 a1 b4 N (w64 (i10 + 1))
    else
    kj8 

def w_f6texts (N : Nat) (a1 : List Str) (b4 : List Str) : Option Bool :=
  bif ((List.length a1 : Int) != (List.length b4 : Int)) then
  some false
  else
  withK (some true) fun (kj8 : Option Bool) =>
  w_f6texts_l1 kj8 a1 b4 N 0

def i_SameLayout_l1 (kj10 : Option Bool) (a1 : Layout) (b4 : Layout) : Nat → Int → Option Bool
  | 0, _ => none
  | N + 1, x12 =>
    bif decide (x12 < (List.length a1.rows : Int)) then
    (idx a1.rows x12).bind fun e14 =>
    (idx b4.rows x12).bind fun e19 =>
    bif (e14 != e19) then
    some false
    else
    i_SameLayout_l1 kj10 a1 b4 N (w64 (x12 + 1))
    else
    kj10 

def i_SameLayout (N : Nat) (a1 : Layout) (b4 : Layout) : Option Bool :=
  bif ((List.length a1.rows : Int) != (List.length b4.rows : Int)) then
  some false
  else
  withK (some true) fun (kj10 : Option Bool) =>
  i_SameLayout_l1 kj10 a1 b4 N 0

def s_SameLayout_l1 (kj10 : Option Bool) (a1 : Layout) (b4 : Layout) : Nat → Int → Option Bool
  | 0, _ => none
  | N + 1, i12 =>
    bif decide (i12 < (List.length a1.rows : Int)) then
    (idx a1.rows i12).bind fun e14 =>
    (idx b4.rows i12).bind fun e19 =>
    bif (e14 != e19) then
    some false
    else
    s_SameLayout_l1 kj10 a1 b4 N (w64 (i12 + 1))
    else
    kj10 

def s_SameLayout (N : Nat) (a1 : Layout) (b4 : Layout) : Option Bool :=
  bif ((List.length a1.rows : Int) != (List.length b4.rows : Int)) then
  some false
  else
  withK (some true) fun (kj10 : Option Bool) =>
  s_SameLayout_l1 kj10 a1 b4 N 0

def s_ExchangeLetters (N : Nat) (x1 : Layout) (a4 : Str) (b5 : Str) : Option (Layout × Int) :=
  (s_l06Ok N (Layout.mk x1.rows)).bind fun r8 =>
  bif !r8 then
  some ((Layout.mk []), 1)
  else
  (s_l02Letter a4).bind fun r11 =>
  (orO (!r11) ((s_l02Letter b5).bind fun r16 =>
  some (!r16))).bind fun t13 =>
  bif t13 then
  some ((Layout.mk []), 2)
  else
  (idx a4 0).bind fun c19 =>
  (s_l06At N x1.rows c19).bind fun r21 =>
  (idx b5 0).bind fun c23 =>
  (s_l06At N x1.rows c23).bind fun r25 =>
  (orO (decide (r21.1 < 0)) (some (decide (r25.1 < 0)))).bind fun t27 =>
  bif t27 then
  some ((Layout.mk []), 3)
  else
  (idx a4 0).bind fun c31 =>
  (idx b5 0).bind fun c33 =>
  (s_l06Change N (Layout.mk x1.rows) c31 c33).bind fun r35 =>
  some ((Layout.mk r35.rows), 0)

def w_FnExchanges_l1 (kj85 : (List Str) → Option Bool) (r18 : (List Str) × Int) : Nat → (List Str) → Int → Option Bool
  | 0, _, _ => none
  | N + 1, l87, i89 =>
    bif decide (i89 < (List.length r18.1 : Int)) then
    (idx r18.1 i89).bind fun e91 =>
    bif ((List.length e91 : Int) != 2) then
    some false
    else
    (idx r18.1 i89).bind fun e94 =>
    (sub e94 0 1).bind fun s96 =>
    (idx r18.1 i89).bind fun e98 =>
    (sub e98 1 (List.length e98 : Int)).bind fun s100 =>
    (s_ExchangeLetters N (Layout.mk l87) s96 s100).bind fun r102 =>
    bif (r102.2 != 0) then
    some false
    else
    w_FnExchanges_l1 kj85 r18 N r102.1.rows (w64 (i89 + 1))
    else
    kj85 l87

def w_FnExchanges (N : Nat) (code1 : List UInt8) : Option Bool :=
  (w_f6big code1).bind fun r4 =>
  bif r4 then
  some true
  else
  (s_DrawExchangePlan N code1).bind fun r7 =>
  (i_ExchangePlan N (Layout.mk r7.1.rows) (Layout.mk r7.2.rows)).bind fun r15 =>
  (s_ExchangePlan N (Layout.mk r7.1.rows) (Layout.mk r7.2.rows)).bind fun r18 =>
  (i_FewestExchanges N (Layout.mk r7.1.rows) (Layout.mk r7.2.rows)).bind fun r21 =>
  (s_FewestExchanges N (Layout.mk r7.1.rows) (Layout.mk r7.2.rows)).bind fun r23 =>
  (i_MovedLetters N (Layout.mk r7.1.rows) (Layout.mk r7.2.rows)).bind fun r25 =>
  (s_MovedLetters N (Layout.mk r7.1.rows) (Layout.mk r7.2.rows)).bind fun r27 =>
  (i_DistanceOf N (Layout.mk r7.1.rows) (Layout.mk r7.2.rows)).bind fun r29 =>
  (s_DistanceOf N (Layout.mk r7.1.rows) (Layout.mk r7.2.rows)).bind fun r31 =>
  (orO (r15.2 != r18.2) ((w_f6texts N r15.1 r18.1).bind fun r36 =>
  some (!r36))).bind fun t33 =>
  (orO t33 (some (r21.2 != r23.2))).bind fun t38 =>
  (orO t38 (some (r21.1 != r23.1))).bind fun t41 =>
  (orO t41 (some (r25.2 != r27.2))).bind fun t44 =>
  (orO t44 (some (r25.1 != r27.1))).bind fun t47 =>
  (orO t47 (some (r29.2 != r31.2))).bind fun t50 =>
  (orO t50 (some (r29.1 != r31.1))).bind fun t53 =>
  (orO t53 ((i_SameLayout N (Layout.mk r7.1.rows) (Layout.mk r7.2.rows)).bind fun r59 =>
  (s_SameLayout N (Layout.mk r7.1.rows) (Layout.mk r7.2.rows)).bind fun r61 =>
  some (r59 != r61))).bind fun t56 =>
  bif t56 then
  some false
  else
  bif (r15.2 != 0) then
  some true
  else
  (orO ((List.length r18.1 : Int) != r21.1) (some ((r21.1 == 0) != (r25.1 == [])))).bind fun t65 =>
  (orO t65 ((andO (decide (r21.1 > 0)) (some (decide (r21.1 ≥ (List.length r25.1 : Int))))).bind fun t71 =>
  some t71)).bind fun t68 =>
  (orO t68 (some (decide ((w64 (2 * r21.1)) < (List.length r25.1 : Int))))).bind fun t74 =>
  (orO t74 (some ((r29.1 == 0) != (r21.1 == 0)))).bind fun t77 =>
  bif t77 then
  some false
  else
  withK (fun (l83 : List Str) =>
  (s_SameLayout N (Layout.mk l83) (Layout.mk r7.2.rows)).bind fun r110 =>
  some r110) fun (kj85 : (List Str) → Option Bool) =>
  w_FnExchanges_l1 kj85 r18 N r7.1.rows 0

end Go.Proofs.Ytllaacpkpofbiaa
