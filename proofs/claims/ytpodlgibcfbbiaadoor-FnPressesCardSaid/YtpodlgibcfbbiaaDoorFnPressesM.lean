/-
  Plain functions that compute what the Go functions compute. No conditions.
-/
import Derived.Test.YtpodlgibcfbbiaaDoorBase
namespace Go.Proofs.YtpodlgibcfbbiaaDoor
set_option linter.unusedVariables false
set_option linter.unusedSimpArgs false

structure Key where
  low : Str
  high : Str
  dead : Bool

def Key.beq (x y : Key) : Bool := x.low == y.low && (x.high == y.high && (x.dead == y.dead))

structure Accent where
  mark : Str
  letter : Str
  made : Str

def Accent.beq (x y : Accent) : Bool := x.mark == y.mark && (x.letter == y.letter && (x.made == y.made))

structure L00Src where
  code : List UInt8
  at_ : Int
  seed : Int

structure Press where
  key : Int
  shift : Bool

def Press.beq (x y : Press) : Bool := x.key == y.key && (x.shift == y.shift)



def w_f6big (code1 : List UInt8) : Option Bool :=
  some (decide ((List.length code1 : Int) > 4096))

def s_l00From (code1 : List UInt8) : Option L00Src :=
  some (L00Src.mk code1 0 0)

def s_l00Src_next (s1 : L00Src) : Option (Int × L00Src) :=
  withK (fun (b5 : Int) =>
  bif decide ((w64 (s1.at_ + 1)) ≤ (List.length s1.code : Int)) then
  some (b5, (L00Src.mk s1.code (w64 (s1.at_ + 1)) (IntKind.u64.wrap ((IntKind.u64.wrap ((IntKind.u64.wrap (s1.seed * 6364136223846793005)) + (IntKind.u64.wrap b5))) + 1442695040888963407))))
  else
  some (w64 (uand (ushr (IntKind.u64.wrap ((IntKind.u64.wrap ((IntKind.u64.wrap (s1.seed * 6364136223846793005)) + (IntKind.u64.wrap b5))) + 1442695040888963407)) 40) 255), (L00Src.mk s1.code (w64 (s1.at_ + 1)) (IntKind.u64.wrap ((IntKind.u64.wrap ((IntKind.u64.wrap (s1.seed * 6364136223846793005)) + (IntKind.u64.wrap b5))) + 1442695040888963407))))) fun (kj6 : Int → Option (Int × L00Src)) =>
  bif decide (s1.at_ < (List.length s1.code : Int)) then
  (idx s1.code s1.at_).bind fun e9 =>
  kj6 (UInt8.toNat e9 : Int)
  else
  kj6 0

def s_l00Src_pick (s1 : L00Src) (n5 : Int) : Option (Int × L00Src) :=
  bif decide (n5 ≤ 1) then
  some (0, (L00Src.mk s1.code s1.at_ s1.seed))
  else
  (s_l00Src_next (L00Src.mk s1.code s1.at_ s1.seed)).bind fun r7 =>
  withK (fun (x9 : Int) (x10 : Int) (x11 : Int) =>
  (remO x11 n5).bind fun q17 =>
  some (q17, (L00Src.mk s1.code x9 x10))) fun (kj12 : Int → Int → Int → Option (Int × L00Src)) =>
  bif decide (n5 > 200) then
  (s_l00Src_next (L00Src.mk s1.code r7.2.at_ r7.2.seed)).bind fun r15 =>
  kj12 r15.2.at_ r15.2.seed (w64 ((w64 (r7.1 * 256)) + r15.1))
  else
  kj12 r7.2.at_ r7.2.seed r7.1

def s_l00Src_one (s1 : L00Src) (n5 : Int) : Option (Bool × L00Src) :=
  (s_l00Src_pick (L00Src.mk s1.code s1.at_ s1.seed) n5).bind fun r6 =>
  some ((r6.1 == 0), (L00Src.mk s1.code r6.2.at_ r6.2.seed))

def s_l00Src_text (s1 : L00Src) (list5 : List Str) : Option (Str × L00Src) :=
  (s_l00Src_pick (L00Src.mk s1.code s1.at_ s1.seed) (List.length list5 : Int)).bind fun r8 =>
  (idx list5 r8.1).bind fun e10 =>
  some (e10, (L00Src.mk s1.code r8.2.at_ r8.2.seed))

def s_l02Find_l1 (kj5 : Option (Int × Bool)) (keys1 : List Key) (letter4 : Str) : Nat → Int → Option (Int × Bool)
  | 0, _ => none
  | N + 1, i7 =>
    bif decide (i7 < (List.length keys1 : Int)) then
    (idx keys1 i7).bind fun e9 =>
    bif (e9.low == letter4) then
    some (i7, false)
    else
    (idx keys1 i7).bind fun e15 =>
    bif (e15.high == letter4) then
    some (i7, true)
    else
    s_l02Find_l1 kj5 keys1 letter4 N (w64 (i7 + 1))
    else
    kj5 

def s_l02Find (N : Nat) (keys1 : List Key) (letter4 : Str) : Option (Int × Bool) :=
  withK (some ((-1), false)) fun (kj5 : Option (Int × Bool)) =>
  s_l02Find_l1 kj5 keys1 letter4 N 0

def s_l02Letter (s1 : Str) : Option Bool :=
  (andO ((List.length s1 : Int) == 1) ((idx s1 0).bind fun c5 =>
  some (decide (c5 > (32 : UInt8))))).bind fun t2 =>
  (andO t2 ((idx s1 0).bind fun c10 =>
  some (decide (c10 < (127 : UInt8))))).bind fun t7 =>
  some t7

def s_l02Accent (N : Nat) (keys1 : List Key) (a4 : Accent) : Option Bool :=
  (s_l02Find N keys1 a4.mark).bind fun r7 =>
  (s_l02Find N keys1 a4.letter).bind fun r9 =>
  (s_l02Find N keys1 a4.made).bind fun r11 =>
  (andO (decide (r7.1 ≥ 0)) ((idx keys1 r7.1).bind fun e16 =>
  some e16.dead)).bind fun t13 =>
  (andO t13 (some (decide (r9.1 ≥ 0)))).bind fun t21 =>
  (andO t21 ((idx keys1 r9.1).bind fun e27 =>
  some (!e27.dead))).bind fun t24 =>
  (andO t24 (some (decide (r11.1 < 0)))).bind fun t32 =>
  (andO t32 ((s_l02Letter a4.made).bind fun r38 =>
  some r38)).bind fun t35 =>
  some t35

def s_l02Ok_l1 (kj7 : Option Bool) (keys1 : List Key) : Nat → Int → Option Bool
  | 0, _ => none
  | N + 1, i9 =>
    bif decide (i9 < (List.length keys1 : Int)) then
    (idx keys1 i9).bind fun e11 =>
    (s_l02Letter e11.low).bind fun r16 =>
    (orO (!r16) ((s_l02Letter e11.high).bind fun r21 =>
    some (!r21))).bind fun t18 =>
    (orO t18 (some (e11.low == e11.high))).bind fun t23 =>
    bif t23 then
    some false
    else
    (sub keys1 0 i9).bind fun l27 =>
    (s_l02Find N l27 e11.low).bind fun r32 =>
    (sub keys1 0 i9).bind fun l34 =>
    (s_l02Find N l34 e11.high).bind fun r39 =>
    (orO (decide (r32.1 ≥ 0)) (some (decide (r39.1 ≥ 0)))).bind fun t41 =>
    bif t41 then
    some false
    else
    s_l02Ok_l1 kj7 keys1 N (w64 (i9 + 1))
    else
    kj7 

def s_l02Ok_l3 (kj49 : Option Bool) (accents4 : List Accent) (i47 : Int) : Nat → Int → Option Bool
  | 0, _ => none
  | N + 1, k59 =>
    bif decide (k59 < i47) then
    (idx accents4 k59).bind fun e61 =>
    (idx accents4 i47).bind fun e66 =>
    (orO (e61.made == e66.made) ((idx accents4 k59).bind fun e74 =>
    (idx accents4 i47).bind fun e79 =>
    (andO (e74.mark == e79.mark) ((idx accents4 k59).bind fun e87 =>
    (idx accents4 i47).bind fun e92 =>
    some (e87.letter == e92.letter))).bind fun t84 =>
    some t84)).bind fun t71 =>
    bif t71 then
    some false
    else
    s_l02Ok_l3 kj49 accents4 i47 N (w64 (k59 + 1))
    else
    kj49 

def s_l02Ok_l2 (kj45 : Option Bool) (keys1 : List Key) (accents4 : List Accent) : Nat → Int → Option Bool
  | 0, _ => none
  | N + 1, i47 =>
    bif decide (i47 < (List.length accents4 : Int)) then
    withK (s_l02Ok_l2 kj45 keys1 accents4 N (w64 (i47 + 1))) fun (kj49 : Option Bool) =>
    (idx accents4 i47).bind fun e51 =>
    (s_l02Accent N keys1 e51).bind fun r56 =>
    bif !r56 then
    some false
    else
    s_l02Ok_l3 kj49 accents4 i47 N 0
    else
    kj45 

def s_l02Ok (N : Nat) (keys1 : List Key) (accents4 : List Accent) : Option Bool :=
  withK (withK ((andO (decide ((List.length keys1 : Int) ≤ 40)) (some (decide ((List.length accents4 : Int) ≤ 20)))).bind fun t98 =>
  some t98) fun (kj45 : Option Bool) =>
  s_l02Ok_l2 kj45 keys1 accents4 N 0) fun (kj7 : Option Bool) =>
  s_l02Ok_l1 kj7 keys1 N 0

def s_l02Draw_l1 (kj10 : (List Key) → Int → Int → Option ((List Key) × (List Accent) × L00Src)) (s1 : L00Src) : Nat → (List Key) → Int → Int → Int → Option ((List Key) × (List Accent) × L00Src)
  | 0, _, _, _, _ => none
  | N + 1, l12, x14, x15, i16 =>
    bif decide (i16 < (List.length [97, 98, 99, 100, 101, 102, 103, 104] : Int)) then
    withK (fun (x18 : Int) (x19 : Int) (l20 : List Key) =>
    s_l02Draw_l1 kj10 s1 N l20 x18 x19 (w64 (i16 + 1))) fun (kj22 : Int → Int → (List Key) → Option ((List Key) × (List Accent) × L00Src)) =>
    (s_l00Src_one (L00Src.mk s1.code x14 x15) 4).bind fun r24 =>
    bif r24.1 then
    kj22 r24.2.at_ r24.2.seed l12
    else
    (sub [97, 98, 99, 100, 101, 102, 103, 104] i16 (w64 (i16 + 1))).bind fun s27 =>
    (sub [65, 66, 67, 68, 69, 70, 71, 72] i16 (w64 (i16 + 1))).bind fun s29 =>
    (app l12 [(Key.mk s27 s29 false)]).bind fun l32 =>
    kj22 r24.2.at_ r24.2.seed l32
    else
    kj10 l12 x14 x15

def s_l02Draw_l2 (kj53 : (List Accent) → Int → Int → Option ((List Key) × (List Accent) × L00Src)) (s1 : L00Src) (l37 : List Key) : Nat → (List Accent) → Int → Int → Int → Option ((List Key) × (List Accent) × L00Src)
  | 0, _, _, _, _ => none
  | N + 1, l55, x57, x58, i59 =>
    bif decide (i59 < (List.length [49, 50, 51, 52, 53, 54] : Int)) then
    withK (fun (x61 : Int) (x62 : Int) (l63 : List Accent) =>
    s_l02Draw_l2 kj53 s1 l37 N l63 x61 x62 (w64 (i59 + 1))) fun (kj65 : Int → Int → (List Accent) → Option ((List Key) × (List Accent) × L00Src)) =>
    (s_l00Src_text (L00Src.mk s1.code x57 x58) [[39], [96]]).bind fun r68 =>
    (sub [49, 50, 51, 52, 53, 54] i59 (w64 (i59 + 1))).bind fun s70 =>
    (s_l00Src_pick (L00Src.mk s1.code r68.2.at_ r68.2.seed) (List.length [97, 98, 99, 100, 101, 102, 103, 104] : Int)).bind fun r74 =>
    (sub [97, 98, 99, 100, 101, 102, 103, 104] r74.1 (w64 (r74.1 + 1))).bind fun s76 =>
    (s_l02Accent N l37 (Accent.mk ((Accent.mk r68.1 [] s70).mark) s76 ((Accent.mk r68.1 [] s70).made))).bind fun r78 =>
    (andO r78 ((app [] l55).bind fun l84 =>
    (app l84 [(Accent.mk ((Accent.mk r68.1 [] s70).mark) s76 ((Accent.mk r68.1 [] s70).made))]).bind fun l88 =>
    (s_l02Ok N l37 l88).bind fun r91 =>
    some r91)).bind fun t80 =>
    bif t80 then
    (app l55 [(Accent.mk ((Accent.mk r68.1 [] s70).mark) s76 ((Accent.mk r68.1 [] s70).made))]).bind fun l96 =>
    kj65 r74.2.at_ r74.2.seed l96
    else
    kj65 r74.2.at_ r74.2.seed l55
    else
    kj53 l55 x57 x58

def s_l02Draw (N : Nat) (s1 : L00Src) : Option ((List Key) × (List Accent) × L00Src) :=
  withK (fun (l6 : List Key) (x8 : Int) (x9 : Int) =>
  withK (fun (x35 : Int) (x36 : Int) (l37 : List Key) =>
  withK (fun (l49 : List Accent) (x51 : Int) (x52 : Int) =>
  some (l37, l49, (L00Src.mk s1.code x51 x52))) fun (kj53 : (List Accent) → Int → Int → Option ((List Key) × (List Accent) × L00Src)) =>
  s_l02Draw_l2 kj53 s1 l37 N [] x35 x36 0) fun (kj39 : Int → Int → (List Key) → Option ((List Key) × (List Accent) × L00Src)) =>
  (s_l00Src_one (L00Src.mk s1.code x8 x9) 2).bind fun r41 =>
  bif r41.1 then
  (app l6 [(Key.mk [39] [96] true)]).bind fun l45 =>
  kj39 r41.2.at_ r41.2.seed l45
  else
  kj39 r41.2.at_ r41.2.seed l6) fun (kj10 : (List Key) → Int → Int → Option ((List Key) × (List Accent) × L00Src)) =>
  s_l02Draw_l1 kj10 s1 N [] s1.at_ s1.seed 0

def s_l02Bent_l1 (kj55 : Int → Int → (List Key) → Option ((List Key) × (List Accent) × L00Src)) (r57 : Int × L00Src) : Nat → (List Key) → Int → Option ((List Key) × (List Accent) × L00Src)
  | 0, _, _ => none
  | N + 1, l59, k61 =>
    bif decide (k61 > 0) then
    (app l59 [(Key.mk [(33 : UInt8) + ((2 : UInt8) * (UInt8.ofInt (List.length l59 : Int)))] [((33 : UInt8) + ((2 : UInt8) * (UInt8.ofInt (List.length l59 : Int)))) + (1 : UInt8)] false)]).bind fun l66 =>
    s_l02Bent_l1 kj55 r57 N l66 (w64 (k61 - 1))
    else
    kj55 r57.2.at_ r57.2.seed l59

def s_l02Bent_l2 (kj74 : (List Key) → Option ((List Key) × (List Accent) × L00Src)) : Nat → (List Key) → Int → Option ((List Key) × (List Accent) × L00Src)
  | 0, _, _ => none
  | N + 1, l76, i78 =>
    bif decide (i78 < 6) then
    (app l76 [(Key.mk [(99 : UInt8) + ((2 : UInt8) * (UInt8.ofInt i78))] [((99 : UInt8) + ((2 : UInt8) * (UInt8.ofInt i78))) + (1 : UInt8)] false)]).bind fun l83 =>
    s_l02Bent_l2 kj74 N l83 (w64 (i78 + 1))
    else
    kj74 l76

def s_l02Bent_l3 (kj15 : Int → Int → (List Key) → (List Accent) → Option ((List Key) × (List Accent) × L00Src)) (l72 : List Key) (r87 : Int × L00Src) : Nat → (List Accent) → Int → Option ((List Key) × (List Accent) × L00Src)
  | 0, _, _ => none
  | N + 1, l89, k91 =>
    bif decide (k91 > 0) then
    (sub [39, 96, 94, 126] (w64 (Int.tdiv (List.length l89 : Int) 6)) (w64 ((w64 (Int.tdiv (List.length l89 : Int) 6)) + 1))).bind fun s93 =>
    (idx l72 (w64 (4 + (Int.tmod (List.length l89 : Int) 6)))).bind fun e98 =>
    (app l89 [(Accent.mk ((Accent.mk s93 [] [(67 : UInt8) + (UInt8.ofInt (List.length l89 : Int))]).mark) e98.low ((Accent.mk s93 [] [(67 : UInt8) + (UInt8.ofInt (List.length l89 : Int))]).made))]).bind fun l101 =>
    s_l02Bent_l3 kj15 l72 r87 N l101 (w64 (k91 - 1))
    else
    kj15 r87.2.at_ r87.2.seed l72 l89

def s_l02Bent (N : Nat) (s1 : L00Src) : Option ((List Key) × (List Accent) × L00Src) :=
  (s_l02Draw N (L00Src.mk s1.code s1.at_ s1.seed)).bind fun r5 =>
  withK (fun (x9 : Int) (x10 : Int) (l11 : List Key) (l13 : List Accent) =>
  some (l11, l13, (L00Src.mk s1.code x9 x10))) fun (kj15 : Int → Int → (List Key) → (List Accent) → Option ((List Key) × (List Accent) × L00Src)) =>
  (s_l00Src_pick (L00Src.mk s1.code r5.2.2.at_ r5.2.2.seed) 24).bind fun r17 =>
  bif (r17.1 == 0) then
  (s_l00Src_text (L00Src.mk s1.code r17.2.at_ r17.2.seed) [[], [97], [120], [32]]).bind fun r21 =>
  (app r5.1 [(Key.mk r21.1 [121] false)]).bind fun l24 =>
  kj15 r21.2.at_ r21.2.seed l24 r5.2.1
  else
  bif (r17.1 == 1) then
  (s_l00Src_text (L00Src.mk s1.code r17.2.at_ r17.2.seed) [[120], [120, 121], [65], [122]]).bind fun r29 =>
  (app r5.1 [(Key.mk [120] r29.1 false)]).bind fun l32 =>
  kj15 r29.2.at_ r29.2.seed l32 r5.2.1
  else
  bif (r17.1 == 2) then
  (s_l00Src_text (L00Src.mk s1.code r17.2.at_ r17.2.seed) [[39], [97]]).bind fun r37 =>
  (s_l00Src_text (L00Src.mk s1.code r37.2.at_ r37.2.seed) [[98], [39], [122]]).bind fun r40 =>
  (s_l00Src_text (L00Src.mk s1.code r40.2.at_ r40.2.seed) [[57], [97], [49]]).bind fun r43 =>
  (app r5.2.1 [(Accent.mk r37.1 r40.1 r43.1)]).bind fun l46 =>
  kj15 r43.2.at_ r43.2.seed r5.1 l46
  else
  bif (r17.1 == 3) then
  withK (fun (x51 : Int) (x52 : Int) (l53 : List Key) =>
  kj15 x51 x52 l53 []) fun (kj55 : Int → Int → (List Key) → Option ((List Key) × (List Accent) × L00Src)) =>
  (s_l00Src_pick (L00Src.mk s1.code r17.2.at_ r17.2.seed) 2).bind fun r57 =>
  s_l02Bent_l1 kj55 r57 N [] (w64 (40 + r57.1))
  else
  bif (r17.1 == 4) then
  withK (fun (l72 : List Key) =>
  (s_l00Src_pick (L00Src.mk s1.code r17.2.at_ r17.2.seed) 2).bind fun r87 =>
  s_l02Bent_l3 kj15 l72 r87 N [] (w64 (20 + r87.1))) fun (kj74 : (List Key) → Option ((List Key) × (List Accent) × L00Src)) =>
  s_l02Bent_l2 kj74 N [(Key.mk [97] [65] false), (Key.mk [98] [66] false), (Key.mk [39] [96] true), (Key.mk [94] [126] true)] 0
  else
  kj15 r17.2.at_ r17.2.seed r5.1 r5.2.1

def s_l02PutLetter_l1 (kj4 : Int → Option Str) (list1 : Str) (letter2 : Str) : Nat → Int → Option Str
  | 0, _ => none
  | N + 1, k6 =>
    (andO (decide (k6 < (List.length list1 : Int))) ((idx list1 k6).bind fun c10 =>
    (idx letter2 0).bind fun c12 =>
    some (decide (c10 < c12)))).bind fun t7 =>
    bif t7 then
    s_l02PutLetter_l1 kj4 list1 letter2 N (w64 (k6 + 1))
    else
    kj4 k6

def s_l02PutLetter (N : Nat) (list1 : Str) (letter2 : Str) : Option Str :=
  withK (fun (k3 : Int) =>
  (andO (decide (k3 < (List.length list1 : Int))) ((idx list1 k3).bind fun c18 =>
  (idx letter2 0).bind fun c20 =>
  some (c18 == c20))).bind fun t15 =>
  bif t15 then
  some list1
  else
  (sub list1 0 k3).bind fun s23 =>
  (cat s23 letter2).bind fun s25 =>
  (sub list1 k3 (List.length list1 : Int)).bind fun s27 =>
  (cat s25 s27).bind fun s29 =>
  some s29) fun (kj4 : Int → Option Str) =>
  s_l02PutLetter_l1 kj4 list1 letter2 N 0

def s_LettersOf_l1 (kj11 : Str → Option (Str × Int)) (keys1 : List Key) : Nat → Str → Int → Option (Str × Int)
  | 0, _, _ => none
  | N + 1, out13, i14 =>
    bif decide (i14 < (List.length keys1 : Int)) then
    withK (fun (out16 : Str) =>
    s_LettersOf_l1 kj11 keys1 N out16 (w64 (i14 + 1))) fun (kj17 : Str → Option (Str × Int)) =>
    (idx keys1 i14).bind fun e19 =>
    bif !e19.dead then
    (idx keys1 i14).bind fun e25 =>
    (s_l02PutLetter N out13 e25.low).bind fun r30 =>
    (idx keys1 i14).bind fun e32 =>
    (s_l02PutLetter N r30 e32.high).bind fun r37 =>
    kj17 r37
    else
    kj17 out13
    else
    kj11 out13

def s_LettersOf_l2 (kj40 : Str → Option (Str × Int)) (accents4 : List Accent) : Nat → Str → Int → Option (Str × Int)
  | 0, _, _ => none
  | N + 1, out42, i43 =>
    bif decide (i43 < (List.length accents4 : Int)) then
    (idx accents4 i43).bind fun e45 =>
    (s_l02PutLetter N out42 e45.made).bind fun r50 =>
    s_LettersOf_l2 kj40 accents4 N r50 (w64 (i43 + 1))
    else
    kj40 out42

def s_LettersOf (N : Nat) (keys1 : List Key) (accents4 : List Accent) : Option (Str × Int) :=
  (s_l02Ok N keys1 accents4).bind fun r7 =>
  bif !r7 then
  some ([], 1)
  else
  withK (fun (out10 : Str) =>
  withK (fun (out39 : Str) =>
  some (out39, 0)) fun (kj40 : Str → Option (Str × Int)) =>
  s_LettersOf_l2 kj40 accents4 N out10 0) fun (kj11 : Str → Option (Str × Int)) =>
  s_LettersOf_l1 kj11 keys1 N [] 0

def s_l02DrawText_l1 (kj35 : Int → Int → Str → Option ((List Key) × (List Accent) × Str)) (code1 : List UInt8) (all13 : Str) : Nat → Int → Int → Str → Int → Option ((List Key) × (List Accent) × Str)
  | 0, _, _, _, _ => none
  | N + 1, x37, x38, text39, k40 =>
    bif decide (k40 > 0) then
    (s_l00Src_pick (L00Src.mk code1 x37 x38) (List.length all13 : Int)).bind fun r42 =>
    (sub all13 r42.1 (w64 (r42.1 + 1))).bind fun s44 =>
    (cat text39 s44).bind fun s46 =>
    s_l02DrawText_l1 kj35 code1 all13 N r42.2.at_ r42.2.seed s46 (w64 (k40 - 1))
    else
    kj35 x37 x38 text39

def s_l02DrawText (N : Nat) (code1 : List UInt8) : Option ((List Key) × (List Accent) × Str) :=
  (s_l00From code1).bind fun r4 =>
  (s_l02Bent N (L00Src.mk code1 r4.at_ r4.seed)).bind fun r7 =>
  (s_LettersOf N r7.1 r7.2.1).bind fun r11 =>
  withK (fun (all13 : Str) =>
  (s_l00Src_pick (L00Src.mk code1 r7.2.2.at_ r7.2.2.seed) 14).bind fun r20 =>
  withK (fun (x22 : Int) (x23 : Int) (n24 : Int) =>
  withK (fun (x32 : Int) (x33 : Int) (text34 : Str) =>
  withK (fun (text48 : Str) =>
  some (r7.1, r7.2.1, text48)) fun (kj49 : Str → Option ((List Key) × (List Accent) × Str)) =>
  (s_l00Src_pick (L00Src.mk code1 x32 x33) 10).bind fun r51 =>
  bif (r51.1 == 0) then
  (s_l00Src_text (L00Src.mk code1 r51.2.at_ r51.2.seed) [[122], [32], [127], [39]]).bind fun r55 =>
  (cat text34 r55.1).bind fun s57 =>
  kj49 s57
  else
  kj49 text34) fun (kj35 : Int → Int → Str → Option ((List Key) × (List Accent) × Str)) =>
  s_l02DrawText_l1 kj35 code1 all13 N x22 x23 [] n24) fun (kj25 : Int → Int → Int → Option ((List Key) × (List Accent) × Str)) =>
  (s_l00Src_one (L00Src.mk code1 r20.2.at_ r20.2.seed) 24).bind fun r27 =>
  bif r27.1 then
  (s_l00Src_pick (L00Src.mk code1 r27.2.at_ r27.2.seed) 2).bind fun r30 =>
  kj25 r30.2.at_ r30.2.seed (w64 (100 + r30.1))
  else
  kj25 r27.2.at_ r27.2.seed r20.1) fun (kj14 : Str → Option ((List Key) × (List Accent) × Str)) =>
  (orO (r11.2 != 0) (some (r11.1 == []))).bind fun t16 =>
  bif t16 then
  kj14 [97, 98]
  else
  kj14 r11.1

def s_DrawPressesFor (N : Nat) (code1 : List UInt8) : Option ((List Key) × (List Accent) × Str) :=
  (s_l02DrawText N code1).bind fun r4 =>
  some (r4.1, r4.2.1, r4.2.2)

def i_isText_l1 (kj5 : Option Bool) (s1 : Str) (low2 : UInt8) : Nat → Int → Option Bool
  | 0, _ => none
  | N + 1, x7 =>
    bif decide (x7 < (List.length s1 : Int)) then
    (idx s1 x7).bind fun c9 =>
    (orO (decide (c9 < low2)) ((idx s1 x7).bind fun c14 =>
    some (decide (c14 > (126 : UInt8))))).bind fun t11 =>
    bif t11 then
    some false
    else
    i_isText_l1 kj5 s1 low2 N (w64 (x7 + 1))
    else
    kj5 

def i_isText (N : Nat) (s1 : Str) (low2 : UInt8) (most3 : Int) : Option Bool :=
  bif decide ((List.length s1 : Int) > most3) then
  some false
  else
  withK (some true) fun (kj5 : Option Bool) =>
  i_isText_l1 kj5 s1 low2 N 0

def i_isLetter (N : Nat) (s1 : Str) : Option Bool :=
  (andO ((List.length s1 : Int) == 1) ((i_isText N s1 33 1).bind fun r5 =>
  some r5)).bind fun t2 =>
  some t2

def i_ValidKeys_l2 (kj23 : (List (Str × Bool)) → (List (Str × Bool)) → Option Bool) (e25 : Key) : Nat → (List (Str × Bool)) → (List (Str × Bool)) → Int → Option Bool
  | 0, _, _, _ => none
  | N + 1, mp32, mp33, x34 =>
    bif decide (x34 < (List.length [e25.low, e25.high] : Int)) then
    (idx [e25.low, e25.high] x34).bind fun e36 =>
    (i_isLetter N e36).bind fun r38 =>
    (orO (!r38) (some (mget mp33 e36))).bind fun t40 =>
    bif t40 then
    some false
    else
    i_ValidKeys_l2 kj23 e25 N (mset mp32 e36 e25.dead) (mset mp33 e36 true) (w64 (x34 + 1))
    else
    kj23 mp32 mp33

def i_ValidKeys_l1 (kj15 : (List (Str × Bool)) → (List (Str × Bool)) → Option Bool) (keys1 : List Key) : Nat → (List (Str × Bool)) → (List (Str × Bool)) → Int → Option Bool
  | 0, _, _, _ => none
  | N + 1, mp17, mp18, x19 =>
    bif decide (x19 < (List.length keys1 : Int)) then
    withK (fun (mp21 : List (Str × Bool)) (mp22 : List (Str × Bool)) =>
    i_ValidKeys_l1 kj15 keys1 N mp21 mp22 (w64 (x19 + 1))) fun (kj23 : (List (Str × Bool)) → (List (Str × Bool)) → Option Bool) =>
    (idx keys1 x19).bind fun e25 =>
    i_ValidKeys_l2 kj23 e25 N mp17 mp18 0
    else
    kj15 mp17 mp18

def i_ValidKeys_l3 (kj46 : Option Bool) (accents4 : List Accent) (mp13 : List (Str × Bool)) (mp14 : List (Str × Bool)) : Nat → (List (Str × Bool)) → (List (Str × Bool)) → Int → Option Bool
  | 0, _, _, _ => none
  | N + 1, mp48, mp49, x50 =>
    bif decide (x50 < (List.length accents4 : Int)) then
    (idx accents4 x50).bind fun e52 =>
    (orO (!(mget mp14 e52.mark)) (some (!(mget mp13 e52.mark)))).bind fun t58 =>
    (orO t58 (some (!(mget mp14 e52.letter)))).bind fun t61 =>
    (orO t61 (some (mget mp13 e52.letter))).bind fun t64 =>
    bif t64 then
    some false
    else
    (i_isLetter N e52.made).bind fun r68 =>
    (orO (!r68) (some (mget mp14 e52.made))).bind fun t70 =>
    (orO t70 (some (mget mp49 e52.made))).bind fun t73 =>
    (orO t73 ((cat e52.mark e52.letter).bind fun s79 =>
    some (mget mp48 s79))).bind fun t76 =>
    bif t76 then
    some false
    else
    (cat e52.mark e52.letter).bind fun s82 =>
    i_ValidKeys_l3 kj46 accents4 mp13 mp14 N (mset mp48 s82 true) (mset mp49 e52.made true) (w64 (x50 + 1))
    else
    kj46 

def i_ValidKeys (N : Nat) (keys1 : List Key) (accents4 : List Accent) : Option Bool :=
  (orO (decide ((List.length keys1 : Int) > 40)) (some (decide ((List.length accents4 : Int) > 20)))).bind fun t7 =>
  bif t7 then
  some false
  else
  withK (fun (mp13 : List (Str × Bool)) (mp14 : List (Str × Bool)) =>
  withK (some true) fun (kj46 : Option Bool) =>
  i_ValidKeys_l3 kj46 accents4 mp13 mp14 N [] [] 0) fun (kj15 : (List (Str × Bool)) → (List (Str × Bool)) → Option Bool) =>
  i_ValidKeys_l1 kj15 keys1 N [] [] 0

def i_pressOf_l1 (kj8 : Int → Bool → Option (Press × Bool)) (keys1 : List Key) (letter4 : Str) : Nat → Int → Bool → Int → Option (Press × Bool)
  | 0, _, _, _ => none
  | N + 1, x10, x11, x12 =>
    bif decide (x12 < (List.length keys1 : Int)) then
    (idx keys1 x12).bind fun e14 =>
    (orO (e14.low == letter4) (some (e14.high == letter4))).bind fun t20 =>
    bif t20 then
    some ((Press.mk x12 (e14.high == letter4)), true)
    else
    i_pressOf_l1 kj8 keys1 letter4 N x10 x11 (w64 (x12 + 1))
    else
    kj8 x10 x11

def i_pressOf (N : Nat) (keys1 : List Key) (letter4 : Str) : Option (Press × Bool) :=
  withK (fun (x6 : Int) (x7 : Bool) =>
  some ((Press.mk 0 false), false)) fun (kj8 : Int → Bool → Option (Press × Bool)) =>
  i_pressOf_l1 kj8 keys1 letter4 N 0 false 0

def i_pressesOf_l1 (kj19 : Option (List Press)) (keys1 : List Key) (accents4 : List Accent) (letter7 : Str) : Nat → Int → Option (List Press)
  | 0, _ => none
  | N + 1, x21 =>
    bif decide (x21 < (List.length accents4 : Int)) then
    (idx accents4 x21).bind fun e23 =>
    bif (e23.made == letter7) then
    (i_pressOf N keys1 e23.mark).bind fun r30 =>
    (i_pressOf N keys1 e23.letter).bind fun r33 =>
    some [r30.1, r33.1]
    else
    i_pressesOf_l1 kj19 keys1 accents4 letter7 N (w64 (x21 + 1))
    else
    kj19 

def i_pressesOf (N : Nat) (keys1 : List Key) (accents4 : List Accent) (letter7 : Str) : Option (List Press) :=
  (i_pressOf N keys1 letter7).bind fun r8 =>
  bif r8.2 then
  (idx keys1 r8.1.key).bind fun e12 =>
  bif e12.dead then
  some []
  else
  some [r8.1]
  else
  withK (some []) fun (kj19 : Option (List Press)) =>
  i_pressesOf_l1 kj19 keys1 accents4 letter7 N 0

def i_PressesFor_l1 (kj17 : (List Press) → Option ((List Press) × Int)) (keys1 : List Key) (accents4 : List Accent) (text7 : Str) : Nat → (List Press) → Int → Option ((List Press) × Int)
  | 0, _, _ => none
  | N + 1, l19, x21 =>
    bif decide (x21 < (List.length text7 : Int)) then
    (sub text7 x21 (w64 (x21 + 1))).bind fun s23 =>
    (i_pressesOf N keys1 accents4 s23).bind fun r25 =>
    bif ((List.length r25 : Int) == 0) then
    some ([], 3)
    else
    (app l19 r25).bind fun l29 =>
    i_PressesFor_l1 kj17 keys1 accents4 text7 N l29 (w64 (x21 + 1))
    else
    kj17 l19

def i_PressesFor (N : Nat) (keys1 : List Key) (accents4 : List Accent) (text7 : Str) : Option ((List Press) × Int) :=
  (i_ValidKeys N keys1 accents4).bind fun r8 =>
  bif !r8 then
  some ([], 1)
  else
  (i_isText N text7 33 100).bind fun r11 =>
  bif !r11 then
  some ([], 2)
  else
  withK (fun (l15 : List Press) =>
  some (l15, 0)) fun (kj17 : (List Press) → Option ((List Press) × Int)) =>
  i_PressesFor_l1 kj17 keys1 accents4 text7 N [] 0

def s_l02Text_l1 (kj2 : Option Bool) (s1 : Str) : Nat → Int → Option Bool
  | 0, _ => none
  | N + 1, i4 =>
    bif decide (i4 < (List.length s1 : Int)) then
    (idx s1 i4).bind fun c6 =>
    (orO (decide (c6 < (33 : UInt8))) ((idx s1 i4).bind fun c11 =>
    some (decide (c11 > (126 : UInt8))))).bind fun t8 =>
    bif t8 then
    some false
    else
    s_l02Text_l1 kj2 s1 N (w64 (i4 + 1))
    else
    kj2 

def s_l02Text (N : Nat) (s1 : Str) : Option Bool :=
  withK (some (decide ((List.length s1 : Int) ≤ 100))) fun (kj2 : Option Bool) =>
  s_l02Text_l1 kj2 s1 N 0

def s_l02Code (N : Nat) (keys1 : List Key) (accents4 : List Accent) (text7 : Str) : Option Int :=
  (s_l02Ok N keys1 accents4).bind fun r8 =>
  bif !r8 then
  some 1
  else
  (s_l02Text N text7).bind fun r11 =>
  bif !r11 then
  some 2
  else
  some 0

def s_l02Presses_l1 (kj20 : Option (List Press)) (keys1 : List Key) (accents4 : List Accent) (letter7 : Str) : Nat → Int → Option (List Press)
  | 0, _ => none
  | N + 1, i22 =>
    bif decide (i22 < (List.length accents4 : Int)) then
    (idx accents4 i22).bind fun e24 =>
    bif (e24.made == letter7) then
    (idx accents4 i22).bind fun e30 =>
    (s_l02Find N keys1 e30.mark).bind fun r35 =>
    (idx accents4 i22).bind fun e37 =>
    (s_l02Find N keys1 e37.letter).bind fun r42 =>
    some [(Press.mk r35.1 r35.2), (Press.mk r42.1 r42.2)]
    else
    s_l02Presses_l1 kj20 keys1 accents4 letter7 N (w64 (i22 + 1))
    else
    kj20 

def s_l02Presses (N : Nat) (keys1 : List Key) (accents4 : List Accent) (letter7 : Str) : Option (List Press) :=
  (s_l02Find N keys1 letter7).bind fun r8 =>
  (andO (decide (r8.1 ≥ 0)) ((idx keys1 r8.1).bind fun e13 =>
  some (!e13.dead))).bind fun t10 =>
  bif t10 then
  some [(Press.mk r8.1 r8.2)]
  else
  withK (some []) fun (kj20 : Option (List Press)) =>
  s_l02Presses_l1 kj20 keys1 accents4 letter7 N 0

def s_PressesFor_l1 (kj14 : (List Press) → Option ((List Press) × Int)) (keys1 : List Key) (accents4 : List Accent) (text7 : Str) : Nat → (List Press) → Int → Option ((List Press) × Int)
  | 0, _, _ => none
  | N + 1, l16, i18 =>
    bif decide (i18 < (List.length text7 : Int)) then
    (sub text7 i18 (w64 (i18 + 1))).bind fun s20 =>
    (s_l02Presses N keys1 accents4 s20).bind fun r22 =>
    bif ((List.length r22 : Int) == 0) then
    some ([], 3)
    else
    (app l16 r22).bind fun l26 =>
    s_PressesFor_l1 kj14 keys1 accents4 text7 N l26 (w64 (i18 + 1))
    else
    kj14 l16

def s_PressesFor (N : Nat) (keys1 : List Key) (accents4 : List Accent) (text7 : Str) : Option ((List Press) × Int) :=
  (s_l02Code N keys1 accents4 text7).bind fun r8 =>
  bif (r8 != 0) then
  some ([], r8)
  else
  withK (fun (l12 : List Press) =>
  some (l12, 0)) fun (kj14 : (List Press) → Option ((List Press) × Int)) =>
  s_PressesFor_l1 kj14 keys1 accents4 text7 N [] 0

def i_ascending_l1 (kj7 : (List UInt8) → Option Str) (marked1 : List Bool) : Nat → (List UInt8) → Int → Option Str
  | 0, _, _ => none
  | N + 1, l9, x11 =>
    bif decide (x11 < 256) then
    withK (fun (l13 : List UInt8) =>
    i_ascending_l1 kj7 marked1 N l13 (w64 (x11 + 1))) fun (kj15 : (List UInt8) → Option Str) =>
    (idx marked1 x11).bind fun e17 =>
    bif e17 then
    (app l9 [UInt8.ofInt x11]).bind fun l24 =>
    kj15 l24
    else
    kj15 l9
    else
    kj7 l9

def i_ascending (N : Nat) (marked1 : List Bool) : Option Str :=
  withK (fun (l5 : List UInt8) =>
  some l5) fun (kj7 : (List UInt8) → Option Str) =>
  i_ascending_l1 kj7 marked1 N [] 0

def i_MissingLetters_l1 (kj16 : (List Bool) → Option (Str × Int)) (keys1 : List Key) (accents4 : List Accent) (text7 : Str) : Nat → (List Bool) → Int → Option (Str × Int)
  | 0, _, _ => none
  | N + 1, l18, x19 =>
    bif decide (x19 < (List.length text7 : Int)) then
    withK (fun (l21 : List Bool) =>
    i_MissingLetters_l1 kj16 keys1 accents4 text7 N l21 (w64 (x19 + 1))) fun (kj22 : (List Bool) → Option (Str × Int)) =>
    (sub text7 x19 (w64 (x19 + 1))).bind fun s24 =>
    (i_pressesOf N keys1 accents4 s24).bind fun r26 =>
    bif ((List.length r26 : Int) == 0) then
    (idx text7 x19).bind fun c30 =>
    (idx l18 (UInt8.toNat c30 : Int)).bind fun e32 =>
    kj22 (List.set l18 (Int.toNat (UInt8.toNat c30 : Int)) true)
    else
    kj22 l18
    else
    kj16 l18

def i_MissingLetters (N : Nat) (keys1 : List Key) (accents4 : List Accent) (text7 : Str) : Option (Str × Int) :=
  (i_ValidKeys N keys1 accents4).bind fun r8 =>
  bif !r8 then
  some ([], 1)
  else
  (i_isText N text7 33 100).bind fun r11 =>
  bif !r11 then
  some ([], 2)
  else
  withK (fun (l15 : List Bool) =>
  (i_ascending N l15).bind fun r34 =>
  some (r34, 0)) fun (kj16 : (List Bool) → Option (Str × Int)) =>
  i_MissingLetters_l1 kj16 keys1 accents4 text7 N (List.replicate 256 false) 0

def s_MissingLetters_l1 (kj12 : Str → Option (Str × Int)) (keys1 : List Key) (accents4 : List Accent) (text7 : Str) : Nat → Str → Int → Option (Str × Int)
  | 0, _, _ => none
  | N + 1, out14, i15 =>
    bif decide (i15 < (List.length text7 : Int)) then
    withK (fun (out17 : Str) =>
    s_MissingLetters_l1 kj12 keys1 accents4 text7 N out17 (w64 (i15 + 1))) fun (kj18 : Str → Option (Str × Int)) =>
    (sub text7 i15 (w64 (i15 + 1))).bind fun s20 =>
    (s_l02Presses N keys1 accents4 s20).bind fun r22 =>
    bif ((List.length r22 : Int) == 0) then
    (sub text7 i15 (w64 (i15 + 1))).bind fun s26 =>
    (s_l02PutLetter N out14 s26).bind fun r28 =>
    kj18 r28
    else
    kj18 out14
    else
    kj12 out14

def s_MissingLetters (N : Nat) (keys1 : List Key) (accents4 : List Accent) (text7 : Str) : Option (Str × Int) :=
  (s_l02Code N keys1 accents4 text7).bind fun r8 =>
  bif (r8 != 0) then
  some ([], r8)
  else
  withK (fun (out11 : Str) =>
  some (out11, 0)) fun (kj12 : Str → Option (Str × Int)) =>
  s_MissingLetters_l1 kj12 keys1 accents4 text7 N [] 0

def i_LettersOf_l1 (kj12 : (List Bool) → Option (Str × Int)) (keys1 : List Key) : Nat → (List Bool) → Int → Option (Str × Int)
  | 0, _, _ => none
  | N + 1, l14, x15 =>
    bif decide (x15 < (List.length keys1 : Int)) then
    withK (fun (l17 : List Bool) =>
    i_LettersOf_l1 kj12 keys1 N l17 (w64 (x15 + 1))) fun (kj18 : (List Bool) → Option (Str × Int)) =>
    (idx keys1 x15).bind fun e20 =>
    bif !e20.dead then
    (idx e20.low 0).bind fun c27 =>
    (idx l14 (UInt8.toNat c27 : Int)).bind fun e29 =>
    (idx e20.high 0).bind fun c31 =>
    (idx (List.set l14 (Int.toNat (UInt8.toNat c27 : Int)) true) (UInt8.toNat c31 : Int)).bind fun e33 =>
    kj18 (List.set (List.set l14 (Int.toNat (UInt8.toNat c27 : Int)) true) (Int.toNat (UInt8.toNat c31 : Int)) true)
    else
    kj18 l14
    else
    kj12 l14

def i_LettersOf_l2 (kj36 : (List Bool) → Option (Str × Int)) (accents4 : List Accent) : Nat → (List Bool) → Int → Option (Str × Int)
  | 0, _, _ => none
  | N + 1, l38, x39 =>
    bif decide (x39 < (List.length accents4 : Int)) then
    (idx accents4 x39).bind fun e41 =>
    (idx e41.made 0).bind fun c47 =>
    (idx l38 (UInt8.toNat c47 : Int)).bind fun e49 =>
    i_LettersOf_l2 kj36 accents4 N (List.set l38 (Int.toNat (UInt8.toNat c47 : Int)) true) (w64 (x39 + 1))
    else
    kj36 l38

def i_LettersOf (N : Nat) (keys1 : List Key) (accents4 : List Accent) : Option (Str × Int) :=
  (i_ValidKeys N keys1 accents4).bind fun r7 =>
  bif !r7 then
  some ([], 1)
  else
  withK (fun (l11 : List Bool) =>
  withK (fun (l35 : List Bool) =>
  (i_ascending N l35).bind fun r51 =>
  some (r51, 0)) fun (kj36 : (List Bool) → Option (Str × Int)) =>
  i_LettersOf_l2 kj36 accents4 N l11 0) fun (kj12 : (List Bool) → Option (Str × Int)) =>
  i_LettersOf_l1 kj12 keys1 N (List.replicate 256 false) 0

def s_DrawPressText (code1 : List UInt8) : Option Press :=
  (s_l00From code1).bind fun r5 =>
  (s_l00Src_pick (L00Src.mk code1 r5.at_ r5.seed) 42).bind fun r8 =>
  (s_l00Src_one (L00Src.mk code1 r8.2.at_ r8.2.seed) 2).bind fun r11 =>
  some (Press.mk ((Press.mk (w64 (r8.1 - 1)) false).key) r11.1)

def i_between (n1 : Int) (low2 : Int) (high3 : Int) : Option Bool :=
  (andO (decide (n1 ≥ low2)) (some (decide (n1 ≤ high3)))).bind fun t4 =>
  some t4

def i_Decimal (n1 : Int) : Option Str :=
  (fmtI n1 10).bind fun r2 =>
  some r2

def i_PressText (p1 : Press) : Option Str :=
  (i_between p1.key 0 39).bind fun r3 =>
  bif !r3 then
  some []
  else
  bif p1.shift then
  (i_Decimal p1.key).bind fun r7 =>
  (cat [94] r7).bind fun s9 =>
  some s9
  else
  (i_Decimal p1.key).bind fun r11 =>
  some r11

def i_isDigit (b1 : UInt8) : Option Bool :=
  (andO (decide (b1 ≥ (48 : UInt8))) (some (decide (b1 ≤ (57 : UInt8))))).bind fun t2 =>
  some t2

def i_ReadDecimal_l1 (kj18 : Int → Option (Int × Bool)) (digits2 : Str) : Nat → Int → Int → Option (Int × Bool)
  | 0, _, _ => none
  | N + 1, n20, x21 =>
    bif decide (x21 < (List.length digits2 : Int)) then
    (idx digits2 x21).bind fun c23 =>
    (i_isDigit c23).bind fun r25 =>
    bif !r25 then
    some (0, false)
    else
    (idx digits2 x21).bind fun c28 =>
    i_ReadDecimal_l1 kj18 digits2 N (w64 ((w64 (10 * n20)) + (UInt8.toNat (c28 - (48 : UInt8)) : Int))) (w64 (x21 + 1))
    else
    kj18 n20

def i_ReadDecimal (N : Nat) (s1 : Str) : Option (Int × Bool) :=
  withK (fun (digits2 : Str) =>
  (orO ((List.length digits2 : Int) == 0) (some (decide ((List.length digits2 : Int) > 18)))).bind fun t13 =>
  bif t13 then
  some (0, false)
  else
  withK (fun (n17 : Int) =>
  withK (fun (n30 : Int) =>
  (i_Decimal n30).bind fun r34 =>
  bif (r34 != s1) then
  some (0, false)
  else
  some (n30, true)) fun (kj31 : Int → Option (Int × Bool)) =>
  bif decide ((List.length digits2 : Int) < (List.length s1 : Int)) then
  kj31 (w64 (0 - n17))
  else
  kj31 n17) fun (kj18 : Int → Option (Int × Bool)) =>
  i_ReadDecimal_l1 kj18 digits2 N 0 0) fun (kj3 : Str → Option (Int × Bool)) =>
  (andO (decide ((List.length s1 : Int) > 0)) ((idx s1 0).bind fun c8 =>
  some (c8 == (45 : UInt8)))).bind fun t5 =>
  bif t5 then
  (sub s1 1 (List.length s1 : Int)).bind fun s11 =>
  kj3 s11
  else
  kj3 s1

def i_ReadPress (N : Nat) (s1 : Str) : Option (Press × Bool) :=
  withK (fun (x4 : Int) (x5 : Bool) (s6 : Str) =>
  (i_ReadDecimal N s6).bind fun r17 =>
  (orO (!r17.2) ((i_between r17.1 0 39).bind fun r22 =>
  some (!r22))).bind fun t19 =>
  bif t19 then
  some ((Press.mk 0 false), false)
  else
  some ((Press.mk r17.1 x5), true)) fun (kj7 : Int → Bool → Str → Option (Press × Bool)) =>
  (andO (decide ((List.length s1 : Int) > 0)) ((idx s1 0).bind fun c12 =>
  some (c12 == (94 : UInt8)))).bind fun t9 =>
  bif t9 then
  (sub s1 1 (List.length s1 : Int)).bind fun s15 =>
  kj7 ((Press.mk 0 false).key) true s15
  else
  kj7 ((Press.mk 0 false).key) ((Press.mk 0 false).shift) s1

def s_l01Dec_l1 (kj5 : (List UInt8) → Option Str) : Nat → (List UInt8) → Int → Option Str
  | 0, _, _ => none
  | N + 1, l7, k9 =>
    bif (k9 != 0) then
    withK (fun (d11 : Int) =>
    (app [UInt8.ofInt (w64 (48 + d11))] l7).bind fun l16 =>
    s_l01Dec_l1 kj5 N l16 (w64 (Int.tdiv k9 10))) fun (kj12 : Int → Option Str) =>
    bif decide ((Int.tmod k9 10) < 0) then
    kj12 (w64 (0 - (Int.tmod k9 10)))
    else
    kj12 (Int.tmod k9 10)
    else
    kj5 l7

def s_l01Dec (N : Nat) (n1 : Int) : Option Str :=
  withK (fun (l3 : List UInt8) =>
  bif ((List.length l3 : Int) == 0) then
  some [48]
  else
  bif decide (n1 < 0) then
  (cat [45] l3).bind fun s21 =>
  some s21
  else
  some l3) fun (kj5 : (List UInt8) → Option Str) =>
  s_l01Dec_l1 kj5 N [] n1

def s_l02PressText (N : Nat) (p1 : Press) : Option Str :=
  bif p1.shift then
  (s_l01Dec N p1.key).bind fun r4 =>
  (cat [94] r4).bind fun s6 =>
  some s6
  else
  (s_l01Dec N p1.key).bind fun r8 =>
  some r8

def s_l01Spoil (s1 : L00Src) (t5 : Str) : Option (Str × L00Src) :=
  withK (fun (x6 : Int) (x7 : Int) (t8 : Str) =>
  some (t8, (L00Src.mk s1.code x6 x7))) fun (kj9 : Int → Int → Str → Option (Str × L00Src)) =>
  (s_l00Src_pick (L00Src.mk s1.code s1.at_ s1.seed) 5).bind fun r11 =>
  bif (r11.1 == 0) then
  (s_l00Src_pick (L00Src.mk s1.code r11.2.at_ r11.2.seed) (w64 ((List.length t5 : Int) + 1))).bind fun r14 =>
  (sub t5 0 r14.1).bind fun s16 =>
  (s_l00Src_text (L00Src.mk s1.code r14.2.at_ r14.2.seed) [[32], [48], [45], [120], [49], [57], [46]]).bind fun r19 =>
  (cat s16 r19.1).bind fun s21 =>
  (sub t5 r14.1 (List.length t5 : Int)).bind fun s23 =>
  (cat s21 s23).bind fun s25 =>
  kj9 r19.2.at_ r19.2.seed s25
  else
  bif (r11.1 == 1) then
  bif (t5 != []) then
  (s_l00Src_pick (L00Src.mk s1.code r11.2.at_ r11.2.seed) (List.length t5 : Int)).bind fun r29 =>
  (sub t5 0 r29.1).bind fun s31 =>
  (sub t5 (w64 (r29.1 + 1)) (List.length t5 : Int)).bind fun s33 =>
  (cat s31 s33).bind fun s35 =>
  kj9 r29.2.at_ r29.2.seed s35
  else
  kj9 r11.2.at_ r11.2.seed t5
  else
  kj9 r11.2.at_ r11.2.seed t5

def s_DrawReadPress (N : Nat) (code1 : List UInt8) : Option Str :=
  (s_l00From code1).bind fun r4 =>
  (s_l00Src_pick (L00Src.mk code1 r4.at_ r4.seed) 40).bind fun r7 =>
  (s_l00Src_one (L00Src.mk code1 r7.2.at_ r7.2.seed) 2).bind fun r10 =>
  (s_l02PressText N (Press.mk ((Press.mk r7.1 false).key) r10.1)).bind fun r12 =>
  (s_l00Src_one (L00Src.mk code1 r10.2.at_ r10.2.seed) 3).bind fun r14 =>
  bif r14.1 then
  (s_l01Spoil (L00Src.mk code1 r14.2.at_ r14.2.seed) r12).bind fun r17 =>
  some r17.1
  else
  some r12

def s_l01Digit (c1 : UInt8) : Option Bool :=
  (andO (decide (c1 ≥ (48 : UInt8))) (some (decide (c1 ≤ (57 : UInt8))))).bind fun t2 =>
  some t2

def s_l01Number_l1 (kj18 : Int → Option (Int × Bool)) (t2 : Str) : Nat → Int → Int → Option (Int × Bool)
  | 0, _, _ => none
  | N + 1, n20, i21 =>
    bif decide (i21 < (List.length t2 : Int)) then
    (idx t2 i21).bind fun c23 =>
    (s_l01Digit c23).bind fun r25 =>
    bif !r25 then
    some (0, false)
    else
    (idx t2 i21).bind fun c28 =>
    s_l01Number_l1 kj18 t2 N (w64 ((w64 (10 * n20)) + (UInt8.toNat (c28 - (48 : UInt8)) : Int))) (w64 (i21 + 1))
    else
    kj18 n20

def s_l01Number (N : Nat) (s1 : Str) : Option (Int × Bool) :=
  withK (fun (t2 : Str) =>
  (orO (decide ((List.length t2 : Int) < 1)) (some (decide ((List.length t2 : Int) > 18)))).bind fun t13 =>
  bif t13 then
  some (0, false)
  else
  withK (fun (n17 : Int) =>
  withK (fun (n30 : Int) =>
  (s_l01Dec N n30).bind fun r34 =>
  bif (r34 != s1) then
  some (0, false)
  else
  some (n30, true)) fun (kj31 : Int → Option (Int × Bool)) =>
  bif decide ((List.length t2 : Int) < (List.length s1 : Int)) then
  kj31 (w64 (0 - n17))
  else
  kj31 n17) fun (kj18 : Int → Option (Int × Bool)) =>
  s_l01Number_l1 kj18 t2 N 0 0) fun (kj3 : Str → Option (Int × Bool)) =>
  (andO (s1 != []) ((idx s1 0).bind fun c8 =>
  some (c8 == (45 : UInt8)))).bind fun t5 =>
  bif t5 then
  (sub s1 1 (List.length s1 : Int)).bind fun s11 =>
  kj3 s11
  else
  kj3 s1

def s_l00In (n1 : Int) (low2 : Int) (high3 : Int) : Option Bool :=
  (andO (decide (n1 ≥ low2)) (some (decide (n1 ≤ high3)))).bind fun t4 =>
  some t4

def s_ReadPress (N : Nat) (s1 : Str) : Option (Press × Bool) :=
  withK (fun (x4 : Int) (x5 : Bool) (s6 : Str) =>
  (s_l01Number N s6).bind fun r17 =>
  (orO (!r17.2) ((s_l00In r17.1 0 39).bind fun r22 =>
  some (!r22))).bind fun t19 =>
  bif t19 then
  some ((Press.mk 0 false), false)
  else
  some ((Press.mk r17.1 x5), true)) fun (kj7 : Int → Bool → Str → Option (Press × Bool)) =>
  (andO (decide ((List.length s1 : Int) > 0)) ((idx s1 0).bind fun c12 =>
  some (c12 == (94 : UInt8)))).bind fun t9 =>
  bif t9 then
  (sub s1 1 (List.length s1 : Int)).bind fun s15 =>
  kj7 ((Press.mk 0 false).key) true s15
  else
  kj7 ((Press.mk 0 false).key) ((Press.mk 0 false).shift) s1

def s_l00Src_among (s1 : L00Src) (list5 : List Int) : Option (Int × L00Src) :=
  (s_l00Src_pick (L00Src.mk s1.code s1.at_ s1.seed) (List.length list5 : Int)).bind fun r8 =>
  (idx list5 r8.1).bind fun e10 =>
  some (e10, (L00Src.mk s1.code r8.2.at_ r8.2.seed))

def s_l02DrawPresses (N : Nat) (code1 : List UInt8) : Option ((List Key) × (List Accent) × (List Press)) :=
  (s_l02DrawText N code1).bind fun r4 =>
  (s_l00From code1).bind fun r8 =>
  (s_PressesFor N r4.1 r4.2.1 r4.2.2).bind fun r11 =>
  withK (fun (l14 : List Press) =>
  withK (fun (l20 : List Press) =>
  some (r4.1, r4.2.1, l20)) fun (kj22 : (List Press) → Option ((List Key) × (List Accent) × (List Press))) =>
  (s_l00Src_pick (L00Src.mk code1 r8.at_ r8.seed) 10).bind fun r24 =>
  bif (r24.1 == 0) then
  (s_l00Src_among (L00Src.mk code1 r24.2.at_ r24.2.seed) [(-1), 0, w64 ((List.length r4.1 : Int) - 1), (List.length r4.1 : Int)]).bind fun r28 =>
  (app l14 [(Press.mk r28.1 true)]).bind fun l31 =>
  kj22 l31
  else
  bif (r24.1 == 1) then
  (s_l00Src_pick (L00Src.mk code1 r24.2.at_ r24.2.seed) 2).bind fun r35 =>
  (mk (w64 (200 + r35.1)) (Press.mk 0 false)).bind fun l37 =>
  kj22 l37
  else
  kj22 l14) fun (kj16 : (List Press) → Option ((List Key) × (List Accent) × (List Press))) =>
  bif (r11.2 != 0) then
  kj16 []
  else
  kj16 r11.1

def s_DrawSamePresses (N : Nat) (code1 : List UInt8) : Option ((List Press) × (List Press)) :=
  (s_l02DrawPresses N code1).bind fun r4 =>
  (s_l00From code1).bind fun r9 =>
  (app [] r4.2.2).bind fun l13 =>
  withK (fun (l16 : List Press) (x17 : Int) (x18 : Int) =>
  withK (fun (l32 : List Press) =>
  some (r4.2.2, l32)) fun (kj34 : (List Press) → Option ((List Press) × (List Press))) =>
  (s_l00Src_one (L00Src.mk code1 x17 x18) 5).bind fun r36 =>
  bif r36.1 then
  (app l16 [(Press.mk 0 false)]).bind fun l40 =>
  kj34 l40
  else
  kj34 l16) fun (kj19 : (List Press) → Int → Int → Option ((List Press) × (List Press))) =>
  (bif decide ((List.length l13 : Int) > 0) then (s_l00Src_one (L00Src.mk code1 r9.at_ r9.seed) 2).bind fun r25 =>
  some (r25.1, (L00Src.mk code1 r25.2.at_ r25.2.seed)) else some (false, (L00Src.mk code1 r9.at_ r9.seed))).bind fun x23 =>
  bif x23.1 then
  (idx l13 0).bind fun e28 =>
  (idx l13 0).bind fun e30 =>
  kj19 (List.set l13 (Int.toNat 0) (Press.mk e30.key (!e28.shift))) x23.2.at_ x23.2.seed
  else
  kj19 l13 x23.2.at_ x23.2.seed

def s_SamePresses_l1 (kj8 : Option Bool) (a1 : List Press) (b4 : List Press) : Nat → Int → Option Bool
  | 0, _ => none
  | N + 1, i10 =>
    bif decide (i10 < (List.length a1 : Int)) then
    (idx a1 i10).bind fun e12 =>
    (idx b4 i10).bind fun e17 =>
    bif !(Press.beq e12 e17) then
    some false
    else
    s_SamePresses_l1 kj8 a1 b4 N (w64 (i10 + 1))
    else
    kj8 

def s_SamePresses (N : Nat) (a1 : List Press) (b4 : List Press) : Option Bool :=
  bif ((List.length a1 : Int) != (List.length b4 : Int)) then
  some false
  else
  withK (some true) fun (kj8 : Option Bool) =>
  s_SamePresses_l1 kj8 a1 b4 N 0

def s_PressText (N : Nat) (p1 : Press) : Option Str :=
  (s_l00In p1.key 0 39).bind fun r3 =>
  bif !r3 then
  some []
  else
  (s_l02PressText N p1).bind fun r6 =>
  some r6

def i_SamePresses_l1 (kj8 : Option Bool) (a1 : List Press) (b4 : List Press) : Nat → Int → Option Bool
  | 0, _ => none
  | N + 1, x10 =>
    bif decide (x10 < (List.length a1 : Int)) then
    (idx a1 x10).bind fun e12 =>
    (idx b4 x10).bind fun e17 =>
    bif !(Press.beq e12 e17) then
    some false
    else
    i_SamePresses_l1 kj8 a1 b4 N (w64 (x10 + 1))
    else
    kj8 

def i_SamePresses (N : Nat) (a1 : List Press) (b4 : List Press) : Option Bool :=
  bif ((List.length a1 : Int) != (List.length b4 : Int)) then
  some false
  else
  withK (some true) fun (kj8 : Option Bool) =>
  i_SamePresses_l1 kj8 a1 b4 N 0

def s_ValidKeys (N : Nat) (keys1 : List Key) (accents4 : List Accent) : Option Bool :=
  (s_l02Ok N keys1 accents4).bind fun r7 =>
  some r7

def i_printed (keys1 : List Key) (p4 : Press) : Option Str :=
  bif p4.shift then
  (idx keys1 p4.key).bind fun e7 =>
  some e7.high
  else
  (idx keys1 p4.key).bind fun e12 =>
  some e12.low

def i_TextOfPresses_l1 (kj14 : Option (Str × Int)) (keys1 : List Key) (list7 : List Press) : Nat → Int → Option (Str × Int)
  | 0, _ => none
  | N + 1, x16 =>
    bif decide (x16 < (List.length list7 : Int)) then
    (idx list7 x16).bind fun e18 =>
    (i_between e18.key 0 (w64 ((List.length keys1 : Int) - 1))).bind fun r24 =>
    bif !r24 then
    some ([], 2)
    else
    i_TextOfPresses_l1 kj14 keys1 list7 N (w64 (x16 + 1))
    else
    kj14 

def i_TextOfPresses_l3 (kj59 : Str → Option (Str × Int)) (keys1 : List Key) (accents4 : List Accent) (list7 : List Press) (i31 : Int) (r42 : Str) : Nat → Str → Int → Option (Str × Int)
  | 0, _, _ => none
  | N + 1, made61, x62 =>
    bif decide (x62 < (List.length accents4 : Int)) then
    withK (fun (made64 : Str) =>
    i_TextOfPresses_l3 kj59 keys1 accents4 list7 i31 r42 N made64 (w64 (x62 + 1))) fun (kj65 : Str → Option (Str × Int)) =>
    (idx accents4 x62).bind fun e67 =>
    (andO (e67.mark == r42) ((idx list7 (w64 (i31 + 1))).bind fun e76 =>
    (i_printed keys1 e76).bind fun r81 =>
    some (e67.letter == r81))).bind fun t73 =>
    bif t73 then
    kj65 e67.made
    else
    kj65 made61
    else
    kj59 made61

def i_TextOfPresses_l2 (kj28 : Str → Option (Str × Int)) (keys1 : List Key) (accents4 : List Accent) (list7 : List Press) : Nat → Str → Int → Option (Str × Int)
  | 0, _, _ => none
  | N + 1, out30, i31 =>
    bif decide (i31 < (List.length list7 : Int)) then
    withK (fun (out33 : Str) (i34 : Int) =>
    i_TextOfPresses_l2 kj28 keys1 accents4 list7 N out33 (w64 (i34 + 1))) fun (kj35 : Str → Int → Option (Str × Int)) =>
    (idx list7 i31).bind fun e37 =>
    (i_printed keys1 e37).bind fun r42 =>
    (idx list7 i31).bind fun e44 =>
    (idx keys1 e44.key).bind fun e49 =>
    bif !e49.dead then
    (cat out30 r42).bind fun s55 =>
    kj35 s55 i31
    else
    bif ((w64 (i31 + 1)) == (List.length list7 : Int)) then
    some ([], 6)
    else
    withK (fun (made58 : Str) =>
    bif (made58 == []) then
    some ([], 6)
    else
    (cat out30 made58).bind fun s85 =>
    kj35 s85 (w64 (i31 + 1))) fun (kj59 : Str → Option (Str × Int)) =>
    i_TextOfPresses_l3 kj59 keys1 accents4 list7 i31 r42 N [] 0
    else
    kj28 out30

def i_TextOfPresses (N : Nat) (keys1 : List Key) (accents4 : List Accent) (list7 : List Press) : Option (Str × Int) :=
  (i_ValidKeys N keys1 accents4).bind fun r10 =>
  bif !r10 then
  some ([], 1)
  else
  bif decide ((List.length list7 : Int) > 200) then
  some ([], 2)
  else
  withK (withK (fun (out27 : Str) =>
  some (out27, 0)) fun (kj28 : Str → Option (Str × Int)) =>
  i_TextOfPresses_l2 kj28 keys1 accents4 list7 N [] 0) fun (kj14 : Option (Str × Int)) =>
  i_TextOfPresses_l1 kj14 keys1 list7 N 0

def w_FnPresses (N : Nat) (code1 : List UInt8) : Option Bool :=
  (w_f6big code1).bind fun r4 =>
  bif r4 then
  some true
  else
  (s_DrawPressesFor N code1).bind fun r7 =>
  (i_PressesFor N r7.1 r7.2.1 r7.2.2).bind fun r11 =>
  (s_PressesFor N r7.1 r7.2.1 r7.2.2).bind fun r14 =>
  (i_MissingLetters N r7.1 r7.2.1 r7.2.2).bind fun r17 =>
  (s_MissingLetters N r7.1 r7.2.1 r7.2.2).bind fun r19 =>
  (i_LettersOf N r7.1 r7.2.1).bind fun r21 =>
  (s_LettersOf N r7.1 r7.2.1).bind fun r23 =>
  (s_DrawPressText code1).bind fun r25 =>
  (i_PressText r25).bind fun r28 =>
  (i_ReadPress N r28).bind fun r30 =>
  (s_DrawReadPress N code1).bind fun r33 =>
  (i_ReadPress N r33).bind fun r35 =>
  (s_ReadPress N r33).bind fun r38 =>
  (s_DrawSamePresses N code1).bind fun r41 =>
  (orO (r11.2 != r14.2) ((s_SamePresses N r11.1 r14.1).bind fun r48 =>
  some (!r48))).bind fun t45 =>
  (orO t45 (some (r17.2 != r19.2))).bind fun t50 =>
  (orO t50 (some (r17.1 != r19.1))).bind fun t53 =>
  (orO t53 (some (r21.2 != r23.2))).bind fun t56 =>
  (orO t56 (some (r21.1 != r23.1))).bind fun t59 =>
  (orO t59 ((s_PressText N r25).bind fun r65 =>
  some (r28 != r65))).bind fun t62 =>
  (orO t62 (some (r30.2 != (r28 != [])))).bind fun t67 =>
  (orO t67 ((andO r30.2 (some (!(Press.beq r30.1 r25)))).bind fun t73 =>
  some t73)).bind fun t70 =>
  (orO t70 (some (r35.2 != r38.2))).bind fun t76 =>
  (orO t76 (some (!(Press.beq r35.1 r38.1)))).bind fun t79 =>
  (orO t79 ((i_SamePresses N r41.1 r41.2).bind fun r85 =>
  (s_SamePresses N r41.1 r41.2).bind fun r87 =>
  some (r85 != r87))).bind fun t82 =>
  (orO t82 ((i_ValidKeys N r7.1 r7.2.1).bind fun r92 =>
  (s_ValidKeys N r7.1 r7.2.1).bind fun r94 =>
  some (r92 != r94))).bind fun t89 =>
  bif t89 then
  some false
  else
  (andO (r17.2 == 0) (some ((r11.2 == 0) != (r17.1 == [])))).bind fun t97 =>
  bif t97 then
  some false
  else
  bif (r11.2 != 0) then
  some true
  else
  (i_TextOfPresses N r7.1 r7.2.1 r14.1).bind fun r102 =>
  (andO (r102.2 == 0) (some (r102.1 == r7.2.2))).bind fun t104 =>
  (andO t104 (some (decide ((List.length r14.1 : Int) ≥ (List.length r7.2.2 : Int))))).bind fun t107 =>
  (andO t107 (some (decide ((List.length r14.1 : Int) ≤ (w64 (2 * (List.length r7.2.2 : Int))))))).bind fun t110 =>
  some t110

end Go.Proofs.YtpodlgibcfbbiaaDoor
