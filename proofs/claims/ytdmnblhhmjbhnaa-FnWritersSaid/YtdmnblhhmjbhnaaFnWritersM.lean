/-
  Plain functions that compute what the Go functions compute. No conditions.
-/
import Derived.Test.YtdmnblhhmjbhnaaBase2
namespace Go.Proofs.Ytdmnblhhmjbhnaa
set_option linter.unusedVariables false
set_option linter.unusedSimpArgs false

structure TypeFault where
  letter : Str
  kind : Int

def TypeFault.beq (x y : TypeFault) : Bool := x.letter == y.letter && (x.kind == y.kind)

structure Writer where
  name : Str
  faults : List TypeFault

structure L00Src where
  code : List UInt8
  at_ : Int
  seed : Int

structure Seen where
  letter : Str
  kind : Int

def Seen.beq (x y : Seen) : Bool := x.letter == y.letter && (x.kind == y.kind)



def w_a2Long (code1 : List UInt8) (more4 : List UInt8) : Option Bool :=
  (orO (decide ((List.length code1 : Int) > 3000)) (some (decide ((List.length more4 : Int) > 3000)))).bind fun t7 =>
  some t7

def s_l00From (code1 : List UInt8) : Option L00Src :=
  some (L00Src.mk code1 0 0)

def s_l00Src_next (s1 : L00Src) : Option (Int × L00Src) :=
  withK (fun (b5 : Int) =>
  bif decide ((w64 (s1.at_ + 1)) ≤ (List.length s1.code : Int)) then
  some (b5, (L00Src.mk s1.code (w64 (s1.at_ + 1)) (IntKind.u64.wrap ((IntKind.u64.wrap ((IntKind.u64.wrap (s1.seed * 6364136223846793005)) + (IntKind.u64.wrap b5))) + 1442695040888963407))))
  else
  some (w64 (uand (ushr (IntKind.u64.wrap ((IntKind.u64.wrap ((IntKind.u64.wrap (s1.seed * 6364136223846793005)) + (IntKind.u64.wrap b5))) + 1442695040888963407)) 40) 255), (L00Src.mk s1.code (w64 (s1.at_ + 1)) (IntKind.u64.wrap ((IntKind.u64.wrap ((IntKind.u64.wrap (s1.seed * 6364136223846793005)) + (IntKind.u64.wrap b5))) + 1442695040888963407))))) fun (kj6 : Int → Option (Int × L00Src)) =>
  bif decide (s1.at_ < (List.length s1.code : Int)) then
  (idx s1.code s1.at_).bind fun e9 =>
  kj6 (UInt8.toNat e9 : Int)
  else
  kj6 0

def s_l00Src_pick (s1 : L00Src) (n5 : Int) : Option (Int × L00Src) :=
  bif decide (n5 ≤ 1) then
  some (0, (L00Src.mk s1.code s1.at_ s1.seed))
  else
  (s_l00Src_next (L00Src.mk s1.code s1.at_ s1.seed)).bind fun r7 =>
  withK (fun (x9 : Int) (x10 : Int) (x11 : Int) =>
  (remO x11 n5).bind fun q17 =>
  some (q17, (L00Src.mk s1.code x9 x10))) fun (kj12 : Int → Int → Int → Option (Int × L00Src)) =>
  bif decide (n5 > 200) then
  (s_l00Src_next (L00Src.mk s1.code r7.2.at_ r7.2.seed)).bind fun r15 =>
  kj12 r15.2.at_ r15.2.seed (w64 ((w64 (r7.1 * 256)) + r15.1))
  else
  kj12 r7.2.at_ r7.2.seed r7.1

def s_l00Src_one (s1 : L00Src) (n5 : Int) : Option (Bool × L00Src) :=
  (s_l00Src_pick (L00Src.mk s1.code s1.at_ s1.seed) n5).bind fun r6 =>
  some ((r6.1 == 0), (L00Src.mk s1.code r6.2.at_ r6.2.seed))

def s_l15New_l1 (kj14 : (List TypeFault) → Str → Int → Int → Option (Writer × L00Src)) (s1 : L00Src) : Nat → (List TypeFault) → Str → Int → Int → Int → Option (Writer × L00Src)
  | 0, _, _, _, _, _ => none
  | N + 1, l16, x18, x19, x20, i21 =>
    bif decide (i21 < (List.length ([[97], [101], [110], [114], [116], [126]] : List Str) : Int)) then
    withK (fun (x23 : Int) (x24 : Int) (l25 : List TypeFault) (x27 : Str) =>
    s_l15New_l1 kj14 s1 N l25 x27 x23 x24 (w64 (i21 + 1))) fun (kj28 : Int → Int → (List TypeFault) → Str → Option (Writer × L00Src)) =>
    (s_l00Src_one (L00Src.mk s1.code x19 x20) 3).bind fun r30 =>
    bif r30.1 then
    (idx ([[97], [101], [110], [114], [116], [126]] : List Str) i21).bind fun e33 =>
    (s_l00Src_pick (L00Src.mk s1.code r30.2.at_ r30.2.seed) 3).bind fun r35 =>
    (app l16 [(TypeFault.mk e33 (w64 (1 + r35.1)))]).bind fun l38 =>
    kj28 r35.2.at_ r35.2.seed l38 x18
    else
    kj28 r30.2.at_ r30.2.seed l16 x18
    else
    kj14 l16 x18 x19 x20

def s_l15New (N : Nat) (s1 : L00Src) (name5 : Str) : Option (Writer × L00Src) :=
  withK (fun (l9 : List TypeFault) (x11 : Str) (x12 : Int) (x13 : Int) =>
  some ((Writer.mk x11 l9), (L00Src.mk s1.code x12 x13))) fun (kj14 : (List TypeFault) → Str → Int → Int → Option (Writer × L00Src)) =>
  s_l15New_l1 kj14 s1 N [] name5 s1.at_ s1.seed 0

def s_l15Draw_l1 (kj12 : Int → Int → (List Writer) → Option ((List Writer) × L00Src)) (s1 : L00Src) : Nat → Int → Int → (List Writer) → Int → Option ((List Writer) × L00Src)
  | 0, _, _, _, _ => none
  | N + 1, x16, x17, l18, k21 =>
    bif decide (k21 > 0) then
    (idx ([[97, 100, 108, 101, 114, 45, 55], [105, 100, 101, 97, 108], [109, 105, 103, 110, 111, 110], [111, 108, 121, 109, 112, 105, 97], [114, 111, 121, 97, 108]] : List Str) (List.length l18 : Int)).bind fun e23 =>
    (s_l15New N (L00Src.mk s1.code x16 x17) e23).bind fun r25 =>
    (app l18 ([(Writer.mk r25.1.name r25.1.faults)] : List Writer)).bind fun l32 =>
    s_l15Draw_l1 kj12 s1 N r25.2.at_ r25.2.seed l32 (w64 (k21 - 1))
    else
    kj12 x16 x17 l18

def s_l15Draw (N : Nat) (s1 : L00Src) : Option ((List Writer) × L00Src) :=
  withK (fun (x7 : Int) (x8 : Int) (l9 : List Writer) =>
  some (l9, (L00Src.mk s1.code x7 x8))) fun (kj12 : Int → Int → (List Writer) → Option ((List Writer) × L00Src)) =>
  (s_l00Src_pick (L00Src.mk s1.code s1.at_ s1.seed) 6).bind fun r14 =>
  s_l15Draw_l1 kj12 s1 N r14.2.at_ r14.2.seed ([] : List Writer) r14.1

def s_A2Writers (N : Nat) (code1 : List UInt8) : Option (List Writer) :=
  (s_l00From code1).bind fun r4 =>
  (s_l15Draw N (L00Src.mk code1 r4.at_ r4.seed)).bind fun r7 =>
  some r7.1

def s_l00Src_text (s1 : L00Src) (list5 : List Str) : Option (Str × L00Src) :=
  (s_l00Src_pick (L00Src.mk s1.code s1.at_ s1.seed) (List.length list5 : Int)).bind fun r8 =>
  (idx list5 r8.1).bind fun e10 =>
  some (e10, (L00Src.mk s1.code r8.2.at_ r8.2.seed))

def s_A2Page_l1 (kj10 : (List Seen) → Option (List Seen)) (code1 : List UInt8) : Nat → Int → Int → (List Seen) → Int → Option (List Seen)
  | 0, _, _, _, _ => none
  | N + 1, x14, x15, l16, k18 =>
    bif decide (k18 > 0) then
    (s_l00Src_text (L00Src.mk code1 x14 x15) ([[97], [101], [110], [114], [116], [120]] : List Str)).bind fun r21 =>
    (s_l00Src_pick (L00Src.mk code1 r21.2.at_ r21.2.seed) 4).bind fun r24 =>
    (app l16 [(Seen.mk ((Seen.mk r21.1 0).letter) r24.1)]).bind fun l27 =>
    s_A2Page_l1 kj10 code1 N r24.2.at_ r24.2.seed l27 (w64 (k18 - 1))
    else
    kj10 l16

def s_A2Page (N : Nat) (code1 : List UInt8) : Option (List Seen) :=
  (s_l00From code1).bind fun r4 =>
  withK (fun (l8 : List Seen) =>
  some l8) fun (kj10 : (List Seen) → Option (List Seen)) =>
  (s_l00Src_pick (L00Src.mk code1 r4.at_ r4.seed) 10).bind fun r12 =>
  s_A2Page_l1 kj10 code1 N r12.2.at_ r12.2.seed [] r12.1

def i_isDigit (b1 : UInt8) : Option Bool :=
  (andO (decide (b1 ≥ (48 : UInt8))) (some (decide (b1 ≤ (57 : UInt8))))).bind fun t2 =>
  some t2

def i_IsName_l1 (kj6 : Option Bool) (s1 : Str) : Nat → Int → Option Bool
  | 0, _ => none
  | N + 1, x8 =>
    bif decide (x8 < (List.length s1 : Int)) then
    (idx s1 x8).bind fun c10 =>
    (andO (decide (c10 ≥ (97 : UInt8))) ((idx s1 x8).bind fun c15 =>
    some (decide (c15 ≤ (122 : UInt8))))).bind fun t12 =>
    (andO (!t12) ((orO (x8 == 0) ((idx s1 x8).bind fun c23 =>
    (andO (c23 != (45 : UInt8)) ((idx s1 x8).bind fun c28 =>
    (i_isDigit c28).bind fun r30 =>
    some (!r30))).bind fun t25 =>
    some t25)).bind fun t20 =>
    some t20)).bind fun t17 =>
    bif t17 then
    some false
    else
    i_IsName_l1 kj6 s1 N (w64 (x8 + 1))
    else
    kj6 

def i_IsName (N : Nat) (s1 : Str) : Option Bool :=
  (orO ((List.length s1 : Int) == 0) (some (decide ((List.length s1 : Int) > 12)))).bind fun t2 =>
  bif t2 then
  some false
  else
  withK (some true) fun (kj6 : Option Bool) =>
  i_IsName_l1 kj6 s1 N 0

def i_isText_l1 (kj5 : Option Bool) (s1 : Str) (low2 : UInt8) : Nat → Int → Option Bool
  | 0, _ => none
  | N + 1, x7 =>
    bif decide (x7 < (List.length s1 : Int)) then
    (idx s1 x7).bind fun c9 =>
    (orO (decide (c9 < low2)) ((idx s1 x7).bind fun c14 =>
    some (decide (c14 > (126 : UInt8))))).bind fun t11 =>
    bif t11 then
    some false
    else
    i_isText_l1 kj5 s1 low2 N (w64 (x7 + 1))
    else
    kj5 

def i_isText (N : Nat) (s1 : Str) (low2 : UInt8) (most3 : Int) : Option Bool :=
  bif decide ((List.length s1 : Int) > most3) then
  some false
  else
  withK (some true) fun (kj5 : Option Bool) =>
  i_isText_l1 kj5 s1 low2 N 0

def i_isLetter (N : Nat) (s1 : Str) : Option Bool :=
  (andO ((List.length s1 : Int) == 1) ((i_isText N s1 33 1).bind fun r5 =>
  some r5)).bind fun t2 =>
  some t2

def i_between (n1 : Int) (low2 : Int) (high3 : Int) : Option Bool :=
  (andO (decide (n1 ≥ low2)) (some (decide (n1 ≤ high3)))).bind fun t4 =>
  some t4

def i_validWriter_l1 (kj11 : Option Bool) (w1 : Writer) : Nat → Int → Option Bool
  | 0, _ => none
  | N + 1, x13 =>
    bif decide (x13 < (List.length w1.faults : Int)) then
    (idx w1.faults x13).bind fun e15 =>
    (i_isLetter N e15.letter).bind fun r21 =>
    (orO (!r21) ((i_between e15.kind 1 6).bind fun r26 =>
    some (!r26))).bind fun t23 =>
    (orO t23 ((andO (decide (x13 > 0)) ((idx w1.faults (w64 (x13 - 1))).bind fun e34 =>
    some (ltL e15.letter e34.letter || e15.letter == e34.letter))).bind fun t31 =>
    some t31)).bind fun t28 =>
    bif t28 then
    some false
    else
    i_validWriter_l1 kj11 w1 N (w64 (x13 + 1))
    else
    kj11 

def i_validWriter (N : Nat) (w1 : Writer) : Option Bool :=
  (i_IsName N w1.name).bind fun r5 =>
  (orO (!r5) (some (decide ((List.length w1.faults : Int) > 10)))).bind fun t7 =>
  bif t7 then
  some false
  else
  withK (some true) fun (kj11 : Option Bool) =>
  i_validWriter_l1 kj11 w1 N 0

def i_ValidWriters_l1 (kj5 : Option Bool) (list1 : List Writer) : Nat → (List (Str × Bool)) → Int → Option Bool
  | 0, _, _ => none
  | N + 1, mp7, x8 =>
    bif decide (x8 < (List.length list1 : Int)) then
    (idx list1 x8).bind fun e10 =>
    (i_validWriter N (Writer.mk e10.name e10.faults)).bind fun r19 =>
    (orO (!r19) (some (mget mp7 e10.name))).bind fun t21 =>
    bif t21 then
    some false
    else
    i_ValidWriters_l1 kj5 list1 N (mset mp7 e10.name true) (w64 (x8 + 1))
    else
    kj5 

def i_ValidWriters (N : Nat) (list1 : List Writer) : Option Bool :=
  withK (some (decide ((List.length list1 : Int) ≤ 12))) fun (kj5 : Option Bool) =>
  i_ValidWriters_l1 kj5 list1 N [] 0

def i_ValidSeen_l1 (kj4 : Option Bool) (page1 : List Seen) : Nat → Int → Option Bool
  | 0, _ => none
  | N + 1, x6 =>
    bif decide (x6 < (List.length page1 : Int)) then
    (idx page1 x6).bind fun e8 =>
    (i_isLetter N e8.letter).bind fun r14 =>
    (orO (!r14) ((i_between e8.kind 0 6).bind fun r19 =>
    some (!r19))).bind fun t16 =>
    bif t16 then
    some false
    else
    i_ValidSeen_l1 kj4 page1 N (w64 (x6 + 1))
    else
    kj4 

def i_ValidSeen (N : Nat) (page1 : List Seen) : Option Bool :=
  withK (some (decide ((List.length page1 : Int) ≤ 60))) fun (kj4 : Option Bool) =>
  i_ValidSeen_l1 kj4 page1 N 0

def i_Writer_kind_l1 (kj6 : Option Int) (w1 : Writer) (letter4 : Str) : Nat → Int → Option Int
  | 0, _ => none
  | N + 1, x8 =>
    bif decide (x8 < (List.length w1.faults : Int)) then
    (idx w1.faults x8).bind fun e10 =>
    bif (e10.letter == letter4) then
    some e10.kind
    else
    i_Writer_kind_l1 kj6 w1 letter4 N (w64 (x8 + 1))
    else
    kj6 

def i_Writer_kind (N : Nat) (w1 : Writer) (letter4 : Str) : Option Int :=
  withK (some 0) fun (kj6 : Option Int) =>
  i_Writer_kind_l1 kj6 w1 letter4 N 0

def i_Writer_contradictions_l1 (kj9 : Int → Option Int) (w1 : Writer) (page4 : List Seen) : Nat → Int → Int → Option Int
  | 0, _, _ => none
  | N + 1, n11, x12 =>
    bif decide (x12 < (List.length page4 : Int)) then
    withK (fun (n14 : Int) =>
    i_Writer_contradictions_l1 kj9 w1 page4 N n14 (w64 (x12 + 1))) fun (kj15 : Int → Option Int) =>
    (idx page4 x12).bind fun e17 =>
    (i_Writer_kind N (Writer.mk w1.name w1.faults) e17.letter).bind fun r23 =>
    bif (e17.kind != r23) then
    kj15 (w64 (n11 + 1))
    else
    kj15 n11
    else
    kj9 n11

def i_Writer_contradictions (N : Nat) (w1 : Writer) (page4 : List Seen) : Option Int :=
  withK (fun (n8 : Int) =>
  some n8) fun (kj9 : Int → Option Int) =>
  i_Writer_contradictions_l1 kj9 w1 page4 N 0 0

def i_BestWriters_l1 (kj20 : (List Int) → Int → Option ((List Int) × Int × Int)) (list1 : List Writer) (page4 : List Seen) : Nat → (List Int) → Int → Int → Option ((List Int) × Int × Int)
  | 0, _, _, _ => none
  | N + 1, l22, least24, x25 =>
    bif decide (x25 < (List.length list1 : Int)) then
    withK (fun (l27 : List Int) (least29 : Int) =>
    i_BestWriters_l1 kj20 list1 page4 N l27 least29 (w64 (x25 + 1))) fun (kj30 : (List Int) → Int → Option ((List Int) × Int × Int)) =>
    (idx list1 x25).bind fun e32 =>
    (i_Writer_contradictions N (Writer.mk e32.name e32.faults) page4).bind fun r41 =>
    withK (fun (l43 : List Int) (least45 : Int) =>
    bif (r41 == least45) then
    (app l43 [x25]).bind fun l55 =>
    kj30 l55 least45
    else
    kj30 l43 least45) fun (kj46 : (List Int) → Int → Option ((List Int) × Int × Int)) =>
    (orO (decide (least24 < 0)) (some (decide (r41 < least24)))).bind fun t48 =>
    bif t48 then
    kj46 [] r41
    else
    kj46 l22 least24
    else
    kj20 l22 least24

def i_BestWriters (N : Nat) (list1 : List Writer) (page4 : List Seen) : Option ((List Int) × Int × Int) :=
  (i_ValidWriters N list1).bind fun r7 =>
  (orO (!r7) ((i_ValidSeen N page4).bind fun r12 =>
  some (!r12))).bind fun t9 =>
  bif t9 then
  some ([], 0, 1)
  else
  bif ((List.length list1 : Int) == 0) then
  some ([], 0, 3)
  else
  withK (fun (l17 : List Int) (least19 : Int) =>
  some (l17, least19, 0)) fun (kj20 : (List Int) → Int → Option ((List Int) × Int × Int)) =>
  i_BestWriters_l1 kj20 list1 page4 N [] (-1) 0

def w_a2Rises_l1 (kj5 : Option Bool) (list1 : List Int) (n4 : Int) : Nat → Int → Option Bool
  | 0, _ => none
  | N + 1, i7 =>
    bif decide (i7 < (List.length list1 : Int)) then
    (idx list1 i7).bind fun e9 =>
    (orO (decide (e9 < 0)) ((idx list1 i7).bind fun e17 =>
    some (decide (e17 ≥ n4)))).bind fun t14 =>
    (orO t14 ((andO (decide (i7 > 0)) ((idx list1 (w64 (i7 - 1))).bind fun e28 =>
    (idx list1 i7).bind fun e33 =>
    some (decide (e28 ≥ e33)))).bind fun t25 =>
    some t25)).bind fun t22 =>
    bif t22 then
    some false
    else
    w_a2Rises_l1 kj5 list1 n4 N (w64 (i7 + 1))
    else
    kj5 

def w_a2Rises (N : Nat) (list1 : List Int) (n4 : Int) : Option Bool :=
  withK (some true) fun (kj5 : Option Bool) =>
  w_a2Rises_l1 kj5 list1 n4 N 0

def i_ContradictionsOf (N : Nat) (w1 : Writer) (page4 : List Seen) : Option (Int × Int) :=
  (i_validWriter N (Writer.mk w1.name w1.faults)).bind fun r8 =>
  (orO (!r8) ((i_ValidSeen N page4).bind fun r13 =>
  some (!r13))).bind fun t10 =>
  bif t10 then
  some (0, 1)
  else
  (i_Writer_contradictions N (Writer.mk w1.name w1.faults) page4).bind fun r16 =>
  some (r16, 0)

def w_a2Has_l1 (kj5 : Option Bool) (list1 : List Int) (n4 : Int) : Nat → Int → Option Bool
  | 0, _ => none
  | N + 1, i7 =>
    bif decide (i7 < (List.length list1 : Int)) then
    (idx list1 i7).bind fun e9 =>
    bif (e9 == n4) then
    some true
    else
    w_a2Has_l1 kj5 list1 n4 N (w64 (i7 + 1))
    else
    kj5 

def w_a2Has (N : Nat) (list1 : List Int) (n4 : Int) : Option Bool :=
  withK (some false) fun (kj5 : Option Bool) =>
  w_a2Has_l1 kj5 list1 n4 N 0

def i_TypePage_l1 (kj15 : (List Seen) → Option ((List Seen) × Int)) (w1 : Writer) (text4 : Str) : Nat → (List Seen) → Int → Option ((List Seen) × Int)
  | 0, _, _ => none
  | N + 1, l17, x19 =>
    bif decide (x19 < (List.length text4 : Int)) then
    withK (fun (l21 : List Seen) =>
    i_TypePage_l1 kj15 w1 text4 N l21 (w64 (x19 + 1))) fun (kj23 : (List Seen) → Option ((List Seen) × Int)) =>
    (sub text4 x19 (w64 (x19 + 1))).bind fun s25 =>
    bif (s25 != [32]) then
    (i_Writer_kind N (Writer.mk w1.name w1.faults) s25).bind fun r28 =>
    (app l17 [(Seen.mk s25 r28)]).bind fun l31 =>
    kj23 l31
    else
    kj23 l17
    else
    kj15 l17

def i_TypePage (N : Nat) (w1 : Writer) (text4 : Str) : Option ((List Seen) × Int) :=
  (i_validWriter N (Writer.mk w1.name w1.faults)).bind fun r6 =>
  bif !r6 then
  some ([], 1)
  else
  (i_isText N text4 32 60).bind fun r9 =>
  bif !r9 then
  some ([], 2)
  else
  withK (fun (l13 : List Seen) =>
  some (l13, 0)) fun (kj15 : (List Seen) → Option ((List Seen) × Int)) =>
  i_TypePage_l1 kj15 w1 text4 N [] 0

def i_ascending_l1 (kj7 : (List UInt8) → Option Str) (marked1 : List Bool) : Nat → (List UInt8) → Int → Option Str
  | 0, _, _ => none
  | N + 1, l9, x11 =>
    bif decide (x11 < 256) then
    withK (fun (l13 : List UInt8) =>
    i_ascending_l1 kj7 marked1 N l13 (w64 (x11 + 1))) fun (kj15 : (List UInt8) → Option Str) =>
    (idx marked1 x11).bind fun e17 =>
    bif e17 then
    (app l9 [UInt8.ofInt x11]).bind fun l24 =>
    kj15 l24
    else
    kj15 l9
    else
    kj7 l9

def i_ascending (N : Nat) (marked1 : List Bool) : Option Str :=
  withK (fun (l5 : List UInt8) =>
  some l5) fun (kj7 : (List UInt8) → Option Str) =>
  i_ascending_l1 kj7 marked1 N [] 0

def i_letterList_l1 (kj5 : (List Str) → Option (List Str)) (s1 : Str) : Nat → (List Str) → Int → Option (List Str)
  | 0, _, _ => none
  | N + 1, l7, x9 =>
    bif decide (x9 < (List.length s1 : Int)) then
    (sub s1 x9 (w64 (x9 + 1))).bind fun s11 =>
    (app l7 [s11]).bind fun l14 =>
    i_letterList_l1 kj5 s1 N l14 (w64 (x9 + 1))
    else
    kj5 l7

def i_letterList (N : Nat) (s1 : Str) : Option (List Str) :=
  withK (fun (l3 : List Str) =>
  some l3) fun (kj5 : (List Str) → Option (List Str)) =>
  i_letterList_l1 kj5 s1 N [] 0

def i_ContraryLetters_l1 (kj10 : (List Bool) → Option ((List Str) × Int)) (page1 : List Seen) : Nat → (List Bool) → (List (Str × Int)) → Int → Option ((List Str) × Int)
  | 0, _, _, _ => none
  | N + 1, l12, mp13, x14 =>
    bif decide (x14 < (List.length page1 : Int)) then
    withK (fun (l16 : List Bool) (mp17 : List (Str × Int)) =>
    i_ContraryLetters_l1 kj10 page1 N l16 mp17 (w64 (x14 + 1))) fun (kj18 : (List Bool) → (List (Str × Int)) → Option ((List Str) × Int)) =>
    (idx page1 x14).bind fun e20 =>
    bif !(Option.isSome (mgetO mp13 e20.letter)) then
    kj18 l12 (msetV mp13 e20.letter e20.kind)
    else
    bif ((Option.getD (mgetO mp13 e20.letter) (0 : Int)) != e20.kind) then
    (idx e20.letter 0).bind fun c28 =>
    (idx l12 (UInt8.toNat c28 : Int)).bind fun e30 =>
    kj18 (List.set l12 (Int.toNat (UInt8.toNat c28 : Int)) true) mp13
    else
    kj18 l12 mp13
    else
    kj10 l12

def i_ContraryLetters (N : Nat) (page1 : List Seen) : Option ((List Str) × Int) :=
  (i_ValidSeen N page1).bind fun r4 =>
  bif !r4 then
  some ([], 1)
  else
  withK (fun (l9 : List Bool) =>
  (i_ascending N l9).bind fun r32 =>
  (i_letterList N r32).bind fun r34 =>
  some (r34, 0)) fun (kj10 : (List Bool) → Option ((List Str) × Int)) =>
  i_ContraryLetters_l1 kj10 page1 N (List.replicate 256 false) ([] : List (Str × Int)) 0

def w_FnWriters_l1 (kj30 : Option Bool) (r10 : (List Writer)) (r14 : (List Seen)) (r17 : (List Int) × Int × Int) : Nat → Int → Option Bool
  | 0, _ => none
  | N + 1, i32 =>
    bif decide (i32 < (List.length r10 : Int)) then
    (idx r10 i32).bind fun e35 =>
    (i_ContradictionsOf N (Writer.mk e35.name e35.faults) r14).bind fun r40 =>
    (orO (r40.2 != 0) (some (decide (r40.1 < r17.2.1)))).bind fun t42 =>
    (orO t42 ((w_a2Has N r17.1 i32).bind fun r48 =>
    some ((r40.1 == r17.2.1) != r48))).bind fun t45 =>
    bif t45 then
    some false
    else
    (idx r10 i32).bind fun e52 =>
    (i_TypePage N (Writer.mk e52.name e52.faults) [116, 101, 97, 114, 32, 97, 110, 32, 101, 97, 114]).bind fun r57 =>
    (idx r10 i32).bind fun e61 =>
    (i_ContradictionsOf N (Writer.mk e61.name e61.faults) r57.1).bind fun r66 =>
    (i_ContraryLetters N r57.1).bind fun r68 =>
    (orO (r57.2 != 0) (some ((List.length r57.1 : Int) != 9))).bind fun t71 =>
    (orO t71 (some (r66.2 != 0))).bind fun t74 =>
    (orO t74 (some (r66.1 != 0))).bind fun t77 =>
    (orO t77 (some (r68.2 != 0))).bind fun t80 =>
    (orO t80 (some ((List.length r68.1 : Int) != 0))).bind fun t83 =>
    bif t83 then
    some false
    else
    w_FnWriters_l1 kj30 r10 r14 r17 N (w64 (i32 + 1))
    else
    kj30 

def w_FnWriters (N : Nat) (code1 : List UInt8) (more4 : List UInt8) : Option Bool :=
  (w_a2Long code1 more4).bind fun r7 =>
  bif r7 then
  some true
  else
  (s_A2Writers N code1).bind fun r10 =>
  (s_A2Page N more4).bind fun r14 =>
  (i_BestWriters N r10 r14).bind fun r17 =>
  bif ((List.length r10 : Int) == 0) then
  some (r17.2.2 == 3)
  else
  (orO (r17.2.2 != 0) (some ((List.length r17.1 : Int) == 0))).bind fun t21 =>
  (orO t21 ((w_a2Rises N r17.1 (List.length r10 : Int)).bind fun r27 =>
  some (!r27))).bind fun t24 =>
  bif t24 then
  some false
  else
  withK ((i_ContraryLetters N r14).bind fun r87 =>
  (andO (r87.2 == 0) (some (decide ((List.length r87.1 : Int) ≤ r17.2.1)))).bind fun t90 =>
  (orO t90 ((andO (r87.2 == 0) (some (r17.2.1 == 0))).bind fun t96 =>
  (andO t96 (some ((List.length r87.1 : Int) == 0))).bind fun t99 =>
  some t99)).bind fun t93 =>
  some t93) fun (kj30 : Option Bool) =>
  w_FnWriters_l1 kj30 r10 r14 r17 N 0

end Go.Proofs.Ytdmnblhhmjbhnaa
