/-
  Plain functions that compute what the Go functions compute. No conditions.
-/
import Derived.Test.YthifimjkndpmpaaBase2
namespace Go.Proofs.Ythifimjkndpmpaa
set_option linter.unusedVariables false
set_option linter.unusedSimpArgs false

variable {α : Type}
structure TypeFault where
  letter : Str
  kind : Int

def TypeFault.beq (x y : TypeFault) : Bool := x.letter == y.letter && (x.kind == y.kind)

structure Writer where
  name : Str
  faults : List TypeFault

structure L00Src where
  code : List UInt8
  at_ : Int
  seed : Int



def w_a2Long (code1 : List UInt8) (more4 : List UInt8) : Option Bool :=
  (orO (decide ((List.length code1 : Int) > 3000)) (some (decide ((List.length more4 : Int) > 3000)))).bind fun t7 =>
  some t7

def s_l00From (code1 : List UInt8) : Option L00Src :=
  some (L00Src.mk code1 0 0)

def s_l00Src_next (s1 : L00Src) : Option (Int × L00Src) :=
  withK (fun (b5 : Int) =>
  bif decide ((w64 (s1.at_ + 1)) ≤ (List.length s1.code : Int)) then
  some (b5, (L00Src.mk s1.code (w64 (s1.at_ + 1)) (IntKind.u64.wrap ((IntKind.u64.wrap ((IntKind.u64.wrap (s1.seed * 6364136223846793005)) + (IntKind.u64.wrap b5))) + 1442695040888963407))))
  else
  some (w64 (uand (ushr (IntKind.u64.wrap ((IntKind.u64.wrap ((IntKind.u64.wrap (s1.seed * 6364136223846793005)) + (IntKind.u64.wrap b5))) + 1442695040888963407)) 40) 255), (L00Src.mk s1.code (w64 (s1.at_ + 1)) (IntKind.u64.wrap ((IntKind.u64.wrap ((IntKind.u64.wrap (s1.seed * 6364136223846793005)) + (IntKind.u64.wrap b5))) + 1442695040888963407))))) fun (kj6 : Int → Option (Int × L00Src)) =>
  bif decide (s1.at_ < (List.length s1.code : Int)) then
  (idx s1.code s1.at_).bind fun e9 =>
  kj6 (UInt8.toNat e9 : Int)
  else
  kj6 0

def s_l00Src_pick (s1 : L00Src) (n5 : Int) : Option (Int × L00Src) :=
  bif decide (n5 ≤ 1) then
  some (0, (L00Src.mk s1.code s1.at_ s1.seed))
  else
  (s_l00Src_next (L00Src.mk s1.code s1.at_ s1.seed)).bind fun r7 =>
  withK (fun (x9 : Int) (x10 : Int) (x11 : Int) =>
  (remO x11 n5).bind fun q17 =>
  some (q17, (L00Src.mk s1.code x9 x10))) fun (kj12 : Int → Int → Int → Option (Int × L00Src)) =>
  bif decide (n5 > 200) then
  (s_l00Src_next (L00Src.mk s1.code r7.2.at_ r7.2.seed)).bind fun r15 =>
  kj12 r15.2.at_ r15.2.seed (w64 ((w64 (r7.1 * 256)) + r15.1))
  else
  kj12 r7.2.at_ r7.2.seed r7.1

def s_l00Src_one (s1 : L00Src) (n5 : Int) : Option (Bool × L00Src) :=
  (s_l00Src_pick (L00Src.mk s1.code s1.at_ s1.seed) n5).bind fun r6 =>
  some ((r6.1 == 0), (L00Src.mk s1.code r6.2.at_ r6.2.seed))

def s_l15New_l1 (kj14 : (List TypeFault) → Str → Int → Int → Option (Writer × L00Src)) (s1 : L00Src) : Nat → (List TypeFault) → Str → Int → Int → Int → Option (Writer × L00Src)
  | 0, _, _, _, _, _ => none
  | N + 1, l16, x18, x19, x20, i21 =>
    bif decide (i21 < (List.length ([[97], [101], [110], [114], [116], [126]] : List Str) : Int)) then
    withK (fun (x23 : Int) (x24 : Int) (l25 : List TypeFault) (x27 : Str) =>
    s_l15New_l1 kj14 s1 N l25 x27 x23 x24 (w64 (i21 + 1))) fun (kj28 : Int → Int → (List TypeFault) → Str → Option (Writer × L00Src)) =>
    (s_l00Src_one (L00Src.mk s1.code x19 x20) 3).bind fun r30 =>
    bif r30.1 then
    (idx ([[97], [101], [110], [114], [116], [126]] : List Str) i21).bind fun e33 =>
    (s_l00Src_pick (L00Src.mk s1.code r30.2.at_ r30.2.seed) 3).bind fun r35 =>
    (app l16 [(TypeFault.mk e33 (w64 (1 + r35.1)))]).bind fun l38 =>
    kj28 r35.2.at_ r35.2.seed l38 x18
    else
    kj28 r30.2.at_ r30.2.seed l16 x18
    else
    kj14 l16 x18 x19 x20

def s_l15New (N : Nat) (s1 : L00Src) (name5 : Str) : Option (Writer × L00Src) :=
  withK (fun (l9 : List TypeFault) (x11 : Str) (x12 : Int) (x13 : Int) =>
  some ((Writer.mk x11 l9), (L00Src.mk s1.code x12 x13))) fun (kj14 : (List TypeFault) → Str → Int → Int → Option (Writer × L00Src)) =>
  s_l15New_l1 kj14 s1 N [] name5 s1.at_ s1.seed 0

def s_l15Draw_l1 (kj12 : Int → Int → (List Writer) → Option ((List Writer) × L00Src)) (s1 : L00Src) : Nat → Int → Int → (List Writer) → Int → Option ((List Writer) × L00Src)
  | 0, _, _, _, _ => none
  | N + 1, x16, x17, l18, k21 =>
    bif decide (k21 > 0) then
    (idx ([[97, 100, 108, 101, 114, 45, 55], [105, 100, 101, 97, 108], [109, 105, 103, 110, 111, 110], [111, 108, 121, 109, 112, 105, 97], [114, 111, 121, 97, 108]] : List Str) (List.length l18 : Int)).bind fun e23 =>
    (s_l15New N (L00Src.mk s1.code x16 x17) e23).bind fun r25 =>
    (app l18 ([(Writer.mk r25.1.name r25.1.faults)] : List Writer)).bind fun l32 =>
    s_l15Draw_l1 kj12 s1 N r25.2.at_ r25.2.seed l32 (w64 (k21 - 1))
    else
    kj12 x16 x17 l18

def s_l15Draw (N : Nat) (s1 : L00Src) : Option ((List Writer) × L00Src) :=
  withK (fun (x7 : Int) (x8 : Int) (l9 : List Writer) =>
  some (l9, (L00Src.mk s1.code x7 x8))) fun (kj12 : Int → Int → (List Writer) → Option ((List Writer) × L00Src)) =>
  (s_l00Src_pick (L00Src.mk s1.code s1.at_ s1.seed) 6).bind fun r14 =>
  s_l15Draw_l1 kj12 s1 N r14.2.at_ r14.2.seed ([] : List Writer) r14.1

def s_A2Writers (N : Nat) (code1 : List UInt8) : Option (List Writer) :=
  (s_l00From code1).bind fun r4 =>
  (s_l15Draw N (L00Src.mk code1 r4.at_ r4.seed)).bind fun r7 =>
  some r7.1

def i_isDigit (b1 : UInt8) : Option Bool :=
  (andO (decide (b1 ≥ (48 : UInt8))) (some (decide (b1 ≤ (57 : UInt8))))).bind fun t2 =>
  some t2

def i_IsName_l1 (kj6 : Option Bool) (s1 : Str) : Nat → Int → Option Bool
  | 0, _ => none
  | N + 1, x8 =>
    bif decide (x8 < (List.length s1 : Int)) then
    (idx s1 x8).bind fun c10 =>
    (andO (decide (c10 ≥ (97 : UInt8))) ((idx s1 x8).bind fun c15 =>
    some (decide (c15 ≤ (122 : UInt8))))).bind fun t12 =>
    (andO (!t12) ((orO (x8 == 0) ((idx s1 x8).bind fun c23 =>
    (andO (c23 != (45 : UInt8)) ((idx s1 x8).bind fun c28 =>
    (i_isDigit c28).bind fun r30 =>
    some (!r30))).bind fun t25 =>
    some t25)).bind fun t20 =>
    some t20)).bind fun t17 =>
    bif t17 then
    some false
    else
    i_IsName_l1 kj6 s1 N (w64 (x8 + 1))
    else
    kj6 

def i_IsName (N : Nat) (s1 : Str) : Option Bool :=
  (orO ((List.length s1 : Int) == 0) (some (decide ((List.length s1 : Int) > 12)))).bind fun t2 =>
  bif t2 then
  some false
  else
  withK (some true) fun (kj6 : Option Bool) =>
  i_IsName_l1 kj6 s1 N 0

def i_isText_l1 (kj5 : Option Bool) (s1 : Str) (low2 : UInt8) : Nat → Int → Option Bool
  | 0, _ => none
  | N + 1, x7 =>
    bif decide (x7 < (List.length s1 : Int)) then
    (idx s1 x7).bind fun c9 =>
    (orO (decide (c9 < low2)) ((idx s1 x7).bind fun c14 =>
    some (decide (c14 > (126 : UInt8))))).bind fun t11 =>
    bif t11 then
    some false
    else
    i_isText_l1 kj5 s1 low2 N (w64 (x7 + 1))
    else
    kj5 

def i_isText (N : Nat) (s1 : Str) (low2 : UInt8) (most3 : Int) : Option Bool :=
  bif decide ((List.length s1 : Int) > most3) then
  some false
  else
  withK (some true) fun (kj5 : Option Bool) =>
  i_isText_l1 kj5 s1 low2 N 0

def i_isLetter (N : Nat) (s1 : Str) : Option Bool :=
  (andO ((List.length s1 : Int) == 1) ((i_isText N s1 33 1).bind fun r5 =>
  some r5)).bind fun t2 =>
  some t2

def i_between (n1 : Int) (low2 : Int) (high3 : Int) : Option Bool :=
  (andO (decide (n1 ≥ low2)) (some (decide (n1 ≤ high3)))).bind fun t4 =>
  some t4

def i_validWriter_l1 (kj11 : Option Bool) (w1 : Writer) : Nat → Int → Option Bool
  | 0, _ => none
  | N + 1, x13 =>
    bif decide (x13 < (List.length w1.faults : Int)) then
    (idx w1.faults x13).bind fun e15 =>
    (i_isLetter N e15.letter).bind fun r21 =>
    (orO (!r21) ((i_between e15.kind 1 6).bind fun r26 =>
    some (!r26))).bind fun t23 =>
    (orO t23 ((andO (decide (x13 > 0)) ((idx w1.faults (w64 (x13 - 1))).bind fun e34 =>
    some (ltL e15.letter e34.letter || e15.letter == e34.letter))).bind fun t31 =>
    some t31)).bind fun t28 =>
    bif t28 then
    some false
    else
    i_validWriter_l1 kj11 w1 N (w64 (x13 + 1))
    else
    kj11 

def i_validWriter (N : Nat) (w1 : Writer) : Option Bool :=
  (i_IsName N w1.name).bind fun r5 =>
  (orO (!r5) (some (decide ((List.length w1.faults : Int) > 10)))).bind fun t7 =>
  bif t7 then
  some false
  else
  withK (some true) fun (kj11 : Option Bool) =>
  i_validWriter_l1 kj11 w1 N 0

def i_ValidWriters_l1 (kj5 : Option Bool) (list1 : List Writer) : Nat → (List (Str × Bool)) → Int → Option Bool
  | 0, _, _ => none
  | N + 1, mp7, x8 =>
    bif decide (x8 < (List.length list1 : Int)) then
    (idx list1 x8).bind fun e10 =>
    (i_validWriter N (Writer.mk e10.name e10.faults)).bind fun r19 =>
    (orO (!r19) (some (mget mp7 e10.name))).bind fun t21 =>
    bif t21 then
    some false
    else
    i_ValidWriters_l1 kj5 list1 N (mset mp7 e10.name true) (w64 (x8 + 1))
    else
    kj5 

def i_ValidWriters (N : Nat) (list1 : List Writer) : Option Bool :=
  withK (some (decide ((List.length list1 : Int) ≤ 12))) fun (kj5 : Option Bool) =>
  i_ValidWriters_l1 kj5 list1 N [] 0

def i_Writer_kind_l1 (kj6 : Option Int) (w1 : Writer) (letter4 : Str) : Nat → Int → Option Int
  | 0, _ => none
  | N + 1, x8 =>
    bif decide (x8 < (List.length w1.faults : Int)) then
    (idx w1.faults x8).bind fun e10 =>
    bif (e10.letter == letter4) then
    some e10.kind
    else
    i_Writer_kind_l1 kj6 w1 letter4 N (w64 (x8 + 1))
    else
    kj6 

def i_Writer_kind (N : Nat) (w1 : Writer) (letter4 : Str) : Option Int :=
  withK (some 0) fun (kj6 : Option Int) =>
  i_Writer_kind_l1 kj6 w1 letter4 N 0

def i_apart_l2 (kj17 : (List Bool) → Option (List Bool)) (a1 : Writer) (b4 : Writer) (e19 : Writer) : Nat → (List Bool) → Int → Option (List Bool)
  | 0, _, _ => none
  | N + 1, l27, x28 =>
    bif decide (x28 < (List.length e19.faults : Int)) then
    withK (fun (l30 : List Bool) =>
    i_apart_l2 kj17 a1 b4 e19 N l30 (w64 (x28 + 1))) fun (kj31 : (List Bool) → Option (List Bool)) =>
    (idx e19.faults x28).bind fun e33 =>
    (i_Writer_kind N (Writer.mk a1.name a1.faults) e33.letter).bind fun r39 =>
    (i_Writer_kind N (Writer.mk b4.name b4.faults) e33.letter).bind fun r41 =>
    bif (r39 != r41) then
    (idx e33.letter 0).bind fun c44 =>
    (idx l27 (UInt8.toNat c44 : Int)).bind fun e46 =>
    kj31 (List.set l27 (Int.toNat (UInt8.toNat c44 : Int)) true)
    else
    kj31 l27
    else
    kj17 l27

def i_apart_l1 (a1 : Writer) (b4 : Writer) : Nat → (List Bool) → Int → Option (List Bool)
  | 0, _, _ => none
  | N + 1, l13, x14 =>
    bif decide (x14 < (List.length ([(Writer.mk a1.name a1.faults), (Writer.mk b4.name b4.faults)] : List Writer) : Int)) then
    withK (fun (l16 : List Bool) =>
    i_apart_l1 a1 b4 N l16 (w64 (x14 + 1))) fun (kj17 : (List Bool) → Option (List Bool)) =>
    (idx ([(Writer.mk a1.name a1.faults), (Writer.mk b4.name b4.faults)] : List Writer) x14).bind fun e19 =>
    i_apart_l2 kj17 a1 b4 e19 N l13 0
    else
    some l13

def i_apart (N : Nat) (a1 : Writer) (b4 : Writer) (marked7 : List Bool) : Option (List Bool) :=
  i_apart_l1 a1 b4 N marked7 0

def i_ascending_l1 (kj7 : (List UInt8) → Option Str) (marked1 : List Bool) : Nat → (List UInt8) → Int → Option Str
  | 0, _, _ => none
  | N + 1, l9, x11 =>
    bif decide (x11 < 256) then
    withK (fun (l13 : List UInt8) =>
    i_ascending_l1 kj7 marked1 N l13 (w64 (x11 + 1))) fun (kj15 : (List UInt8) → Option Str) =>
    (idx marked1 x11).bind fun e17 =>
    bif e17 then
    (app l9 [UInt8.ofInt x11]).bind fun l24 =>
    kj15 l24
    else
    kj15 l9
    else
    kj7 l9

def i_ascending (N : Nat) (marked1 : List Bool) : Option Str :=
  withK (fun (l5 : List UInt8) =>
  some l5) fun (kj7 : (List UInt8) → Option Str) =>
  i_ascending_l1 kj7 marked1 N [] 0

def i_firstChoice_l1 (kj5 : (List Int) → Option (List Int)) (size1 : Int) : Nat → (List Int) → Int → Option (List Int)
  | 0, _, _ => none
  | N + 1, l7, x9 =>
    bif decide (x9 < size1) then
    (app l7 [x9]).bind fun l12 =>
    i_firstChoice_l1 kj5 size1 N l12 (w64 (x9 + 1))
    else
    kj5 l7

def i_firstChoice (N : Nat) (size1 : Int) : Option (List Int) :=
  withK (fun (l3 : List Int) =>
  some l3) fun (kj5 : (List Int) → Option (List Int)) =>
  i_firstChoice_l1 kj5 size1 N [] 0

def i_nextChoice_l2 (kj21 : (List Int) → Option (Bool × (List Int))) : Nat → (List Int) → Int → Option (Bool × (List Int))
  | 0, _, _ => none
  | N + 1, l23, k24 =>
    bif decide (k24 < (List.length l23 : Int)) then
    (idx l23 (w64 (k24 - 1))).bind fun e26 =>
    (idx l23 k24).bind fun e28 =>
    i_nextChoice_l2 kj21 N (List.set l23 (Int.toNat k24) (w64 (e26 + 1))) (w64 (k24 + 1))
    else
    kj21 l23

def i_nextChoice_l1 (kj5 : (List Int) → Option (Bool × (List Int))) (n3 : Int) : Nat → (List Int) → Int → Option (Bool × (List Int))
  | 0, _, _ => none
  | N + 1, l7, i8 =>
    bif decide (i8 ≥ 0) then
    withK (fun (l10 : List Int) =>
    i_nextChoice_l1 kj5 n3 N l10 (w64 (i8 - 1))) fun (kj11 : (List Int) → Option (Bool × (List Int))) =>
    (idx l7 i8).bind fun e13 =>
    bif decide (e13 < (w64 ((w64 (n3 - (List.length l7 : Int))) + i8))) then
    (idx l7 i8).bind fun e16 =>
    (idx l7 i8).bind fun e18 =>
    withK (fun (l20 : List Int) =>
    some (true, l20)) fun (kj21 : (List Int) → Option (Bool × (List Int))) =>
    i_nextChoice_l2 kj21 N (List.set l7 (Int.toNat i8) (w64 (e16 + 1))) (w64 (i8 + 1))
    else
    kj11 l7
    else
    kj5 l7

def i_nextChoice (N : Nat) (list1 : List Int) (n3 : Int) : Option (Bool × (List Int)) :=
  withK (fun (l4 : List Int) =>
  some (false, l4)) fun (kj5 : (List Int) → Option (Bool × (List Int))) =>
  i_nextChoice_l1 kj5 n3 N list1 (w64 ((List.length list1 : Int) - 1))

def i_FewestLetters_l2 (kj22 : (List (List Bool)) → (List Bool) → Option ((List Str) × Int)) (list1 : List Writer) (x17 : Int) : Nat → (List (List Bool)) → (List Bool) → Int → Option ((List Str) × Int)
  | 0, _, _, _ => none
  | N + 1, l24, l26, x27 =>
    bif decide (x27 < x17) then
    (idx list1 x17).bind fun e30 =>
    (idx list1 x27).bind fun e37 =>
    (i_apart N (Writer.mk e30.name e30.faults) (Writer.mk e37.name e37.faults) (List.replicate 256 false)).bind fun r44 =>
    (i_ascending N r44).bind fun r46 =>
    bif (r46 == []) then
    some ([], 9)
    else
    (idx list1 x17).bind fun e49 =>
    (idx list1 x27).bind fun e56 =>
    (i_apart N (Writer.mk e49.name e49.faults) (Writer.mk e56.name e56.faults) l26).bind fun r63 =>
    (appB l24 ([r44] : List (List Bool))).bind fun l67 =>
    i_FewestLetters_l2 kj22 list1 x17 N l67 r63 (w64 (x27 + 1))
    else
    kj22 l24 l26

def i_FewestLetters_l1 (kj12 : (List (List Bool)) → (List Bool) → Option ((List Str) × Int)) (list1 : List Writer) : Nat → (List (List Bool)) → (List Bool) → Int → Option ((List Str) × Int)
  | 0, _, _, _ => none
  | N + 1, l14, l16, x17 =>
    bif decide (x17 < (List.length list1 : Int)) then
    withK (fun (l19 : List (List Bool)) (l21 : List Bool) =>
    i_FewestLetters_l1 kj12 list1 N l19 l21 (w64 (x17 + 1))) fun (kj22 : (List (List Bool)) → (List Bool) → Option ((List Str) × Int)) =>
    i_FewestLetters_l2 kj22 list1 x17 N l14 l16 0
    else
    kj12 l14 l16

def i_FewestLetters_l6 (kj90 : Bool → Option ((List Str) × Int)) (l9 : List (List Bool)) (r70 : Str) (l79 : List Int) (x84 : Int) : Nat → Bool → Int → Option ((List Str) × Int)
  | 0, _, _ => none
  | N + 1, told92, x93 =>
    bif decide (x93 < (List.length l79 : Int)) then
    (idx l79 x93).bind fun e95 =>
    (orO told92 ((idx r70 e95).bind fun c100 =>
    (idx l9 x84).bind fun e102 =>
    (idxA 256 e102 (UInt8.toNat c100 : Int)).bind fun e104 =>
    some e104)).bind fun t97 =>
    i_FewestLetters_l6 kj90 l9 r70 l79 x84 N t97 (w64 (x93 + 1))
    else
    kj90 told92

def i_FewestLetters_l5 (kj81 : Bool → Option ((List Str) × Int)) (l9 : List (List Bool)) (r70 : Str) (l79 : List Int) : Nat → Bool → Int → Option ((List Str) × Int)
  | 0, _, _ => none
  | N + 1, all83, x84 =>
    bif decide (x84 < (List.length l9 : Int)) then
    withK (fun (all86 : Bool) =>
    i_FewestLetters_l5 kj81 l9 r70 l79 N all86 (w64 (x84 + 1))) fun (kj87 : Bool → Option ((List Str) × Int)) =>
    withK (fun (told89 : Bool) =>
    (andO all83 (some told89)).bind fun t106 =>
    kj87 t106) fun (kj90 : Bool → Option ((List Str) × Int)) =>
    i_FewestLetters_l6 kj90 l9 r70 l79 x84 N false 0
    else
    kj81 all83

def i_FewestLetters_l7 (kj115 : (List Str) → Option ((List Str) × Int)) (r70 : Str) (l79 : List Int) : Nat → (List Str) → Int → Option ((List Str) × Int)
  | 0, _, _ => none
  | N + 1, l117, x119 =>
    bif decide (x119 < (List.length l79 : Int)) then
    (idx l79 x119).bind fun e121 =>
    (sub r70 e121 (w64 (e121 + 1))).bind fun s123 =>
    (app l117 [s123]).bind fun l126 =>
    i_FewestLetters_l7 kj115 r70 l79 N l126 (w64 (x119 + 1))
    else
    kj115 l117

def i_FewestLetters_l4 (kj74 : Option ((List Str) × Int)) (l9 : List (List Bool)) (r70 : Str) : Nat → (List Int) → Option ((List Str) × Int)
  | 0, _ => none
  | N + 1, l79 =>
    withK (fun (all80 : Bool) =>
    withK ((i_nextChoice N l79 (List.length r70 : Int)).bind fun r129 =>
    bif !r129.1 then
    kj74 
    else
    i_FewestLetters_l4 kj74 l9 r70 N r129.2) fun (kj109 : Option ((List Str) × Int)) =>
    bif all80 then
    withK (fun (l113 : List Str) =>
    some (l113, 0)) fun (kj115 : (List Str) → Option ((List Str) × Int)) =>
    i_FewestLetters_l7 kj115 r70 l79 N [] 0
    else
    kj109 ) fun (kj81 : Bool → Option ((List Str) × Int)) =>
    i_FewestLetters_l5 kj81 l9 r70 l79 N true 0

def i_FewestLetters_l3 (l9 : List (List Bool)) (r70 : Str) : Nat → Int → Option ((List Str) × Int)
  | 0, _ => none
  | N + 1, size73 =>
    withK (i_FewestLetters_l3 l9 r70 N (w64 (size73 + 1))) fun (kj74 : Option ((List Str) × Int)) =>
    (i_firstChoice N size73).bind fun r76 =>
    i_FewestLetters_l4 kj74 l9 r70 N r76

def i_FewestLetters (N : Nat) (list1 : List Writer) : Option ((List Str) × Int) :=
  (i_ValidWriters N list1).bind fun r4 =>
  bif !r4 then
  some ([], 1)
  else
  withK (fun (l9 : List (List Bool)) (l11 : List Bool) =>
  (i_ascending N l11).bind fun r70 =>
  bif decide ((List.length r70 : Int) > 16) then
  some ([], 5)
  else
  i_FewestLetters_l3 l9 r70 N 0) fun (kj12 : (List (List Bool)) → (List Bool) → Option ((List Str) × Int)) =>
  i_FewestLetters_l1 kj12 list1 N ([] : List (List Bool)) (List.replicate 256 false) 0

def i_RareFaults_c1 (i1 : Int) (k2 : Int) (x3 : List TypeFault) : Option Bool :=
  (idx x3 i1).bind fun e8 =>
  (idx x3 k2).bind fun e13 =>
  bif (e8.letter != e13.letter) then
  (idx x3 i1).bind fun e19 =>
  (idx x3 k2).bind fun e24 =>
  some (ltL e19.letter e24.letter)
  else
  (idx x3 i1).bind fun e29 =>
  (idx x3 k2).bind fun e34 =>
  some (decide (e29.kind < e34.kind))

def sort_insertionSort_func_l2 (kj9 : (List α) → Option (List α)) (lt : α → α → Bool) (a2 : Int) : Nat → (List α) → Int → Option (List α)
  | 0, _, _ => none
  | N + 1, l11, j12 =>
    (andO (decide (j12 > a2)) ((lessO lt l11 j12 (w64 (j12 - 1))).bind fun b17 =>
    some b17)).bind fun t13 =>
    bif t13 then
    (swapO l11 j12 (w64 (j12 - 1))).bind fun l20 =>
    sort_insertionSort_func_l2 kj9 lt a2 N l20 (w64 (j12 - 1))
    else
    kj9 l11

def sort_insertionSort_func_l1 (lt : α → α → Bool) (a2 : Int) (b3 : Int) : Nat → (List α) → Int → Option (List α)
  | 0, _, _ => none
  | N + 1, l5, i6 =>
    bif decide (i6 < b3) then
    withK (fun (l8 : List α) =>
    sort_insertionSort_func_l1 lt a2 b3 N l8 (w64 (i6 + 1))) fun (kj9 : (List α) → Option (List α)) =>
    sort_insertionSort_func_l2 kj9 lt a2 N l5 i6
    else
    some l5

def sort_insertionSort_func (N : Nat) (xs1 : List α) (a2 : Int) (b3 : Int) (lt : α → α → Bool) : Option (List α) :=
  sort_insertionSort_func_l1 lt a2 b3 N xs1 (w64 (a2 + 1))

def sort_siftDown_func_l1 (lt : α → α → Bool) (hi3 : Int) (first4 : Int) : Nat → (List α) → Int → Option (List α)
  | 0, _, _ => none
  | N + 1, l6, root7 =>
    bif decide ((w64 ((w64 (2 * root7)) + 1)) ≥ hi3) then
    some l6
    else
    withK (fun (child9 : Int) =>
    (lessO lt l6 (w64 (first4 + root7)) (w64 (first4 + child9))).bind fun b19 =>
    bif !b19 then
    some l6
    else
    (swapO l6 (w64 (first4 + root7)) (w64 (first4 + child9))).bind fun l22 =>
    sort_siftDown_func_l1 lt hi3 first4 N l22 child9) fun (kj10 : Int → Option (List α)) =>
    (andO (decide ((w64 ((w64 ((w64 (2 * root7)) + 1)) + 1)) < hi3)) ((lessO lt l6 (w64 (first4 + (w64 ((w64 (2 * root7)) + 1)))) (w64 ((w64 (first4 + (w64 ((w64 (2 * root7)) + 1)))) + 1))).bind fun b16 =>
    some b16)).bind fun t12 =>
    bif t12 then
    kj10 (w64 ((w64 ((w64 (2 * root7)) + 1)) + 1))
    else
    kj10 (w64 ((w64 (2 * root7)) + 1))

def sort_siftDown_func (N : Nat) (xs1 : List α) (lo2 : Int) (hi3 : Int) (first4 : Int) (lt : α → α → Bool) : Option (List α) :=
  sort_siftDown_func_l1 lt hi3 first4 N xs1 lo2

def sort_heapSort_func_l1 (kj6 : (List α) → Option (List α)) (lt : α → α → Bool) (a2 : Int) (b3 : Int) : Nat → (List α) → Int → Option (List α)
  | 0, _, _ => none
  | N + 1, l8, i9 =>
    bif decide (i9 ≥ 0) then
    (sort_siftDown_func N l8 i9 (w64 (b3 - a2)) a2 lt).bind fun r11 =>
    sort_heapSort_func_l1 kj6 lt a2 b3 N r11 (w64 (i9 - 1))
    else
    kj6 l8

def sort_heapSort_func_l2 (lt : α → α → Bool) (a2 : Int) : Nat → (List α) → Int → Option (List α)
  | 0, _, _ => none
  | N + 1, l13, i14 =>
    bif decide (i14 ≥ 0) then
    (swapO l13 a2 (w64 (a2 + i14))).bind fun l17 =>
    (sort_siftDown_func N l17 0 i14 a2 lt).bind fun r18 =>
    sort_heapSort_func_l2 lt a2 N r18 (w64 (i14 - 1))
    else
    some l13

def sort_heapSort_func (N : Nat) (xs1 : List α) (a2 : Int) (b3 : Int) (lt : α → α → Bool) : Option (List α) :=
  withK (fun (l5 : List α) =>
  sort_heapSort_func_l2 lt a2 N l5 (w64 ((w64 (b3 - a2)) - 1))) fun (kj6 : (List α) → Option (List α)) =>
  sort_heapSort_func_l1 kj6 lt a2 b3 N xs1 (w64 (Int.tdiv (w64 ((w64 (b3 - a2)) - 1)) 2))

def bits_Len64 (x1 : Int) : Option Int :=
  withK (fun (x2 : Int) (n3 : Int) =>
  withK (fun (x7 : Int) (n8 : Int) =>
  withK (fun (x12 : Int) (n13 : Int) =>
  (idx [0, 1, 2, 2, 3, 3, 3, 3, 4, 4, 4, 4, 4, 4, 4, 4, 5, 5, 5, 5, 5, 5, 5, 5, 5, 5, 5, 5, 5, 5, 5, 5, 6, 6, 6, 6, 6, 6, 6, 6, 6, 6, 6, 6, 6, 6, 6, 6, 6, 6, 6, 6, 6, 6, 6, 6, 6, 6, 6, 6, 6, 6, 6, 6, 7, 7, 7, 7, 7, 7, 7, 7, 7, 7, 7, 7, 7, 7, 7, 7, 7, 7, 7, 7, 7, 7, 7, 7, 7, 7, 7, 7, 7, 7, 7, 7, 7, 7, 7, 7, 7, 7, 7, 7, 7, 7, 7, 7, 7, 7, 7, 7, 7, 7, 7, 7, 7, 7, 7, 7, 7, 7, 7, 7, 7, 7, 7, 7, 8, 8, 8, 8, 8, 8, 8, 8, 8, 8, 8, 8, 8, 8, 8, 8, 8, 8, 8, 8, 8, 8, 8, 8, 8, 8, 8, 8, 8, 8, 8, 8, 8, 8, 8, 8, 8, 8, 8, 8, 8, 8, 8, 8, 8, 8, 8, 8, 8, 8, 8, 8, 8, 8, 8, 8, 8, 8, 8, 8, 8, 8, 8, 8, 8, 8, 8, 8, 8, 8, 8, 8, 8, 8, 8, 8, 8, 8, 8, 8, 8, 8, 8, 8, 8, 8, 8, 8, 8, 8, 8, 8, 8, 8, 8, 8, 8, 8, 8, 8, 8, 8, 8, 8, 8, 8, 8, 8, 8, 8, 8, 8, 8, 8, 8, 8, 8, 8, 8, 8, 8, 8, 8, 8, 8, 8, 8, 8] (UInt8.toNat (UInt8.ofInt x12) : Int)).bind fun c17 =>
  some (w64 (n13 + (UInt8.toNat c17 : Int)))) fun (kj14 : Int → Int → Option Int) =>
  bif decide (x7 ≥ 256) then
  kj14 (ushr x7 8) (w64 (n8 + 8))
  else
  kj14 x7 n8) fun (kj9 : Int → Int → Option Int) =>
  bif decide (x2 ≥ 65536) then
  kj9 (ushr x2 16) (w64 (n3 + 16))
  else
  kj9 x2 n3) fun (kj4 : Int → Int → Option Int) =>
  bif decide (x1 ≥ 4294967296) then
  kj4 (ushr x1 32) 32
  else
  kj4 x1 0

def bits_Len (x1 : Int) : Option Int :=
  (bits_Len64 x1).bind fun r2 =>
  some r2

def sort_nextPowerOfTwo (length1 : Int) : Option Int :=
  (bits_Len (IntKind.u64.wrap length1)).bind fun r2 =>
  (ushlO 1 (IntKind.u64.wrap r2)).bind fun q4 =>
  some q4

def sort_xorshift_Next (r1 : Int) : Option (Int × Int) :=
  (ushlO r1 13).bind fun q3 =>
  (ushlO (uxor (uxor r1 q3) (ushr (uxor r1 q3) 7)) 17).bind fun q7 =>
  some (uxor (uxor (uxor r1 q3) (ushr (uxor r1 q3) 7)) q7, uxor (uxor (uxor r1 q3) (ushr (uxor r1 q3) 7)) q7)

def sort_breakPatterns_func_l1 (a2 : Int) (b3 : Int) (r7 : Int) : Nat → Int → (List α) → Int → Option (List α)
  | 0, _, _, _ => none
  | N + 1, x9, l10, idx11 =>
    bif decide (idx11 ≤ (w64 ((w64 (a2 + (w64 ((w64 (Int.tdiv (w64 (b3 - a2)) 4)) * 2)))) + 1))) then
    (sort_xorshift_Next x9).bind fun r13 =>
    withK (fun (other15 : Int) =>
    (swapO l10 idx11 (w64 (a2 + other15))).bind fun l20 =>
    sort_breakPatterns_func_l1 a2 b3 r7 N r13.2 l20 (w64 (idx11 + 1))) fun (kj16 : Int → Option (List α)) =>
    bif decide ((w64 (uand r13.1 (IntKind.u64.wrap (r7 - 1)))) ≥ (w64 (b3 - a2))) then
    kj16 (w64 ((w64 (uand r13.1 (IntKind.u64.wrap (r7 - 1)))) - (w64 (b3 - a2))))
    else
    kj16 (w64 (uand r13.1 (IntKind.u64.wrap (r7 - 1))))
    else
    some l10

def sort_breakPatterns_func (N : Nat) (xs1 : List α) (a2 : Int) (b3 : Int) (lt : α → α → Bool) : Option (List α) :=
  bif decide ((w64 (b3 - a2)) ≥ 8) then
  (sort_nextPowerOfTwo (w64 (b3 - a2))).bind fun r7 =>
  sort_breakPatterns_func_l1 a2 b3 r7 N (IntKind.u64.wrap (w64 (b3 - a2))) xs1 (w64 ((w64 (a2 + (w64 ((w64 (Int.tdiv (w64 (b3 - a2)) 4)) * 2)))) - 1))
  else
  some xs1

def sort_order2_func (xs1 : List α) (a2 : Int) (b3 : Int) (swaps4 : Int) (lt : α → α → Bool) : Option (Int × Int × (List α) × Int) :=
  (lessO lt xs1 b3 a2).bind fun b8 =>
  bif b8 then
  some (b3, a2, xs1, w64 (swaps4 + 1))
  else
  some (a2, b3, xs1, swaps4)

def sort_median_func (xs1 : List α) (a2 : Int) (b3 : Int) (c4 : Int) (swaps5 : Int) (lt : α → α → Bool) : Option (Int × (List α) × Int) :=
  (sort_order2_func xs1 a2 b3 swaps5 lt).bind fun r8 =>
  (sort_order2_func r8.2.2.1 r8.2.1 c4 r8.2.2.2 lt).bind fun r10 =>
  (sort_order2_func r10.2.2.1 r8.1 r10.1 r10.2.2.2 lt).bind fun r12 =>
  some (r12.2.1, r12.2.2.1, r12.2.2.2)

def sort_medianAdjacent_func (xs1 : List α) (a2 : Int) (swaps3 : Int) (lt : α → α → Bool) : Option (Int × (List α) × Int) :=
  (sort_median_func xs1 (w64 (a2 - 1)) a2 (w64 (a2 + 1)) swaps3 lt).bind fun r6 =>
  some (r6.1, r6.2.1, r6.2.2)

def sort_choosePivot_func (xs1 : List α) (a2 : Int) (b3 : Int) (lt : α → α → Bool) : Option (Int × Int × (List α)) :=
  withK (fun (l6 : List α) (x7 : Int) (j8 : Int) =>
  bif (x7 == 0) then
  some (j8, 1, l6)
  else
  bif (x7 == 12) then
  some (j8, 2, l6)
  else
  some (j8, 0, l6)) fun (kj9 : (List α) → Int → Int → Option (Int × Int × (List α))) =>
  bif decide ((w64 (b3 - a2)) ≥ 8) then
  withK (fun (l12 : List α) (x13 : Int) (i14 : Int) (j15 : Int) (k16 : Int) =>
  (sort_median_func l12 i14 j15 k16 x13 lt).bind fun r26 =>
  kj9 r26.2.1 r26.2.2 r26.1) fun (kj17 : (List α) → Int → Int → Int → Int → Option (Int × Int × (List α))) =>
  bif decide ((w64 (b3 - a2)) ≥ 50) then
  (sort_medianAdjacent_func xs1 (w64 (a2 + (w64 ((w64 (Int.tdiv (w64 (b3 - a2)) 4)) * 1)))) 0 lt).bind fun r20 =>
  (sort_medianAdjacent_func r20.2.1 (w64 (a2 + (w64 ((w64 (Int.tdiv (w64 (b3 - a2)) 4)) * 2)))) r20.2.2 lt).bind fun r22 =>
  (sort_medianAdjacent_func r22.2.1 (w64 (a2 + (w64 ((w64 (Int.tdiv (w64 (b3 - a2)) 4)) * 3)))) r22.2.2 lt).bind fun r24 =>
  kj17 r24.2.1 r24.2.2 r20.1 r22.1 r24.1
  else
  kj17 xs1 0 (w64 (a2 + (w64 ((w64 (Int.tdiv (w64 (b3 - a2)) 4)) * 1)))) (w64 (a2 + (w64 ((w64 (Int.tdiv (w64 (b3 - a2)) 4)) * 2)))) (w64 (a2 + (w64 ((w64 (Int.tdiv (w64 (b3 - a2)) 4)) * 3))))
  else
  kj9 xs1 0 (w64 (a2 + (w64 ((w64 (Int.tdiv (w64 (b3 - a2)) 4)) * 2))))

def sort_reverseRange_func_l1  : Nat → (List α) → Int → Int → Option (List α)
  | 0, _, _, _ => none
  | N + 1, l5, i6, j7 =>
    bif decide (i6 < j7) then
    (swapO l5 i6 j7).bind fun l10 =>
    sort_reverseRange_func_l1 N l10 (w64 (i6 + 1)) (w64 (j7 - 1))
    else
    some l5

def sort_reverseRange_func (N : Nat) (xs1 : List α) (a2 : Int) (b3 : Int) (lt : α → α → Bool) : Option (List α) :=
  sort_reverseRange_func_l1 N xs1 a2 (w64 (b3 - 1))

def sort_partialInsertionSort_func_l2 (kj17 : Int → Option (Bool × (List α))) (lt : α → α → Bool) (b3 : Int) (l8 : List α) : Nat → Int → Option (Bool × (List α))
  | 0, _ => none
  | N + 1, i19 =>
    (andO (decide (i19 < b3)) ((lessO lt l8 i19 (w64 (i19 - 1))).bind fun b24 =>
    some (!b24))).bind fun t20 =>
    bif t20 then
    sort_partialInsertionSort_func_l2 kj17 lt b3 l8 N (w64 (i19 + 1))
    else
    kj17 i19

def sort_partialInsertionSort_func_l3 (kj31 : (List α) → Option (Bool × (List α))) (lt : α → α → Bool) : Nat → (List α) → Int → Option (Bool × (List α))
  | 0, _, _ => none
  | N + 1, l34, j35 =>
    bif decide (j35 ≥ 1) then
    (lessO lt l34 j35 (w64 (j35 - 1))).bind fun b38 =>
    bif !b38 then
    kj31 l34
    else
    (swapO l34 j35 (w64 (j35 - 1))).bind fun l41 =>
    sort_partialInsertionSort_func_l3 kj31 lt N l41 (w64 (j35 - 1))
    else
    kj31 l34

def sort_partialInsertionSort_func_l4 (kj14 : (List α) → Int → Option (Bool × (List α))) (lt : α → α → Bool) (b3 : Int) (i16 : Int) : Nat → (List α) → Int → Option (Bool × (List α))
  | 0, _, _ => none
  | N + 1, l43, j44 =>
    bif decide (j44 < b3) then
    (lessO lt l43 j44 (w64 (j44 - 1))).bind fun b47 =>
    bif !b47 then
    kj14 l43 i16
    else
    (swapO l43 j44 (w64 (j44 - 1))).bind fun l50 =>
    sort_partialInsertionSort_func_l4 kj14 lt b3 i16 N l50 (w64 (j44 + 1))
    else
    kj14 l43 i16

def sort_partialInsertionSort_func_l1 (kj6 : (List α) → Option (Bool × (List α))) (lt : α → α → Bool) (a2 : Int) (b3 : Int) : Nat → (List α) → Int → Int → Option (Bool × (List α))
  | 0, _, _, _ => none
  | N + 1, l8, i9, j10 =>
    bif decide (j10 < 5) then
    withK (fun (l12 : List α) (i13 : Int) =>
    sort_partialInsertionSort_func_l1 kj6 lt a2 b3 N l12 i13 (w64 (j10 + 1))) fun (kj14 : (List α) → Int → Option (Bool × (List α))) =>
    withK (fun (i16 : Int) =>
    bif (i16 == b3) then
    some (true, l8)
    else
    bif decide ((w64 (b3 - a2)) < 50) then
    some (false, l8)
    else
    (swapO l8 i16 (w64 (i16 - 1))).bind fun l29 =>
    withK (fun (l30 : List α) =>
    bif decide ((w64 (b3 - i16)) ≥ 2) then
    sort_partialInsertionSort_func_l4 kj14 lt b3 i16 N l30 (w64 (i16 + 1))
    else
    kj14 l30 i16) fun (kj31 : (List α) → Option (Bool × (List α))) =>
    bif decide ((w64 (i16 - a2)) ≥ 2) then
    sort_partialInsertionSort_func_l3 kj31 lt N l29 (w64 (i16 - 1))
    else
    kj31 l29) fun (kj17 : Int → Option (Bool × (List α))) =>
    sort_partialInsertionSort_func_l2 kj17 lt b3 l8 N i9
    else
    kj6 l8

def sort_partialInsertionSort_func (N : Nat) (xs1 : List α) (a2 : Int) (b3 : Int) (lt : α → α → Bool) : Option (Bool × (List α)) :=
  withK (fun (l5 : List α) =>
  some (false, l5)) fun (kj6 : (List α) → Option (Bool × (List α))) =>
  sort_partialInsertionSort_func_l1 kj6 lt a2 b3 N xs1 (w64 (a2 + 1)) 0

def sort_partitionEqual_func_l2 (kj16 : Int → Option (Int × (List α))) (lt : α → α → Bool) (a2 : Int) (l12 : List α) (j14 : Int) : Nat → Int → Option (Int × (List α))
  | 0, _ => none
  | N + 1, i18 =>
    (andO (decide (i18 ≤ j14)) ((lessO lt l12 a2 i18).bind fun b23 =>
    some (!b23))).bind fun t19 =>
    bif t19 then
    sort_partitionEqual_func_l2 kj16 lt a2 l12 j14 N (w64 (i18 + 1))
    else
    kj16 i18

def sort_partitionEqual_func_l3 (kj26 : Int → Option (Int × (List α))) (lt : α → α → Bool) (a2 : Int) (l12 : List α) (i15 : Int) : Nat → Int → Option (Int × (List α))
  | 0, _ => none
  | N + 1, j28 =>
    (andO (decide (i15 ≤ j28)) ((lessO lt l12 a2 j28).bind fun b33 =>
    some b33)).bind fun t29 =>
    bif t29 then
    sort_partitionEqual_func_l3 kj26 lt a2 l12 i15 N (w64 (j28 - 1))
    else
    kj26 j28

def sort_partitionEqual_func_l1 (kj10 : (List α) → Int → Option (Int × (List α))) (lt : α → α → Bool) (a2 : Int) : Nat → (List α) → Int → Int → Option (Int × (List α))
  | 0, _, _, _ => none
  | N + 1, l12, i13, j14 =>
    withK (fun (i15 : Int) =>
    withK (fun (j25 : Int) =>
    bif decide (i15 > j25) then
    kj10 l12 i15
    else
    (swapO l12 i15 j25).bind fun l37 =>
    sort_partitionEqual_func_l1 kj10 lt a2 N l37 (w64 (i15 + 1)) (w64 (j25 - 1))) fun (kj26 : Int → Option (Int × (List α))) =>
    sort_partitionEqual_func_l3 kj26 lt a2 l12 i15 N j14) fun (kj16 : Int → Option (Int × (List α))) =>
    sort_partitionEqual_func_l2 kj16 lt a2 l12 j14 N i13

def sort_partitionEqual_func (N : Nat) (xs1 : List α) (a2 : Int) (b3 : Int) (pivot4 : Int) (lt : α → α → Bool) : Option (Int × (List α)) :=
  (swapO xs1 a2 pivot4).bind fun l7 =>
  withK (fun (l8 : List α) (i9 : Int) =>
  some (i9, l8)) fun (kj10 : (List α) → Int → Option (Int × (List α))) =>
  sort_partitionEqual_func_l1 kj10 lt a2 N l7 (w64 (a2 + 1)) (w64 (b3 - 1))

def sort_partition_func_l1 (kj9 : Int → Option (Int × Bool × (List α))) (lt : α → α → Bool) (a2 : Int) (b3 : Int) (l7 : List α) : Nat → Int → Option (Int × Bool × (List α))
  | 0, _ => none
  | N + 1, i11 =>
    (andO (decide (i11 ≤ (w64 (b3 - 1)))) ((lessO lt l7 i11 a2).bind fun b16 =>
    some b16)).bind fun t12 =>
    bif t12 then
    sort_partition_func_l1 kj9 lt a2 b3 l7 N (w64 (i11 + 1))
    else
    kj9 i11

def sort_partition_func_l2 (kj19 : Int → Option (Int × Bool × (List α))) (lt : α → α → Bool) (a2 : Int) (l7 : List α) (i8 : Int) : Nat → Int → Option (Int × Bool × (List α))
  | 0, _ => none
  | N + 1, j21 =>
    (andO (decide (i8 ≤ j21)) ((lessO lt l7 j21 a2).bind fun b26 =>
    some (!b26))).bind fun t22 =>
    bif t22 then
    sort_partition_func_l2 kj19 lt a2 l7 i8 N (w64 (j21 - 1))
    else
    kj19 j21

def sort_partition_func_l4 (kj41 : Int → Option (Int × Bool × (List α))) (lt : α → α → Bool) (a2 : Int) (l37 : List α) (j39 : Int) : Nat → Int → Option (Int × Bool × (List α))
  | 0, _ => none
  | N + 1, i43 =>
    (andO (decide (i43 ≤ j39)) ((lessO lt l37 i43 a2).bind fun b48 =>
    some b48)).bind fun t44 =>
    bif t44 then
    sort_partition_func_l4 kj41 lt a2 l37 j39 N (w64 (i43 + 1))
    else
    kj41 i43

def sort_partition_func_l5 (kj51 : Int → Option (Int × Bool × (List α))) (lt : α → α → Bool) (a2 : Int) (l37 : List α) (i40 : Int) : Nat → Int → Option (Int × Bool × (List α))
  | 0, _ => none
  | N + 1, j53 =>
    (andO (decide (i40 ≤ j53)) ((lessO lt l37 j53 a2).bind fun b58 =>
    some (!b58))).bind fun t54 =>
    bif t54 then
    sort_partition_func_l5 kj51 lt a2 l37 i40 N (w64 (j53 - 1))
    else
    kj51 j53

def sort_partition_func_l3 (kj35 : (List α) → Int → Option (Int × Bool × (List α))) (lt : α → α → Bool) (a2 : Int) : Nat → (List α) → Int → Int → Option (Int × Bool × (List α))
  | 0, _, _, _ => none
  | N + 1, l37, i38, j39 =>
    withK (fun (i40 : Int) =>
    withK (fun (j50 : Int) =>
    bif decide (i40 > j50) then
    kj35 l37 j50
    else
    (swapO l37 i40 j50).bind fun l62 =>
    sort_partition_func_l3 kj35 lt a2 N l62 (w64 (i40 + 1)) (w64 (j50 - 1))) fun (kj51 : Int → Option (Int × Bool × (List α))) =>
    sort_partition_func_l5 kj51 lt a2 l37 i40 N j39) fun (kj41 : Int → Option (Int × Bool × (List α))) =>
    sort_partition_func_l4 kj41 lt a2 l37 j39 N i38

def sort_partition_func (N : Nat) (xs1 : List α) (a2 : Int) (b3 : Int) (pivot4 : Int) (lt : α → α → Bool) : Option (Int × Bool × (List α)) :=
  (swapO xs1 a2 pivot4).bind fun l7 =>
  withK (fun (i8 : Int) =>
  withK (fun (j18 : Int) =>
  bif decide (i8 > j18) then
  (swapO l7 j18 a2).bind fun l30 =>
  some (j18, true, l30)
  else
  (swapO l7 i8 j18).bind fun l32 =>
  withK (fun (l33 : List α) (j34 : Int) =>
  (swapO l33 j34 a2).bind fun l64 =>
  some (j34, false, l64)) fun (kj35 : (List α) → Int → Option (Int × Bool × (List α))) =>
  sort_partition_func_l3 kj35 lt a2 N l32 (w64 (i8 + 1)) (w64 (j18 - 1))) fun (kj19 : Int → Option (Int × Bool × (List α))) =>
  sort_partition_func_l2 kj19 lt a2 l7 i8 N (w64 (b3 - 1))) fun (kj9 : Int → Option (Int × Bool × (List α))) =>
  sort_partition_func_l1 kj9 lt a2 b3 l7 N (w64 (a2 + 1))

def sort_pdqsort_funcS_l1 (lt : α → α → Bool) : Nat → (List α) → Int → Int → Int → Bool → Bool → Option (List α)
  | 0, _, _, _, _, _, _ => none
  | N + 1, l6, a7, b8, limit9, wasBalanced10, wasPartitioned11 =>
    bif decide ((w64 (b8 - a7)) ≤ 12) then
    (sort_insertionSort_func N l6 a7 b8 lt).bind fun r13 =>
    some r13
    else
    none

def sort_pdqsort_funcS (N : Nat) (xs1 : List α) (a2 : Int) (b3 : Int) (limit4 : Int) (lt : α → α → Bool) : Option (List α) :=
  sort_pdqsort_funcS_l1 lt N xs1 a2 b3 limit4 true true

def sort_pdqsort_func_l1 (lt : α → α → Bool) : Nat → (List α) → Int → Int → Int → Bool → Bool → Option (List α)
  | 0, _, _, _, _, _, _ => none
  | N + 1, l6, a7, b8, limit9, wasBalanced10, wasPartitioned11 =>
    bif decide ((w64 (b8 - a7)) ≤ 12) then
    (sort_insertionSort_func N l6 a7 b8 lt).bind fun r13 =>
    some r13
    else
    bif (limit9 == 0) then
    (sort_heapSort_func N l6 a7 b8 lt).bind fun r16 =>
    some r16
    else
    withK (fun (l18 : List α) (limit19 : Int) =>
    (sort_choosePivot_func l18 a7 b8 lt).bind fun r25 =>
    withK (fun (l27 : List α) (pivot28 : Int) (hint29 : Int) =>
    withK (fun (l35 : List α) =>
    (andO (decide (a7 > 0)) ((lessO lt l35 (w64 (a7 - 1)) pivot28).bind fun b52 =>
    some (!b52))).bind fun t48 =>
    bif t48 then
    (sort_partitionEqual_func N l35 a7 b8 pivot28 lt).bind fun r54 =>
    sort_pdqsort_func_l1 lt N r54.2 r54.1 b8 limit19 wasBalanced10 wasPartitioned11
    else
    (sort_partition_func N l35 a7 b8 pivot28 lt).bind fun r56 =>
    bif decide ((w64 (r56.1 - a7)) < (w64 (b8 - r56.1))) then
    (sort_pdqsort_funcS N r56.2.2 a7 r56.1 limit19 lt).bind fun r59 =>
    sort_pdqsort_func_l1 lt N r59 (w64 (r56.1 + 1)) b8 limit19 (decide ((w64 (r56.1 - a7)) ≥ (w64 (Int.tdiv (w64 (b8 - a7)) 8)))) r56.2.1
    else
    (sort_pdqsort_funcS N r56.2.2 (w64 (r56.1 + 1)) b8 limit19 lt).bind fun r61 =>
    sort_pdqsort_func_l1 lt N r61 a7 r56.1 limit19 (decide ((w64 (b8 - r56.1)) ≥ (w64 (Int.tdiv (w64 (b8 - a7)) 8)))) r56.2.1) fun (kj36 : (List α) → Option (List α)) =>
    (andO wasBalanced10 (some wasPartitioned11)).bind fun t38 =>
    (andO t38 (some (hint29 == 1))).bind fun t41 =>
    bif t41 then
    (sort_partialInsertionSort_func N l27 a7 b8 lt).bind fun r45 =>
    bif r45.1 then
    some r45.2
    else
    kj36 r45.2
    else
    kj36 l27) fun (kj30 : (List α) → Int → Int → Option (List α)) =>
    bif (r25.2.1 == 2) then
    (sort_reverseRange_func N r25.2.2 a7 b8 lt).bind fun r33 =>
    kj30 r33 (w64 ((w64 (b8 - 1)) - (w64 (r25.1 - a7)))) 1
    else
    kj30 r25.2.2 r25.1 r25.2.1) fun (kj20 : (List α) → Int → Option (List α)) =>
    bif !wasBalanced10 then
    (sort_breakPatterns_func N l6 a7 b8 lt).bind fun r23 =>
    kj20 r23 (w64 (limit9 - 1))
    else
    kj20 l6 limit9

def sort_pdqsort_func (N : Nat) (xs1 : List α) (a2 : Int) (b3 : Int) (limit4 : Int) (lt : α → α → Bool) : Option (List α) :=
  sort_pdqsort_func_l1 lt N xs1 a2 b3 limit4 true true

def i_RareFaults_l2 (kj15 : (List (TypeFault × Int)) → Option ((List TypeFault) × Int)) (e17 : Writer) : Nat → (List (TypeFault × Int)) → Int → Option ((List TypeFault) × Int)
  | 0, _, _ => none
  | N + 1, mp26, x27 =>
    bif decide (x27 < (List.length e17.faults : Int)) then
    (idx e17.faults x27).bind fun e29 =>
    i_RareFaults_l2 kj15 e17 N (msetK TypeFault.beq mp26 e29 (w64 ((Option.getD (mgetK TypeFault.beq mp26 e29) (0 : Int)) + 1))) (w64 (x27 + 1))
    else
    kj15 mp26

def i_RareFaults_l1 (kj9 : (List (TypeFault × Int)) → Option ((List TypeFault) × Int)) (list1 : List Writer) : Nat → (List (TypeFault × Int)) → Int → Option ((List TypeFault) × Int)
  | 0, _, _ => none
  | N + 1, mp11, x12 =>
    bif decide (x12 < (List.length list1 : Int)) then
    withK (fun (mp14 : List (TypeFault × Int)) =>
    i_RareFaults_l1 kj9 list1 N mp14 (w64 (x12 + 1))) fun (kj15 : (List (TypeFault × Int)) → Option ((List TypeFault) × Int)) =>
    (idx list1 x12).bind fun e17 =>
    i_RareFaults_l2 kj15 e17 N mp11 0
    else
    kj9 mp11

def i_RareFaults_l4 (kj50 : (List TypeFault) → Option ((List TypeFault) × Int)) (mp8 : List (TypeFault × Int)) (e52 : Writer) : Nat → (List TypeFault) → Int → Option ((List TypeFault) × Int)
  | 0, _, _ => none
  | N + 1, l61, x63 =>
    bif decide (x63 < (List.length e52.faults : Int)) then
    withK (fun (l65 : List TypeFault) =>
    i_RareFaults_l4 kj50 mp8 e52 N l65 (w64 (x63 + 1))) fun (kj67 : (List TypeFault) → Option ((List TypeFault) × Int)) =>
    (idx e52.faults x63).bind fun e69 =>
    bif ((Option.getD (mgetK TypeFault.beq mp8 e69) (0 : Int)) == 1) then
    (app l61 [e69]).bind fun l77 =>
    kj67 l77
    else
    kj67 l61
    else
    kj50 l61

def i_RareFaults_l3 (kj42 : (List TypeFault) → Option ((List TypeFault) × Int)) (list1 : List Writer) (mp8 : List (TypeFault × Int)) : Nat → (List TypeFault) → Int → Option ((List TypeFault) × Int)
  | 0, _, _ => none
  | N + 1, l44, x46 =>
    bif decide (x46 < (List.length list1 : Int)) then
    withK (fun (l48 : List TypeFault) =>
    i_RareFaults_l3 kj42 list1 mp8 N l48 (w64 (x46 + 1))) fun (kj50 : (List TypeFault) → Option ((List TypeFault) × Int)) =>
    (idx list1 x46).bind fun e52 =>
    i_RareFaults_l4 kj50 mp8 e52 N l44 0
    else
    kj42 l44

def i_RareFaults (N : Nat) (list1 : List Writer) : Option ((List TypeFault) × Int) :=
  (i_ValidWriters N list1).bind fun r4 =>
  bif !r4 then
  some ([], 1)
  else
  withK (fun (mp8 : List (TypeFault × Int)) =>
  withK (fun (l40 : List TypeFault) =>
  (sortPO (sort_pdqsort_func N) (fun i j dk => i_RareFaults_c1 i j dk) l40).bind fun l81 =>
  some (l81, 0)) fun (kj42 : (List TypeFault) → Option ((List TypeFault) × Int)) =>
  i_RareFaults_l3 kj42 list1 mp8 N [] 0) fun (kj9 : (List (TypeFault × Int)) → Option ((List TypeFault) × Int)) =>
  i_RareFaults_l1 kj9 list1 N ([] : List (TypeFault × Int)) 0

def i_letterList_l1 (kj5 : (List Str) → Option (List Str)) (s1 : Str) : Nat → (List Str) → Int → Option (List Str)
  | 0, _, _ => none
  | N + 1, l7, x9 =>
    bif decide (x9 < (List.length s1 : Int)) then
    (sub s1 x9 (w64 (x9 + 1))).bind fun s11 =>
    (app l7 [s11]).bind fun l14 =>
    i_letterList_l1 kj5 s1 N l14 (w64 (x9 + 1))
    else
    kj5 l7

def i_letterList (N : Nat) (s1 : Str) : Option (List Str) :=
  withK (fun (l3 : List Str) =>
  some l3) fun (kj5 : (List Str) → Option (List Str)) =>
  i_letterList_l1 kj5 s1 N [] 0

def i_LettersApart (N : Nat) (a1 : Writer) (b4 : Writer) : Option ((List Str) × Int) :=
  (i_validWriter N (Writer.mk a1.name a1.faults)).bind fun r9 =>
  (orO (!r9) ((i_validWriter N (Writer.mk b4.name b4.faults)).bind fun r14 =>
  some (!r14))).bind fun t11 =>
  bif t11 then
  some ([], 1)
  else
  (i_apart N (Writer.mk a1.name a1.faults) (Writer.mk b4.name b4.faults) (List.replicate 256 false)).bind fun r18 =>
  (i_ascending N r18).bind fun r20 =>
  (i_letterList N r20).bind fun r22 =>
  some (r22, 0)

def w_a2HasText_l1 (kj5 : Option Bool) (list1 : List Str) (s4 : Str) : Nat → Int → Option Bool
  | 0, _ => none
  | N + 1, i7 =>
    bif decide (i7 < (List.length list1 : Int)) then
    (idx list1 i7).bind fun e9 =>
    bif (e9 == s4) then
    some true
    else
    w_a2HasText_l1 kj5 list1 s4 N (w64 (i7 + 1))
    else
    kj5 

def w_a2HasText (N : Nat) (list1 : List Str) (s4 : Str) : Option Bool :=
  withK (some false) fun (kj5 : Option Bool) =>
  w_a2HasText_l1 kj5 list1 s4 N 0

def i_KindOf (N : Nat) (w1 : Writer) (letter4 : Str) : Option (Int × Int) :=
  (i_validWriter N (Writer.mk w1.name w1.faults)).bind fun r6 =>
  bif !r6 then
  some (0, 1)
  else
  (i_isLetter N letter4).bind fun r9 =>
  bif !r9 then
  some (0, 2)
  else
  (i_Writer_kind N (Writer.mk w1.name w1.faults) letter4).bind fun r12 =>
  some (r12, 0)

def w_FnFewLetters_l3 (kj78 : Bool → Option Bool) (r14 : (List Str) × Int) (r53 : (List Str) × Int) (r67 : (List Str) × Int) : Nat → Bool → Int → Option Bool
  | 0, _, _ => none
  | N + 1, told80, n81 =>
    bif decide (n81 < (List.length r53.1 : Int)) then
    (idx r53.1 n81).bind fun e83 =>
    (idx r67.1 n81).bind fun e85 =>
    bif (e83 != e85) then
    some false
    else
    (orO told80 ((idx r53.1 n81).bind fun e91 =>
    (w_a2HasText N r14.1 e91).bind fun r93 =>
    some r93)).bind fun t88 =>
    w_FnFewLetters_l3 kj78 r14 r53 r67 N t88 (w64 (n81 + 1))
    else
    kj78 told80

def w_FnFewLetters_l2 (kj34 : Bool → Option Bool) (r10 : (List Writer)) (r14 : (List Str) × Int) (i31 : Int) : Nat → Bool → Int → Option Bool
  | 0, _, _ => none
  | N + 1, clash36, k37 =>
    bif decide (k37 < i31) then
    withK (fun (clash39 : Bool) =>
    w_FnFewLetters_l2 kj34 r10 r14 i31 N clash39 (w64 (k37 + 1))) fun (kj40 : Bool → Option Bool) =>
    (idx r10 i31).bind fun e43 =>
    (idx r10 k37).bind fun e48 =>
    (i_LettersApart N (Writer.mk e43.name e43.faults) (Writer.mk e48.name e48.faults)).bind fun r53 =>
    (idx r10 k37).bind fun e57 =>
    (idx r10 i31).bind fun e62 =>
    (i_LettersApart N (Writer.mk e57.name e57.faults) (Writer.mk e62.name e62.faults)).bind fun r67 =>
    (orO (r53.2 != 0) (some (r67.2 != 0))).bind fun t70 =>
    (orO t70 (some ((List.length r53.1 : Int) != (List.length r67.1 : Int)))).bind fun t73 =>
    bif t73 then
    some false
    else
    withK (fun (told77 : Bool) =>
    (orO clash36 (some ((List.length r53.1 : Int) == 0))).bind fun t95 =>
    (andO (r14.2 == 0) (some (!told77))).bind fun t98 =>
    bif t98 then
    some false
    else
    kj40 t95) fun (kj78 : Bool → Option Bool) =>
    w_FnFewLetters_l3 kj78 r14 r53 r67 N false 0
    else
    kj34 clash36

def w_FnFewLetters_l1 (kj28 : Bool → Option Bool) (r10 : (List Writer)) (r14 : (List Str) × Int) : Nat → Bool → Int → Option Bool
  | 0, _, _ => none
  | N + 1, clash30, i31 =>
    bif decide (i31 < (List.length r10 : Int)) then
    withK (fun (clash33 : Bool) =>
    w_FnFewLetters_l1 kj28 r10 r14 N clash33 (w64 (i31 + 1))) fun (kj34 : Bool → Option Bool) =>
    w_FnFewLetters_l2 kj34 r10 r14 i31 N clash30 0
    else
    kj28 clash30

def w_FnFewLetters_l5 (kj110 : Int → Option Bool) (r10 : (List Writer)) (r17 : (List TypeFault) × Int) (i105 : Int) : Nat → Int → Int → Option Bool
  | 0, _, _ => none
  | N + 1, many112, k113 =>
    bif decide (k113 < (List.length r10 : Int)) then
    withK (fun (many115 : Int) =>
    w_FnFewLetters_l5 kj110 r10 r17 i105 N many115 (w64 (k113 + 1))) fun (kj116 : Int → Option Bool) =>
    (idx r10 k113).bind fun e119 =>
    (idx r17.1 i105).bind fun e124 =>
    (i_KindOf N (Writer.mk e119.name e119.faults) e124.letter).bind fun r126 =>
    bif (r126.2 != 0) then
    some false
    else
    (idx r17.1 i105).bind fun e129 =>
    bif (r126.1 == e129.kind) then
    kj116 (w64 (many112 + 1))
    else
    kj116 many112
    else
    kj110 many112

def w_FnFewLetters_l4 (kj103 : Option Bool) (r10 : (List Writer)) (r17 : (List TypeFault) × Int) : Nat → Int → Option Bool
  | 0, _ => none
  | N + 1, i105 =>
    bif decide (i105 < (List.length r17.1 : Int)) then
    withK (w_FnFewLetters_l4 kj103 r10 r17 N (w64 (i105 + 1))) fun (kj107 : Option Bool) =>
    withK (fun (many109 : Int) =>
    (orO (many109 != 1) ((idx r17.1 i105).bind fun e135 =>
    some (decide (e135.kind < 1)))).bind fun t132 =>
    bif t132 then
    some false
    else
    kj107 ) fun (kj110 : Int → Option Bool) =>
    w_FnFewLetters_l5 kj110 r10 r17 i105 N 0 0
    else
    kj103 

def w_FnFewLetters (N : Nat) (code1 : List UInt8) (more4 : List UInt8) : Option Bool :=
  (w_a2Long code1 more4).bind fun r7 =>
  bif r7 then
  some true
  else
  (s_A2Writers N code1).bind fun r10 =>
  (i_FewestLetters N r10).bind fun r14 =>
  (i_RareFaults N r10).bind fun r17 =>
  (orO (r17.2 != 0) ((andO (r14.2 != 0) (some (r14.2 != 9))).bind fun t23 =>
  some t23)).bind fun t20 =>
  bif t20 then
  some false
  else
  withK (fun (clash27 : Bool) =>
  bif (clash27 != (r14.2 == 9)) then
  some false
  else
  withK (some true) fun (kj103 : Option Bool) =>
  w_FnFewLetters_l4 kj103 r10 r17 N 0) fun (kj28 : Bool → Option Bool) =>
  w_FnFewLetters_l1 kj28 r10 r14 N false 0

end Go.Proofs.Ythifimjkndpmpaa
