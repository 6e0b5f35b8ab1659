/-
  Plain functions that compute what the Go functions compute. No conditions.
-/
import Derived.Test.YtdnnnakjhehfkaaDoorBase
namespace Go.Proofs.YtdnnnakjhehfkaaDoor
set_option linter.unusedVariables false
set_option linter.unusedSimpArgs false

structure SparePart where
  name : Str
  stock : Int
  target : Int
  days : Int
  instead : Int

def SparePart.beq (x y : SparePart) : Bool := x.name == y.name && (x.stock == y.stock && (x.target == y.target && (x.days == y.days && (x.instead == y.instead))))

structure L00Src where
  code : List UInt8
  at_ : Int
  seed : Int

def wfSparePart (x : SparePart) : Prop := wfStr x.name ∧ wfI64 x.stock ∧ wfI64 x.target ∧ wfI64 x.days ∧ wfI64 x.instead

def w_f6big (code1 : List UInt8) : Option Bool :=
  some (decide ((List.length code1 : Int) > 4096))

def s_l00From (code1 : List UInt8) : Option L00Src :=
  some (L00Src.mk code1 0 0)

def s_l00Src_next (s1 : L00Src) : Option (Int × L00Src) :=
  withK (fun (b5 : Int) =>
  bif decide ((w64 (s1.at_ + 1)) ≤ (List.length s1.code : Int)) then
  some (b5, (L00Src.mk s1.code (w64 (s1.at_ + 1)) (IntKind.u64.wrap ((IntKind.u64.wrap ((IntKind.u64.wrap (s1.seed * 6364136223846793005)) + (IntKind.u64.wrap b5))) + 1442695040888963407))))
  else
  some (w64 (uand (ushr (IntKind.u64.wrap ((IntKind.u64.wrap ((IntKind.u64.wrap (s1.seed * 6364136223846793005)) + (IntKind.u64.wrap b5))) + 1442695040888963407)) 40) 255), (L00Src.mk s1.code (w64 (s1.at_ + 1)) (IntKind.u64.wrap ((IntKind.u64.wrap ((IntKind.u64.wrap (s1.seed * 6364136223846793005)) + (IntKind.u64.wrap b5))) + 1442695040888963407))))) fun (kj6 : Int → Option (Int × L00Src)) =>
  bif decide (s1.at_ < (List.length s1.code : Int)) then
  (idx s1.code s1.at_).bind fun e9 =>
  kj6 (UInt8.toNat e9 : Int)
  else
  kj6 0

def s_l00Src_pick (s1 : L00Src) (n5 : Int) : Option (Int × L00Src) :=
  bif decide (n5 ≤ 1) then
  some (0, (L00Src.mk s1.code s1.at_ s1.seed))
  else
  (s_l00Src_next (L00Src.mk s1.code s1.at_ s1.seed)).bind fun r7 =>
  withK (fun (x9 : Int) (x10 : Int) (x11 : Int) =>
  (remO x11 n5).bind fun q17 =>
  some (q17, (L00Src.mk s1.code x9 x10))) fun (kj12 : Int → Int → Int → Option (Int × L00Src)) =>
  bif decide (n5 > 200) then
  (s_l00Src_next (L00Src.mk s1.code r7.2.at_ r7.2.seed)).bind fun r15 =>
  kj12 r15.2.at_ r15.2.seed (w64 ((w64 (r7.1 * 256)) + r15.1))
  else
  kj12 r7.2.at_ r7.2.seed r7.1

def s_l00Src_one (s1 : L00Src) (n5 : Int) : Option (Bool × L00Src) :=
  (s_l00Src_pick (L00Src.mk s1.code s1.at_ s1.seed) n5).bind fun r6 =>
  some ((r6.1 == 0), (L00Src.mk s1.code r6.2.at_ r6.2.seed))

def s_l24Draw_l1 (kj11 : Int → Int → (List SparePart) → Option ((List SparePart) × L00Src)) (s1 : L00Src) : Nat → Int → Int → (List SparePart) → Int → Option ((List SparePart) × L00Src)
  | 0, _, _, _, _ => none
  | N + 1, x15, x16, l17, k19 =>
    bif decide (k19 > 0) then
    (idx [[98, 97, 114], [98, 101, 108, 108], [100, 114, 117, 109], [107, 101, 121, 45, 97], [112, 97, 119, 108], [114, 97, 99, 107], [115, 112, 114, 105, 110, 103], [115, 112, 111, 111, 108]] (List.length l17 : Int)).bind fun e21 =>
    (s_l00Src_pick (L00Src.mk s1.code x15 x16) 20).bind fun r23 =>
    (s_l00Src_pick (L00Src.mk s1.code r23.2.at_ r23.2.seed) 20).bind fun r27 =>
    (s_l00Src_pick (L00Src.mk s1.code r27.2.at_ r27.2.seed) 30).bind fun r29 =>
    withK (fun (x31 : Int) (x32 : Int) (x33 : Str) (x34 : Int) (x35 : Int) (x36 : Int) (x37 : Int) =>
    withK (fun (x49 : Int) (x50 : Int) (x51 : Str) (x52 : Int) (x53 : Int) (x54 : Int) (x55 : Int) =>
    (app l17 [(SparePart.mk x51 x52 x53 x54 x55)]).bind fun l62 =>
    s_l24Draw_l1 kj11 s1 N x49 x50 l62 (w64 (k19 - 1))) fun (kj56 : Int → Int → Str → Int → Int → Int → Int → Option ((List SparePart) × L00Src)) =>
    (s_l00Src_one (L00Src.mk s1.code x31 x32) 3).bind fun r58 =>
    bif r58.1 then
    kj56 r58.2.at_ r58.2.seed x33 0 x35 x36 x37
    else
    kj56 r58.2.at_ r58.2.seed x33 x34 x35 x36 x37) fun (kj38 : Int → Int → Str → Int → Int → Int → Int → Option ((List SparePart) × L00Src)) =>
    (bif decide ((List.length l17 : Int) > 0) then (s_l00Src_one (L00Src.mk s1.code r29.2.at_ r29.2.seed) 2).bind fun r44 =>
    some (r44.1, (L00Src.mk s1.code r44.2.at_ r44.2.seed)) else some (false, (L00Src.mk s1.code r29.2.at_ r29.2.seed))).bind fun x42 =>
    bif x42.1 then
    (s_l00Src_pick (L00Src.mk s1.code x42.2.at_ x42.2.seed) (List.length l17 : Int)).bind fun r47 =>
    kj38 r47.2.at_ r47.2.seed ((SparePart.mk e21 r23.1 0 0 (-1)).name) ((SparePart.mk e21 r23.1 0 0 (-1)).stock) r27.1 r29.1 r47.1
    else
    kj38 x42.2.at_ x42.2.seed ((SparePart.mk e21 r23.1 0 0 (-1)).name) ((SparePart.mk e21 r23.1 0 0 (-1)).stock) r27.1 r29.1 ((SparePart.mk e21 r23.1 0 0 (-1)).instead)
    else
    kj11 x15 x16 l17

def s_l24Draw (N : Nat) (s1 : L00Src) : Option ((List SparePart) × L00Src) :=
  withK (fun (x7 : Int) (x8 : Int) (l9 : List SparePart) =>
  some (l9, (L00Src.mk s1.code x7 x8))) fun (kj11 : Int → Int → (List SparePart) → Option ((List SparePart) × L00Src)) =>
  (s_l00Src_pick (L00Src.mk s1.code s1.at_ s1.seed) 9).bind fun r13 =>
  s_l24Draw_l1 kj11 s1 N r13.2.at_ r13.2.seed [] r13.1

def s_l00Src_text (s1 : L00Src) (list5 : List Str) : Option (Str × L00Src) :=
  (s_l00Src_pick (L00Src.mk s1.code s1.at_ s1.seed) (List.length list5 : Int)).bind fun r8 =>
  (idx list5 r8.1).bind fun e10 =>
  some (e10, (L00Src.mk s1.code r8.2.at_ r8.2.seed))

def s_l00Src_among (s1 : L00Src) (list5 : List Int) : Option (Int × L00Src) :=
  (s_l00Src_pick (L00Src.mk s1.code s1.at_ s1.seed) (List.length list5 : Int)).bind fun r8 =>
  (idx list5 r8.1).bind fun e10 =>
  some (e10, (L00Src.mk s1.code r8.2.at_ r8.2.seed))

def s_l24Bent_l1 (kj12 : Int → Int → (List SparePart) → Option ((List SparePart) × L00Src)) (r18 : Int × L00Src) : Nat → (List SparePart) → Int → Option ((List SparePart) × L00Src)
  | 0, _, _ => none
  | N + 1, l20, k22 =>
    bif decide (k22 > 0) then
    (app l20 [(SparePart.mk [(97 : UInt8) + (UInt8.ofInt (Int.tdiv (UInt8.toNat (UInt8.ofInt (List.length l20 : Int)) : Int) 26)), (97 : UInt8) + (UInt8.ofInt (Int.tmod (UInt8.toNat (UInt8.ofInt (List.length l20 : Int)) : Int) 26))] k22 0 0 (w64 ((List.length l20 : Int) - 1)))]).bind fun l26 =>
    s_l24Bent_l1 kj12 r18 N l26 (w64 (k22 - 1))
    else
    kj12 r18.2.at_ r18.2.seed l20

def s_l24Bent (N : Nat) (s1 : L00Src) : Option ((List SparePart) × L00Src) :=
  (s_l24Draw N (L00Src.mk s1.code s1.at_ s1.seed)).bind fun r5 =>
  withK (fun (x8 : Int) (x9 : Int) (l10 : List SparePart) =>
  bif ((List.length l10 : Int) == 0) then
  some (l10, (L00Src.mk s1.code x8 x9))
  else
  (s_l00Src_pick (L00Src.mk s1.code x8 x9) (List.length l10 : Int)).bind fun r30 =>
  (idx l10 r30.1).bind fun e32 =>
  withK (fun (x34 : Int) (x35 : Int) (l36 : List SparePart) =>
  some (l36, (L00Src.mk s1.code x34 x35))) fun (kj37 : Int → Int → (List SparePart) → Option ((List SparePart) × L00Src)) =>
  (s_l00Src_pick (L00Src.mk s1.code r30.2.at_ r30.2.seed) 24).bind fun r39 =>
  bif (r39.1 == 0) then
  (s_l00Src_text (L00Src.mk s1.code r39.2.at_ r39.2.seed) [[], [66, 97, 114], [98, 97, 114]]).bind fun r43 =>
  kj37 r43.2.at_ r43.2.seed (List.set l10 (Int.toNat r30.1) (SparePart.mk r43.1 e32.stock e32.target e32.days e32.instead))
  else
  bif (r39.1 == 1) then
  (s_l00Src_among (L00Src.mk s1.code r39.2.at_ r39.2.seed) [(-1), 0, 100000, 100001]).bind fun r47 =>
  kj37 r47.2.at_ r47.2.seed (List.set l10 (Int.toNat r30.1) (SparePart.mk e32.name r47.1 e32.target e32.days e32.instead))
  else
  bif (r39.1 == 2) then
  (s_l00Src_among (L00Src.mk s1.code r39.2.at_ r39.2.seed) [(-1), 0, 100000, 100001]).bind fun r51 =>
  kj37 r51.2.at_ r51.2.seed (List.set l10 (Int.toNat r30.1) (SparePart.mk e32.name e32.stock r51.1 e32.days e32.instead))
  else
  bif (r39.1 == 3) then
  (s_l00Src_among (L00Src.mk s1.code r39.2.at_ r39.2.seed) [(-1), 0, 365, 366]).bind fun r55 =>
  kj37 r55.2.at_ r55.2.seed (List.set l10 (Int.toNat r30.1) (SparePart.mk e32.name e32.stock e32.target r55.1 e32.instead))
  else
  bif (r39.1 == 4) then
  (s_l00Src_among (L00Src.mk s1.code r39.2.at_ r39.2.seed) [(-2), (-1), w64 ((List.length l10 : Int) - 1), (List.length l10 : Int), (-9223372036854775808)]).bind fun r59 =>
  kj37 r59.2.at_ r59.2.seed (List.set l10 (Int.toNat r30.1) (SparePart.mk e32.name e32.stock e32.target e32.days r59.1))
  else
  kj37 r39.2.at_ r39.2.seed l10) fun (kj12 : Int → Int → (List SparePart) → Option ((List SparePart) × L00Src)) =>
  (s_l00Src_one (L00Src.mk s1.code r5.2.at_ r5.2.seed) 24).bind fun r14 =>
  bif r14.1 then
  (s_l00Src_pick (L00Src.mk s1.code r14.2.at_ r14.2.seed) 2).bind fun r18 =>
  s_l24Bent_l1 kj12 r18 N [] (w64 (40 + r18.1))
  else
  kj12 r14.2.at_ r14.2.seed r5.1

def s_l24Ask (N : Nat) (code1 : List UInt8) : Option ((List SparePart) × Int × Int) :=
  (s_l00From code1).bind fun r4 =>
  (s_l24Bent N (L00Src.mk code1 r4.at_ r4.seed)).bind fun r7 =>
  (s_l00Src_pick (L00Src.mk code1 r7.2.at_ r7.2.seed) (List.length r7.1 : Int)).bind fun r10 =>
  withK (fun (x12 : Int) (x13 : Int) (k14 : Int) =>
  (s_l00Src_one (L00Src.mk code1 x12 x13) 10).bind fun r23 =>
  bif r23.1 then
  (s_l00Src_among (L00Src.mk code1 r23.2.at_ r23.2.seed) [0, 1, 100000, 100001]).bind fun r27 =>
  some (r7.1, k14, r27.1)
  else
  (s_l00Src_pick (L00Src.mk code1 r23.2.at_ r23.2.seed) 15).bind fun r29 =>
  some (r7.1, k14, w64 (1 + r29.1))) fun (kj15 : Int → Int → Int → Option ((List SparePart) × Int × Int)) =>
  (s_l00Src_one (L00Src.mk code1 r10.2.at_ r10.2.seed) 12).bind fun r17 =>
  bif r17.1 then
  (s_l00Src_among (L00Src.mk code1 r17.2.at_ r17.2.seed) [(-1), (List.length r7.1 : Int)]).bind fun r21 =>
  kj15 r21.2.at_ r21.2.seed r21.1
  else
  kj15 r17.2.at_ r17.2.seed r10.1

def s_DrawTakeParts (N : Nat) (code1 : List UInt8) : Option ((List SparePart) × Int × Int) :=
  (s_l24Ask N code1).bind fun r4 =>
  some (r4.1, r4.2.1, r4.2.2)

def i_isDigit (b1 : UInt8) : Option Bool :=
  (andO (decide (b1 ≥ (48 : UInt8))) (some (decide (b1 ≤ (57 : UInt8))))).bind fun t2 =>
  some t2

def i_IsName_l1 (kj6 : Option Bool) (s1 : Str) : Nat → Int → Option Bool
  | 0, _ => none
  | N + 1, x8 =>
    bif decide (x8 < (List.length s1 : Int)) then
    (idx s1 x8).bind fun c10 =>
    (andO (decide (c10 ≥ (97 : UInt8))) ((idx s1 x8).bind fun c15 =>
    some (decide (c15 ≤ (122 : UInt8))))).bind fun t12 =>
    (andO (!t12) ((orO (x8 == 0) ((idx s1 x8).bind fun c23 =>
    (andO (c23 != (45 : UInt8)) ((idx s1 x8).bind fun c28 =>
    (i_isDigit c28).bind fun r30 =>
    some (!r30))).bind fun t25 =>
    some t25)).bind fun t20 =>
    some t20)).bind fun t17 =>
    bif t17 then
    some false
    else
    i_IsName_l1 kj6 s1 N (w64 (x8 + 1))
    else
    kj6 

def i_IsName (N : Nat) (s1 : Str) : Option Bool :=
  (orO ((List.length s1 : Int) == 0) (some (decide ((List.length s1 : Int) > 12)))).bind fun t2 =>
  bif t2 then
  some false
  else
  withK (some true) fun (kj6 : Option Bool) =>
  i_IsName_l1 kj6 s1 N 0

def i_between (n1 : Int) (low2 : Int) (high3 : Int) : Option Bool :=
  (andO (decide (n1 ≥ low2)) (some (decide (n1 ≤ high3)))).bind fun t4 =>
  some t4

def i_ValidParts_l1 (kj6 : Option Bool) (list1 : List SparePart) : Nat → (List (Str × Bool)) → Int → Option Bool
  | 0, _, _ => none
  | N + 1, mp8, x9 =>
    bif decide (x9 < (List.length list1 : Int)) then
    (idx list1 x9).bind fun e11 =>
    (i_IsName N e11.name).bind fun r17 =>
    (orO (!r17) (some (mget mp8 e11.name))).bind fun t19 =>
    (orO t19 ((i_between e11.stock 0 100000).bind fun r25 =>
    some (!r25))).bind fun t22 =>
    (orO t22 ((i_between e11.target 0 100000).bind fun r30 =>
    some (!r30))).bind fun t27 =>
    (orO t27 ((i_between e11.days 0 365).bind fun r35 =>
    some (!r35))).bind fun t32 =>
    (orO t32 ((i_between e11.instead (-1) (w64 ((List.length list1 : Int) - 1))).bind fun r40 =>
    some (!r40))).bind fun t37 =>
    bif t37 then
    some false
    else
    i_ValidParts_l1 kj6 list1 N (mset mp8 e11.name true) (w64 (x9 + 1))
    else
    kj6 

def i_ValidParts_l3 (kj47 : Option Bool) (list1 : List SparePart) : Nat → Int → Int → Option Bool
  | 0, _, _ => none
  | N + 1, at49, steps50 =>
    bif decide (at49 ≥ 0) then
    (idx list1 at49).bind fun e52 =>
    bif decide ((w64 (steps50 + 1)) > (List.length list1 : Int)) then
    some false
    else
    i_ValidParts_l3 kj47 list1 N e52.instead (w64 (steps50 + 1))
    else
    kj47 

def i_ValidParts_l2 (kj43 : Option Bool) (list1 : List SparePart) : Nat → Int → Option Bool
  | 0, _ => none
  | N + 1, x45 =>
    bif decide (x45 < (List.length list1 : Int)) then
    withK (i_ValidParts_l2 kj43 list1 N (w64 (x45 + 1))) fun (kj47 : Option Bool) =>
    i_ValidParts_l3 kj47 list1 N x45 0
    else
    kj43 

def i_ValidParts (N : Nat) (list1 : List SparePart) : Option Bool :=
  bif decide ((List.length list1 : Int) > 40) then
  some false
  else
  withK (withK (some true) fun (kj43 : Option Bool) =>
  i_ValidParts_l2 kj43 list1 N 0) fun (kj6 : Option Bool) =>
  i_ValidParts_l1 kj6 list1 N [] 0

def i_partCode (N : Nat) (list1 : List SparePart) (k4 : Int) (many5 : Int) : Option Int :=
  (i_ValidParts N list1).bind fun r6 =>
  bif !r6 then
  some 1
  else
  (i_between k4 0 (w64 ((List.length list1 : Int) - 1))).bind fun r9 =>
  (orO (!r9) ((i_between many5 1 100000).bind fun r14 =>
  some (!r14))).bind fun t11 =>
  bif t11 then
  some 2
  else
  some 0

def i_usedPart_l1 (kj7 : Int → Option Int) (list1 : List SparePart) (many5 : Int) : Nat → Int → Option Int
  | 0, _ => none
  | N + 1, k9 =>
    (andO (decide (k9 ≥ 0)) ((idx list1 k9).bind fun e13 =>
    some (decide (e13.stock < many5)))).bind fun t10 =>
    bif t10 then
    (idx list1 k9).bind fun e19 =>
    i_usedPart_l1 kj7 list1 many5 N e19.instead
    else
    kj7 k9

def i_usedPart (N : Nat) (list1 : List SparePart) (k4 : Int) (many5 : Int) : Option Int :=
  withK (fun (k6 : Int) =>
  some k6) fun (kj7 : Int → Option Int) =>
  i_usedPart_l1 kj7 list1 many5 N k4

def i_ReplacementOf (N : Nat) (list1 : List SparePart) (k4 : Int) (many5 : Int) : Option (Int × Int) :=
  (i_partCode N list1 k4 many5).bind fun r6 =>
  bif (r6 != 0) then
  some (0, r6)
  else
  (i_usedPart N list1 k4 many5).bind fun r9 =>
  bif decide (r9 < 0) then
  some (0, 3)
  else
  some (r9, 0)

def i_TakeParts (N : Nat) (list1 : List SparePart) (k4 : Int) (many5 : Int) : Option ((List SparePart) × Int × Int) :=
  (i_ReplacementOf N list1 k4 many5).bind fun r6 =>
  bif (r6.2 != 0) then
  some ([], 0, r6.2)
  else
  (app [] list1).bind fun l10 =>
  (idx l10 r6.1).bind fun e13 =>
  (idx l10 r6.1).bind fun e15 =>
  some ((List.set l10 (Int.toNat r6.1) (SparePart.mk e15.name (w64 (e13.stock - many5)) e15.target e15.days e15.instead)), r6.1, 0)

def s_l01Small (c1 : UInt8) : Option Bool :=
  (andO (decide (c1 ≥ (97 : UInt8))) (some (decide (c1 ≤ (122 : UInt8))))).bind fun t2 =>
  some t2

def s_l01Digit (c1 : UInt8) : Option Bool :=
  (andO (decide (c1 ≥ (48 : UInt8))) (some (decide (c1 ≤ (57 : UInt8))))).bind fun t2 =>
  some t2

def s_IsName_l1 (kj13 : Option Bool) (s1 : Str) : Nat → Int → Option Bool
  | 0, _ => none
  | N + 1, i15 =>
    bif decide (i15 < (List.length s1 : Int)) then
    (idx s1 i15).bind fun c17 =>
    (s_l01Small c17).bind fun r19 =>
    (andO (!r19) ((idx s1 i15).bind fun c24 =>
    (s_l01Digit c24).bind fun r26 =>
    some (!r26))).bind fun t21 =>
    (andO t21 ((idx s1 i15).bind fun c31 =>
    some (c31 != (45 : UInt8)))).bind fun t28 =>
    bif t28 then
    some false
    else
    s_IsName_l1 kj13 s1 N (w64 (i15 + 1))
    else
    kj13 

def s_IsName (N : Nat) (s1 : Str) : Option Bool :=
  (orO (s1 == []) (some (decide ((List.length s1 : Int) > 12)))).bind fun t2 =>
  (orO t2 ((idx s1 0).bind fun c8 =>
  (s_l01Small c8).bind fun r10 =>
  some (!r10))).bind fun t5 =>
  bif t5 then
  some false
  else
  withK (some true) fun (kj13 : Option Bool) =>
  s_IsName_l1 kj13 s1 N 0

def s_l00In (n1 : Int) (low2 : Int) (high3 : Int) : Option Bool :=
  (andO (decide (n1 ≥ low2)) (some (decide (n1 ≤ high3)))).bind fun t4 =>
  some t4

def s_l24Many (n1 : Int) : Option Bool :=
  (s_l00In n1 0 100000).bind fun r2 =>
  some r2

def s_l24Ok_l2 (kj38 : Option Bool) (list1 : List SparePart) (i6 : Int) (e10 : SparePart) : Nat → Int → Option Bool
  | 0, _ => none
  | N + 1, k40 =>
    bif decide (k40 < i6) then
    (idx list1 k40).bind fun e42 =>
    bif (e42.name == e10.name) then
    some false
    else
    s_l24Ok_l2 kj38 list1 i6 e10 N (w64 (k40 + 1))
    else
    kj38 

def s_l24Ok_l3 (kj8 : Option Bool) (list1 : List SparePart) : Nat → Int → Int → Option Bool
  | 0, _, _ => none
  | N + 1, at48, steps49 =>
    bif decide (at48 ≥ 0) then
    (orO (decide (steps49 > (List.length list1 : Int))) ((s_l00In at48 0 (w64 ((List.length list1 : Int) - 1))).bind fun r54 =>
    some (!r54))).bind fun t51 =>
    bif t51 then
    some false
    else
    (idx list1 at48).bind fun e57 =>
    s_l24Ok_l3 kj8 list1 N e57.instead (w64 (steps49 + 1))
    else
    kj8 

def s_l24Ok_l1 (kj4 : Option Bool) (list1 : List SparePart) : Nat → Int → Option Bool
  | 0, _ => none
  | N + 1, i6 =>
    bif decide (i6 < (List.length list1 : Int)) then
    withK (s_l24Ok_l1 kj4 list1 N (w64 (i6 + 1))) fun (kj8 : Option Bool) =>
    (idx list1 i6).bind fun e10 =>
    (s_IsName N e10.name).bind fun r15 =>
    (orO (!r15) ((s_l24Many e10.stock).bind fun r20 =>
    some (!r20))).bind fun t17 =>
    (orO t17 ((s_l24Many e10.target).bind fun r25 =>
    some (!r25))).bind fun t22 =>
    (orO t22 ((s_l00In e10.days 0 365).bind fun r30 =>
    some (!r30))).bind fun t27 =>
    (orO t27 ((s_l00In e10.instead (-1) (w64 ((List.length list1 : Int) - 1))).bind fun r35 =>
    some (!r35))).bind fun t32 =>
    bif t32 then
    some false
    else
    withK (s_l24Ok_l3 kj8 list1 N e10.instead 0) fun (kj38 : Option Bool) =>
    s_l24Ok_l2 kj38 list1 i6 e10 N 0
    else
    kj4 

def s_l24Ok (N : Nat) (list1 : List SparePart) : Option Bool :=
  withK (some (decide ((List.length list1 : Int) ≤ 40))) fun (kj4 : Option Bool) =>
  s_l24Ok_l1 kj4 list1 N 0

def s_l24Code (N : Nat) (list1 : List SparePart) (k4 : Int) (many5 : Int) : Option Int :=
  (s_l24Ok N list1).bind fun r6 =>
  bif !r6 then
  some 1
  else
  (s_l00In k4 0 (w64 ((List.length list1 : Int) - 1))).bind fun r9 =>
  (orO (!r9) ((s_l00In many5 1 100000).bind fun r14 =>
  some (!r14))).bind fun t11 =>
  bif t11 then
  some 2
  else
  some 0

def s_l24Use_l1 (kj7 : Int → Option Int) (list1 : List SparePart) (many5 : Int) : Nat → Int → Option Int
  | 0, _ => none
  | N + 1, k9 =>
    (andO (decide (k9 ≥ 0)) ((idx list1 k9).bind fun e13 =>
    some (decide (e13.stock < many5)))).bind fun t10 =>
    bif t10 then
    (idx list1 k9).bind fun e19 =>
    s_l24Use_l1 kj7 list1 many5 N e19.instead
    else
    kj7 k9

def s_l24Use (N : Nat) (list1 : List SparePart) (k4 : Int) (many5 : Int) : Option Int :=
  withK (fun (k6 : Int) =>
  some k6) fun (kj7 : Int → Option Int) =>
  s_l24Use_l1 kj7 list1 many5 N k4

def s_l24Add (list1 : List SparePart) (k4 : Int) (many5 : Int) : Option (List SparePart) :=
  (app [] list1).bind fun l7 =>
  (idx l7 k4).bind fun e10 =>
  (idx l7 k4).bind fun e13 =>
  some (List.set l7 (Int.toNat k4) (SparePart.mk e10.name (w64 (e10.stock + many5)) e10.target e10.days e10.instead))

def s_TakeParts (N : Nat) (list1 : List SparePart) (k4 : Int) (many5 : Int) : Option ((List SparePart) × Int × Int) :=
  (s_l24Code N list1 k4 many5).bind fun r6 =>
  bif (r6 != 0) then
  some ([], 0, r6)
  else
  (s_l24Use N list1 k4 many5).bind fun r9 =>
  bif decide (r9 < 0) then
  some ([], 0, 3)
  else
  (s_l24Add list1 r9 (w64 (0 - many5))).bind fun r12 =>
  some (r12, r9, 0)

def s_ReplacementOf (N : Nat) (list1 : List SparePart) (k4 : Int) (many5 : Int) : Option (Int × Int) :=
  (s_l24Code N list1 k4 many5).bind fun r6 =>
  bif (r6 != 0) then
  some (0, r6)
  else
  (s_l24Use N list1 k4 many5).bind fun r9 =>
  bif decide (r9 < 0) then
  some (0, 3)
  else
  some (r9, 0)

def s_DrawBringParts (N : Nat) (code1 : List UInt8) : Option ((List SparePart) × Int × Int) :=
  (s_l24Ask N code1).bind fun r4 =>
  some (r4.1, r4.2.1, r4.2.2)

def i_BringParts (N : Nat) (list1 : List SparePart) (k4 : Int) (many5 : Int) : Option ((List SparePart) × Int) :=
  (i_partCode N list1 k4 many5).bind fun r6 =>
  bif (r6 != 0) then
  some ([], r6)
  else
  (idx list1 k4).bind fun e9 =>
  bif decide ((w64 (e9.stock + many5)) > 100000) then
  some ([], 5)
  else
  (app [] list1).bind fun l16 =>
  (idx l16 k4).bind fun e19 =>
  (idx l16 k4).bind fun e21 =>
  some ((List.set l16 (Int.toNat k4) (SparePart.mk e21.name (w64 (e19.stock + many5)) e21.target e21.days e21.instead)), 0)

def s_BringParts (N : Nat) (list1 : List SparePart) (k4 : Int) (many5 : Int) : Option ((List SparePart) × Int) :=
  (s_l24Code N list1 k4 many5).bind fun r6 =>
  withK (fun (code8 : Int) =>
  bif (code8 != 0) then
  some ([], code8)
  else
  (s_l24Add list1 k4 many5).bind fun r21 =>
  some (r21, 0)) fun (kj9 : Int → Option ((List SparePart) × Int)) =>
  (andO (r6 == 0) ((idx list1 k4).bind fun e14 =>
  some (decide ((w64 (e14.stock + many5)) > 100000)))).bind fun t11 =>
  bif t11 then
  kj9 5
  else
  kj9 r6

def i_DeadParts_l1 (kj10 : (List Int) → Option ((List Int) × Int)) (list1 : List SparePart) : Nat → (List Int) → Int → Option ((List Int) × Int)
  | 0, _, _ => none
  | N + 1, l12, x14 =>
    bif decide (x14 < (List.length list1 : Int)) then
    withK (fun (l16 : List Int) =>
    i_DeadParts_l1 kj10 list1 N l16 (w64 (x14 + 1))) fun (kj18 : (List Int) → Option ((List Int) × Int)) =>
    (i_usedPart N list1 x14 1).bind fun r20 =>
    bif decide (r20 < 0) then
    (app l12 [x14]).bind fun l24 =>
    kj18 l24
    else
    kj18 l12
    else
    kj10 l12

def i_DeadParts (N : Nat) (list1 : List SparePart) : Option ((List Int) × Int) :=
  (i_ValidParts N list1).bind fun r4 =>
  bif !r4 then
  some ([], 1)
  else
  withK (fun (l8 : List Int) =>
  some (l8, 0)) fun (kj10 : (List Int) → Option ((List Int) × Int)) =>
  i_DeadParts_l1 kj10 list1 N [] 0

def s_DeadParts_l1 (kj10 : (List Int) → Option ((List Int) × Int)) (list1 : List SparePart) : Nat → (List Int) → Int → Option ((List Int) × Int)
  | 0, _, _ => none
  | N + 1, l12, i14 =>
    bif decide (i14 < (List.length list1 : Int)) then
    withK (fun (l16 : List Int) =>
    s_DeadParts_l1 kj10 list1 N l16 (w64 (i14 + 1))) fun (kj18 : (List Int) → Option ((List Int) × Int)) =>
    (s_l24Use N list1 i14 1).bind fun r20 =>
    bif decide (r20 < 0) then
    (app l12 [i14]).bind fun l24 =>
    kj18 l24
    else
    kj18 l12
    else
    kj10 l12

def s_DeadParts (N : Nat) (list1 : List SparePart) : Option ((List Int) × Int) :=
  (s_l24Ok N list1).bind fun r4 =>
  bif !r4 then
  some ([], 1)
  else
  withK (fun (l8 : List Int) =>
  some (l8, 0)) fun (kj10 : (List Int) → Option ((List Int) × Int)) =>
  s_DeadParts_l1 kj10 list1 N [] 0

def s_DrawSameParts (N : Nat) (code1 : List UInt8) : Option ((List SparePart) × (List SparePart)) :=
  (s_l00From code1).bind fun r4 =>
  (s_l24Draw N (L00Src.mk code1 r4.at_ r4.seed)).bind fun r7 =>
  (app [] r7.1).bind fun l11 =>
  withK (fun (x14 : Int) (x15 : Int) (l16 : List SparePart) =>
  withK (fun (l33 : List SparePart) =>
  some (r7.1, l33)) fun (kj35 : (List SparePart) → Option ((List SparePart) × (List SparePart))) =>
  (s_l00Src_one (L00Src.mk code1 x14 x15) 5).bind fun r37 =>
  bif r37.1 then
  (app l16 [(SparePart.mk [] 0 0 0 0)]).bind fun l41 =>
  kj35 l41
  else
  kj35 l16) fun (kj17 : Int → Int → (List SparePart) → Option ((List SparePart) × (List SparePart))) =>
  (bif decide ((List.length l11 : Int) > 0) then (s_l00Src_one (L00Src.mk code1 r7.2.at_ r7.2.seed) 2).bind fun r23 =>
  some (r23.1, (L00Src.mk code1 r23.2.at_ r23.2.seed)) else some (false, (L00Src.mk code1 r7.2.at_ r7.2.seed))).bind fun x21 =>
  bif x21.1 then
  (idx l11 0).bind fun e26 =>
  (s_l00Src_pick (L00Src.mk code1 x21.2.at_ x21.2.seed) 2).bind fun r28 =>
  (idx l11 0).bind fun e30 =>
  kj17 r28.2.at_ r28.2.seed (List.set l11 (Int.toNat 0) (SparePart.mk e30.name e30.stock e30.target (w64 (e26.days + r28.1)) e30.instead))
  else
  kj17 x21.2.at_ x21.2.seed l11

def s_SameParts_l1 (kj8 : Option Bool) (a1 : List SparePart) (b4 : List SparePart) : Nat → Int → Option Bool
  | 0, _ => none
  | N + 1, i10 =>
    bif decide (i10 < (List.length a1 : Int)) then
    (idx a1 i10).bind fun e12 =>
    (idx b4 i10).bind fun e17 =>
    bif !(SparePart.beq e12 e17) then
    some false
    else
    s_SameParts_l1 kj8 a1 b4 N (w64 (i10 + 1))
    else
    kj8 

def s_SameParts (N : Nat) (a1 : List SparePart) (b4 : List SparePart) : Option Bool :=
  bif ((List.length a1 : Int) != (List.length b4 : Int)) then
  some false
  else
  withK (some true) fun (kj8 : Option Bool) =>
  s_SameParts_l1 kj8 a1 b4 N 0

def w_f6ints_l1 (kj8 : Option Bool) (a1 : List Int) (b4 : List Int) : Nat → Int → Option Bool
  | 0, _ => none
  | N + 1, i10 =>
    bif decide (i10 < (List.length a1 : Int)) then
    (idx a1 i10).bind fun e12 =>
    (idx b4 i10).bind fun e17 =>
    bif (e12 != e17) then
    some false
    else
    w_f6ints_l1 kj8 a1 b4 N (w64 (i10 + 1))
    else
    kj8 

def w_f6ints (N : Nat) (a1 : List Int) (b4 : List Int) : Option Bool :=
  bif ((List.length a1 : Int) != (List.length b4 : Int)) then
  some false
  else
  withK (some true) fun (kj8 : Option Bool) =>
  w_f6ints_l1 kj8 a1 b4 N 0

def i_SameParts_l1 (kj8 : Option Bool) (a1 : List SparePart) (b4 : List SparePart) : Nat → Int → Option Bool
  | 0, _ => none
  | N + 1, x10 =>
    bif decide (x10 < (List.length a1 : Int)) then
    (idx a1 x10).bind fun e12 =>
    (idx b4 x10).bind fun e17 =>
    bif !(SparePart.beq e12 e17) then
    some false
    else
    i_SameParts_l1 kj8 a1 b4 N (w64 (x10 + 1))
    else
    kj8 

def i_SameParts (N : Nat) (a1 : List SparePart) (b4 : List SparePart) : Option Bool :=
  bif ((List.length a1 : Int) != (List.length b4 : Int)) then
  some false
  else
  withK (some true) fun (kj8 : Option Bool) =>
  i_SameParts_l1 kj8 a1 b4 N 0

def i_Decimal (n1 : Int) : Option Str :=
  (fmtI n1 10).bind fun r2 =>
  some r2

def i_PartText (N : Nat) (list1 : List SparePart) (k4 : Int) : Option Str :=
  (i_ValidParts N list1).bind fun r5 =>
  (orO (!r5) ((i_between k4 0 (w64 ((List.length list1 : Int) - 1))).bind fun r10 =>
  some (!r10))).bind fun t7 =>
  bif t7 then
  some []
  else
  (idx list1 k4).bind fun e13 =>
  (cat e13.name [32]).bind fun s19 =>
  (i_Decimal e13.stock).bind fun r21 =>
  (cat s19 r21).bind fun s23 =>
  (cat s23 [47]).bind fun s25 =>
  (i_Decimal e13.target).bind fun r27 =>
  (cat s25 r27).bind fun s29 =>
  (cat s29 [32, 105, 110, 32]).bind fun s31 =>
  (i_Decimal e13.days).bind fun r33 =>
  (cat s31 r33).bind fun s35 =>
  (cat s35 [32, 100, 97, 121, 115]).bind fun s37 =>
  withK (fun (out39 : Str) =>
  some out39) fun (kj40 : Str → Option Str) =>
  bif decide (e13.instead ≥ 0) then
  (idx list1 e13.instead).bind fun e43 =>
  (cat [32, 111, 114, 32] e43.name).bind fun s48 =>
  (cat s37 s48).bind fun s50 =>
  kj40 s50
  else
  kj40 s37

def s_l01Dec_l1 (kj5 : (List UInt8) → Option Str) : Nat → (List UInt8) → Int → Option Str
  | 0, _, _ => none
  | N + 1, l7, k9 =>
    bif (k9 != 0) then
    withK (fun (d11 : Int) =>
    (app [UInt8.ofInt (w64 (48 + d11))] l7).bind fun l16 =>
    s_l01Dec_l1 kj5 N l16 (w64 (Int.tdiv k9 10))) fun (kj12 : Int → Option Str) =>
    bif decide ((Int.tmod k9 10) < 0) then
    kj12 (w64 (0 - (Int.tmod k9 10)))
    else
    kj12 (Int.tmod k9 10)
    else
    kj5 l7

def s_l01Dec (N : Nat) (n1 : Int) : Option Str :=
  withK (fun (l3 : List UInt8) =>
  bif ((List.length l3 : Int) == 0) then
  some [48]
  else
  bif decide (n1 < 0) then
  (cat [45] l3).bind fun s21 =>
  some s21
  else
  some l3) fun (kj5 : (List UInt8) → Option Str) =>
  s_l01Dec_l1 kj5 N [] n1

def s_PartText (N : Nat) (list1 : List SparePart) (k4 : Int) : Option Str :=
  (s_l24Ok N list1).bind fun r5 =>
  (orO (!r5) ((s_l00In k4 0 (w64 ((List.length list1 : Int) - 1))).bind fun r10 =>
  some (!r10))).bind fun t7 =>
  bif t7 then
  some []
  else
  (idx list1 k4).bind fun e13 =>
  (cat e13.name [32]).bind fun s18 =>
  (s_l01Dec N e13.stock).bind fun r20 =>
  (cat s18 r20).bind fun s22 =>
  (cat s22 [47]).bind fun s24 =>
  (s_l01Dec N e13.target).bind fun r26 =>
  (cat s24 r26).bind fun s28 =>
  (cat s28 [32, 105, 110, 32]).bind fun s30 =>
  (s_l01Dec N e13.days).bind fun r32 =>
  (cat s30 r32).bind fun s34 =>
  (cat s34 [32, 100, 97, 121, 115]).bind fun s36 =>
  withK (fun (out38 : Str) =>
  some out38) fun (kj39 : Str → Option Str) =>
  bif decide (e13.instead ≥ 0) then
  (idx list1 e13.instead).bind fun e42 =>
  (cat [32, 111, 114, 32] e42.name).bind fun s47 =>
  (cat s36 s47).bind fun s49 =>
  kj39 s49
  else
  kj39 s36

def s_ValidParts (N : Nat) (list1 : List SparePart) : Option Bool :=
  (s_l24Ok N list1).bind fun r4 =>
  some r4

def w_FnReplacements_l1 (kj98 : Option Bool) (r7 : (List SparePart) × Int × Int) (r32 : (List Int) × Int) : Nat → Int → Option Bool
  | 0, _ => none
  | N + 1, i101 =>
    bif decide (i101 < (List.length r32.1 : Int)) then
    (idx r32.1 i101).bind fun e103 =>
    (idx r7.1 e103).bind fun e105 =>
    bif (e105.stock != 0) then
    some false
    else
    w_FnReplacements_l1 kj98 r7 r32 N (w64 (i101 + 1))
    else
    kj98 

def w_FnReplacements_l2 (kj112 : Option Bool) (r7 : (List SparePart) × Int × Int) (r13 : (List SparePart) × Int × Int) : Nat → Int → Option Bool
  | 0, _ => none
  | N + 1, at114 =>
    bif (at114 != r13.2.1) then
    (idx r7.1 at114).bind fun e116 =>
    (orO (decide (e116.stock ≥ r7.2.2)) ((idx r7.1 at114).bind fun e121 =>
    some (decide (e121.instead < 0)))).bind fun t118 =>
    bif t118 then
    some false
    else
    (idx r7.1 at114).bind fun e124 =>
    w_FnReplacements_l2 kj112 r7 r13 N e124.instead
    else
    kj112 

def w_FnReplacements (N : Nat) (code1 : List UInt8) : Option Bool :=
  (w_f6big code1).bind fun r4 =>
  bif r4 then
  some true
  else
  (s_DrawTakeParts N code1).bind fun r7 =>
  (i_TakeParts N r7.1 r7.2.1 r7.2.2).bind fun r10 =>
  (s_TakeParts N r7.1 r7.2.1 r7.2.2).bind fun r13 =>
  (i_ReplacementOf N r7.1 r7.2.1 r7.2.2).bind fun r16 =>
  (s_ReplacementOf N r7.1 r7.2.1 r7.2.2).bind fun r18 =>
  (s_DrawBringParts N code1).bind fun r20 =>
  (i_BringParts N r20.1 r20.2.1 r20.2.2).bind fun r23 =>
  (s_BringParts N r20.1 r20.2.1 r20.2.2).bind fun r26 =>
  (i_DeadParts N r7.1).bind fun r29 =>
  (s_DeadParts N r7.1).bind fun r32 =>
  (s_DrawSameParts N code1).bind fun r35 =>
  (orO (r10.2.2 != r13.2.2) (some (r10.2.1 != r13.2.1))).bind fun t39 =>
  (orO t39 ((s_SameParts N r10.1 r13.1).bind fun r45 =>
  some (!r45))).bind fun t42 =>
  (orO t42 (some (r16.2 != r18.2))).bind fun t47 =>
  (orO t47 (some (r16.1 != r18.1))).bind fun t50 =>
  (orO t50 (some (r23.2 != r26.2))).bind fun t53 =>
  (orO t53 ((s_SameParts N r23.1 r26.1).bind fun r59 =>
  some (!r59))).bind fun t56 =>
  (orO t56 (some (r29.2 != r32.2))).bind fun t61 =>
  (orO t61 ((w_f6ints N r29.1 r32.1).bind fun r67 =>
  some (!r67))).bind fun t64 =>
  (orO t64 ((i_SameParts N r35.1 r35.2).bind fun r72 =>
  (s_SameParts N r35.1 r35.2).bind fun r74 =>
  some (r72 != r74))).bind fun t69 =>
  (orO t69 ((i_PartText N r7.1 r7.2.1).bind fun r79 =>
  (s_PartText N r7.1 r7.2.1).bind fun r81 =>
  some (r79 != r81))).bind fun t76 =>
  (orO t76 ((i_ValidParts N r7.1).bind fun r86 =>
  (s_ValidParts N r7.1).bind fun r88 =>
  some (r86 != r88))).bind fun t83 =>
  bif t83 then
  some false
  else
  (orO (r16.2 != r10.2.2) ((andO (r16.2 == 0) (some (r16.1 != r10.2.1))).bind fun t94 =>
  some t94)).bind fun t91 =>
  bif t91 then
  some false
  else
  withK (bif (r10.2.2 != 0) then
  some true
  else
  (idx r7.1 r13.2.1).bind fun e109 =>
  bif decide (e109.stock < r7.2.2) then
  some false
  else
  withK ((i_BringParts N r10.1 r13.2.1 r7.2.2).bind fun r126 =>
  (andO (r126.2 == 0) ((s_SameParts N r126.1 r7.1).bind fun r132 =>
  some r132)).bind fun t129 =>
  some t129) fun (kj112 : Option Bool) =>
  w_FnReplacements_l2 kj112 r7 r13 N r7.2.1) fun (kj98 : Option Bool) =>
  bif (r29.2 == 0) then
  w_FnReplacements_l1 kj98 r7 r32 N 0
  else
  kj98 

def w_szSparePart (a1 : SparePart) (left2 : Int) : Option Int :=
  bif decide ((w64 (left2 - (List.length a1.name : Int))) < 0) then
  some (-1)
  else
  some (w64 (left2 - (List.length a1.name : Int)))

def w_szSparePartS_l1 (kj7 : Int → Option Int) (a1 : List SparePart) : Nat → Int → Int → Option Int
  | 0, _, _ => none
  | N + 1, left9, i10 =>
    bif decide (i10 < (List.length a1 : Int)) then
    (idx a1 i10).bind fun e12 =>
    (w_szSparePart e12 left9).bind fun r17 =>
    bif decide (r17 < 0) then
    some (-1)
    else
    w_szSparePartS_l1 kj7 a1 N r17 (w64 (i10 + 1))
    else
    kj7 left9

def w_szSparePartS (N : Nat) (a1 : List SparePart) (left4 : Int) : Option Int :=
  bif decide ((w64 (left4 - (List.length a1 : Int))) < 0) then
  some (-1)
  else
  withK (fun (left6 : Int) =>
  some left6) fun (kj7 : Int → Option Int) =>
  w_szSparePartS_l1 kj7 a1 N (w64 (left4 - (List.length a1 : Int))) 0

def w_toSparePart (a1 : SparePart) : Option SparePart :=
  some (SparePart.mk a1.name a1.stock a1.target a1.days a1.instead)

def w_toSparePartS_l1 (kj8 : (List SparePart) → Option (List SparePart)) (a1 : List SparePart) : Nat → (List SparePart) → Int → Option (List SparePart)
  | 0, _, _ => none
  | N + 1, l10, i11 =>
    bif decide (i11 < (List.length a1 : Int)) then
    (idx a1 i11).bind fun e13 =>
    (w_toSparePart e13).bind fun r18 =>
    (idx l10 i11).bind fun e20 =>
    w_toSparePartS_l1 kj8 a1 N (List.set l10 (Int.toNat i11) r18) (w64 (i11 + 1))
    else
    kj8 l10

def w_toSparePartS (N : Nat) (a1 : List SparePart) : Option (List SparePart) :=
  (mk (List.length a1 : Int) (SparePart.mk [] 0 0 0 0)).bind fun l4 =>
  withK (fun (l7 : List SparePart) =>
  some l7) fun (kj8 : (List SparePart) → Option (List SparePart)) =>
  w_toSparePartS_l1 kj8 a1 N l4 0

def w_eqSparePart (a1 : SparePart) (b2 : SparePart) : Option Bool :=
  bif (a1.name != b2.name) then
  some false
  else
  bif (a1.stock != b2.stock) then
  some false
  else
  bif (a1.target != b2.target) then
  some false
  else
  bif (a1.days != b2.days) then
  some false
  else
  bif (a1.instead != b2.instead) then
  some false
  else
  some true

def w_eqSparePartS_l1 (kj8 : Option Bool) (a1 : List SparePart) (b4 : List SparePart) : Nat → Int → Option Bool
  | 0, _ => none
  | N + 1, i10 =>
    bif decide (i10 < (List.length a1 : Int)) then
    (idx a1 i10).bind fun e12 =>
    (idx b4 i10).bind fun e17 =>
    (w_eqSparePart e12 e17).bind fun r22 =>
    bif !r22 then
    some false
    else
    w_eqSparePartS_l1 kj8 a1 b4 N (w64 (i10 + 1))
    else
    kj8 

def w_eqSparePartS (N : Nat) (a1 : List SparePart) (b4 : List SparePart) : Option Bool :=
  bif ((List.length a1 : Int) != (List.length b4 : Int)) then
  some false
  else
  withK (some true) fun (kj8 : Option Bool) =>
  w_eqSparePartS_l1 kj8 a1 b4 N 0

def w_FnExactPartText (N : Nat) (aList1 : List SparePart) (aK4 : Int) : Option Bool :=
  (w_szSparePartS N aList1 1048576).bind fun r5 =>
  bif decide (r5 < 0) then
  some true
  else
  (w_toSparePartS N aList1).bind fun r8 =>
  (s_PartText N r8 aK4).bind fun r11 =>
  (w_toSparePartS N aList1).bind fun r13 =>
  (i_PartText N r13 aK4).bind fun r16 =>
  bif (r16 != r11) then
  some false
  else
  (w_toSparePartS N aList1).bind fun r19 =>
  (w_eqSparePartS N r13 r19).bind fun r22 =>
  bif !r22 then
  some false
  else
  some true

end Go.Proofs.YtdnnnakjhehfkaaDoor
