/-
  Plain functions that compute what the Go functions compute. No conditions.
-/
import Derived.Test.YtffaepmojpanoaaBase
namespace Go.Proofs.Ytffaepmojpanoaa
set_option linter.unusedVariables false
set_option linter.unusedSimpArgs false

structure SparePart where
  name : Str
  stock : Int
  target : Int
  days : Int
  instead : Int

def SparePart.beq (x y : SparePart) : Bool := x.name == y.name && (x.stock == y.stock && (x.target == y.target && (x.days == y.days && (x.instead == y.instead))))

structure L00Src where
  code : List UInt8
  at_ : Int
  seed : Int

def L00Src.beq (x y : L00Src) : Bool := x.code == y.code && (x.at_ == y.at_ && (x.seed == y.seed))

def wfSparePart (x : SparePart) : Prop := wfStr x.name ∧ wfI64 x.stock ∧ wfI64 x.target ∧ wfI64 x.days ∧ wfI64 x.instead

def w_f6big (code1 : List UInt8) : Option Bool :=
  some (decide ((List.length code1 : Int) > 4096))

def s_l00From (code1 : List UInt8) : Option L00Src :=
  some (L00Src.mk code1 0 0)

def s_l00Src_next (s1 : L00Src) : Option (Int × L00Src) :=
  withK (fun (b5 : Int) =>
  bif decide ((w64 (s1.at_ + 1)) ≤ (List.length s1.code : Int)) then
  some (b5, (L00Src.mk s1.code (w64 (s1.at_ + 1)) (IntKind.u64.wrap ((IntKind.u64.wrap ((IntKind.u64.wrap (s1.seed * 6364136223846793005)) + (IntKind.u64.wrap b5))) + 1442695040888963407))))
  else
  some (w64 (uand (ushr (IntKind.u64.wrap ((IntKind.u64.wrap ((IntKind.u64.wrap (s1.seed * 6364136223846793005)) + (IntKind.u64.wrap b5))) + 1442695040888963407)) 40) 255), (L00Src.mk s1.code (w64 (s1.at_ + 1)) (IntKind.u64.wrap ((IntKind.u64.wrap ((IntKind.u64.wrap (s1.seed * 6364136223846793005)) + (IntKind.u64.wrap b5))) + 1442695040888963407))))) fun (k6 : Int → Option (Int × L00Src)) =>
  bif decide (s1.at_ < (List.length s1.code : Int)) then
  (idx s1.code s1.at_).bind fun e9 =>
  k6 (UInt8.toNat e9 : Int)
  else
  k6 0

def s_l00Src_pick (s1 : L00Src) (n5 : Int) : Option (Int × L00Src) :=
  bif decide (n5 ≤ 1) then
  some (0, (L00Src.mk s1.code s1.at_ s1.seed))
  else
  (s_l00Src_next (L00Src.mk s1.code s1.at_ s1.seed)).bind fun r7 =>
  withK (fun (x9 : Int) (x10 : Int) (x11 : Int) =>
  (remO x11 n5).bind fun q17 =>
  some (q17, (L00Src.mk s1.code x9 x10))) fun (k12 : Int → Int → Int → Option (Int × L00Src)) =>
  bif decide (n5 > 200) then
  (s_l00Src_next (L00Src.mk s1.code r7.2.at_ r7.2.seed)).bind fun r15 =>
  k12 r15.2.at_ r15.2.seed (w64 ((w64 (r7.1 * 256)) + r15.1))
  else
  k12 r7.2.at_ r7.2.seed r7.1

def s_l00Src_one (s1 : L00Src) (n5 : Int) : Option (Bool × L00Src) :=
  (s_l00Src_pick (L00Src.mk s1.code s1.at_ s1.seed) n5).bind fun r6 =>
  some ((r6.1 == 0), (L00Src.mk s1.code r6.2.at_ r6.2.seed))

def s_l24Draw_l1 (k11 : Int → Int → (List SparePart) → Option ((List SparePart) × L00Src)) (s1 : L00Src) : Nat → Int → Int → (List SparePart) → Int → Option ((List SparePart) × L00Src)
  | 0, _, _, _, _ => none
  | N + 1, x15, x16, l17, k19 =>
    bif decide (k19 > 0) then
    (idx [[98, 97, 114], [98, 101, 108, 108], [100, 114, 117, 109], [107, 101, 121, 45, 97], [112, 97, 119, 108], [114, 97, 99, 107], [115, 112, 114, 105, 110, 103], [115, 112, 111, 111, 108]] (List.length l17 : Int)).bind fun e21 =>
    (s_l00Src_pick (L00Src.mk s1.code x15 x16) 20).bind fun r23 =>
    (s_l00Src_pick (L00Src.mk s1.code r23.2.at_ r23.2.seed) 20).bind fun r27 =>
    (s_l00Src_pick (L00Src.mk s1.code r27.2.at_ r27.2.seed) 30).bind fun r29 =>
    withK (fun (x31 : Int) (x32 : Int) (x33 : Str) (x34 : Int) (x35 : Int) (x36 : Int) (x37 : Int) =>
    withK (fun (x49 : Int) (x50 : Int) (x51 : Str) (x52 : Int) (x53 : Int) (x54 : Int) (x55 : Int) =>
    (app l17 [(SparePart.mk x51 x52 x53 x54 x55)]).bind fun l62 =>
    s_l24Draw_l1 k11 s1 N x49 x50 l62 (w64 (k19 - 1))) fun (k57 : Int → Int → Str → Int → Int → Int → Int → Option ((List SparePart) × L00Src)) =>
    (s_l00Src_one (L00Src.mk s1.code x31 x32) 3).bind fun r58 =>
    bif r58.1 then
    k57 r58.2.at_ r58.2.seed x33 0 x35 x36 x37
    else
    k57 r58.2.at_ r58.2.seed x33 x34 x35 x36 x37) fun (k39 : Int → Int → Str → Int → Int → Int → Int → Option ((List SparePart) × L00Src)) =>
    (bif decide ((List.length l17 : Int) > 0) then (s_l00Src_one (L00Src.mk s1.code r29.2.at_ r29.2.seed) 2).bind fun r44 =>
    some (r44.1, (L00Src.mk s1.code r44.2.at_ r44.2.seed)) else some (false, (L00Src.mk s1.code r29.2.at_ r29.2.seed))).bind fun x42 =>
    bif x42.1 then
    (s_l00Src_pick (L00Src.mk s1.code x42.2.at_ x42.2.seed) (List.length l17 : Int)).bind fun r47 =>
    k39 r47.2.at_ r47.2.seed ((SparePart.mk e21 r23.1 0 0 (-1)).name) ((SparePart.mk e21 r23.1 0 0 (-1)).stock) r27.1 r29.1 r47.1
    else
    k39 x42.2.at_ x42.2.seed ((SparePart.mk e21 r23.1 0 0 (-1)).name) ((SparePart.mk e21 r23.1 0 0 (-1)).stock) r27.1 r29.1 ((SparePart.mk e21 r23.1 0 0 (-1)).instead)
    else
    k11 x15 x16 l17

def s_l24Draw (N : Nat) (s1 : L00Src) : Option ((List SparePart) × L00Src) :=
  withK (fun (x7 : Int) (x8 : Int) (l9 : List SparePart) =>
  some (l9, (L00Src.mk s1.code x7 x8))) fun (k11 : Int → Int → (List SparePart) → Option ((List SparePart) × L00Src)) =>
  (s_l00Src_pick (L00Src.mk s1.code s1.at_ s1.seed) 9).bind fun r13 =>
  s_l24Draw_l1 k11 s1 N r13.2.at_ r13.2.seed [] r13.1

def s_l00Src_text (s1 : L00Src) (list5 : List Str) : Option (Str × L00Src) :=
  (s_l00Src_pick (L00Src.mk s1.code s1.at_ s1.seed) (List.length list5 : Int)).bind fun r8 =>
  (idx list5 r8.1).bind fun e10 =>
  some (e10, (L00Src.mk s1.code r8.2.at_ r8.2.seed))

def s_l00Src_among (s1 : L00Src) (list5 : List Int) : Option (Int × L00Src) :=
  (s_l00Src_pick (L00Src.mk s1.code s1.at_ s1.seed) (List.length list5 : Int)).bind fun r8 =>
  (idx list5 r8.1).bind fun e10 =>
  some (e10, (L00Src.mk s1.code r8.2.at_ r8.2.seed))

def s_l24Bent_l1 (k12 : Int → Int → (List SparePart) → Option ((List SparePart) × L00Src)) (r18 : Int × L00Src) : Nat → (List SparePart) → Int → Option ((List SparePart) × L00Src)
  | 0, _, _ => none
  | N + 1, l20, x22 =>
    bif decide (x22 > 0) then
    (app l20 [(SparePart.mk [(97 : UInt8) + (UInt8.ofInt (Int.tdiv (UInt8.toNat (UInt8.ofInt (List.length l20 : Int)) : Int) 26)), (97 : UInt8) + (UInt8.ofInt (Int.tmod (UInt8.toNat (UInt8.ofInt (List.length l20 : Int)) : Int) 26))] x22 0 0 (w64 ((List.length l20 : Int) - 1)))]).bind fun l26 =>
    s_l24Bent_l1 k12 r18 N l26 (w64 (x22 - 1))
    else
    k12 r18.2.at_ r18.2.seed l20

def s_l24Bent (N : Nat) (s1 : L00Src) : Option ((List SparePart) × L00Src) :=
  (s_l24Draw N (L00Src.mk s1.code s1.at_ s1.seed)).bind fun r5 =>
  withK (fun (x8 : Int) (x9 : Int) (l10 : List SparePart) =>
  bif ((List.length l10 : Int) == 0) then
  some (l10, (L00Src.mk s1.code x8 x9))
  else
  (s_l00Src_pick (L00Src.mk s1.code x8 x9) (List.length l10 : Int)).bind fun r30 =>
  (idx l10 r30.1).bind fun e32 =>
  withK (fun (x34 : Int) (x35 : Int) (l36 : List SparePart) =>
  some (l36, (L00Src.mk s1.code x34 x35))) fun (k37 : Int → Int → (List SparePart) → Option ((List SparePart) × L00Src)) =>
  (s_l00Src_pick (L00Src.mk s1.code r30.2.at_ r30.2.seed) 24).bind fun r39 =>
  bif (r39.1 == 0) then
  (s_l00Src_text (L00Src.mk s1.code r39.2.at_ r39.2.seed) [[], [66, 97, 114], [98, 97, 114]]).bind fun r43 =>
  k37 r43.2.at_ r43.2.seed (List.set l10 (Int.toNat r30.1) (SparePart.mk r43.1 e32.stock e32.target e32.days e32.instead))
  else
  bif (r39.1 == 1) then
  (s_l00Src_among (L00Src.mk s1.code r39.2.at_ r39.2.seed) [(-1), 0, 100000, 100001]).bind fun r47 =>
  k37 r47.2.at_ r47.2.seed (List.set l10 (Int.toNat r30.1) (SparePart.mk e32.name r47.1 e32.target e32.days e32.instead))
  else
  bif (r39.1 == 2) then
  (s_l00Src_among (L00Src.mk s1.code r39.2.at_ r39.2.seed) [(-1), 0, 100000, 100001]).bind fun r51 =>
  k37 r51.2.at_ r51.2.seed (List.set l10 (Int.toNat r30.1) (SparePart.mk e32.name e32.stock r51.1 e32.days e32.instead))
  else
  bif (r39.1 == 3) then
  (s_l00Src_among (L00Src.mk s1.code r39.2.at_ r39.2.seed) [(-1), 0, 365, 366]).bind fun r55 =>
  k37 r55.2.at_ r55.2.seed (List.set l10 (Int.toNat r30.1) (SparePart.mk e32.name e32.stock e32.target r55.1 e32.instead))
  else
  bif (r39.1 == 4) then
  (s_l00Src_among (L00Src.mk s1.code r39.2.at_ r39.2.seed) [(-2), (-1), w64 ((List.length l10 : Int) - 1), (List.length l10 : Int), (-9223372036854775808)]).bind fun r59 =>
  k37 r59.2.at_ r59.2.seed (List.set l10 (Int.toNat r30.1) (SparePart.mk e32.name e32.stock e32.target e32.days r59.1))
  else
  k37 r39.2.at_ r39.2.seed l10) fun (k12 : Int → Int → (List SparePart) → Option ((List SparePart) × L00Src)) =>
  (s_l00Src_one (L00Src.mk s1.code r5.2.at_ r5.2.seed) 24).bind fun r14 =>
  bif r14.1 then
  (s_l00Src_pick (L00Src.mk s1.code r14.2.at_ r14.2.seed) 2).bind fun r18 =>
  s_l24Bent_l1 k12 r18 N [] (w64 (40 + r18.1))
  else
  k12 r14.2.at_ r14.2.seed r5.1

def s_l24List_l1 (k15 : (List Int) → Int → Int → Option ((List SparePart) × (List Int))) (code1 : List UInt8) (r7 : (List SparePart) × L00Src) : Nat → (List Int) → Int → Int → Int → Option ((List SparePart) × (List Int))
  | 0, _, _, _, _ => none
  | N + 1, l17, x19, x20, i21 =>
    bif decide (i21 < (List.length r7.1 : Int)) then
    (s_l00Src_pick (L00Src.mk code1 x19 x20) 5).bind fun r23 =>
    (app l17 [r23.1]).bind fun l26 =>
    s_l24List_l1 k15 code1 r7 N l26 r23.2.at_ r23.2.seed (w64 (i21 + 1))
    else
    k15 l17 x19 x20

def s_l24List (N : Nat) (code1 : List UInt8) : Option ((List SparePart) × (List Int)) :=
  (s_l00From code1).bind fun r4 =>
  (s_l24Bent N (L00Src.mk code1 r4.at_ r4.seed)).bind fun r7 =>
  withK (fun (l11 : List Int) (x13 : Int) (x14 : Int) =>
  withK (fun (l29 : List Int) =>
  some (r7.1, l29)) fun (k31 : (List Int) → Option ((List SparePart) × (List Int))) =>
  (s_l00Src_pick (L00Src.mk code1 x13 x14) 14).bind fun r33 =>
  bif (r33.1 == 0) then
  (app l11 [0]).bind fun l37 =>
  k31 l37
  else
  bif (r33.1 == 1) then
  bif decide ((List.length l11 : Int) > 0) then
  (s_l00Src_among (L00Src.mk code1 r33.2.at_ r33.2.seed) [(-1), 0, 100000, 100001]).bind fun r43 =>
  (idx l11 0).bind fun e45 =>
  k31 (List.set l11 (Int.toNat 0) r43.1)
  else
  k31 l11
  else
  bif (r33.1 == 2) then
  (mk (List.length r7.1 : Int) (0 : Int)).bind fun l48 =>
  k31 l48
  else
  k31 l11) fun (k15 : (List Int) → Int → Int → Option ((List SparePart) × (List Int))) =>
  s_l24List_l1 k15 code1 r7 N [] r7.2.at_ r7.2.seed 0

def s_DrawMachinesFrom (N : Nat) (code1 : List UInt8) : Option ((List SparePart) × (List Int)) :=
  (s_l24List N code1).bind fun r4 =>
  some (r4.1, r4.2)

def i_isDigit (b1 : UInt8) : Option Bool :=
  (andO (decide (b1 ≥ (48 : UInt8))) (some (decide (b1 ≤ (57 : UInt8))))).bind fun t2 =>
  some t2

def i_IsName_l1 (k6 : Option Bool) (s1 : Str) : Nat → Int → Option Bool
  | 0, _ => none
  | N + 1, x8 =>
    bif decide (x8 < (List.length s1 : Int)) then
    (idx s1 x8).bind fun c10 =>
    (andO (decide (c10 ≥ (97 : UInt8))) ((idx s1 x8).bind fun c15 =>
    some (decide (c15 ≤ (122 : UInt8))))).bind fun t12 =>
    (andO (!t12) ((orO (x8 == 0) ((idx s1 x8).bind fun c23 =>
    (andO (c23 != (45 : UInt8)) ((idx s1 x8).bind fun c28 =>
    (i_isDigit c28).bind fun r30 =>
    some (!r30))).bind fun t25 =>
    some t25)).bind fun t20 =>
    some t20)).bind fun t17 =>
    bif t17 then
    some false
    else
    i_IsName_l1 k6 s1 N (w64 (x8 + 1))
    else
    k6 

def i_IsName (N : Nat) (s1 : Str) : Option Bool :=
  (orO ((List.length s1 : Int) == 0) (some (decide ((List.length s1 : Int) > 12)))).bind fun t2 =>
  bif t2 then
  some false
  else
  withK (some true) fun (k6 : Option Bool) =>
  i_IsName_l1 k6 s1 N 0

def i_between (n1 : Int) (low2 : Int) (high3 : Int) : Option Bool :=
  (andO (decide (n1 ≥ low2)) (some (decide (n1 ≤ high3)))).bind fun t4 =>
  some t4

def i_ValidParts_l1 (k6 : Option Bool) (list1 : List SparePart) : Nat → (List (Str × Bool)) → Int → Option Bool
  | 0, _, _ => none
  | N + 1, mp8, x9 =>
    bif decide (x9 < (List.length list1 : Int)) then
    (idx list1 x9).bind fun e11 =>
    (i_IsName N e11.name).bind fun r17 =>
    (orO (!r17) (some (mget mp8 e11.name))).bind fun t19 =>
    (orO t19 ((i_between e11.stock 0 100000).bind fun r25 =>
    some (!r25))).bind fun t22 =>
    (orO t22 ((i_between e11.target 0 100000).bind fun r30 =>
    some (!r30))).bind fun t27 =>
    (orO t27 ((i_between e11.days 0 365).bind fun r35 =>
    some (!r35))).bind fun t32 =>
    (orO t32 ((i_between e11.instead (-1) (w64 ((List.length list1 : Int) - 1))).bind fun r40 =>
    some (!r40))).bind fun t37 =>
    bif t37 then
    some false
    else
    i_ValidParts_l1 k6 list1 N (mset mp8 e11.name true) (w64 (x9 + 1))
    else
    k6 

def i_ValidParts_l3 (k48 : Option Bool) (list1 : List SparePart) : Nat → Int → Int → Option Bool
  | 0, _, _ => none
  | N + 1, x49, x50 =>
    bif decide (x49 ≥ 0) then
    (idx list1 x49).bind fun e52 =>
    bif decide ((w64 (x50 + 1)) > (List.length list1 : Int)) then
    some false
    else
    i_ValidParts_l3 k48 list1 N e52.instead (w64 (x50 + 1))
    else
    k48 

def i_ValidParts_l2 (k43 : Option Bool) (list1 : List SparePart) : Nat → Int → Option Bool
  | 0, _ => none
  | N + 1, x45 =>
    bif decide (x45 < (List.length list1 : Int)) then
    withK (i_ValidParts_l2 k43 list1 N (w64 (x45 + 1))) fun (k48 : Option Bool) =>
    i_ValidParts_l3 k48 list1 N x45 0
    else
    k43 

def i_ValidParts (N : Nat) (list1 : List SparePart) : Option Bool :=
  bif decide ((List.length list1 : Int) > 40) then
  some false
  else
  withK (withK (some true) fun (k43 : Option Bool) =>
  i_ValidParts_l2 k43 list1 N 0) fun (k6 : Option Bool) =>
  i_ValidParts_l1 k6 list1 N [] 0

def i_numbersCode_l1 (k11 : Option Int) (numbers4 : List Int) : Nat → Int → Option Int
  | 0, _ => none
  | N + 1, x13 =>
    bif decide (x13 < (List.length numbers4 : Int)) then
    (idx numbers4 x13).bind fun e15 =>
    (i_between e15 0 100000).bind fun r20 =>
    bif !r20 then
    some 2
    else
    i_numbersCode_l1 k11 numbers4 N (w64 (x13 + 1))
    else
    k11 

def i_numbersCode (N : Nat) (list1 : List SparePart) (numbers4 : List Int) : Option Int :=
  (i_ValidParts N list1).bind fun r7 =>
  bif !r7 then
  some 1
  else
  bif ((List.length numbers4 : Int) != (List.length list1 : Int)) then
  some 2
  else
  withK (some 0) fun (k11 : Option Int) =>
  i_numbersCode_l1 k11 numbers4 N 0

def i_scarcest_l1 (k9 : Int → Int → Option (Int × Int)) (list1 : List SparePart) (each4 : List Int) : Nat → Int → Int → Int → Option (Int × Int)
  | 0, _, _, _ => none
  | N + 1, part11, least12, x13 =>
    bif decide (x13 < (List.length list1 : Int)) then
    withK (fun (part15 : Int) (least16 : Int) =>
    i_scarcest_l1 k9 list1 each4 N part15 least16 (w64 (x13 + 1))) fun (k18 : Int → Int → Option (Int × Int)) =>
    (idx list1 x13).bind fun e19 =>
    (idx each4 x13).bind fun e25 =>
    bif (e25 == 0) then
    k18 part11 least12
    else
    (idx each4 x13).bind fun e31 =>
    (quoO e19.stock e31).bind fun q36 =>
    (orO (decide (part11 < 0)) (some (decide (q36 < least12)))).bind fun t38 =>
    bif t38 then
    k18 x13 q36
    else
    k18 part11 least12
    else
    k9 part11 least12

def i_scarcest (N : Nat) (list1 : List SparePart) (each4 : List Int) : Option (Int × Int) :=
  withK (fun (part7 : Int) (least8 : Int) =>
  some (part7, least8)) fun (k9 : Int → Int → Option (Int × Int)) =>
  i_scarcest_l1 k9 list1 each4 N (-1) 0 0

def i_MachinesFrom (N : Nat) (list1 : List SparePart) (each4 : List Int) : Option (Int × Int) :=
  (i_numbersCode N list1 each4).bind fun r7 =>
  bif (r7 != 0) then
  some (0, r7)
  else
  (i_scarcest N list1 each4).bind fun r10 =>
  bif decide (r10.1 < 0) then
  some (0, 6)
  else
  some (r10.2, 0)

def s_l01Small (c1 : UInt8) : Option Bool :=
  (andO (decide (c1 ≥ (97 : UInt8))) (some (decide (c1 ≤ (122 : UInt8))))).bind fun t2 =>
  some t2

def s_l01Digit (c1 : UInt8) : Option Bool :=
  (andO (decide (c1 ≥ (48 : UInt8))) (some (decide (c1 ≤ (57 : UInt8))))).bind fun t2 =>
  some t2

def s_IsName_l1 (k13 : Option Bool) (s1 : Str) : Nat → Int → Option Bool
  | 0, _ => none
  | N + 1, i15 =>
    bif decide (i15 < (List.length s1 : Int)) then
    (idx s1 i15).bind fun c17 =>
    (s_l01Small c17).bind fun r19 =>
    (andO (!r19) ((idx s1 i15).bind fun c24 =>
    (s_l01Digit c24).bind fun r26 =>
    some (!r26))).bind fun t21 =>
    (andO t21 ((idx s1 i15).bind fun c31 =>
    some (c31 != (45 : UInt8)))).bind fun t28 =>
    bif t28 then
    some false
    else
    s_IsName_l1 k13 s1 N (w64 (i15 + 1))
    else
    k13 

def s_IsName (N : Nat) (s1 : Str) : Option Bool :=
  (orO (s1 == []) (some (decide ((List.length s1 : Int) > 12)))).bind fun t2 =>
  (orO t2 ((idx s1 0).bind fun c8 =>
  (s_l01Small c8).bind fun r10 =>
  some (!r10))).bind fun t5 =>
  bif t5 then
  some false
  else
  withK (some true) fun (k13 : Option Bool) =>
  s_IsName_l1 k13 s1 N 0

def s_l00In (n1 : Int) (low2 : Int) (high3 : Int) : Option Bool :=
  (andO (decide (n1 ≥ low2)) (some (decide (n1 ≤ high3)))).bind fun t4 =>
  some t4

def s_l24Many (n1 : Int) : Option Bool :=
  (s_l00In n1 0 100000).bind fun r2 =>
  some r2

def s_l24Ok_l2 (k40 : Option Bool) (list1 : List SparePart) (x6 : Int) (e10 : SparePart) : Nat → Int → Option Bool
  | 0, _ => none
  | N + 1, x40 =>
    bif decide (x40 < x6) then
    (idx list1 x40).bind fun e42 =>
    bif (e42.name == e10.name) then
    some false
    else
    s_l24Ok_l2 k40 list1 x6 e10 N (w64 (x40 + 1))
    else
    k40 

def s_l24Ok_l3 (k9 : Option Bool) (list1 : List SparePart) : Nat → Int → Int → Option Bool
  | 0, _, _ => none
  | N + 1, x48, x49 =>
    bif decide (x48 ≥ 0) then
    (orO (decide (x49 > (List.length list1 : Int))) ((s_l00In x48 0 (w64 ((List.length list1 : Int) - 1))).bind fun r54 =>
    some (!r54))).bind fun t51 =>
    bif t51 then
    some false
    else
    (idx list1 x48).bind fun e57 =>
    s_l24Ok_l3 k9 list1 N e57.instead (w64 (x49 + 1))
    else
    k9 

def s_l24Ok_l1 (k4 : Option Bool) (list1 : List SparePart) : Nat → Int → Option Bool
  | 0, _ => none
  | N + 1, x6 =>
    bif decide (x6 < (List.length list1 : Int)) then
    withK (s_l24Ok_l1 k4 list1 N (w64 (x6 + 1))) fun (k9 : Option Bool) =>
    (idx list1 x6).bind fun e10 =>
    (s_IsName N e10.name).bind fun r15 =>
    (orO (!r15) ((s_l24Many e10.stock).bind fun r20 =>
    some (!r20))).bind fun t17 =>
    (orO t17 ((s_l24Many e10.target).bind fun r25 =>
    some (!r25))).bind fun t22 =>
    (orO t22 ((s_l00In e10.days 0 365).bind fun r30 =>
    some (!r30))).bind fun t27 =>
    (orO t27 ((s_l00In e10.instead (-1) (w64 ((List.length list1 : Int) - 1))).bind fun r35 =>
    some (!r35))).bind fun t32 =>
    bif t32 then
    some false
    else
    withK (s_l24Ok_l3 k9 list1 N e10.instead 0) fun (k40 : Option Bool) =>
    s_l24Ok_l2 k40 list1 x6 e10 N 0
    else
    k4 

def s_l24Ok (N : Nat) (list1 : List SparePart) : Option Bool :=
  withK (some (decide ((List.length list1 : Int) ≤ 40))) fun (k4 : Option Bool) =>
  s_l24Ok_l1 k4 list1 N 0

def s_l24Wants_l1 (k10 : Option Int) (wants4 : List Int) : Nat → Int → Option Int
  | 0, _ => none
  | N + 1, i12 =>
    bif decide (i12 < (List.length wants4 : Int)) then
    (idx wants4 i12).bind fun e14 =>
    (s_l24Many e14).bind fun r19 =>
    bif !r19 then
    some 2
    else
    s_l24Wants_l1 k10 wants4 N (w64 (i12 + 1))
    else
    k10 

def s_l24Wants (N : Nat) (list1 : List SparePart) (wants4 : List Int) : Option Int :=
  (s_l24Ok N list1).bind fun r7 =>
  bif !r7 then
  some 1
  else
  withK (bif ((List.length wants4 : Int) != (List.length list1 : Int)) then
  some 2
  else
  some 0) fun (k10 : Option Int) =>
  s_l24Wants_l1 k10 wants4 N 0

def s_l24Scarce_l1 (k9 : Int → Int → Option (Int × Int)) (list1 : List SparePart) (each4 : List Int) : Nat → Int → Int → Int → Option (Int × Int)
  | 0, _, _, _ => none
  | N + 1, best11, few12, i13 =>
    bif decide (i13 < (List.length list1 : Int)) then
    withK (fun (best15 : Int) (few16 : Int) =>
    s_l24Scarce_l1 k9 list1 each4 N best15 few16 (w64 (i13 + 1))) fun (k18 : Int → Int → Option (Int × Int)) =>
    (idx each4 i13).bind fun e19 =>
    bif (e19 == 0) then
    k18 best11 few12
    else
    (idx list1 i13).bind fun e25 =>
    (idx each4 i13).bind fun e30 =>
    (quoO e25.stock e30).bind fun q35 =>
    (orO (decide (best11 < 0)) (some (decide (q35 < few12)))).bind fun t37 =>
    bif t37 then
    k18 i13 q35
    else
    k18 best11 few12
    else
    k9 best11 few12

def s_l24Scarce (N : Nat) (list1 : List SparePart) (each4 : List Int) : Option (Int × Int) :=
  withK (fun (best7 : Int) (few8 : Int) =>
  some (best7, few8)) fun (k9 : Int → Int → Option (Int × Int)) =>
  s_l24Scarce_l1 k9 list1 each4 N (-1) 0 0

def s_MachinesFrom (N : Nat) (list1 : List SparePart) (each4 : List Int) : Option (Int × Int) :=
  (s_l24Wants N list1 each4).bind fun r7 =>
  bif (r7 != 0) then
  some (0, r7)
  else
  (s_l24Scarce N list1 each4).bind fun r10 =>
  bif decide (r10.1 < 0) then
  some (0, 6)
  else
  some (r10.2, 0)

def i_ScarcePart (N : Nat) (list1 : List SparePart) (each4 : List Int) : Option (Int × Int) :=
  (i_numbersCode N list1 each4).bind fun r7 =>
  bif (r7 != 0) then
  some (0, r7)
  else
  (i_scarcest N list1 each4).bind fun r10 =>
  bif decide (r10.1 < 0) then
  some (0, 6)
  else
  some (r10.1, 0)

def s_ScarcePart (N : Nat) (list1 : List SparePart) (each4 : List Int) : Option (Int × Int) :=
  (s_l24Wants N list1 each4).bind fun r7 =>
  bif (r7 != 0) then
  some (0, r7)
  else
  (s_l24Scarce N list1 each4).bind fun r10 =>
  bif decide (r10.1 < 0) then
  some (0, 6)
  else
  some (r10.1, 0)

def i_OrderList_l1 (k10 : (List Int) → Option ((List Int) × Int)) (list1 : List SparePart) : Nat → (List Int) → Int → Option ((List Int) × Int)
  | 0, _, _ => none
  | N + 1, l12, x14 =>
    bif decide (x14 < (List.length list1 : Int)) then
    (idx list1 x14).bind fun e16 =>
    (app l12 [imax (w64 (e16.target - e16.stock)) 0]).bind fun l23 =>
    i_OrderList_l1 k10 list1 N l23 (w64 (x14 + 1))
    else
    k10 l12

def i_OrderList (N : Nat) (list1 : List SparePart) : Option ((List Int) × Int) :=
  (i_ValidParts N list1).bind fun r4 =>
  bif !r4 then
  some ([], 1)
  else
  withK (fun (l8 : List Int) =>
  some (l8, 0)) fun (k10 : (List Int) → Option ((List Int) × Int)) =>
  i_OrderList_l1 k10 list1 N [] 0

def s_l00Max (a1 : Int) (b2 : Int) : Option Int :=
  bif decide (a1 > b2) then
  some a1
  else
  some b2

def s_OrderList_l1 (k10 : (List Int) → Option ((List Int) × Int)) (list1 : List SparePart) : Nat → (List Int) → Int → Option ((List Int) × Int)
  | 0, _, _ => none
  | N + 1, l12, i14 =>
    bif decide (i14 < (List.length list1 : Int)) then
    (idx list1 i14).bind fun e16 =>
    (idx list1 i14).bind fun e21 =>
    (s_l00Max 0 (w64 (e16.target - e21.stock))).bind fun r26 =>
    (app l12 [r26]).bind fun l29 =>
    s_OrderList_l1 k10 list1 N l29 (w64 (i14 + 1))
    else
    k10 l12

def s_OrderList (N : Nat) (list1 : List SparePart) : Option ((List Int) × Int) :=
  (s_l24Ok N list1).bind fun r4 =>
  bif !r4 then
  some ([], 1)
  else
  withK (fun (l8 : List Int) =>
  some (l8, 0)) fun (k10 : (List Int) → Option ((List Int) × Int)) =>
  s_OrderList_l1 k10 list1 N [] 0

def s_DrawDaysUntil (N : Nat) (code1 : List UInt8) : Option ((List SparePart) × (List Int)) :=
  (s_l24List N code1).bind fun r4 =>
  some (r4.1, r4.2)

def i_DaysUntil_l1 (k11 : Int → Option (Int × Int)) (list1 : List SparePart) (wants4 : List Int) : Nat → Int → Int → Option (Int × Int)
  | 0, _, _ => none
  | N + 1, days13, x14 =>
    bif decide (x14 < (List.length list1 : Int)) then
    withK (fun (days16 : Int) =>
    i_DaysUntil_l1 k11 list1 wants4 N days16 (w64 (x14 + 1))) fun (k18 : Int → Option (Int × Int)) =>
    (idx list1 x14).bind fun e19 =>
    (idx wants4 x14).bind fun e25 =>
    bif decide (e19.stock < e25) then
    k18 (imax days13 e19.days)
    else
    k18 days13
    else
    k11 days13

def i_DaysUntil (N : Nat) (list1 : List SparePart) (wants4 : List Int) : Option (Int × Int) :=
  (i_numbersCode N list1 wants4).bind fun r7 =>
  bif (r7 != 0) then
  some (0, r7)
  else
  withK (fun (days10 : Int) =>
  some (days10, 0)) fun (k11 : Int → Option (Int × Int)) =>
  i_DaysUntil_l1 k11 list1 wants4 N 0 0

def s_DaysUntil_l1 (k11 : Int → Option (Int × Int)) (list1 : List SparePart) (wants4 : List Int) : Nat → Int → Int → Option (Int × Int)
  | 0, _, _ => none
  | N + 1, most13, i14 =>
    bif decide (i14 < (List.length list1 : Int)) then
    withK (fun (most16 : Int) =>
    s_DaysUntil_l1 k11 list1 wants4 N most16 (w64 (i14 + 1))) fun (k18 : Int → Option (Int × Int)) =>
    (idx wants4 i14).bind fun e19 =>
    (idx list1 i14).bind fun e24 =>
    bif decide (e19 > e24.stock) then
    (idx list1 i14).bind fun e30 =>
    (s_l00Max most13 e30.days).bind fun r35 =>
    k18 r35
    else
    k18 most13
    else
    k11 most13

def s_DaysUntil (N : Nat) (list1 : List SparePart) (wants4 : List Int) : Option (Int × Int) :=
  (s_l24Wants N list1 wants4).bind fun r7 =>
  bif (r7 != 0) then
  some (0, r7)
  else
  withK (fun (most10 : Int) =>
  some (most10, 0)) fun (k11 : Int → Option (Int × Int)) =>
  s_DaysUntil_l1 k11 list1 wants4 N 0 0

def w_f6ints_l1 (k8 : Option Bool) (a1 : List Int) (b4 : List Int) : Nat → Int → Option Bool
  | 0, _ => none
  | N + 1, i10 =>
    bif decide (i10 < (List.length a1 : Int)) then
    (idx a1 i10).bind fun e12 =>
    (idx b4 i10).bind fun e17 =>
    bif (e12 != e17) then
    some false
    else
    w_f6ints_l1 k8 a1 b4 N (w64 (i10 + 1))
    else
    k8 

def w_f6ints (N : Nat) (a1 : List Int) (b4 : List Int) : Option Bool :=
  bif ((List.length a1 : Int) != (List.length b4 : Int)) then
  some false
  else
  withK (some true) fun (k8 : Option Bool) =>
  w_f6ints_l1 k8 a1 b4 N 0

def w_FnStores_l1 (k57 : Option Bool) (r7 : (List SparePart) × (List Int)) (r22 : (List Int) × Int) : Nat → Int → Option Bool
  | 0, _ => none
  | N + 1, x60 =>
    bif decide (x60 < (List.length r22.1 : Int)) then
    (idx r22.1 x60).bind fun e62 =>
    (orO (decide (e62 < 0)) ((idx r22.1 x60).bind fun e67 =>
    (andO (decide (e67 > 0)) ((idx r22.1 x60).bind fun e72 =>
    (idx r7.1 x60).bind fun e74 =>
    (idx r7.1 x60).bind fun e76 =>
    some ((w64 (e72 + e74.stock)) != e76.target))).bind fun t69 =>
    some t69)).bind fun t64 =>
    (orO t64 ((idx r22.1 x60).bind fun e81 =>
    (andO (e81 == 0) ((idx r7.1 x60).bind fun e86 =>
    (idx r7.1 x60).bind fun e88 =>
    some (decide (e86.stock < e88.target)))).bind fun t83 =>
    some t83)).bind fun t78 =>
    bif t78 then
    some false
    else
    w_FnStores_l1 k57 r7 r22 N (w64 (x60 + 1))
    else
    k57 

def w_FnStores_l2 (k91 : Option Bool) (r25 : (List SparePart) × (List Int)) (r31 : Int × Int) : Nat → Int → Option Bool
  | 0, _ => none
  | N + 1, x94 =>
    bif decide (x94 < (List.length r25.1 : Int)) then
    (idx r25.2 x94).bind fun e96 =>
    (idx r25.1 x94).bind fun e98 =>
    (andO (decide (e96 > e98.stock)) ((idx r25.1 x94).bind fun e103 =>
    some (decide (e103.days > r31.1)))).bind fun t100 =>
    bif t100 then
    some false
    else
    w_FnStores_l2 k91 r25 r31 N (w64 (x94 + 1))
    else
    k91 

def w_FnStores_l3 (k107 : Option Bool) (r7 : (List SparePart) × (List Int)) (r13 : Int × Int) : Nat → Int → Option Bool
  | 0, _ => none
  | N + 1, x109 =>
    bif decide (x109 < (List.length r7.1 : Int)) then
    (idx r7.2 x109).bind fun e111 =>
    (idx r7.1 x109).bind fun e113 =>
    bif decide ((w64 (r13.1 * e111)) > e113.stock) then
    some false
    else
    w_FnStores_l3 k107 r7 r13 N (w64 (x109 + 1))
    else
    k107 

def w_FnStores (N : Nat) (code1 : List UInt8) : Option Bool :=
  (w_f6big code1).bind fun r4 =>
  bif r4 then
  some true
  else
  (s_DrawMachinesFrom N code1).bind fun r7 =>
  (i_MachinesFrom N r7.1 r7.2).bind fun r11 =>
  (s_MachinesFrom N r7.1 r7.2).bind fun r13 =>
  (i_ScarcePart N r7.1 r7.2).bind fun r15 =>
  (s_ScarcePart N r7.1 r7.2).bind fun r17 =>
  (i_OrderList N r7.1).bind fun r19 =>
  (s_OrderList N r7.1).bind fun r22 =>
  (s_DrawDaysUntil N code1).bind fun r25 =>
  (i_DaysUntil N r25.1 r25.2).bind fun r29 =>
  (s_DaysUntil N r25.1 r25.2).bind fun r31 =>
  (orO (r11.2 != r13.2) (some (r11.1 != r13.1))).bind fun t33 =>
  (orO t33 (some (r15.2 != r17.2))).bind fun t36 =>
  (orO t36 (some (r15.1 != r17.1))).bind fun t39 =>
  (orO t39 (some (r19.2 != r22.2))).bind fun t42 =>
  (orO t42 ((w_f6ints N r19.1 r22.1).bind fun r48 =>
  some (!r48))).bind fun t45 =>
  (orO t45 (some (r29.2 != r31.2))).bind fun t50 =>
  (orO t50 (some (r29.1 != r31.1))).bind fun t53 =>
  bif t53 then
  some false
  else
  withK (withK (bif (r11.2 != 0) then
  some true
  else
  withK ((idx r7.2 r17.1).bind fun e116 =>
  (andO (decide (e116 > 0)) ((idx r7.2 r17.1).bind fun e121 =>
  (idx r7.1 r17.1).bind fun e123 =>
  some (decide ((w64 ((w64 (r13.1 + 1)) * e121)) > e123.stock)))).bind fun t118 =>
  some t118) fun (k107 : Option Bool) =>
  w_FnStores_l3 k107 r7 r13 N 0) fun (k91 : Option Bool) =>
  bif (r29.2 == 0) then
  w_FnStores_l2 k91 r25 r31 N 0
  else
  k91 ) fun (k57 : Option Bool) =>
  bif (r19.2 == 0) then
  w_FnStores_l1 k57 r7 r22 N 0
  else
  k57 

def w_szSparePart (a1 : SparePart) (left2 : Int) : Option Int :=
  bif decide ((w64 (left2 - (List.length a1.name : Int))) < 0) then
  some (-1)
  else
  some (w64 (left2 - (List.length a1.name : Int)))

def w_szSparePartS_l1 (k7 : Int → Option Int) (a1 : List SparePart) : Nat → Int → Int → Option Int
  | 0, _, _ => none
  | N + 1, left9, i10 =>
    bif decide (i10 < (List.length a1 : Int)) then
    (idx a1 i10).bind fun e12 =>
    (w_szSparePart e12 left9).bind fun r17 =>
    bif decide (r17 < 0) then
    some (-1)
    else
    w_szSparePartS_l1 k7 a1 N r17 (w64 (i10 + 1))
    else
    k7 left9

def w_szSparePartS (N : Nat) (a1 : List SparePart) (left4 : Int) : Option Int :=
  bif decide ((w64 (left4 - (List.length a1 : Int))) < 0) then
  some (-1)
  else
  withK (fun (left6 : Int) =>
  some left6) fun (k7 : Int → Option Int) =>
  w_szSparePartS_l1 k7 a1 N (w64 (left4 - (List.length a1 : Int))) 0

def w_toSparePart (a1 : SparePart) : Option SparePart :=
  some (SparePart.mk a1.name a1.stock a1.target a1.days a1.instead)

def w_toSparePartS_l1 (k8 : (List SparePart) → Option (List SparePart)) (a1 : List SparePart) : Nat → (List SparePart) → Int → Option (List SparePart)
  | 0, _, _ => none
  | N + 1, l10, i11 =>
    bif decide (i11 < (List.length a1 : Int)) then
    (idx a1 i11).bind fun e13 =>
    (w_toSparePart e13).bind fun r18 =>
    (idx l10 i11).bind fun e20 =>
    w_toSparePartS_l1 k8 a1 N (List.set l10 (Int.toNat i11) r18) (w64 (i11 + 1))
    else
    k8 l10

def w_toSparePartS (N : Nat) (a1 : List SparePart) : Option (List SparePart) :=
  (mk (List.length a1 : Int) (SparePart.mk [] 0 0 0 0)).bind fun l4 =>
  withK (fun (l7 : List SparePart) =>
  some l7) fun (k8 : (List SparePart) → Option (List SparePart)) =>
  w_toSparePartS_l1 k8 a1 N l4 0

def w_eqSparePart (a1 : SparePart) (b2 : SparePart) : Option Bool :=
  bif (a1.name != b2.name) then
  some false
  else
  bif (a1.stock != b2.stock) then
  some false
  else
  bif (a1.target != b2.target) then
  some false
  else
  bif (a1.days != b2.days) then
  some false
  else
  bif (a1.instead != b2.instead) then
  some false
  else
  some true

def w_eqSparePartS_l1 (k8 : Option Bool) (a1 : List SparePart) (b4 : List SparePart) : Nat → Int → Option Bool
  | 0, _ => none
  | N + 1, i10 =>
    bif decide (i10 < (List.length a1 : Int)) then
    (idx a1 i10).bind fun e12 =>
    (idx b4 i10).bind fun e17 =>
    (w_eqSparePart e12 e17).bind fun r22 =>
    bif !r22 then
    some false
    else
    w_eqSparePartS_l1 k8 a1 b4 N (w64 (i10 + 1))
    else
    k8 

def w_eqSparePartS (N : Nat) (a1 : List SparePart) (b4 : List SparePart) : Option Bool :=
  bif ((List.length a1 : Int) != (List.length b4 : Int)) then
  some false
  else
  withK (some true) fun (k8 : Option Bool) =>
  w_eqSparePartS_l1 k8 a1 b4 N 0

def s_ValidParts (N : Nat) (list1 : List SparePart) : Option Bool :=
  (s_l24Ok N list1).bind fun r4 =>
  some r4

def w_FnExactValidParts (N : Nat) (aList1 : List SparePart) : Option Bool :=
  (w_szSparePartS N aList1 1048576).bind fun r4 =>
  bif decide (r4 < 0) then
  some true
  else
  (w_toSparePartS N aList1).bind fun r7 =>
  (s_ValidParts N r7).bind fun r10 =>
  (w_toSparePartS N aList1).bind fun r12 =>
  (i_ValidParts N r12).bind fun r15 =>
  bif (r15 != r10) then
  some false
  else
  (w_toSparePartS N aList1).bind fun r18 =>
  (w_eqSparePartS N r12 r18).bind fun r21 =>
  bif !r21 then
  some false
  else
  some true

def w_toInt64S_l1 (k8 : (List Int) → Option (List Int)) (a1 : List Int) : Nat → (List Int) → Int → Option (List Int)
  | 0, _, _ => none
  | N + 1, l10, i11 =>
    bif decide (i11 < (List.length a1 : Int)) then
    (idx a1 i11).bind fun e13 =>
    (idx l10 i11).bind fun e18 =>
    w_toInt64S_l1 k8 a1 N (List.set l10 (Int.toNat i11) e13) (w64 (i11 + 1))
    else
    k8 l10

def w_toInt64S (N : Nat) (a1 : List Int) : Option (List Int) :=
  (mk (List.length a1 : Int) (0 : Int)).bind fun l4 =>
  withK (fun (l7 : List Int) =>
  some l7) fun (k8 : (List Int) → Option (List Int)) =>
  w_toInt64S_l1 k8 a1 N l4 0

def w_eqInt64S_l1 (k8 : Option Bool) (a1 : List Int) (b4 : List Int) : Nat → Int → Option Bool
  | 0, _ => none
  | N + 1, i10 =>
    bif decide (i10 < (List.length a1 : Int)) then
    (idx a1 i10).bind fun e12 =>
    (idx b4 i10).bind fun e17 =>
    bif (e12 != e17) then
    some false
    else
    w_eqInt64S_l1 k8 a1 b4 N (w64 (i10 + 1))
    else
    k8 

def w_eqInt64S (N : Nat) (a1 : List Int) (b4 : List Int) : Option Bool :=
  bif ((List.length a1 : Int) != (List.length b4 : Int)) then
  some false
  else
  withK (some true) fun (k8 : Option Bool) =>
  w_eqInt64S_l1 k8 a1 b4 N 0

def w_markInt64S_l1 (k6 : (List Int) → Int → Option (Int × (List Int))) : Nat → (List Int) → Int → Int → Option (Int × (List Int))
  | 0, _, _, _ => none
  | N + 1, l8, k9, i10 =>
    bif decide (i10 < (List.length l8 : Int)) then
    (idx l8 i10).bind fun e12 =>
    w_markInt64S_l1 k6 N (List.set l8 (Int.toNat i10) k9) (w64 (k9 + 1)) (w64 (i10 + 1))
    else
    k6 l8 k9

def w_markInt64S (N : Nat) (a1 : List Int) (k3 : Int) : Option (Int × (List Int)) :=
  withK (fun (l4 : List Int) (k5 : Int) =>
  some (k5, l4)) fun (k6 : (List Int) → Int → Option (Int × (List Int))) =>
  w_markInt64S_l1 k6 N a1 k3 0

def w_heldInt64S_l1 (k6 : Int → Option Int) (a1 : List Int) : Nat → Int → Int → Option Int
  | 0, _, _ => none
  | N + 1, k8, i9 =>
    bif decide (i9 < (List.length a1 : Int)) then
    (idx a1 i9).bind fun e11 =>
    bif (e11 != k8) then
    some (-1)
    else
    w_heldInt64S_l1 k6 a1 N (w64 (k8 + 1)) (w64 (i9 + 1))
    else
    k6 k8

def w_heldInt64S (N : Nat) (a1 : List Int) (k4 : Int) : Option Int :=
  withK (fun (k5 : Int) =>
  some k5) fun (k6 : Int → Option Int) =>
  w_heldInt64S_l1 k6 a1 N k4 0

def w_markText_l1 (k4 : Str → Option Str) : Nat → Int → Str → Option Str
  | 0, _, _ => none
  | N + 1, k6, out7 =>
    bif decide (k6 > 0) then
    (cat [UInt8.ofInt (w64 (48 + (Int.tmod k6 10)))] out7).bind fun s10 =>
    w_markText_l1 k4 N (w64 (Int.tdiv k6 10)) s10
    else
    k4 out7

def w_markText (N : Nat) (k1 : Int) : Option Str :=
  bif decide (k1 ≤ 0) then
  some [109, 48]
  else
  withK (fun (out3 : Str) =>
  (cat [109] out3).bind fun s12 =>
  some s12) fun (k4 : Str → Option Str) =>
  w_markText_l1 k4 N k1 []

def w_markSparePartS_l1 (k6 : (List SparePart) → Int → Option (Int × (List SparePart))) : Nat → (List SparePart) → Int → Int → Option (Int × (List SparePart))
  | 0, _, _, _ => none
  | N + 1, l8, k9, i10 =>
    bif decide (i10 < (List.length l8 : Int)) then
    (w_markText N k9).bind fun r12 =>
    (idx l8 i10).bind fun e14 =>
    (idx (List.set l8 (Int.toNat i10) (SparePart.mk r12 e14.stock e14.target e14.days e14.instead)) i10).bind fun e16 =>
    (idx (List.set (List.set l8 (Int.toNat i10) (SparePart.mk r12 e14.stock e14.target e14.days e14.instead)) (Int.toNat i10) (SparePart.mk e16.name (w64 (k9 + 1)) e16.target e16.days e16.instead)) i10).bind fun e18 =>
    (idx (List.set (List.set (List.set l8 (Int.toNat i10) (SparePart.mk r12 e14.stock e14.target e14.days e14.instead)) (Int.toNat i10) (SparePart.mk e16.name (w64 (k9 + 1)) e16.target e16.days e16.instead)) (Int.toNat i10) (SparePart.mk e18.name e18.stock (w64 ((w64 (k9 + 1)) + 1)) e18.days e18.instead)) i10).bind fun e20 =>
    (idx (List.set (List.set (List.set (List.set l8 (Int.toNat i10) (SparePart.mk r12 e14.stock e14.target e14.days e14.instead)) (Int.toNat i10) (SparePart.mk e16.name (w64 (k9 + 1)) e16.target e16.days e16.instead)) (Int.toNat i10) (SparePart.mk e18.name e18.stock (w64 ((w64 (k9 + 1)) + 1)) e18.days e18.instead)) (Int.toNat i10) (SparePart.mk e20.name e20.stock e20.target (w64 ((w64 ((w64 (k9 + 1)) + 1)) + 1)) e20.instead)) i10).bind fun e22 =>
    w_markSparePartS_l1 k6 N (List.set (List.set (List.set (List.set (List.set l8 (Int.toNat i10) (SparePart.mk r12 e14.stock e14.target e14.days e14.instead)) (Int.toNat i10) (SparePart.mk e16.name (w64 (k9 + 1)) e16.target e16.days e16.instead)) (Int.toNat i10) (SparePart.mk e18.name e18.stock (w64 ((w64 (k9 + 1)) + 1)) e18.days e18.instead)) (Int.toNat i10) (SparePart.mk e20.name e20.stock e20.target (w64 ((w64 ((w64 (k9 + 1)) + 1)) + 1)) e20.instead)) (Int.toNat i10) (SparePart.mk e22.name e22.stock e22.target e22.days (w64 ((w64 ((w64 ((w64 (k9 + 1)) + 1)) + 1)) + 1)))) (w64 ((w64 ((w64 ((w64 ((w64 (k9 + 1)) + 1)) + 1)) + 1)) + 1)) (w64 (i10 + 1))
    else
    k6 l8 k9

def w_markSparePartS (N : Nat) (a1 : List SparePart) (k3 : Int) : Option (Int × (List SparePart)) :=
  withK (fun (l4 : List SparePart) (k5 : Int) =>
  some (k5, l4)) fun (k6 : (List SparePart) → Int → Option (Int × (List SparePart))) =>
  w_markSparePartS_l1 k6 N a1 k3 0

def w_heldSparePartS_l1 (k6 : Int → Option Int) (a1 : List SparePart) : Nat → Int → Int → Option Int
  | 0, _, _ => none
  | N + 1, k8, i9 =>
    bif decide (i9 < (List.length a1 : Int)) then
    (idx a1 i9).bind fun e11 =>
    (w_markText N k8).bind fun r16 =>
    bif (e11.name != r16) then
    some (-1)
    else
    (idx a1 i9).bind fun e19 =>
    bif (e19.stock != (w64 (k8 + 1))) then
    some (-1)
    else
    (idx a1 i9).bind fun e25 =>
    bif (e25.target != (w64 ((w64 (k8 + 1)) + 1))) then
    some (-1)
    else
    (idx a1 i9).bind fun e31 =>
    bif (e31.days != (w64 ((w64 ((w64 (k8 + 1)) + 1)) + 1))) then
    some (-1)
    else
    (idx a1 i9).bind fun e37 =>
    bif (e37.instead != (w64 ((w64 ((w64 ((w64 (k8 + 1)) + 1)) + 1)) + 1))) then
    some (-1)
    else
    w_heldSparePartS_l1 k6 a1 N (w64 ((w64 ((w64 ((w64 ((w64 (k8 + 1)) + 1)) + 1)) + 1)) + 1)) (w64 (i9 + 1))
    else
    k6 k8

def w_heldSparePartS (N : Nat) (a1 : List SparePart) (k4 : Int) : Option Int :=
  withK (fun (k5 : Int) =>
  some k5) fun (k6 : Int → Option Int) =>
  w_heldSparePartS_l1 k6 a1 N k4 0

def s_l24Code (N : Nat) (list1 : List SparePart) (k4 : Int) (many5 : Int) : Option Int :=
  (s_l24Ok N list1).bind fun r6 =>
  bif !r6 then
  some 1
  else
  (s_l00In k4 0 (w64 ((List.length list1 : Int) - 1))).bind fun r9 =>
  (orO (!r9) ((s_l00In many5 1 100000).bind fun r14 =>
  some (!r14))).bind fun t11 =>
  bif t11 then
  some 2
  else
  some 0

def i_partCode (N : Nat) (list1 : List SparePart) (k4 : Int) (many5 : Int) : Option Int :=
  (i_ValidParts N list1).bind fun r6 =>
  bif !r6 then
  some 1
  else
  (i_between k4 0 (w64 ((List.length list1 : Int) - 1))).bind fun r9 =>
  (orO (!r9) ((i_between many5 1 100000).bind fun r14 =>
  some (!r14))).bind fun t11 =>
  bif t11 then
  some 2
  else
  some 0

def s_l24Use_l1 (k7 : Int → Option Int) (list1 : List SparePart) (many5 : Int) : Nat → Int → Option Int
  | 0, _ => none
  | N + 1, k9 =>
    (andO (decide (k9 ≥ 0)) ((idx list1 k9).bind fun e13 =>
    some (decide (e13.stock < many5)))).bind fun t10 =>
    bif t10 then
    (idx list1 k9).bind fun e19 =>
    s_l24Use_l1 k7 list1 many5 N e19.instead
    else
    k7 k9

def s_l24Use (N : Nat) (list1 : List SparePart) (k4 : Int) (many5 : Int) : Option Int :=
  withK (fun (k6 : Int) =>
  some k6) fun (k7 : Int → Option Int) =>
  s_l24Use_l1 k7 list1 many5 N k4

def i_usedPart_l1 (k7 : Int → Option Int) (list1 : List SparePart) (many5 : Int) : Nat → Int → Option Int
  | 0, _ => none
  | N + 1, k9 =>
    (andO (decide (k9 ≥ 0)) ((idx list1 k9).bind fun e13 =>
    some (decide (e13.stock < many5)))).bind fun t10 =>
    bif t10 then
    (idx list1 k9).bind fun e19 =>
    i_usedPart_l1 k7 list1 many5 N e19.instead
    else
    k7 k9

def i_usedPart (N : Nat) (list1 : List SparePart) (k4 : Int) (many5 : Int) : Option Int :=
  withK (fun (k6 : Int) =>
  some k6) fun (k7 : Int → Option Int) =>
  i_usedPart_l1 k7 list1 many5 N k4

def s_ReplacementOf (N : Nat) (list1 : List SparePart) (k4 : Int) (many5 : Int) : Option (Int × Int) :=
  (s_l24Code N list1 k4 many5).bind fun r6 =>
  bif (r6 != 0) then
  some (0, r6)
  else
  (s_l24Use N list1 k4 many5).bind fun r9 =>
  bif decide (r9 < 0) then
  some (0, 3)
  else
  some (r9, 0)

def i_ReplacementOf (N : Nat) (list1 : List SparePart) (k4 : Int) (many5 : Int) : Option (Int × Int) :=
  (i_partCode N list1 k4 many5).bind fun r6 =>
  bif (r6 != 0) then
  some (0, r6)
  else
  (i_usedPart N list1 k4 many5).bind fun r9 =>
  bif decide (r9 < 0) then
  some (0, 3)
  else
  some (r9, 0)

def w_FnExactReplacementOf (N : Nat) (aList1 : List SparePart) (aK4 : Int) (aMany5 : Int) : Option Bool :=
  (w_szSparePartS N aList1 1048576).bind fun r6 =>
  bif decide (r6 < 0) then
  some true
  else
  (w_toSparePartS N aList1).bind fun r9 =>
  (s_ReplacementOf N r9 aK4 aMany5).bind fun r12 =>
  (w_toSparePartS N aList1).bind fun r14 =>
  (i_ReplacementOf N r14 aK4 aMany5).bind fun r17 =>
  (orO (r17.1 != r12.1) (some (r17.2 != r12.2))).bind fun t19 =>
  bif t19 then
  some false
  else
  (w_toSparePartS N aList1).bind fun r23 =>
  (w_eqSparePartS N r14 r23).bind fun r26 =>
  bif !r26 then
  some false
  else
  some true

def s_DeadParts_l1 (k10 : (List Int) → Option ((List Int) × Int)) (list1 : List SparePart) : Nat → (List Int) → Int → Option ((List Int) × Int)
  | 0, _, _ => none
  | N + 1, l12, i14 =>
    bif decide (i14 < (List.length list1 : Int)) then
    withK (fun (l16 : List Int) =>
    s_DeadParts_l1 k10 list1 N l16 (w64 (i14 + 1))) fun (k19 : (List Int) → Option ((List Int) × Int)) =>
    (s_l24Use N list1 i14 1).bind fun r20 =>
    bif decide (r20 < 0) then
    (app l12 [i14]).bind fun l24 =>
    k19 l24
    else
    k19 l12
    else
    k10 l12

def s_DeadParts (N : Nat) (list1 : List SparePart) : Option ((List Int) × Int) :=
  (s_l24Ok N list1).bind fun r4 =>
  bif !r4 then
  some ([], 1)
  else
  withK (fun (l8 : List Int) =>
  some (l8, 0)) fun (k10 : (List Int) → Option ((List Int) × Int)) =>
  s_DeadParts_l1 k10 list1 N [] 0

def i_DeadParts_l1 (k10 : (List Int) → Option ((List Int) × Int)) (list1 : List SparePart) : Nat → (List Int) → Int → Option ((List Int) × Int)
  | 0, _, _ => none
  | N + 1, l12, x14 =>
    bif decide (x14 < (List.length list1 : Int)) then
    withK (fun (l16 : List Int) =>
    i_DeadParts_l1 k10 list1 N l16 (w64 (x14 + 1))) fun (k19 : (List Int) → Option ((List Int) × Int)) =>
    (i_usedPart N list1 x14 1).bind fun r20 =>
    bif decide (r20 < 0) then
    (app l12 [x14]).bind fun l24 =>
    k19 l24
    else
    k19 l12
    else
    k10 l12

def i_DeadParts (N : Nat) (list1 : List SparePart) : Option ((List Int) × Int) :=
  (i_ValidParts N list1).bind fun r4 =>
  bif !r4 then
  some ([], 1)
  else
  withK (fun (l8 : List Int) =>
  some (l8, 0)) fun (k10 : (List Int) → Option ((List Int) × Int)) =>
  i_DeadParts_l1 k10 list1 N [] 0

def w_FnExactDeadParts (N : Nat) (aList1 : List SparePart) : Option Bool :=
  (w_szSparePartS N aList1 1048576).bind fun r4 =>
  bif decide (r4 < 0) then
  some true
  else
  (w_toSparePartS N aList1).bind fun r7 =>
  (s_DeadParts N r7).bind fun r10 =>
  (w_toSparePartS N aList1).bind fun r13 =>
  (i_DeadParts N r13).bind fun r16 =>
  (w_eqInt64S N r16.1 r10.1).bind fun r19 =>
  (orO (!r19) (some (r16.2 != r10.2))).bind fun t21 =>
  bif t21 then
  some false
  else
  (w_toSparePartS N aList1).bind fun r25 =>
  (w_eqSparePartS N r13 r25).bind fun r28 =>
  bif !r28 then
  some false
  else
  (w_markSparePartS N r13 1).bind fun r31 =>
  (orO (decide (r31.1 < 0)) ((w_eqInt64S N r16.1 r10.1).bind fun r36 =>
  some (!r36))).bind fun t33 =>
  (orO t33 (some (r16.2 != r10.2))).bind fun t38 =>
  bif t38 then
  some false
  else
  (w_markInt64S N r16.1 1).bind fun r42 =>
  (w_heldInt64S N r42.2 1).bind fun r44 =>
  bif decide (r44 < 0) then
  some false
  else
  bif (r44 != r42.1) then
  some false
  else
  (w_toSparePartS N aList1).bind fun r48 =>
  (i_DeadParts N r48).bind fun r51 =>
  (w_eqInt64S N r51.1 r10.1).bind fun r54 =>
  (orO (!r54) (some (r51.2 != r10.2))).bind fun t56 =>
  bif t56 then
  some false
  else
  (w_heldInt64S N r42.2 1).bind fun r60 =>
  bif decide (r60 < 0) then
  some false
  else
  bif (r60 != r42.1) then
  some false
  else
  some true

def w_FnExactOrderList (N : Nat) (aList1 : List SparePart) : Option Bool :=
  (w_szSparePartS N aList1 1048576).bind fun r4 =>
  bif decide (r4 < 0) then
  some true
  else
  (w_toSparePartS N aList1).bind fun r7 =>
  (s_OrderList N r7).bind fun r10 =>
  (w_toSparePartS N aList1).bind fun r13 =>
  (i_OrderList N r13).bind fun r16 =>
  (w_eqInt64S N r16.1 r10.1).bind fun r19 =>
  (orO (!r19) (some (r16.2 != r10.2))).bind fun t21 =>
  bif t21 then
  some false
  else
  (w_toSparePartS N aList1).bind fun r25 =>
  (w_eqSparePartS N r13 r25).bind fun r28 =>
  bif !r28 then
  some false
  else
  (w_markSparePartS N r13 1).bind fun r31 =>
  (orO (decide (r31.1 < 0)) ((w_eqInt64S N r16.1 r10.1).bind fun r36 =>
  some (!r36))).bind fun t33 =>
  (orO t33 (some (r16.2 != r10.2))).bind fun t38 =>
  bif t38 then
  some false
  else
  (w_markInt64S N r16.1 1).bind fun r42 =>
  (w_heldInt64S N r42.2 1).bind fun r44 =>
  bif decide (r44 < 0) then
  some false
  else
  bif (r44 != r42.1) then
  some false
  else
  (w_toSparePartS N aList1).bind fun r48 =>
  (i_OrderList N r48).bind fun r51 =>
  (w_eqInt64S N r51.1 r10.1).bind fun r54 =>
  (orO (!r54) (some (r51.2 != r10.2))).bind fun t56 =>
  bif t56 then
  some false
  else
  (w_heldInt64S N r42.2 1).bind fun r60 =>
  bif decide (r60 < 0) then
  some false
  else
  bif (r60 != r42.1) then
  some false
  else
  some true

def w_FnExactMachinesFrom (N : Nat) (aList1 : List SparePart) (aEach4 : List Int) : Option Bool :=
  bif decide ((List.length aEach4 : Int) > 1048576) then
  some true
  else
  (w_szSparePartS N aList1 1048576).bind fun r8 =>
  bif decide (r8 < 0) then
  some true
  else
  (w_toSparePartS N aList1).bind fun r11 =>
  (w_toInt64S N aEach4).bind fun r14 =>
  (s_MachinesFrom N r11 r14).bind fun r17 =>
  (w_toSparePartS N aList1).bind fun r19 =>
  (w_toInt64S N aEach4).bind fun r22 =>
  (i_MachinesFrom N r19 r22).bind fun r25 =>
  (orO (r25.1 != r17.1) (some (r25.2 != r17.2))).bind fun t27 =>
  bif t27 then
  some false
  else
  (w_toSparePartS N aList1).bind fun r31 =>
  (w_eqSparePartS N r19 r31).bind fun r34 =>
  bif !r34 then
  some false
  else
  (w_toInt64S N aEach4).bind fun r37 =>
  (w_eqInt64S N r22 r37).bind fun r40 =>
  bif !r40 then
  some false
  else
  some true

def w_FnExactScarcePart (N : Nat) (aList1 : List SparePart) (aEach4 : List Int) : Option Bool :=
  bif decide ((List.length aEach4 : Int) > 1048576) then
  some true
  else
  (w_szSparePartS N aList1 1048576).bind fun r8 =>
  bif decide (r8 < 0) then
  some true
  else
  (w_toSparePartS N aList1).bind fun r11 =>
  (w_toInt64S N aEach4).bind fun r14 =>
  (s_ScarcePart N r11 r14).bind fun r17 =>
  (w_toSparePartS N aList1).bind fun r19 =>
  (w_toInt64S N aEach4).bind fun r22 =>
  (i_ScarcePart N r19 r22).bind fun r25 =>
  (orO (r25.1 != r17.1) (some (r25.2 != r17.2))).bind fun t27 =>
  bif t27 then
  some false
  else
  (w_toSparePartS N aList1).bind fun r31 =>
  (w_eqSparePartS N r19 r31).bind fun r34 =>
  bif !r34 then
  some false
  else
  (w_toInt64S N aEach4).bind fun r37 =>
  (w_eqInt64S N r22 r37).bind fun r40 =>
  bif !r40 then
  some false
  else
  some true

end Go.Proofs.Ytffaepmojpanoaa
