/-
  Plain functions that compute what the Go functions compute. No conditions.
-/
import Derived.Test.YthkckgiicchpnaaBase
namespace Go.Proofs.Ythkckgiicchpnaa
set_option linter.unusedVariables false
set_option linter.unusedSimpArgs false

structure Carriage where
  left : Int
  right : Int
  bell : Int

def Carriage.beq (x y : Carriage) : Bool := x.left == y.left && (x.right == y.right && (x.bell == y.bell))

structure Struck where
  place : Int
  letter : Str

def Struck.beq (x y : Struck) : Bool := x.place == y.place && (x.letter == y.letter)

structure L00Src where
  code : List UInt8
  at_ : Int
  seed : Int

structure Act where
  kind : Int
  letter : Str

def Act.beq (x y : Act) : Bool := x.kind == y.kind && (x.letter == y.letter)

structure L04M where
  c : Carriage
  at_ : Int
  free : Bool
  bells : Int
  list : List Struck



def w_f6big (code1 : List UInt8) : Option Bool :=
  some (decide ((List.length code1 : Int) > 4096))

def s_l00From (code1 : List UInt8) : Option L00Src :=
  some (L00Src.mk code1 0 0)

def s_l00Src_next (s1 : L00Src) : Option (Int × L00Src) :=
  withK (fun (b5 : Int) =>
  bif decide ((w64 (s1.at_ + 1)) ≤ (List.length s1.code : Int)) then
  some (b5, (L00Src.mk s1.code (w64 (s1.at_ + 1)) (IntKind.u64.wrap ((IntKind.u64.wrap ((IntKind.u64.wrap (s1.seed * 6364136223846793005)) + (IntKind.u64.wrap b5))) + 1442695040888963407))))
  else
  some (w64 (uand (ushr (IntKind.u64.wrap ((IntKind.u64.wrap ((IntKind.u64.wrap (s1.seed * 6364136223846793005)) + (IntKind.u64.wrap b5))) + 1442695040888963407)) 40) 255), (L00Src.mk s1.code (w64 (s1.at_ + 1)) (IntKind.u64.wrap ((IntKind.u64.wrap ((IntKind.u64.wrap (s1.seed * 6364136223846793005)) + (IntKind.u64.wrap b5))) + 1442695040888963407))))) fun (kj6 : Int → Option (Int × L00Src)) =>
  bif decide (s1.at_ < (List.length s1.code : Int)) then
  (idx s1.code s1.at_).bind fun e9 =>
  kj6 (UInt8.toNat e9 : Int)
  else
  kj6 0

def s_l00Src_pick (s1 : L00Src) (n5 : Int) : Option (Int × L00Src) :=
  bif decide (n5 ≤ 1) then
  some (0, (L00Src.mk s1.code s1.at_ s1.seed))
  else
  (s_l00Src_next (L00Src.mk s1.code s1.at_ s1.seed)).bind fun r7 =>
  withK (fun (x9 : Int) (x10 : Int) (x11 : Int) =>
  (remO x11 n5).bind fun q17 =>
  some (q17, (L00Src.mk s1.code x9 x10))) fun (kj12 : Int → Int → Int → Option (Int × L00Src)) =>
  bif decide (n5 > 200) then
  (s_l00Src_next (L00Src.mk s1.code r7.2.at_ r7.2.seed)).bind fun r15 =>
  kj12 r15.2.at_ r15.2.seed (w64 ((w64 (r7.1 * 256)) + r15.1))
  else
  kj12 r7.2.at_ r7.2.seed r7.1

def s_l00Src_among (s1 : L00Src) (list5 : List Int) : Option (Int × L00Src) :=
  (s_l00Src_pick (L00Src.mk s1.code s1.at_ s1.seed) (List.length list5 : Int)).bind fun r8 =>
  (idx list5 r8.1).bind fun e10 =>
  some (e10, (L00Src.mk s1.code r8.2.at_ r8.2.seed))

def s_l04Draw (s1 : L00Src) : Option (Carriage × L00Src) :=
  (s_l00Src_pick (L00Src.mk s1.code s1.at_ s1.seed) 20).bind fun r6 =>
  (s_l00Src_pick (L00Src.mk s1.code r6.2.at_ r6.2.seed) 20).bind fun r9 =>
  (s_l00Src_pick (L00Src.mk s1.code r9.2.at_ r9.2.seed) 16).bind fun r12 =>
  withK (fun (x15 : Int) (x16 : Int) (x17 : Int) (x18 : Int) (x19 : Int) =>
  some ((Carriage.mk x17 x18 x19), (L00Src.mk s1.code x15 x16))) fun (kj20 : Int → Int → Int → Int → Int → Option (Carriage × L00Src)) =>
  (s_l00Src_pick (L00Src.mk s1.code r12.2.at_ r12.2.seed) 24).bind fun r22 =>
  bif (r22.1 == 0) then
  (s_l00Src_among (L00Src.mk s1.code r22.2.at_ r22.2.seed) [(-1), 0, w64 ((w64 ((w64 (((Carriage.mk r6.1 0 0).left) + 20)) + r9.1)) - 20), w64 ((w64 ((w64 ((w64 (((Carriage.mk r6.1 0 0).left) + 20)) + r9.1)) - 20)) + 1), (-9223372036854775808)]).bind fun r26 =>
  kj20 r26.2.at_ r26.2.seed r26.1 (w64 ((w64 (((Carriage.mk r6.1 0 0).left) + 20)) + r9.1)) (w64 ((w64 ((w64 (((Carriage.mk r6.1 0 0).left) + 20)) + r9.1)) - r12.1))
  else
  bif (r22.1 == 1) then
  (s_l00Src_among (L00Src.mk s1.code r22.2.at_ r22.2.seed) [(-1), 300, 301]).bind fun r30 =>
  kj20 r30.2.at_ r30.2.seed ((Carriage.mk r6.1 0 0).left) r30.1 (w64 ((w64 ((w64 (((Carriage.mk r6.1 0 0).left) + 20)) + r9.1)) - r12.1))
  else
  bif (r22.1 == 2) then
  (s_l00Src_among (L00Src.mk s1.code r22.2.at_ r22.2.seed) [(-1), w64 (((Carriage.mk r6.1 0 0).left) - 1), (Carriage.mk r6.1 0 0).left, w64 ((w64 (((Carriage.mk r6.1 0 0).left) + 20)) + r9.1), w64 ((w64 ((w64 (((Carriage.mk r6.1 0 0).left) + 20)) + r9.1)) + 1)]).bind fun r34 =>
  kj20 r34.2.at_ r34.2.seed ((Carriage.mk r6.1 0 0).left) (w64 ((w64 (((Carriage.mk r6.1 0 0).left) + 20)) + r9.1)) r34.1
  else
  kj20 r22.2.at_ r22.2.seed ((Carriage.mk r6.1 0 0).left) (w64 ((w64 (((Carriage.mk r6.1 0 0).left) + 20)) + r9.1)) (w64 ((w64 ((w64 (((Carriage.mk r6.1 0 0).left) + 20)) + r9.1)) - r12.1))

def s_l00Src_one (s1 : L00Src) (n5 : Int) : Option (Bool × L00Src) :=
  (s_l00Src_pick (L00Src.mk s1.code s1.at_ s1.seed) n5).bind fun r6 =>
  some ((r6.1 == 0), (L00Src.mk s1.code r6.2.at_ r6.2.seed))

def s_l00Src_text (s1 : L00Src) (list5 : List Str) : Option (Str × L00Src) :=
  (s_l00Src_pick (L00Src.mk s1.code s1.at_ s1.seed) (List.length list5 : Int)).bind fun r8 =>
  (idx list5 r8.1).bind fun e10 =>
  some (e10, (L00Src.mk s1.code r8.2.at_ r8.2.seed))

def s_l04DrawActs_l1 (kj22 : Int → Int → (List Act) → Option ((List Act) × L00Src)) (s1 : L00Src) : Nat → Int → Int → (List Act) → Int → Option ((List Act) × L00Src)
  | 0, _, _, _, _ => none
  | N + 1, x24, x25, l26, k28 =>
    bif decide (k28 > 0) then
    (s_l00Src_among (L00Src.mk s1.code x24 x25) [0, 0, 0, 1, 2, 3, 5]).bind fun r31 =>
    withK (fun (x33 : Int) (x34 : Int) (kind35 : Int) =>
    withK (fun (x42 : Int) (x43 : Int) (x44 : Int) (x45 : Str) =>
    (app l26 [(Act.mk x44 x45)]).bind fun l53 =>
    s_l04DrawActs_l1 kj22 s1 N x42 x43 l53 (w64 (k28 - 1))) fun (kj46 : Int → Int → Int → Str → Option ((List Act) × L00Src)) =>
    bif (kind35 == 0) then
    (s_l00Src_text (L00Src.mk s1.code x33 x34) [[97], [98], [45], [47]]).bind fun r50 =>
    kj46 r50.2.at_ r50.2.seed ((Act.mk kind35 []).kind) r50.1
    else
    kj46 x33 x34 ((Act.mk kind35 []).kind) ((Act.mk kind35 []).letter)) fun (kj36 : Int → Int → Int → Option ((List Act) × L00Src)) =>
    (s_l00Src_one (L00Src.mk s1.code r31.2.at_ r31.2.seed) 20).bind fun r38 =>
    bif r38.1 then
    kj36 r38.2.at_ r38.2.seed 4
    else
    kj36 r38.2.at_ r38.2.seed r31.1
    else
    kj22 x24 x25 l26

def s_l04DrawActs (N : Nat) (s1 : L00Src) : Option ((List Act) × L00Src) :=
  (s_l00Src_pick (L00Src.mk s1.code s1.at_ s1.seed) 26).bind fun r6 =>
  withK (fun (x8 : Int) (x9 : Int) (n10 : Int) =>
  withK (fun (x18 : Int) (x19 : Int) (l20 : List Act) =>
  withK (fun (x56 : Int) (x57 : Int) (l58 : List Act) =>
  some (l58, (L00Src.mk s1.code x56 x57))) fun (kj59 : Int → Int → (List Act) → Option ((List Act) × L00Src)) =>
  bif decide (n10 > 0) then
  (s_l00Src_pick (L00Src.mk s1.code x18 x19) n10).bind fun r62 =>
  (idx l20 r62.1).bind fun e64 =>
  (s_l00Src_pick (L00Src.mk s1.code r62.2.at_ r62.2.seed) 30).bind fun r66 =>
  bif (r66.1 == 0) then
  (s_l00Src_among (L00Src.mk s1.code r66.2.at_ r66.2.seed) [(-1), 0, 5, 6]).bind fun r70 =>
  kj59 r70.2.at_ r70.2.seed (List.set l20 (Int.toNat r62.1) (Act.mk r70.1 e64.letter))
  else
  bif (r66.1 == 1) then
  (s_l00Src_text (L00Src.mk s1.code r66.2.at_ r66.2.seed) [[], [97], [32], [97, 98]]).bind fun r74 =>
  kj59 r74.2.at_ r74.2.seed (List.set l20 (Int.toNat r62.1) (Act.mk e64.kind r74.1))
  else
  kj59 r66.2.at_ r66.2.seed l20
  else
  kj59 x18 x19 l20) fun (kj22 : Int → Int → (List Act) → Option ((List Act) × L00Src)) =>
  s_l04DrawActs_l1 kj22 s1 N x8 x9 [] n10) fun (kj11 : Int → Int → Int → Option ((List Act) × L00Src)) =>
  (s_l00Src_one (L00Src.mk s1.code r6.2.at_ r6.2.seed) 30).bind fun r13 =>
  bif r13.1 then
  (s_l00Src_pick (L00Src.mk s1.code r13.2.at_ r13.2.seed) 2).bind fun r16 =>
  kj11 r16.2.at_ r16.2.seed (w64 (200 + r16.1))
  else
  kj11 r13.2.at_ r13.2.seed r6.1

def s_l00In (n1 : Int) (low2 : Int) (high3 : Int) : Option Bool :=
  (andO (decide (n1 ≥ low2)) (some (decide (n1 ≤ high3)))).bind fun t4 =>
  some t4

def s_l04Ok (c1 : Carriage) : Option Bool :=
  (s_l00In c1.left 0 300).bind fun r3 =>
  (andO r3 ((s_l00In c1.right c1.left 300).bind fun r8 =>
  some r8)).bind fun t5 =>
  (andO t5 (some (decide ((w64 (c1.right - c1.left)) ≥ 20)))).bind fun t10 =>
  (andO t10 ((s_l00In c1.bell c1.left c1.right).bind fun r16 =>
  some r16)).bind fun t13 =>
  some t13

def s_l02Letter (s1 : Str) : Option Bool :=
  (andO ((List.length s1 : Int) == 1) ((idx s1 0).bind fun c5 =>
  some (decide (c5 > (32 : UInt8))))).bind fun t2 =>
  (andO t2 ((idx s1 0).bind fun c10 =>
  some (decide (c10 < (127 : UInt8))))).bind fun t7 =>
  some t7

def s_l04Acts_l1 (kj4 : Option Bool) (acts1 : List Act) : Nat → Int → Option Bool
  | 0, _ => none
  | N + 1, i6 =>
    bif decide (i6 < (List.length acts1 : Int)) then
    withK (s_l04Acts_l1 kj4 acts1 N (w64 (i6 + 1))) fun (kj8 : Option Bool) =>
    (idx acts1 i6).bind fun e10 =>
    bif (e10.kind == 0) then
    (s_l02Letter e10.letter).bind fun r16 =>
    bif !r16 then
    some false
    else
    kj8 
    else
    (s_l00In e10.kind 1 5).bind fun r19 =>
    (orO (!r19) (some (e10.letter != []))).bind fun t21 =>
    bif t21 then
    some false
    else
    kj8 
    else
    kj4 

def s_l04Acts (N : Nat) (acts1 : List Act) : Option Bool :=
  withK (some (decide ((List.length acts1 : Int) ≤ 200))) fun (kj4 : Option Bool) =>
  s_l04Acts_l1 kj4 acts1 N 0

def s_l04Both (N : Nat) (c1 : Carriage) (acts2 : List Act) : Option Bool :=
  (s_l04Ok c1).bind fun r6 =>
  (andO r6 ((s_l04Acts N acts2).bind fun r11 =>
  some r11)).bind fun t8 =>
  some t8

def s_l04Step (kind1 : Int) : Option Int :=
  withK (fun (x2 : Bool) =>
  bif x2 then
  some 2
  else
  bif (kind1 == 3) then
  some 1
  else
  some 0) fun (kj3 : Bool → Option Int) =>
  bif (kind1 == 0) then
  kj3 (kind1 == 0)
  else
  kj3 (kind1 == 1)

def s_l00Max (a1 : Int) (b2 : Int) : Option Int :=
  bif decide (a1 > b2) then
  some a1
  else
  some b2

def s_l04M_act (m1 : L04M) (a4 : Act) : Option (Bool × L04M) :=
  (s_l04Step a4.kind).bind fun r7 =>
  (andO (decide (r7 > 0)) (some (decide ((w64 (m1.at_ + r7)) > m1.c.right)))).bind fun t9 =>
  (andO t9 (some (!m1.free))).bind fun t12 =>
  (orO t12 (some (decide ((w64 (m1.at_ + r7)) > 300)))).bind fun t15 =>
  bif t15 then
  some (false, (L04M.mk (Carriage.mk m1.c.left m1.c.right m1.c.bell) m1.at_ m1.free m1.bells m1.list))
  else
  withK (fun (x19 : Int) (x20 : Int) (x21 : Int) (x22 : Int) (x23 : Bool) (x24 : Int) (l25 : List Struck) =>
  withK (fun (x41 : Int) (x42 : Int) (x43 : Int) (x44 : Int) (x45 : Bool) (x46 : Int) =>
  some (true, (L04M.mk (Carriage.mk x41 x42 x43) x44 x45 x46 l25))) fun (kj47 : Int → Int → Int → Int → Bool → Int → Option (Bool × L04M)) =>
  bif decide (r7 > 0) then
  withK (fun (x50 : Int) (x51 : Int) (x52 : Int) (x53 : Int) (x54 : Bool) (x55 : Int) =>
  kj47 x50 x51 x52 (w64 (x53 + r7)) x54 x55) fun (kj56 : Int → Int → Int → Int → Bool → Int → Option (Bool × L04M)) =>
  (andO (decide (x22 < x21)) (some (decide (x21 ≤ (w64 (x22 + r7)))))).bind fun t58 =>
  bif t58 then
  kj56 x19 x20 x21 x22 x23 (w64 (x24 + 1))
  else
  kj56 x19 x20 x21 x22 x23 x24
  else
  kj47 x19 x20 x21 x22 x23 x24) fun (kj27 : Int → Int → Int → Int → Bool → Int → (List Struck) → Option (Bool × L04M)) =>
  bif (a4.kind == 0) then
  (app m1.list [(Struck.mk m1.at_ a4.letter)]).bind fun l31 =>
  kj27 m1.c.left m1.c.right m1.c.bell m1.at_ m1.free m1.bells l31
  else
  bif (a4.kind == 2) then
  (s_l00Max 0 (w64 (m1.at_ - 2))).bind fun r37 =>
  kj27 m1.c.left m1.c.right m1.c.bell r37 m1.free m1.bells m1.list
  else
  bif (a4.kind == 4) then
  kj27 m1.c.left m1.c.right m1.c.bell m1.at_ true m1.bells m1.list
  else
  bif (a4.kind == 5) then
  kj27 m1.c.left m1.c.right m1.c.bell m1.c.left false m1.bells m1.list
  else
  kj27 m1.c.left m1.c.right m1.c.bell m1.at_ m1.free m1.bells m1.list

def s_l04Run_l1 (kj17 : Int → Int → Int → Int → Bool → Int → (List Struck) → Option (L04M × Int)) (acts2 : List Act) : Nat → Int → Int → Int → Int → Bool → Int → (List Struck) → Int → Option (L04M × Int)
  | 0, _, _, _, _, _, _, _, _ => none
  | N + 1, x19, x20, x21, x22, x23, x24, l25, i27 =>
    bif decide (i27 < (List.length acts2 : Int)) then
    (idx acts2 i27).bind fun e29 =>
    (s_l04M_act (L04M.mk (Carriage.mk x19 x20 x21) x22 x23 x24 l25) e29).bind fun r34 =>
    bif !r34.1 then
    some ((L04M.mk (Carriage.mk r34.2.c.left r34.2.c.right r34.2.c.bell) r34.2.at_ r34.2.free r34.2.bells r34.2.list), i27)
    else
    s_l04Run_l1 kj17 acts2 N r34.2.c.left r34.2.c.right r34.2.c.bell r34.2.at_ r34.2.free r34.2.bells r34.2.list (w64 (i27 + 1))
    else
    kj17 x19 x20 x21 x22 x23 x24 l25

def s_l04Run (N : Nat) (c1 : Carriage) (acts2 : List Act) : Option (L04M × Int) :=
  withK (fun (x9 : Int) (x10 : Int) (x11 : Int) (x12 : Int) (x13 : Bool) (x14 : Int) (l15 : List Struck) =>
  some ((L04M.mk (Carriage.mk x9 x10 x11) x12 x13 x14 l15), (List.length acts2 : Int))) fun (kj17 : Int → Int → Int → Int → Bool → Int → (List Struck) → Option (L04M × Int)) =>
  s_l04Run_l1 kj17 acts2 N c1.left c1.right c1.bell c1.left false 0 [] 0

def s_TypeActs (N : Nat) (c1 : Carriage) (acts2 : List Act) : Option ((List Struck) × Int × Int) :=
  (s_l04Both N c1 acts2).bind fun r6 =>
  bif !r6 then
  some ([], 0, 1)
  else
  (s_l04Run N c1 acts2).bind fun r9 =>
  bif decide (r9.2 < (List.length acts2 : Int)) then
  some ([], 0, 6)
  else
  some (r9.1.list, r9.1.at_, 0)

def s_l04DrawStruck_l1 (kj26 : (List Act) → Option (Carriage × (List Struck))) (r11 : (List Act) × L00Src) : Nat → (List Act) → Int → Option (Carriage × (List Struck))
  | 0, _, _ => none
  | N + 1, l28, i30 =>
    bif decide (i30 < (List.length r11.1 : Int)) then
    withK (fun (l32 : List Act) =>
    s_l04DrawStruck_l1 kj26 r11 N l32 (w64 (i30 + 1))) fun (kj34 : (List Act) → Option (Carriage × (List Struck))) =>
    (idx r11.1 i30).bind fun e36 =>
    (orO (e36.kind == 0) ((idx r11.1 i30).bind fun e41 =>
    some (e41.kind == 1))).bind fun t38 =>
    bif t38 then
    (idx r11.1 i30).bind fun e44 =>
    (app l28 [e44]).bind fun l47 =>
    kj34 l47
    else
    kj34 l28
    else
    kj26 l28

def s_l04DrawStruck_l2 (kj61 : (List Struck) → Option (Carriage × (List Struck))) : Nat → (List Struck) → Int → Option (Carriage × (List Struck))
  | 0, _, _ => none
  | N + 1, l85, k87 =>
    bif decide (k87 > 0) then
    (app l85 [(Struck.mk k87 [121])]).bind fun l90 =>
    s_l04DrawStruck_l2 kj61 N l90 (w64 (k87 - 1))
    else
    kj61 l85

def s_l04DrawStruck (N : Nat) (code1 : List UInt8) : Option (Carriage × (List Struck)) :=
  (s_l00From code1).bind fun r5 =>
  (s_l04Draw (L00Src.mk code1 r5.at_ r5.seed)).bind fun r8 =>
  (s_l04DrawActs N (L00Src.mk code1 r8.2.at_ r8.2.seed)).bind fun r11 =>
  withK (fun (l14 : List Act) (x16 : Int) (x17 : Int) =>
  (s_TypeActs N r8.1 l14).bind fun r50 =>
  withK (fun (l53 : List Struck) =>
  withK (fun (l59 : List Struck) =>
  some (r8.1, l59)) fun (kj61 : (List Struck) → Option (Carriage × (List Struck))) =>
  (s_l00Src_pick (L00Src.mk code1 x16 x17) 16).bind fun r63 =>
  bif (r63.1 == 0) then
  (s_l00Src_among (L00Src.mk code1 r63.2.at_ r63.2.seed) [(-1), 0, 300, 301]).bind fun r67 =>
  (app l53 [(Struck.mk r67.1 [120])]).bind fun l70 =>
  kj61 l70
  else
  bif (r63.1 == 1) then
  (s_l00Src_text (L00Src.mk code1 r63.2.at_ r63.2.seed) [[], [120], [32, 32]]).bind fun r75 =>
  (app l53 [(Struck.mk 0 r75.1)]).bind fun l78 =>
  kj61 l78
  else
  bif (r63.1 == 2) then
  (s_l00Src_pick (L00Src.mk code1 r63.2.at_ r63.2.seed) 2).bind fun r83 =>
  s_l04DrawStruck_l2 kj61 N [] (w64 (200 + r83.1))
  else
  kj61 l53) fun (kj55 : (List Struck) → Option (Carriage × (List Struck))) =>
  bif (r50.2.2 != 0) then
  kj55 []
  else
  kj55 r50.1) fun (kj18 : (List Act) → Int → Int → Option (Carriage × (List Struck))) =>
  (s_l00Src_one (L00Src.mk code1 r11.2.at_ r11.2.seed) 3).bind fun r20 =>
  bif r20.1 then
  withK (fun (l24 : List Act) =>
  kj18 l24 r20.2.at_ r20.2.seed) fun (kj26 : (List Act) → Option (Carriage × (List Struck))) =>
  s_l04DrawStruck_l1 kj26 r11 N [] 0
  else
  kj18 r11.1 r20.2.at_ r20.2.seed

def s_DrawLineOf (N : Nat) (code1 : List UInt8) : Option (Carriage × (List Struck)) :=
  (s_l04DrawStruck N code1).bind fun r5 =>
  some (r5.1, r5.2)

def i_between (n1 : Int) (low2 : Int) (high3 : Int) : Option Bool :=
  (andO (decide (n1 ≥ low2)) (some (decide (n1 ≤ high3)))).bind fun t4 =>
  some t4

def i_ValidCarriage (c1 : Carriage) : Option Bool :=
  (andO (decide (c1.left ≥ 0)) (some (decide (c1.right ≤ 300)))).bind fun t3 =>
  (andO t3 (some (decide (c1.left ≤ c1.right)))).bind fun t6 =>
  (andO t6 (some (decide ((w64 (c1.right - c1.left)) ≥ 20)))).bind fun t9 =>
  (andO t9 ((i_between c1.bell c1.left c1.right).bind fun r15 =>
  some r15)).bind fun t12 =>
  some t12

def i_isText_l1 (kj5 : Option Bool) (s1 : Str) (low2 : UInt8) : Nat → Int → Option Bool
  | 0, _ => none
  | N + 1, x7 =>
    bif decide (x7 < (List.length s1 : Int)) then
    (idx s1 x7).bind fun c9 =>
    (orO (decide (c9 < low2)) ((idx s1 x7).bind fun c14 =>
    some (decide (c14 > (126 : UInt8))))).bind fun t11 =>
    bif t11 then
    some false
    else
    i_isText_l1 kj5 s1 low2 N (w64 (x7 + 1))
    else
    kj5 

def i_isText (N : Nat) (s1 : Str) (low2 : UInt8) (most3 : Int) : Option Bool :=
  bif decide ((List.length s1 : Int) > most3) then
  some false
  else
  withK (some true) fun (kj5 : Option Bool) =>
  i_isText_l1 kj5 s1 low2 N 0

def i_isLetter (N : Nat) (s1 : Str) : Option Bool :=
  (andO ((List.length s1 : Int) == 1) ((i_isText N s1 33 1).bind fun r5 =>
  some r5)).bind fun t2 =>
  some t2

def i_validStruck_l1 (kj5 : Option Bool) (list1 : List Struck) : Nat → Int → Option Bool
  | 0, _ => none
  | N + 1, x7 =>
    bif decide (x7 < (List.length list1 : Int)) then
    (idx list1 x7).bind fun e9 =>
    (i_between e9.place 0 300).bind fun r15 =>
    (orO (!r15) ((i_isLetter N e9.letter).bind fun r20 =>
    some (!r20))).bind fun t17 =>
    bif t17 then
    some false
    else
    i_validStruck_l1 kj5 list1 N (w64 (x7 + 1))
    else
    kj5 

def i_validStruck (N : Nat) (list1 : List Struck) : Option Bool :=
  bif decide ((List.length list1 : Int) > 200) then
  some false
  else
  withK (some true) fun (kj5 : Option Bool) =>
  i_validStruck_l1 kj5 list1 N 0

def i_LineOf_l2 (kj39 : (List UInt8) → Option (Str × Int)) (c1 : Carriage) (e27 : Struck) : Nat → (List UInt8) → Option (Str × Int)
  | 0, _ => none
  | N + 1, l41 =>
    bif decide ((List.length l41 : Int) ≤ (w64 (Int.tdiv (w64 (e27.place - c1.left)) 2))) then
    (app l41 [32]).bind fun l45 =>
    i_LineOf_l2 kj39 c1 e27 N l45
    else
    kj39 l41

def i_LineOf_l1 (kj17 : (List UInt8) → Option (Str × Int)) (c1 : Carriage) (list2 : List Struck) : Nat → (List UInt8) → Int → Option (Str × Int)
  | 0, _, _ => none
  | N + 1, l19, x21 =>
    bif decide (x21 < (List.length list2 : Int)) then
    withK (fun (l23 : List UInt8) =>
    i_LineOf_l1 kj17 c1 list2 N l23 (w64 (x21 + 1))) fun (kj25 : (List UInt8) → Option (Str × Int)) =>
    (idx list2 x21).bind fun e27 =>
    (orO (decide ((w64 (e27.place - c1.left)) < 0)) (some ((Int.tmod (w64 (e27.place - c1.left)) 2) != 0))).bind fun t33 =>
    bif t33 then
    some ([], 8)
    else
    withK (fun (l37 : List UInt8) =>
    (idx l37 (w64 (Int.tdiv (w64 (e27.place - c1.left)) 2))).bind fun e48 =>
    bif (e48 != (32 : UInt8)) then
    some ([], 9)
    else
    (idx e27.letter 0).bind fun c51 =>
    (idx l37 (w64 (Int.tdiv (w64 (e27.place - c1.left)) 2))).bind fun e53 =>
    kj25 (List.set l37 (Int.toNat (w64 (Int.tdiv (w64 (e27.place - c1.left)) 2))) c51)) fun (kj39 : (List UInt8) → Option (Str × Int)) =>
    i_LineOf_l2 kj39 c1 e27 N l19
    else
    kj17 l19

def i_LineOf (N : Nat) (c1 : Carriage) (list2 : List Struck) : Option (Str × Int) :=
  (i_ValidCarriage c1).bind fun r6 =>
  (orO (!r6) ((i_validStruck N list2).bind fun r11 =>
  some (!r11))).bind fun t8 =>
  bif t8 then
  some ([], 1)
  else
  withK (fun (l15 : List UInt8) =>
  some (l15, 0)) fun (kj17 : (List UInt8) → Option (Str × Int)) =>
  i_LineOf_l1 kj17 c1 list2 N [] 0

def s_l04Struck_l1 (kj4 : Option Bool) (list1 : List Struck) : Nat → Int → Option Bool
  | 0, _ => none
  | N + 1, i6 =>
    bif decide (i6 < (List.length list1 : Int)) then
    (idx list1 i6).bind fun e8 =>
    (s_l00In e8.place 0 300).bind fun r13 =>
    (orO (!r13) ((idx list1 i6).bind fun e18 =>
    (s_l02Letter e18.letter).bind fun r23 =>
    some (!r23))).bind fun t15 =>
    bif t15 then
    some false
    else
    s_l04Struck_l1 kj4 list1 N (w64 (i6 + 1))
    else
    kj4 

def s_l04Struck (N : Nat) (list1 : List Struck) : Option Bool :=
  withK (some (decide ((List.length list1 : Int) ≤ 200))) fun (kj4 : Option Bool) =>
  s_l04Struck_l1 kj4 list1 N 0

def s_LineOf_l2 (kj38 : (List UInt8) → Option (Str × Int)) (c1 : Carriage) (e27 : Struck) : Nat → (List UInt8) → Option (Str × Int)
  | 0, _ => none
  | N + 1, l40 =>
    bif decide ((List.length l40 : Int) ≤ (w64 (Int.tdiv (w64 (e27.place - c1.left)) 2))) then
    (app l40 [32]).bind fun l44 =>
    s_LineOf_l2 kj38 c1 e27 N l44
    else
    kj38 l40

def s_LineOf_l1 (kj17 : (List UInt8) → Option (Str × Int)) (c1 : Carriage) (list2 : List Struck) : Nat → (List UInt8) → Int → Option (Str × Int)
  | 0, _, _ => none
  | N + 1, l19, i21 =>
    bif decide (i21 < (List.length list2 : Int)) then
    withK (fun (l23 : List UInt8) =>
    s_LineOf_l1 kj17 c1 list2 N l23 (w64 (i21 + 1))) fun (kj25 : (List UInt8) → Option (Str × Int)) =>
    (idx list2 i21).bind fun e27 =>
    (orO (decide ((w64 (e27.place - c1.left)) < 0)) (some ((Int.tmod (w64 (e27.place - c1.left)) 2) != 0))).bind fun t32 =>
    bif t32 then
    some ([], 8)
    else
    withK (fun (l36 : List UInt8) =>
    (idx l36 (w64 (Int.tdiv (w64 (e27.place - c1.left)) 2))).bind fun e47 =>
    bif (e47 != (32 : UInt8)) then
    some ([], 9)
    else
    (idx list2 i21).bind fun e50 =>
    (idx e50.letter 0).bind fun c55 =>
    (idx l36 (w64 (Int.tdiv (w64 (e27.place - c1.left)) 2))).bind fun e57 =>
    kj25 (List.set l36 (Int.toNat (w64 (Int.tdiv (w64 (e27.place - c1.left)) 2))) c55)) fun (kj38 : (List UInt8) → Option (Str × Int)) =>
    s_LineOf_l2 kj38 c1 e27 N l19
    else
    kj17 l19

def s_LineOf (N : Nat) (c1 : Carriage) (list2 : List Struck) : Option (Str × Int) :=
  (s_l04Ok c1).bind fun r6 =>
  (orO (!r6) ((s_l04Struck N list2).bind fun r11 =>
  some (!r11))).bind fun t8 =>
  bif t8 then
  some ([], 1)
  else
  withK (fun (l15 : List UInt8) =>
  some (l15, 0)) fun (kj17 : (List UInt8) → Option (Str × Int)) =>
  s_LineOf_l1 kj17 c1 list2 N [] 0

def i_HalfShifted_l1 (kj14 : Option (Bool × Int)) (c1 : Carriage) (list2 : List Struck) : Nat → Int → Option (Bool × Int)
  | 0, _ => none
  | N + 1, x16 =>
    bif decide (x16 < (List.length list2 : Int)) then
    (idx list2 x16).bind fun e18 =>
    bif ((Int.tmod (w64 (e18.place - c1.left)) 2) != 0) then
    some (true, 0)
    else
    i_HalfShifted_l1 kj14 c1 list2 N (w64 (x16 + 1))
    else
    kj14 

def i_HalfShifted (N : Nat) (c1 : Carriage) (list2 : List Struck) : Option (Bool × Int) :=
  (i_ValidCarriage c1).bind fun r6 =>
  (orO (!r6) ((i_validStruck N list2).bind fun r11 =>
  some (!r11))).bind fun t8 =>
  bif t8 then
  some (false, 1)
  else
  withK (some (false, 0)) fun (kj14 : Option (Bool × Int)) =>
  i_HalfShifted_l1 kj14 c1 list2 N 0

def s_HalfShifted_l1 (kj14 : Option (Bool × Int)) (c1 : Carriage) (list2 : List Struck) : Nat → Int → Option (Bool × Int)
  | 0, _ => none
  | N + 1, i16 =>
    bif decide (i16 < (List.length list2 : Int)) then
    (idx list2 i16).bind fun e18 =>
    bif ((Int.tmod (w64 (e18.place - c1.left)) 2) != 0) then
    some (true, 0)
    else
    s_HalfShifted_l1 kj14 c1 list2 N (w64 (i16 + 1))
    else
    kj14 

def s_HalfShifted (N : Nat) (c1 : Carriage) (list2 : List Struck) : Option (Bool × Int) :=
  (s_l04Ok c1).bind fun r6 =>
  (orO (!r6) ((s_l04Struck N list2).bind fun r11 =>
  some (!r11))).bind fun t8 =>
  bif t8 then
  some (false, 1)
  else
  withK (some (false, 0)) fun (kj14 : Option (Bool × Int)) =>
  s_HalfShifted_l1 kj14 c1 list2 N 0

def i_OvertypedPlaces_l1 (kj9 : (List Int) → Option ((List Int) × Int)) (list1 : List Struck) : Nat → (List Int) → Int → Option ((List Int) × Int)
  | 0, _, _ => none
  | N + 1, l11, x12 =>
    bif decide (x12 < (List.length list1 : Int)) then
    (idx list1 x12).bind fun e14 =>
    (idx l11 e14.place).bind fun e20 =>
    (idx l11 e14.place).bind fun e22 =>
    i_OvertypedPlaces_l1 kj9 list1 N (List.set l11 (Int.toNat e14.place) (w64 (e20 + 1))) (w64 (x12 + 1))
    else
    kj9 l11

def i_OvertypedPlaces_l2 (kj27 : (List Int) → Option ((List Int) × Int)) (l8 : List Int) : Nat → (List Int) → Int → Option ((List Int) × Int)
  | 0, _, _ => none
  | N + 1, l29, x31 =>
    bif decide (x31 < 301) then
    withK (fun (l33 : List Int) =>
    i_OvertypedPlaces_l2 kj27 l8 N l33 (w64 (x31 + 1))) fun (kj35 : (List Int) → Option ((List Int) × Int)) =>
    (idxA 301 l8 x31).bind fun e37 =>
    bif decide (e37 > 1) then
    (app l29 [x31]).bind fun l41 =>
    kj35 l41
    else
    kj35 l29
    else
    kj27 l29

def i_OvertypedPlaces (N : Nat) (list1 : List Struck) : Option ((List Int) × Int) :=
  (i_validStruck N list1).bind fun r4 =>
  bif !r4 then
  some ([], 1)
  else
  withK (fun (l8 : List Int) =>
  withK (fun (l25 : List Int) =>
  some (l25, 0)) fun (kj27 : (List Int) → Option ((List Int) × Int)) =>
  i_OvertypedPlaces_l2 kj27 l8 N [] 0) fun (kj9 : (List Int) → Option ((List Int) × Int)) =>
  i_OvertypedPlaces_l1 kj9 list1 N (List.replicate 301 (0 : Int)) 0

def s_l00Put_l1 (kj9 : (List Int) → Bool → Option (List Int)) (list1 : List Int) (n4 : Int) : Nat → (List Int) → Bool → Int → Option (List Int)
  | 0, _, _, _ => none
  | N + 1, l11, done13, i14 =>
    bif decide (i14 < (List.length list1 : Int)) then
    withK (fun (l16 : List Int) (done18 : Bool) =>
    (idx list1 i14).bind fun e40 =>
    (app l16 [e40]).bind fun l46 =>
    s_l00Put_l1 kj9 list1 n4 N l46 done18 (w64 (i14 + 1))) fun (kj19 : (List Int) → Bool → Option (List Int)) =>
    (andO (!done13) ((idx list1 i14).bind fun e24 =>
    some (decide (e24 ≥ n4)))).bind fun t21 =>
    bif t21 then
    (idx list1 i14).bind fun e30 =>
    bif decide (e30 > n4) then
    (app l11 [n4]).bind fun l37 =>
    kj19 l37 true
    else
    kj19 l11 true
    else
    kj19 l11 done13
    else
    kj9 l11 done13

def s_l00Put (N : Nat) (list1 : List Int) (n4 : Int) : Option (List Int) :=
  withK (fun (l6 : List Int) (done8 : Bool) =>
  withK (fun (l49 : List Int) =>
  some l49) fun (kj51 : (List Int) → Option (List Int)) =>
  bif !done8 then
  (app l6 [n4]).bind fun l55 =>
  kj51 l55
  else
  kj51 l6) fun (kj9 : (List Int) → Bool → Option (List Int)) =>
  s_l00Put_l1 kj9 list1 n4 N [] false 0

def s_OvertypedPlaces_l2 (kj18 : (List Int) → Option ((List Int) × Int)) (list1 : List Struck) (i14 : Int) : Nat → (List Int) → Int → Option ((List Int) × Int)
  | 0, _, _ => none
  | N + 1, l20, k22 =>
    bif decide (k22 < i14) then
    withK (fun (l24 : List Int) =>
    s_OvertypedPlaces_l2 kj18 list1 i14 N l24 (w64 (k22 + 1))) fun (kj26 : (List Int) → Option ((List Int) × Int)) =>
    (idx list1 k22).bind fun e28 =>
    (idx list1 i14).bind fun e33 =>
    bif (e28.place == e33.place) then
    (idx list1 i14).bind fun e39 =>
    (s_l00Put N l20 e39.place).bind fun r44 =>
    kj26 r44
    else
    kj26 l20
    else
    kj18 l20

def s_OvertypedPlaces_l1 (kj10 : (List Int) → Option ((List Int) × Int)) (list1 : List Struck) : Nat → (List Int) → Int → Option ((List Int) × Int)
  | 0, _, _ => none
  | N + 1, l12, i14 =>
    bif decide (i14 < (List.length list1 : Int)) then
    withK (fun (l16 : List Int) =>
    s_OvertypedPlaces_l1 kj10 list1 N l16 (w64 (i14 + 1))) fun (kj18 : (List Int) → Option ((List Int) × Int)) =>
    s_OvertypedPlaces_l2 kj18 list1 i14 N l12 0
    else
    kj10 l12

def s_OvertypedPlaces (N : Nat) (list1 : List Struck) : Option ((List Int) × Int) :=
  (s_l04Struck N list1).bind fun r4 =>
  bif !r4 then
  some ([], 1)
  else
  withK (fun (l8 : List Int) =>
  some (l8, 0)) fun (kj10 : (List Int) → Option ((List Int) × Int)) =>
  s_OvertypedPlaces_l1 kj10 list1 N [] 0

def s_DrawSameStruck (N : Nat) (code1 : List UInt8) : Option ((List Struck) × (List Struck)) :=
  (s_l04DrawStruck N code1).bind fun r4 =>
  (s_l00From code1).bind fun r8 =>
  (app [] r4.2).bind fun l12 =>
  withK (fun (x15 : Int) (x16 : Int) (l17 : List Struck) =>
  withK (fun (l37 : List Struck) =>
  some (r4.2, l37)) fun (kj39 : (List Struck) → Option ((List Struck) × (List Struck))) =>
  (s_l00Src_one (L00Src.mk code1 x15 x16) 5).bind fun r41 =>
  bif r41.1 then
  (app l17 [(Struck.mk 0 [])]).bind fun l45 =>
  kj39 l45
  else
  kj39 l17) fun (kj18 : Int → Int → (List Struck) → Option ((List Struck) × (List Struck))) =>
  (bif decide ((List.length l12 : Int) > 0) then (s_l00Src_one (L00Src.mk code1 r8.at_ r8.seed) 2).bind fun r24 =>
  some (r24.1, (L00Src.mk code1 r24.2.at_ r24.2.seed)) else some (false, (L00Src.mk code1 r8.at_ r8.seed))).bind fun x22 =>
  bif x22.1 then
  (idx l12 0).bind fun e27 =>
  (s_l00Src_text (L00Src.mk code1 x22.2.at_ x22.2.seed) [[], [120]]).bind fun r30 =>
  (cat e27.letter r30.1).bind fun s32 =>
  (idx l12 0).bind fun e34 =>
  kj18 r30.2.at_ r30.2.seed (List.set l12 (Int.toNat 0) (Struck.mk e34.place s32))
  else
  kj18 x22.2.at_ x22.2.seed l12

def w_f6ints_l1 (kj8 : Option Bool) (a1 : List Int) (b4 : List Int) : Nat → Int → Option Bool
  | 0, _ => none
  | N + 1, i10 =>
    bif decide (i10 < (List.length a1 : Int)) then
    (idx a1 i10).bind fun e12 =>
    (idx b4 i10).bind fun e17 =>
    bif (e12 != e17) then
    some false
    else
    w_f6ints_l1 kj8 a1 b4 N (w64 (i10 + 1))
    else
    kj8 

def w_f6ints (N : Nat) (a1 : List Int) (b4 : List Int) : Option Bool :=
  bif ((List.length a1 : Int) != (List.length b4 : Int)) then
  some false
  else
  withK (some true) fun (kj8 : Option Bool) =>
  w_f6ints_l1 kj8 a1 b4 N 0

def i_SameStruck_l1 (kj8 : Option Bool) (a1 : List Struck) (b4 : List Struck) : Nat → Int → Option Bool
  | 0, _ => none
  | N + 1, x10 =>
    bif decide (x10 < (List.length a1 : Int)) then
    (idx a1 x10).bind fun e12 =>
    (idx b4 x10).bind fun e17 =>
    bif !(Struck.beq e12 e17) then
    some false
    else
    i_SameStruck_l1 kj8 a1 b4 N (w64 (x10 + 1))
    else
    kj8 

def i_SameStruck (N : Nat) (a1 : List Struck) (b4 : List Struck) : Option Bool :=
  bif ((List.length a1 : Int) != (List.length b4 : Int)) then
  some false
  else
  withK (some true) fun (kj8 : Option Bool) =>
  i_SameStruck_l1 kj8 a1 b4 N 0

def s_SameStruck_l1 (kj8 : Option Bool) (a1 : List Struck) (b4 : List Struck) : Nat → Int → Option Bool
  | 0, _ => none
  | N + 1, i10 =>
    bif decide (i10 < (List.length a1 : Int)) then
    (idx a1 i10).bind fun e12 =>
    (idx b4 i10).bind fun e17 =>
    bif !(Struck.beq e12 e17) then
    some false
    else
    s_SameStruck_l1 kj8 a1 b4 N (w64 (i10 + 1))
    else
    kj8 

def s_SameStruck (N : Nat) (a1 : List Struck) (b4 : List Struck) : Option Bool :=
  bif ((List.length a1 : Int) != (List.length b4 : Int)) then
  some false
  else
  withK (some true) fun (kj8 : Option Bool) =>
  s_SameStruck_l1 kj8 a1 b4 N 0

def w_FnCarriageLines_l1 (kj66 : Int → Option Bool) (r11 : Str × Int) : Nat → Int → Int → Option Bool
  | 0, _, _ => none
  | N + 1, letters68, i69 =>
    bif decide (i69 < (List.length r11.1 : Int)) then
    withK (fun (letters71 : Int) =>
    w_FnCarriageLines_l1 kj66 r11 N letters71 (w64 (i69 + 1))) fun (kj72 : Int → Option Bool) =>
    (idx r11.1 i69).bind fun c74 =>
    bif (c74 != (32 : UInt8)) then
    kj72 (w64 (letters68 + 1))
    else
    kj72 letters68
    else
    kj66 letters68

def w_FnCarriageLines_l2 (kj77 : Option Bool) (r7 : Carriage × (List Struck)) (r11 : Str × Int) : Nat → Int → Option Bool
  | 0, _ => none
  | N + 1, i79 =>
    bif decide (i79 < (List.length r7.2 : Int)) then
    (idx r7.2 i79).bind fun e81 =>
    (orO (decide ((w64 (Int.tdiv (w64 (e81.place - r7.1.left)) 2)) < 0)) (some (decide ((w64 (Int.tdiv (w64 (e81.place - r7.1.left)) 2)) ≥ (List.length r11.1 : Int))))).bind fun t83 =>
    (orO t83 ((idx r11.1 (w64 (Int.tdiv (w64 (e81.place - r7.1.left)) 2))).bind fun c89 =>
    (idx r7.2 i79).bind fun e91 =>
    (idx e91.letter 0).bind fun c93 =>
    some (c89 != c93))).bind fun t86 =>
    bif t86 then
    some false
    else
    w_FnCarriageLines_l2 kj77 r7 r11 N (w64 (i79 + 1))
    else
    kj77 

def w_FnCarriageLines (N : Nat) (code1 : List UInt8) : Option Bool :=
  (w_f6big code1).bind fun r4 =>
  bif r4 then
  some true
  else
  (s_DrawLineOf N code1).bind fun r7 =>
  (i_LineOf N r7.1 r7.2).bind fun r11 =>
  (s_LineOf N r7.1 r7.2).bind fun r13 =>
  (i_HalfShifted N r7.1 r7.2).bind fun r15 =>
  (s_HalfShifted N r7.1 r7.2).bind fun r17 =>
  (i_OvertypedPlaces N r7.2).bind fun r19 =>
  (s_OvertypedPlaces N r7.2).bind fun r22 =>
  (s_DrawSameStruck N code1).bind fun r25 =>
  (orO (r11.2 != r13.2) (some (r11.1 != r13.1))).bind fun t29 =>
  (orO t29 (some (r15.2 != r17.2))).bind fun t32 =>
  (orO t32 (some (r15.1 != r17.1))).bind fun t35 =>
  (orO t35 (some (r19.2 != r22.2))).bind fun t38 =>
  (orO t38 ((w_f6ints N r19.1 r22.1).bind fun r44 =>
  some (!r44))).bind fun t41 =>
  (orO t41 ((i_SameStruck N r25.1 r25.2).bind fun r49 =>
  (s_SameStruck N r25.1 r25.2).bind fun r51 =>
  some (r49 != r51))).bind fun t46 =>
  bif t46 then
  some false
  else
  bif (r11.2 != 0) then
  (orO (r11.2 == 1) (some (r11.2 == 8))).bind fun t55 =>
  (orO t55 (some (decide ((List.length r22.1 : Int) > 0)))).bind fun t58 =>
  some t58
  else
  (orO r17.1 (some (decide ((List.length r22.1 : Int) > 0)))).bind fun t61 =>
  bif t61 then
  some false
  else
  withK (fun (letters65 : Int) =>
  withK (some (letters65 == (List.length r7.2 : Int))) fun (kj77 : Option Bool) =>
  w_FnCarriageLines_l2 kj77 r7 r11 N 0) fun (kj66 : Int → Option Bool) =>
  w_FnCarriageLines_l1 kj66 r11 N 0 0

end Go.Proofs.Ythkckgiicchpnaa
