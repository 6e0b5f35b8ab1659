/-
  Plain functions that compute what the Go functions compute. No conditions.
-/
import Derived.Test.YtigjflandggihaaBase
namespace Go.Proofs.Ytigjflandggihaa
set_option linter.unusedVariables false
set_option linter.unusedSimpArgs false



def s_l00In (n1 : Int) (low2 : Int) (high3 : Int) : Option Bool :=
  (andO (decide (n1 ≥ low2)) (some (decide (n1 ≤ high3)))).bind fun t4 =>
  some t4

def s_l00Max (a1 : Int) (b2 : Int) : Option Int :=
  bif decide (a1 > b2) then
  some a1
  else
  some b2

def s_HirePrice_l2 (k31 : Int → Option (Int × Int)) (x2 : Int) (x3 : Int) (x4 : Int) (x27 : Int) (r32 : Int) : Nat → Int → Int → Option (Int × Int)
  | 0, _, _ => none
  | N + 1, x34, x35 =>
    bif decide (x35 ≤ (w64 (Int.tdiv (w64 (r32 + 6)) 7))) then
    withK (fun (x37 : Int) =>
    s_HirePrice_l2 k31 x2 x3 x4 x27 r32 N x37 (w64 (x35 + 1))) fun (k40 : Int → Option (Int × Int)) =>
    (s_l00Max 0 (w64 (r32 - (w64 (7 * x35))))).bind fun r40 =>
    (orO (decide (x34 < 0)) (some (decide ((w64 ((w64 ((w64 (x27 * x4)) + (w64 (x35 * x3)))) + (w64 (r40 * x2)))) < x34)))).bind fun t42 =>
    bif t42 then
    k40 (w64 ((w64 ((w64 (x27 * x4)) + (w64 (x35 * x3)))) + (w64 (r40 * x2))))
    else
    k40 x34
    else
    k31 x34

def s_HirePrice_l1 (k24 : Int → Option (Int × Int)) (days1 : Int) (x2 : Int) (x3 : Int) (x4 : Int) : Nat → Int → Int → Option (Int × Int)
  | 0, _, _ => none
  | N + 1, x26, x27 =>
    bif decide (x27 ≤ (w64 (Int.tdiv (w64 (days1 + 29)) 30))) then
    withK (fun (x29 : Int) =>
    s_HirePrice_l1 k24 days1 x2 x3 x4 N x29 (w64 (x27 + 1))) fun (k31 : Int → Option (Int × Int)) =>
    (s_l00Max 0 (w64 (days1 - (w64 (30 * x27))))).bind fun r32 =>
    s_HirePrice_l2 k31 x2 x3 x4 x27 r32 N x26 0
    else
    k24 x26

def s_HirePrice (N : Nat) (days1 : Int) (x2 : Int) (x3 : Int) (x4 : Int) : Option (Int × Int) :=
  (s_l00In days1 1 3650).bind fun r5 =>
  (orO (!r5) ((s_l00In x2 0 100000).bind fun r10 =>
  some (!r10))).bind fun t7 =>
  (orO t7 ((s_l00In x3 0 1000000).bind fun r15 =>
  some (!r15))).bind fun t12 =>
  (orO t12 ((s_l00In x4 0 10000000).bind fun r20 =>
  some (!r20))).bind fun t17 =>
  bif t17 then
  some (0, 2)
  else
  withK (fun (x23 : Int) =>
  some (x23, 0)) fun (k24 : Int → Option (Int × Int)) =>
  s_HirePrice_l1 k24 days1 x2 x3 x4 N (-1) 0

def i_between (n1 : Int) (low2 : Int) (high3 : Int) : Option Bool :=
  (andO (decide (n1 ≥ low2)) (some (decide (n1 ≤ high3)))).bind fun t4 =>
  some t4

def i_HirePrice_l2 (k30 : Int → Option (Int × Int)) (days1 : Int) (x2 : Int) (x3 : Int) (x4 : Int) (x24 : Int) : Nat → Int → Int → Option (Int × Int)
  | 0, _, _ => none
  | N + 1, x31, x32 =>
    withK (fun (x33 : Int) =>
    bif ((imax (w64 ((imax (w64 (days1 - (w64 (30 * x24)))) 0) - (w64 (7 * x32)))) 0) == 0) then
    k30 x33
    else
    i_HirePrice_l2 k30 days1 x2 x3 x4 x24 N x33 (w64 (x32 + 1))) fun (k36 : Int → Option (Int × Int)) =>
    (orO (decide (x31 < 0)) (some (decide ((w64 ((w64 ((w64 (x24 * x4)) + (w64 (x32 * x3)))) + (w64 ((imax (w64 ((imax (w64 (days1 - (w64 (30 * x24)))) 0) - (w64 (7 * x32)))) 0) * x2)))) < x31)))).bind fun t36 =>
    bif t36 then
    k36 (w64 ((w64 ((w64 (x24 * x4)) + (w64 (x32 * x3)))) + (w64 ((imax (w64 ((imax (w64 (days1 - (w64 (30 * x24)))) 0) - (w64 (7 * x32)))) 0) * x2))))
    else
    k36 x31

def i_HirePrice_l1 (days1 : Int) (x2 : Int) (x3 : Int) (x4 : Int) : Nat → Int → Int → Option (Int × Int)
  | 0, _, _ => none
  | N + 1, x23, x24 =>
    withK (fun (x25 : Int) =>
    i_HirePrice_l1 days1 x2 x3 x4 N x25 (w64 (x24 + 1))) fun (k26 : Int → Option (Int × Int)) =>
    withK (fun (x28 : Int) =>
    bif ((imax (w64 (days1 - (w64 (30 * x24)))) 0) == 0) then
    some (x28, 0)
    else
    k26 x28) fun (k30 : Int → Option (Int × Int)) =>
    i_HirePrice_l2 k30 days1 x2 x3 x4 x24 N x23 0

def i_HirePrice (N : Nat) (days1 : Int) (x2 : Int) (x3 : Int) (x4 : Int) : Option (Int × Int) :=
  (i_between days1 1 3650).bind fun r5 =>
  (orO (!r5) ((i_between x2 0 100000).bind fun r10 =>
  some (!r10))).bind fun t7 =>
  (orO t7 ((i_between x3 0 1000000).bind fun r15 =>
  some (!r15))).bind fun t12 =>
  (orO t12 ((i_between x4 0 10000000).bind fun r20 =>
  some (!r20))).bind fun t17 =>
  bif t17 then
  some (0, 2)
  else
  i_HirePrice_l1 days1 x2 x3 x4 N (-1) 0

def w_FnExactHirePrice (N : Nat) (aDays1 : Int) (aDay2 : Int) (aWeek3 : Int) (aMonth4 : Int) : Option Bool :=
  (s_HirePrice N aDays1 aDay2 aWeek3 aMonth4).bind fun r5 =>
  (i_HirePrice N aDays1 aDay2 aWeek3 aMonth4).bind fun r7 =>
  (orO (r7.1 != r5.1) (some (r7.2 != r5.2))).bind fun t9 =>
  bif t9 then
  some false
  else
  some true

end Go.Proofs.Ytigjflandggihaa
