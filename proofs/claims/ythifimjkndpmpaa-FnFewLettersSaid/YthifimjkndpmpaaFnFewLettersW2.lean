/-
  The walks: a call hands back what its plain function computes, where that has a value. No other conditions.
-/
import Derived.Test.YthifimjkndpmpaaFnFewLettersW
import Derived.Test.YthifimjkndpmpaaChecked
namespace Go.Proofs.Ythifimjkndpmpaa
open Go.RowKit Go.Proofs
set_option linter.unusedVariables false
set_option linter.unusedSimpArgs false

variable {α : Type}
set_option maxRecDepth 100000 in
set_option maxHeartbeats 1000000 in
theorem ok_sort_choosePivot_func {xs1 : List α} {a2 : Int} {b3 : Int} {lt : α → α → Bool} {AA : List α → Asn} {gl gs : Nat} {lb sb : Array Value} {r : Int × Int × (List α)} (hm : sort_choosePivot_func xs1 a2 b3 lt = some r) (w : World) (S : Nat → Prop) (hS : SrtOk Try.prog AA lt gl gs lb sb) (hA : (AA xs1).holds w S) :
    Calls Try.prog 50 #[.agg #[.func (.func gl) #[] lb, .func (.func gs) #[] sb], .int .i64 a2, .int .i64 b3] w (RetG ⟨w, S⟩ fun u L => (u = tup [.int .i64 r.1, .int .i64 r.2.1] ∧ L = [AA r.2.2])) := by
  unfold sort_choosePivot_func at hm
  refine Calls.enter1 hA [.agg #[.func (.func gl) #[] lb, .func (.func gs) #[] sb], .int .i64 a2, .int .i64 b3] Try.func50 rfl Try.ntmps50 rfl ?_
  refine WJ.seq ?_
  refine WJ.reg ?_
  refine SJ.box (cs := [.func (.func gl) #[] lb, .func (.func gs) #[] sb]) rfl rfl rfl fun g4 => ?_
  refine SJ.q (YldS.yld (y_assign rfl)) rfl ?_
  refine SJ.q (YldS.yld (y_assign rfl)) rfl ?_
  refine SJ.nil ?_
  refine PJ.next ?_
  refine WJ.seq ?_
  refine WJ.quiet ?_
  refine QJ.step (YldS.yld (y_move rfl)) rfl ?_
  refine QJ.step (YldS.yld (y_move rfl)) rfl ?_
  refine QJ.step (YldS.yld (y_bin rfl rfl rfl)) rfl ?_
  refine QJ.step (YldS.yld (y_assign rfl)) rfl ?_
  refine QJ.done ?_
  refine PJ.next ?_
  refine WJ.seq ?_
  refine WJ.reg ?_
  refine SJ.alloc (cs := [.int .i64 0]) Try.zeroValue3 rfl rfl fun g5 => ?_
  refine SJ.nil ?_
  refine PJ.next ?_
  refine WJ.seq ?_
  refine WJ.quiet ?_
  refine QJ.step (YldS.yld (y_move rfl)) rfl ?_
  refine QJ.step (YldS.yld (y_move rfl)) rfl ?_
  refine QJ.step (YldS.yld (y_quo rfl rfl (by decide))) rfl ?_
  refine QJ.step (YldS.yld (y_bin rfl rfl rfl)) rfl ?_
  refine QJ.step (YldS.yld (y_bin rfl rfl rfl)) rfl ?_
  refine QJ.step (YldS.yld (y_assign rfl)) rfl ?_
  refine QJ.done ?_
  refine PJ.next ?_
  refine WJ.seq ?_
  refine WJ.quiet ?_
  refine QJ.step (YldS.yld (y_move rfl)) rfl ?_
  refine QJ.step (YldS.yld (y_move rfl)) rfl ?_
  refine QJ.step (YldS.yld (y_quo rfl rfl (by decide))) rfl ?_
  refine QJ.step (YldS.yld (y_bin rfl rfl rfl)) rfl ?_
  refine QJ.step (YldS.yld (y_bin rfl rfl rfl)) rfl ?_
  refine QJ.step (YldS.yld (y_assign rfl)) rfl ?_
  refine QJ.done ?_
  refine PJ.next ?_
  refine WJ.seq ?_
  refine WJ.quiet ?_
  refine QJ.step (YldS.yld (y_move rfl)) rfl ?_
  refine QJ.step (YldS.yld (y_move rfl)) rfl ?_
  refine QJ.step (YldS.yld (y_quo rfl rfl (by decide))) rfl ?_
  refine QJ.step (YldS.yld (y_bin rfl rfl rfl)) rfl ?_
  refine QJ.step (YldS.yld (y_bin rfl rfl rfl)) rfl ?_
  refine QJ.step (YldS.yld (y_assign rfl)) rfl ?_
  refine QJ.done ?_
  refine PJ.next ?_
  obtain ⟨kj9, hk10, hm⟩ := withK_open hm
  refine WJ.join (X := (List α) × Int × Int) (fun (x : (List α) × Int × Int) => kj9 x.1 x.2.1 x.2.2 = some r) (fun (x : (List α) × Int × Int) => [(9, pt g5 0), (11, .int .i64 x.2.2)]) (fun (x : (List α) × Int × Int) => [AA x.1, box g5 3 [.int .i64 x.2.1]]) ?_ ?_
  · clear hk10
    refine WJ.seq ?_
    refine WJ.quiet ?_
    refine QJ.step (YldS.yld (y_move rfl)) rfl ?_
    refine QJ.step (YldS.yld (y_bin rfl rfl rfl)) rfl ?_
    refine QJ.done ?_
    refine PJ.next ?_
    refine WJ.cond (t := decide ((w64 (b3 - a2)) ≥ 8)) rfl (fun hb11 => ?_) (fun hb11 => ?_)
    · replace hm := ifT hm hb11
      obtain ⟨kj17, hk18, hm⟩ := withK_open hm
      refine WJ.join (X := (List α) × Int × Int × Int × Int) (fun (x : (List α) × Int × Int × Int × Int) => kj17 x.1 x.2.1 x.2.2.1 x.2.2.2.1 x.2.2.2.2 = some r) (fun (x : (List α) × Int × Int × Int × Int) => [(3, pt g4 0), (9, pt g5 0), (10, .int .i64 x.2.2.1), (11, .int .i64 x.2.2.2.1), (12, .int .i64 x.2.2.2.2)]) (fun (x : (List α) × Int × Int × Int × Int) => [AA x.1, box g5 3 [.int .i64 x.2.1], box g4 77 [.func (.func gl) #[] lb, .func (.func gs) #[] sb]]) ?_ ?_
      · clear hk18
        refine WJ.seq ?_
        refine WJ.quiet ?_
        refine QJ.step (YldS.yld (y_move rfl)) rfl ?_
        refine QJ.step (YldS.yld (y_bin rfl rfl rfl)) rfl ?_
        refine QJ.done ?_
        refine PJ.next ?_
        refine WJ.cond (t := decide ((w64 (b3 - a2)) ≥ 50)) rfl (fun hb19 => ?_) (fun hb19 => ?_)
        · replace hm := ifT hm hb19
          refine WJ.seq ?_
          refine WJ.reg ?_
          refine SJ.q (YldS.yld (y_loadBN (k := 1) (off := 0) (us := [.func (.func gl) #[] lb, .func (.func gs) #[] sb]) rfl Try.isAgg77 Try.sizeOf77 rfl rfl)) rfl ?_
          refine SJ.q (YldS.yld (y_move rfl)) rfl ?_
          refine SJ.sel (L' := [AA xs1, box g5 3 [.int .i64 0], box g4 77 [.func (.func gl) #[] lb, .func (.func gs) #[] sb]]) [2, 0, 1] ⟨by decide, rfl⟩ ?_
          refine SJ.star ?_
          obtain ⟨r20, h21, hm⟩ := bindS hm
          refine SJ.call1 (k := 0) rfl Try.call59 rfl (fun w S hw hA hO => ok_sort_medianAdjacent_func h21 w S hS hA) rfl ?_
          rintro _ _ ⟨rfl, rfl⟩
          refine SJ.unstar ?_
          refine SJ.q (YldS.yld (y_assign rfl)) rfl ?_
          refine SJ.nil ?_
          refine PJ.next ?_
          refine WJ.seq ?_
          refine WJ.reg ?_
          refine SJ.q (YldS.yld (y_loadBN (k := 2) (off := 0) (us := [.func (.func gl) #[] lb, .func (.func gs) #[] sb]) rfl Try.isAgg77 Try.sizeOf77 rfl rfl)) rfl ?_
          refine SJ.q (YldS.yld (y_move rfl)) rfl ?_
          refine SJ.sel (L' := [AA r20.2.1, box g5 3 [.int .i64 r20.2.2], box g4 77 [.func (.func gl) #[] lb, .func (.func gs) #[] sb]]) [0, 1, 2] ⟨by decide, rfl⟩ ?_
          refine SJ.star ?_
          obtain ⟨r22, h23, hm⟩ := bindS hm
          refine SJ.call1 (k := 0) rfl Try.call59 rfl (fun w S hw hA hO => ok_sort_medianAdjacent_func h23 w S hS hA) rfl ?_
          rintro _ _ ⟨rfl, rfl⟩
          refine SJ.unstar ?_
          refine SJ.q (YldS.yld (y_assign rfl)) rfl ?_
          refine SJ.nil ?_
          refine PJ.next ?_
          refine WJ.reg ?_
          refine SJ.q (YldS.yld (y_loadBN (k := 2) (off := 0) (us := [.func (.func gl) #[] lb, .func (.func gs) #[] sb]) rfl Try.isAgg77 Try.sizeOf77 rfl rfl)) rfl ?_
          refine SJ.q (YldS.yld (y_move rfl)) rfl ?_
          refine SJ.sel (L' := [AA r22.2.1, box g5 3 [.int .i64 r22.2.2], box g4 77 [.func (.func gl) #[] lb, .func (.func gs) #[] sb]]) [0, 1, 2] ⟨by decide, rfl⟩ ?_
          refine SJ.star ?_
          obtain ⟨r24, h25, hm⟩ := bindS hm
          refine SJ.call1 (k := 0) rfl Try.call59 rfl (fun w S hw hA hO => ok_sort_medianAdjacent_func h25 w S hS hA) rfl ?_
          rintro _ _ ⟨rfl, rfl⟩
          refine SJ.unstar ?_
          refine SJ.q (YldS.yld (y_assign rfl)) rfl ?_
          refine SJ.nil ?_
          exact PJ.joined (r24.2.1, r24.2.2, r20.1, r22.1, r24.1) [0, 1, 2] hm ⟨rfl, rfl, rfl, rfl, rfl, trivial⟩ ⟨by decide, rfl⟩
        · replace hm := ifF hm hb19
          refine WJ.skip ?_
          exact PJ.joined (xs1, 0, w64 (a2 + (w64 ((w64 (Int.tdiv (w64 (b3 - a2)) 4)) * 1))), w64 (a2 + (w64 ((w64 (Int.tdiv (w64 (b3 - a2)) 4)) * 2))), w64 (a2 + (w64 ((w64 (Int.tdiv (w64 (b3 - a2)) 4)) * 3)))) [2, 0, 1] hm ⟨rfl, rfl, rfl, rfl, rfl, trivial⟩ ⟨by decide, rfl⟩
      · rintro ⟨l12, x13, i14, j15, k16⟩ hm
        subst hk18
        refine WJ.reg ?_
        refine SJ.q (YldS.yld (y_loadBN (k := 2) (off := 0) (us := [.func (.func gl) #[] lb, .func (.func gs) #[] sb]) rfl Try.isAgg77 Try.sizeOf77 rfl rfl)) rfl ?_
        refine SJ.q (YldS.yld (y_move rfl)) rfl ?_
        refine SJ.q (YldS.yld (y_move rfl)) rfl ?_
        refine SJ.q (YldS.yld (y_move rfl)) rfl ?_
        refine SJ.sel (L' := [AA l12, box g5 3 [.int .i64 x13], box g4 77 [.func (.func gl) #[] lb, .func (.func gs) #[] sb]]) [0, 1, 2] ⟨by decide, rfl⟩ ?_
        refine SJ.star ?_
        obtain ⟨r26, h27, hm⟩ := bindS hm
        refine SJ.call1 (k := 0) rfl Try.call60 rfl (fun w S hw hA hO => ok_sort_median_func h27 w S hS hA) rfl ?_
        rintro _ _ ⟨rfl, rfl⟩
        refine SJ.unstar ?_
        refine SJ.q (YldS.yld (y_assign rfl)) rfl ?_
        refine SJ.nil ?_
        exact PJ.joined (r26.2.1, r26.2.2, r26.1) [0, 1] hm ⟨rfl, rfl, trivial⟩ ⟨by decide, rfl⟩
    · replace hm := ifF hm hb11
      refine WJ.skip ?_
      exact PJ.joined (xs1, 0, w64 (a2 + (w64 ((w64 (Int.tdiv (w64 (b3 - a2)) 4)) * 2)))) [2, 0] hm ⟨rfl, rfl, trivial⟩ ⟨by decide, rfl⟩
  · rintro ⟨l6, x7, j8⟩ hm
    subst hk10
    refine WJ.seq ?_
    refine WJ.quiet ?_
    refine QJ.step (YldS.yld (y_loadB (k := 1) (off := 0) (v := .int .i64 x7) rfl Try.isAgg3 rfl rfl)) rfl ?_
    refine QJ.done ?_
    refine PJ.next ?_
    refine WJ.block ?_
    refine WJ.seq ?_
    refine WJ.quiet ?_
    refine QJ.step (YldS.yld (y_bin rfl rfl rfl)) rfl ?_
    refine QJ.step (YldS.yld (y_assign rfl)) rfl ?_
    refine QJ.done ?_
    refine PJ.next ?_
    refine WJ.cond (t := (x7 == 0)) rfl (fun hb28 => ?_) (fun hb28 => ?_)
    · replace hm := ifT hm hb28
      refine WJ.seq ?_
      refine WJ.quiet ?_
      refine QJ.step (YldS.yld (y_move rfl)) rfl ?_
      refine QJ.step (YldS.yld (y_assign rfl)) rfl ?_
      refine QJ.step (YldS.yld (y_assign rfl)) rfl ?_
      refine QJ.done ?_
      refine PJ.next ?_
      refine WJ.ret ?_
      refine PJ.block_ret ?_
      obtain rfl := Option.some.inj hm
      refine PJ.sel (L' := [AA l6]) [0] ⟨by decide, rfl⟩ ?_
      exact PJ.retn (vs := [.int .i64 j8, .int .i64 1]) Try.results50 ⟨rfl, rfl, trivial⟩ ⟨rfl, rfl⟩
    · replace hm := ifF hm hb28
      refine WJ.seq ?_
      refine WJ.quiet ?_
      refine QJ.step (YldS.yld (y_bin rfl rfl rfl)) rfl ?_
      refine QJ.step (YldS.yld (y_assign rfl)) rfl ?_
      refine QJ.done ?_
      refine PJ.next ?_
      refine WJ.cond (t := (x7 == 12)) rfl (fun hb29 => ?_) (fun hb29 => ?_)
      · replace hm := ifT hm hb29
        refine WJ.seq ?_
        refine WJ.quiet ?_
        refine QJ.step (YldS.yld (y_move rfl)) rfl ?_
        refine QJ.step (YldS.yld (y_assign rfl)) rfl ?_
        refine QJ.step (YldS.yld (y_assign rfl)) rfl ?_
        refine QJ.done ?_
        refine PJ.next ?_
        refine WJ.ret ?_
        refine PJ.block_ret ?_
        obtain rfl := Option.some.inj hm
        refine PJ.sel (L' := [AA l6]) [0] ⟨by decide, rfl⟩ ?_
        exact PJ.retn (vs := [.int .i64 j8, .int .i64 2]) Try.results50 ⟨rfl, rfl, trivial⟩ ⟨rfl, rfl⟩
      · replace hm := ifF hm hb29
        refine WJ.seq ?_
        refine WJ.quiet ?_
        refine QJ.step (YldS.yld (y_move rfl)) rfl ?_
        refine QJ.step (YldS.yld (y_assign rfl)) rfl ?_
        refine QJ.step (YldS.yld (y_assign rfl)) rfl ?_
        refine QJ.done ?_
        refine PJ.next ?_
        refine WJ.ret ?_
        refine PJ.block_ret ?_
        obtain rfl := Option.some.inj hm
        refine PJ.sel (L' := [AA l6]) [0] ⟨by decide, rfl⟩ ?_
        exact PJ.retn (vs := [.int .i64 j8, .int .i64 0]) Try.results50 ⟨rfl, rfl, trivial⟩ ⟨rfl, rfl⟩

set_option maxRecDepth 100000 in
set_option maxHeartbeats 1000000 in
theorem ok_sort_reverseRange_func {N : Nat} {xs1 : List α} {a2 : Int} {b3 : Int} {lt : α → α → Bool} {AA : List α → Asn} {gl gs : Nat} {lb sb : Array Value} {r : (List α)} (hm : sort_reverseRange_func N xs1 a2 b3 lt = some r) (w : World) (S : Nat → Prop) (hS : SrtOk Try.prog AA lt gl gs lb sb) (hA : (AA xs1).holds w S) :
    Calls Try.prog 51 #[.agg #[.func (.func gl) #[] lb, .func (.func gs) #[] sb], .int .i64 a2, .int .i64 b3] w (RetG ⟨w, S⟩ fun u L => (u = tup [] ∧ L = [AA r])) := by
  unfold sort_reverseRange_func at hm
  refine Calls.enter1 hA [.agg #[.func (.func gl) #[] lb, .func (.func gs) #[] sb], .int .i64 a2, .int .i64 b3] Try.func51 rfl Try.ntmps51 rfl ?_
  refine WJ.seq ?_
  refine WJ.reg ?_
  refine SJ.box (cs := [.func (.func gl) #[] lb, .func (.func gs) #[] sb]) rfl rfl rfl fun g4 => ?_
  refine SJ.nil ?_
  refine PJ.next ?_
  refine WJ.seq ?_
  refine WJ.quiet ?_
  refine QJ.step (YldS.yld (y_move rfl)) rfl ?_
  refine QJ.step (YldS.yld (y_assign rfl)) rfl ?_
  refine QJ.done ?_
  refine PJ.next ?_
  refine WJ.seq ?_
  refine WJ.quiet ?_
  refine QJ.step (YldS.yld (y_move rfl)) rfl ?_
  refine QJ.step (YldS.yld (y_bin rfl rfl rfl)) rfl ?_
  refine QJ.step (YldS.yld (y_assign rfl)) rfl ?_
  refine QJ.done ?_
  refine PJ.next ?_
  refine WJ.block ?_
  refine WJ.sel (L' := (fun (x : (List α) × Int × Int) => [box g4 77 [.func (.func gl) #[] lb, .func (.func gs) #[] sb], AA x.1]) (xs1, a2, w64 (b3 - 1))) [0, 1] ⟨by decide, rfl⟩ ?_
  refine WJ.sub (m' := (fun (x : (List α) × Int × Int) => [(3, pt g4 0), (6, .int .i64 x.2.1), (7, .int .i64 x.2.2)]) (xs1, a2, w64 (b3 - 1))) ⟨rfl, rfl, rfl, trivial⟩ ?_
  refine WJ.loop (X := (List α) × Int × Int) (fun N (x : (List α) × Int × Int) => sort_reverseRange_func_l1 N x.1 x.2.1 x.2.2 = some r) (fun (x : (List α) × Int × Int) => [(3, pt g4 0), (6, .int .i64 x.2.1), (7, .int .i64 x.2.2)]) (fun (x : (List α) × Int × Int) => [box g4 77 [.func (.func gl) #[] lb, .func (.func gs) #[] sb], AA x.1]) ?_ N (xs1, a2, w64 (b3 - 1)) hm
  · rintro N ⟨l5, i6, j7⟩ hI
    have hm := hI; clear hI
    cases N with
    | zero => cases hm
    | succ N =>
    unfold sort_reverseRange_func_l1 at hm
    refine WJ.seq ?_
    refine WJ.seq ?_
    refine WJ.quiet ?_
    refine QJ.step (YldS.yld (y_move rfl)) rfl ?_
    refine QJ.step (YldS.yld (y_move rfl)) rfl ?_
    refine QJ.step (YldS.yld (y_bin rfl rfl rfl)) rfl ?_
    refine QJ.done ?_
    refine PJ.next ?_
    refine WJ.cond (t := decide (i6 < j7)) rfl (fun hb8 => ?_) (fun hb8 => ?_)
    · replace hm := ifT hm hb8
      refine WJ.skip ?_
      refine PJ.next ?_
      refine WJ.block ?_
      refine WJ.seq ?_
      refine WJ.reg ?_
      refine SJ.q (YldS.yld (y_fldB (o := 0) fld77_1 rfl)) rfl ?_
      refine SJ.q (YldS.yld (y_loadB (k := 0) (off := 1) (v := .func (.func gs) #[] sb) rfl Try.isAgg70 rfl rfl)) rfl ?_
      refine SJ.q (YldS.yld (y_move rfl)) rfl ?_
      refine SJ.q (YldS.yld (y_move rfl)) rfl ?_
      obtain ⟨l10, h9, hm⟩ := bindS hm
      refine SJ.swapF hS h9 (k := 1) rfl rfl rfl rfl ?_
      refine SJ.nil ?_
      refine PJ.next ?_
      refine WJ.seq ?_
      refine WJ.quiet ?_
      refine QJ.step (YldS.yld (y_move rfl)) rfl ?_
      refine QJ.step (YldS.yld (y_bin rfl rfl rfl)) rfl ?_
      refine QJ.step (YldS.yld (y_assign rfl)) rfl ?_
      refine QJ.done ?_
      refine PJ.next ?_
      refine WJ.quiet ?_
      refine QJ.step (YldS.yld (y_move rfl)) rfl ?_
      refine QJ.step (YldS.yld (y_bin rfl rfl rfl)) rfl ?_
      refine QJ.step (YldS.yld (y_assign rfl)) rfl ?_
      refine QJ.done ?_
      refine PJ.block_normal ?_
      exact PJ.round (l10, w64 (i6 + 1), w64 (j7 - 1)) [0, 1] hm ⟨rfl, rfl, rfl, trivial⟩ ⟨by decide, rfl⟩
    · replace hm := ifF hm hb8
      refine WJ.exit ?_
      refine PJ.then_exit (PJ.then_exit (PJ.block_exit (PJ.fin ?_)))
      obtain rfl := Option.some.inj hm
      refine PJ.sel (L' := [AA l5]) [1] ⟨by decide, rfl⟩ ?_
      exact PJ.retn (vs := []) Try.results51 trivial ⟨rfl, rfl⟩

set_option maxRecDepth 100000 in
set_option maxHeartbeats 1000000 in
theorem ok_sort_partialInsertionSort_func {N : Nat} {xs1 : List α} {a2 : Int} {b3 : Int} {lt : α → α → Bool} {AA : List α → Asn} {gl gs : Nat} {lb sb : Array Value} {r : Bool × (List α)} (hm : sort_partialInsertionSort_func N xs1 a2 b3 lt = some r) (w : World) (S : Nat → Prop) (hS : SrtOk Try.prog AA lt gl gs lb sb) (hA : (AA xs1).holds w S) :
    Calls Try.prog 52 #[.agg #[.func (.func gl) #[] lb, .func (.func gs) #[] sb], .int .i64 a2, .int .i64 b3] w (RetG ⟨w, S⟩ fun u L => (u = .bool r.1 ∧ L = [AA r.2])) := by
  unfold sort_partialInsertionSort_func at hm
  refine Calls.enter1 hA [.agg #[.func (.func gl) #[] lb, .func (.func gs) #[] sb], .int .i64 a2, .int .i64 b3] Try.func52 rfl Try.ntmps52 rfl ?_
  refine WJ.seq ?_
  refine WJ.reg ?_
  refine SJ.box (cs := [.func (.func gl) #[] lb, .func (.func gs) #[] sb]) rfl rfl rfl fun g4 => ?_
  refine SJ.q (YldS.yld (y_assign rfl)) rfl ?_
  refine SJ.nil ?_
  refine PJ.next ?_
  refine WJ.seq ?_
  refine WJ.quiet ?_
  refine QJ.step (YldS.yld (y_move rfl)) rfl ?_
  refine QJ.step (YldS.yld (y_bin rfl rfl rfl)) rfl ?_
  refine QJ.step (YldS.yld (y_assign rfl)) rfl ?_
  refine QJ.done ?_
  refine PJ.next ?_
  obtain ⟨kj6, hk7, hm⟩ := withK_open hm
  refine WJ.join (X := (List α)) (fun (x : (List α)) => kj6 x = some r) (fun (x : (List α)) => []) (fun (x : (List α)) => [AA x]) ?_ ?_
  · clear hk7
    refine WJ.seq ?_
    refine WJ.quiet ?_
    refine QJ.step (YldS.yld (y_assign rfl)) rfl ?_
    refine QJ.done ?_
    refine PJ.next ?_
    refine WJ.block ?_
    refine WJ.sel (L' := (fun (x : (List α) × Int × Int) => [box g4 77 [.func (.func gl) #[] lb, .func (.func gs) #[] sb], AA x.1]) (xs1, w64 (a2 + 1), 0)) [0, 1] ⟨by decide, rfl⟩ ?_
    refine WJ.sub (m' := (fun (x : (List α) × Int × Int) => [(1, .int .i64 a2), (2, .int .i64 b3), (3, pt g4 0), (7, .int .i64 x.2.1), (8, .int .i64 x.2.2)]) (xs1, w64 (a2 + 1), 0)) ⟨rfl, rfl, rfl, rfl, rfl, trivial⟩ ?_
    refine WJ.loop (X := (List α) × Int × Int) (fun N (x : (List α) × Int × Int) => sort_partialInsertionSort_func_l1 kj6 lt a2 b3 N x.1 x.2.1 x.2.2 = some r) (fun (x : (List α) × Int × Int) => [(1, .int .i64 a2), (2, .int .i64 b3), (3, pt g4 0), (7, .int .i64 x.2.1), (8, .int .i64 x.2.2)]) (fun (x : (List α) × Int × Int) => [box g4 77 [.func (.func gl) #[] lb, .func (.func gs) #[] sb], AA x.1]) ?_ N (xs1, w64 (a2 + 1), 0) hm
    · rintro N ⟨l8, i9, j10⟩ hI
      have hm := hI; clear hI
      cases N with
      | zero => cases hm
      | succ N =>
      unfold sort_partialInsertionSort_func_l1 at hm
      refine WJ.seq ?_
      refine WJ.seq ?_
      refine WJ.quiet ?_
      refine QJ.step (YldS.yld (y_move rfl)) rfl ?_
      refine QJ.step (YldS.yld (y_bin rfl rfl rfl)) rfl ?_
      refine QJ.done ?_
      refine PJ.next ?_
      refine WJ.cond (t := decide (j10 < 5)) rfl (fun hb11 => ?_) (fun hb11 => ?_)
      · replace hm := ifT hm hb11
        refine WJ.skip ?_
        refine PJ.next ?_
        obtain ⟨kj14, hk15, hm⟩ := withK_open hm
        refine WJ.join (X := (List α) × Int) (fun (x : (List α) × Int) => kj14 x.1 x.2 = some r) (fun (x : (List α) × Int) => [(1, .int .i64 a2), (2, .int .i64 b3), (3, pt g4 0), (7, .int .i64 x.2), (8, .int .i64 j10)]) (fun (x : (List α) × Int) => [box g4 77 [.func (.func gl) #[] lb, .func (.func gs) #[] sb], AA x.1]) ?_ ?_
        · clear hk15
          refine WJ.block ?_
          obtain ⟨kj17, hk18, hm⟩ := withK_open hm
          refine WJ.join (X := Int) (fun (x : Int) => kj17 x = some r) (fun (x : Int) => [(1, .int .i64 a2), (2, .int .i64 b3), (3, pt g4 0), (7, .int .i64 x), (8, .int .i64 j10)]) (fun (x : Int) => [box g4 77 [.func (.func gl) #[] lb, .func (.func gs) #[] sb], AA l8]) ?_ ?_
          · clear hk18
            refine WJ.block ?_
            refine WJ.sel (L' := (fun (x : Int) => [box g4 77 [.func (.func gl) #[] lb, .func (.func gs) #[] sb], AA l8]) i9) [0, 1] ⟨by decide, rfl⟩ ?_
            refine WJ.sub (m' := (fun (x : Int) => [(1, .int .i64 a2), (2, .int .i64 b3), (3, pt g4 0), (7, .int .i64 x), (8, .int .i64 j10)]) i9) ⟨rfl, rfl, rfl, rfl, rfl, trivial⟩ ?_
            refine WJ.loop (X := Int) (fun N (x : Int) => sort_partialInsertionSort_func_l2 kj17 lt b3 l8 N x = some r) (fun (x : Int) => [(1, .int .i64 a2), (2, .int .i64 b3), (3, pt g4 0), (7, .int .i64 x), (8, .int .i64 j10)]) (fun (x : Int) => [box g4 77 [.func (.func gl) #[] lb, .func (.func gs) #[] sb], AA l8]) ?_ N i9 hm
            · rintro N i19 hI
              have hm := hI; clear hI
              cases N with
              | zero => cases hm
              | succ N =>
              unfold sort_partialInsertionSort_func_l2 at hm
              refine WJ.seq ?_
              refine WJ.seq ?_
              refine WJ.quiet ?_
              refine QJ.step (YldS.yld (y_move rfl)) rfl ?_
              refine QJ.step (YldS.yld (y_move rfl)) rfl ?_
              refine QJ.step (YldS.yld (y_bin rfl rfl rfl)) rfl ?_
              refine QJ.step (YldS.yld (y_move rfl)) rfl ?_
              obtain ⟨t20, h21, hm⟩ := bindS hm
              refine QJ.cut 8 [(1, .int .i64 a2), (2, .int .i64 b3), (3, pt g4 0), (7, .int .i64 i19), (8, .int .i64 j10), (28, .bool t20)] ?_ ?_
              · rcases Bool.eq_false_or_eq_true (decide (i19 < b3)) with hb22 | hb22
                · replace h21 := andT h21 hb22
                  refine QJ.on rfl rfl (cB hb22) (YldS.yld (y_fldB (o := 0) fld77_0 rfl)) rfl ?_
                  refine QJ.on rfl rfl (cB hb22) (YldS.yld (y_loadB (k := 0) (off := 0) (v := .func (.func gl) #[] lb) rfl Try.isAgg54 rfl rfl)) rfl ?_
                  refine QJ.on rfl rfl (cB hb22) (YldS.yld (y_move rfl)) rfl ?_
                  refine QJ.on rfl rfl (cB hb22) (YldS.yld (y_move rfl)) rfl ?_
                  refine QJ.on rfl rfl (cB hb22) (YldS.yld (y_bin rfl rfl rfl)) rfl ?_
                  obtain ⟨b24, h23, h21⟩ := bindS h21
                  refine QJ.on rfl rfl (cB hb22) (y_callL hS h23 (k := 1) rfl rfl rfl) rfl ?_
                  refine QJ.on rfl rfl (cB hb22) (YldS.yld (y_not rfl)) rfl ?_
                  refine QJ.step (YldS.yld (y_pick_t (cB hb22) rfl)) rfl ?_
                  obtain rfl := Option.some.inj h21
                  exact QJ.cut_end ⟨rfl, rfl, rfl, rfl, rfl, rfl, trivial⟩
                · obtain rfl := andF h21 hb22
                  refine QJ.off rfl rfl (cB hb22) rfl rfl ?_
                  refine QJ.off rfl rfl (cB hb22) rfl rfl ?_
                  refine QJ.off rfl rfl (cB hb22) rfl rfl ?_
                  refine QJ.off rfl rfl (cB hb22) rfl rfl ?_
                  refine QJ.off rfl rfl (cB hb22) rfl rfl ?_
                  refine QJ.off rfl rfl (cB hb22) rfl rfl ?_
                  refine QJ.off rfl rfl (cB hb22) rfl rfl ?_
                  refine QJ.step (YldS.yld (y_pick_f (cB hb22) rfl)) rfl ?_
                  exact QJ.cut_end ⟨rfl, rfl, rfl, rfl, rfl, rfl, trivial⟩
              refine QJ.done ?_
              refine PJ.next ?_
              refine WJ.cond (t := t20) rfl (fun hb25 => ?_) (fun hb25 => ?_)
              · replace hm := ifT hm hb25
                refine WJ.skip ?_
                refine PJ.next ?_
                refine WJ.block ?_
                refine WJ.quiet ?_
                refine QJ.step (YldS.yld (y_move rfl)) rfl ?_
                refine QJ.step (YldS.yld (y_bin rfl rfl rfl)) rfl ?_
                refine QJ.step (YldS.yld (y_assign rfl)) rfl ?_
                refine QJ.done ?_
                refine PJ.block_normal ?_
                exact PJ.round (w64 (i19 + 1)) [0, 1] hm ⟨rfl, rfl, rfl, rfl, rfl, trivial⟩ ⟨by decide, rfl⟩
              · replace hm := ifF hm hb25
                refine WJ.exit ?_
                refine PJ.then_exit (PJ.then_exit (PJ.block_exit ?_))
                exact PJ.joined i19 [0, 1] hm ⟨rfl, rfl, rfl, rfl, rfl, trivial⟩ ⟨by decide, rfl⟩
          · rintro i16 hm
            subst hk18
            refine WJ.seq ?_
            refine WJ.seq ?_
            refine WJ.quiet ?_
            refine QJ.step (YldS.yld (y_move rfl)) rfl ?_
            refine QJ.step (YldS.yld (y_move rfl)) rfl ?_
            refine QJ.step (YldS.yld (y_bin rfl rfl rfl)) rfl ?_
            refine QJ.done ?_
            refine PJ.next ?_
            refine WJ.cond (t := (i16 == b3)) rfl (fun hb26 => ?_) (fun hb26 => ?_)
            · replace hm := ifT hm hb26
              refine WJ.seq ?_
              refine WJ.quiet ?_
              refine QJ.step (YldS.yld (y_assign rfl)) rfl ?_
              refine QJ.done ?_
              refine PJ.next ?_
              refine WJ.ret ?_
              refine PJ.then_ret (PJ.block_ret (PJ.then_ret (PJ.then_ret (PJ.block_ret (PJ.then_ret ?_)))))
              obtain rfl := Option.some.inj hm
              refine PJ.sel (L' := [AA l8]) [1] ⟨by decide, rfl⟩ ?_
              exact PJ.retn (vs := [.bool true]) Try.results52 ⟨rfl, trivial⟩ ⟨rfl, rfl⟩
            · replace hm := ifF hm hb26
              refine WJ.skip ?_
              refine PJ.next ?_
              refine WJ.seq ?_
              refine WJ.seq ?_
              refine WJ.quiet ?_
              refine QJ.step (YldS.yld (y_move rfl)) rfl ?_
              refine QJ.step (YldS.yld (y_move rfl)) rfl ?_
              refine QJ.step (YldS.yld (y_bin rfl rfl rfl)) rfl ?_
              refine QJ.step (YldS.yld (y_bin rfl rfl rfl)) rfl ?_
              refine QJ.done ?_
              refine PJ.next ?_
              refine WJ.cond (t := decide ((w64 (b3 - a2)) < 50)) rfl (fun hb27 => ?_) (fun hb27 => ?_)
              · replace hm := ifT hm hb27
                refine WJ.seq ?_
                refine WJ.quiet ?_
                refine QJ.step (YldS.yld (y_assign rfl)) rfl ?_
                refine QJ.done ?_
                refine PJ.next ?_
                refine WJ.ret ?_
                refine PJ.then_ret (PJ.block_ret (PJ.then_ret (PJ.then_ret (PJ.block_ret (PJ.then_ret ?_)))))
                obtain rfl := Option.some.inj hm
                refine PJ.sel (L' := [AA l8]) [1] ⟨by decide, rfl⟩ ?_
                exact PJ.retn (vs := [.bool false]) Try.results52 ⟨rfl, trivial⟩ ⟨rfl, rfl⟩
              · replace hm := ifF hm hb27
                refine WJ.skip ?_
                refine PJ.next ?_
                refine WJ.seq ?_
                refine WJ.reg ?_
                refine SJ.q (YldS.yld (y_fldB (o := 0) fld77_1 rfl)) rfl ?_
                refine SJ.q (YldS.yld (y_loadB (k := 0) (off := 1) (v := .func (.func gs) #[] sb) rfl Try.isAgg70 rfl rfl)) rfl ?_
                refine SJ.q (YldS.yld (y_move rfl)) rfl ?_
                refine SJ.q (YldS.yld (y_move rfl)) rfl ?_
                refine SJ.q (YldS.yld (y_bin rfl rfl rfl)) rfl ?_
                obtain ⟨l29, h28, hm⟩ := bindS hm
                refine SJ.swapF hS h28 (k := 1) rfl rfl rfl rfl ?_
                refine SJ.nil ?_
                refine PJ.next ?_
                obtain ⟨kj31, hk32, hm⟩ := withK_open hm
                refine WJ.join (X := (List α)) (fun (x : (List α)) => kj31 x = some r) (fun (x : (List α)) => [(1, .int .i64 a2), (2, .int .i64 b3), (3, pt g4 0), (7, .int .i64 i16), (8, .int .i64 j10)]) (fun (x : (List α)) => [box g4 77 [.func (.func gl) #[] lb, .func (.func gs) #[] sb], AA x]) ?_ ?_
                · clear hk32
                  refine WJ.seq ?_
                  refine WJ.quiet ?_
                  refine QJ.step (YldS.yld (y_move rfl)) rfl ?_
                  refine QJ.step (YldS.yld (y_move rfl)) rfl ?_
                  refine QJ.step (YldS.yld (y_bin rfl rfl rfl)) rfl ?_
                  refine QJ.step (YldS.yld (y_bin rfl rfl rfl)) rfl ?_
                  refine QJ.done ?_
                  refine PJ.next ?_
                  refine WJ.cond (t := decide ((w64 (i16 - a2)) ≥ 2)) rfl (fun hb33 => ?_) (fun hb33 => ?_)
                  · replace hm := ifT hm hb33
                    refine WJ.seq ?_
                    refine WJ.quiet ?_
                    refine QJ.step (YldS.yld (y_move rfl)) rfl ?_
                    refine QJ.step (YldS.yld (y_bin rfl rfl rfl)) rfl ?_
                    refine QJ.step (YldS.yld (y_assign rfl)) rfl ?_
                    refine QJ.done ?_
                    refine PJ.next ?_
                    refine WJ.block ?_
                    refine WJ.sel (L' := (fun (x : (List α) × Int) => [box g4 77 [.func (.func gl) #[] lb, .func (.func gs) #[] sb], AA x.1]) (l29, w64 (i16 - 1))) [0, 1] ⟨by decide, rfl⟩ ?_
                    refine WJ.sub (m' := (fun (x : (List α) × Int) => [(1, .int .i64 a2), (2, .int .i64 b3), (3, pt g4 0), (7, .int .i64 i16), (8, .int .i64 j10), (9, .int .i64 x.2)]) (l29, w64 (i16 - 1))) ⟨rfl, rfl, rfl, rfl, rfl, rfl, trivial⟩ ?_
                    refine WJ.loop (X := (List α) × Int) (fun N (x : (List α) × Int) => sort_partialInsertionSort_func_l3 kj31 lt N x.1 x.2 = some r) (fun (x : (List α) × Int) => [(1, .int .i64 a2), (2, .int .i64 b3), (3, pt g4 0), (7, .int .i64 i16), (8, .int .i64 j10), (9, .int .i64 x.2)]) (fun (x : (List α) × Int) => [box g4 77 [.func (.func gl) #[] lb, .func (.func gs) #[] sb], AA x.1]) ?_ N (l29, w64 (i16 - 1)) hm
                    · rintro N ⟨l34, j35⟩ hI
                      have hm := hI; clear hI
                      cases N with
                      | zero => cases hm
                      | succ N =>
                      unfold sort_partialInsertionSort_func_l3 at hm
                      refine WJ.seq ?_
                      refine WJ.seq ?_
                      refine WJ.quiet ?_
                      refine QJ.step (YldS.yld (y_move rfl)) rfl ?_
                      refine QJ.step (YldS.yld (y_bin rfl rfl rfl)) rfl ?_
                      refine QJ.done ?_
                      refine PJ.next ?_
                      refine WJ.cond (t := decide (j35 ≥ 1)) rfl (fun hb36 => ?_) (fun hb36 => ?_)
                      · replace hm := ifT hm hb36
                        refine WJ.skip ?_
                        refine PJ.next ?_
                        refine WJ.seq ?_
                        refine WJ.block ?_
                        refine WJ.seq ?_
                        refine WJ.seq ?_
                        refine WJ.quiet ?_
                        refine QJ.step (YldS.yld (y_fldB (o := 0) fld77_0 rfl)) rfl ?_
                        refine QJ.step (YldS.yld (y_loadB (k := 0) (off := 0) (v := .func (.func gl) #[] lb) rfl Try.isAgg54 rfl rfl)) rfl ?_
                        refine QJ.step (YldS.yld (y_move rfl)) rfl ?_
                        refine QJ.step (YldS.yld (y_move rfl)) rfl ?_
                        refine QJ.step (YldS.yld (y_bin rfl rfl rfl)) rfl ?_
                        obtain ⟨b38, h37, hm⟩ := bindS hm
                        refine QJ.step (y_callL hS h37 (k := 1) rfl rfl rfl) rfl ?_
                        refine QJ.step (YldS.yld (y_not rfl)) rfl ?_
                        refine QJ.done ?_
                        refine PJ.next ?_
                        refine WJ.cond (t := !b38) rfl (fun hb39 => ?_) (fun hb39 => ?_)
                        · replace hm := ifT hm hb39
                          refine WJ.exit ?_
                          refine PJ.then_exit (PJ.block_exit_ne rfl (PJ.then_exit (PJ.then_exit (PJ.block_exit ?_))))
                          exact PJ.joined l34 [0, 1] hm ⟨rfl, rfl, rfl, rfl, rfl, trivial⟩ ⟨by decide, rfl⟩
                        · replace hm := ifF hm hb39
                          refine WJ.skip ?_
                          refine PJ.next ?_
                          refine WJ.reg ?_
                          refine SJ.q (YldS.yld (y_fldB (o := 0) fld77_1 rfl)) rfl ?_
                          refine SJ.q (YldS.yld (y_loadB (k := 0) (off := 1) (v := .func (.func gs) #[] sb) rfl Try.isAgg70 rfl rfl)) rfl ?_
                          refine SJ.q (YldS.yld (y_move rfl)) rfl ?_
                          refine SJ.q (YldS.yld (y_move rfl)) rfl ?_
                          refine SJ.q (YldS.yld (y_bin rfl rfl rfl)) rfl ?_
                          obtain ⟨l41, h40, hm⟩ := bindS hm
                          refine SJ.swapF hS h40 (k := 1) rfl rfl rfl rfl ?_
                          refine SJ.nil ?_
                          refine PJ.block_normal (PJ.next ?_)
                          refine WJ.quiet ?_
                          refine QJ.step (YldS.yld (y_move rfl)) rfl ?_
                          refine QJ.step (YldS.yld (y_bin rfl rfl rfl)) rfl ?_
                          refine QJ.step (YldS.yld (y_assign rfl)) rfl ?_
                          refine QJ.done ?_
                          exact PJ.round (l41, w64 (j35 - 1)) [0, 1] hm ⟨rfl, rfl, rfl, rfl, rfl, rfl, trivial⟩ ⟨by decide, rfl⟩
                      · replace hm := ifF hm hb36
                        refine WJ.exit ?_
                        refine PJ.then_exit (PJ.then_exit (PJ.block_exit ?_))
                        exact PJ.joined l34 [0, 1] hm ⟨rfl, rfl, rfl, rfl, rfl, trivial⟩ ⟨by decide, rfl⟩
                  · replace hm := ifF hm hb33
                    refine WJ.skip ?_
                    exact PJ.joined l29 [0, 1] hm ⟨rfl, rfl, rfl, rfl, rfl, trivial⟩ ⟨by decide, rfl⟩
                · rintro l30 hm
                  subst hk32
                  refine WJ.seq ?_
                  refine WJ.quiet ?_
                  refine QJ.step (YldS.yld (y_move rfl)) rfl ?_
                  refine QJ.step (YldS.yld (y_move rfl)) rfl ?_
                  refine QJ.step (YldS.yld (y_bin rfl rfl rfl)) rfl ?_
                  refine QJ.step (YldS.yld (y_bin rfl rfl rfl)) rfl ?_
                  refine QJ.done ?_
                  refine PJ.next ?_
                  refine WJ.cond (t := decide ((w64 (b3 - i16)) ≥ 2)) rfl (fun hb42 => ?_) (fun hb42 => ?_)
                  · replace hm := ifT hm hb42
                    refine WJ.seq ?_
                    refine WJ.quiet ?_
                    refine QJ.step (YldS.yld (y_move rfl)) rfl ?_
                    refine QJ.step (YldS.yld (y_bin rfl rfl rfl)) rfl ?_
                    refine QJ.step (YldS.yld (y_assign rfl)) rfl ?_
                    refine QJ.done ?_
                    refine PJ.next ?_
                    refine WJ.block ?_
                    refine WJ.sel (L' := (fun (x : (List α) × Int) => [box g4 77 [.func (.func gl) #[] lb, .func (.func gs) #[] sb], AA x.1]) (l30, w64 (i16 + 1))) [0, 1] ⟨by decide, rfl⟩ ?_
                    refine WJ.sub (m' := (fun (x : (List α) × Int) => [(1, .int .i64 a2), (2, .int .i64 b3), (3, pt g4 0), (7, .int .i64 i16), (8, .int .i64 j10), (10, .int .i64 x.2)]) (l30, w64 (i16 + 1))) ⟨rfl, rfl, rfl, rfl, rfl, rfl, trivial⟩ ?_
                    refine WJ.loop (X := (List α) × Int) (fun N (x : (List α) × Int) => sort_partialInsertionSort_func_l4 kj14 lt b3 i16 N x.1 x.2 = some r) (fun (x : (List α) × Int) => [(1, .int .i64 a2), (2, .int .i64 b3), (3, pt g4 0), (7, .int .i64 i16), (8, .int .i64 j10), (10, .int .i64 x.2)]) (fun (x : (List α) × Int) => [box g4 77 [.func (.func gl) #[] lb, .func (.func gs) #[] sb], AA x.1]) ?_ N (l30, w64 (i16 + 1)) hm
                    · rintro N ⟨l43, j44⟩ hI
                      have hm := hI; clear hI
                      cases N with
                      | zero => cases hm
                      | succ N =>
                      unfold sort_partialInsertionSort_func_l4 at hm
                      refine WJ.seq ?_
                      refine WJ.seq ?_
                      refine WJ.quiet ?_
                      refine QJ.step (YldS.yld (y_move rfl)) rfl ?_
                      refine QJ.step (YldS.yld (y_move rfl)) rfl ?_
                      refine QJ.step (YldS.yld (y_bin rfl rfl rfl)) rfl ?_
                      refine QJ.done ?_
                      refine PJ.next ?_
                      refine WJ.cond (t := decide (j44 < b3)) rfl (fun hb45 => ?_) (fun hb45 => ?_)
                      · replace hm := ifT hm hb45
                        refine WJ.skip ?_
                        refine PJ.next ?_
                        refine WJ.seq ?_
                        refine WJ.block ?_
                        refine WJ.seq ?_
                        refine WJ.seq ?_
                        refine WJ.quiet ?_
                        refine QJ.step (YldS.yld (y_fldB (o := 0) fld77_0 rfl)) rfl ?_
                        refine QJ.step (YldS.yld (y_loadB (k := 0) (off := 0) (v := .func (.func gl) #[] lb) rfl Try.isAgg54 rfl rfl)) rfl ?_
                        refine QJ.step (YldS.yld (y_move rfl)) rfl ?_
                        refine QJ.step (YldS.yld (y_move rfl)) rfl ?_
                        refine QJ.step (YldS.yld (y_bin rfl rfl rfl)) rfl ?_
                        obtain ⟨b47, h46, hm⟩ := bindS hm
                        refine QJ.step (y_callL hS h46 (k := 1) rfl rfl rfl) rfl ?_
                        refine QJ.step (YldS.yld (y_not rfl)) rfl ?_
                        refine QJ.done ?_
                        refine PJ.next ?_
                        refine WJ.cond (t := !b47) rfl (fun hb48 => ?_) (fun hb48 => ?_)
                        · replace hm := ifT hm hb48
                          refine WJ.exit ?_
                          refine PJ.then_exit (PJ.block_exit_ne rfl (PJ.then_exit (PJ.then_exit (PJ.block_exit (PJ.block_normal ?_)))))
                          exact PJ.joined (l43, i16) [0, 1] hm ⟨rfl, rfl, rfl, rfl, rfl, trivial⟩ ⟨by decide, rfl⟩
                        · replace hm := ifF hm hb48
                          refine WJ.skip ?_
                          refine PJ.next ?_
                          refine WJ.reg ?_
                          refine SJ.q (YldS.yld (y_fldB (o := 0) fld77_1 rfl)) rfl ?_
                          refine SJ.q (YldS.yld (y_loadB (k := 0) (off := 1) (v := .func (.func gs) #[] sb) rfl Try.isAgg70 rfl rfl)) rfl ?_
                          refine SJ.q (YldS.yld (y_move rfl)) rfl ?_
                          refine SJ.q (YldS.yld (y_move rfl)) rfl ?_
                          refine SJ.q (YldS.yld (y_bin rfl rfl rfl)) rfl ?_
                          obtain ⟨l50, h49, hm⟩ := bindS hm
                          refine SJ.swapF hS h49 (k := 1) rfl rfl rfl rfl ?_
                          refine SJ.nil ?_
                          refine PJ.block_normal (PJ.next ?_)
                          refine WJ.quiet ?_
                          refine QJ.step (YldS.yld (y_move rfl)) rfl ?_
                          refine QJ.step (YldS.yld (y_bin rfl rfl rfl)) rfl ?_
                          refine QJ.step (YldS.yld (y_assign rfl)) rfl ?_
                          refine QJ.done ?_
                          exact PJ.round (l50, w64 (j44 + 1)) [0, 1] hm ⟨rfl, rfl, rfl, rfl, rfl, rfl, trivial⟩ ⟨by decide, rfl⟩
                      · replace hm := ifF hm hb45
                        refine WJ.exit ?_
                        refine PJ.then_exit (PJ.then_exit (PJ.block_exit (PJ.block_normal ?_)))
                        exact PJ.joined (l43, i16) [0, 1] hm ⟨rfl, rfl, rfl, rfl, rfl, trivial⟩ ⟨by decide, rfl⟩
                  · replace hm := ifF hm hb42
                    refine WJ.skip ?_
                    refine PJ.block_normal ?_
                    exact PJ.joined (l30, i16) [0, 1] hm ⟨rfl, rfl, rfl, rfl, rfl, trivial⟩ ⟨by decide, rfl⟩
        · rintro ⟨l12, i13⟩ hm
          subst hk15
          refine WJ.quiet ?_
          refine QJ.step (YldS.yld (y_move rfl)) rfl ?_
          refine QJ.step (YldS.yld (y_bin rfl rfl rfl)) rfl ?_
          refine QJ.step (YldS.yld (y_assign rfl)) rfl ?_
          refine QJ.done ?_
          exact PJ.round (l12, i13, w64 (j10 + 1)) [0, 1] hm ⟨rfl, rfl, rfl, rfl, rfl, trivial⟩ ⟨by decide, rfl⟩
      · replace hm := ifF hm hb11
        refine WJ.exit ?_
        refine PJ.then_exit (PJ.then_exit (PJ.block_exit ?_))
        exact PJ.joined l8 [1] hm trivial ⟨by decide, rfl⟩
  · rintro l5 hm
    subst hk7
    refine WJ.seq ?_
    refine WJ.quiet ?_
    refine QJ.step (YldS.yld (y_assign rfl)) rfl ?_
    refine QJ.done ?_
    refine PJ.next ?_
    refine WJ.ret ?_
    obtain rfl := Option.some.inj hm
    refine PJ.sel (L' := [AA l5]) [0] ⟨by decide, rfl⟩ ?_
    exact PJ.retn (vs := [.bool false]) Try.results52 ⟨rfl, trivial⟩ ⟨rfl, rfl⟩

set_option maxRecDepth 100000 in
set_option maxHeartbeats 1000000 in
theorem ok_sort_partitionEqual_func {N : Nat} {xs1 : List α} {a2 : Int} {b3 : Int} {pivot4 : Int} {lt : α → α → Bool} {AA : List α → Asn} {gl gs : Nat} {lb sb : Array Value} {r : Int × (List α)} (hm : sort_partitionEqual_func N xs1 a2 b3 pivot4 lt = some r) (w : World) (S : Nat → Prop) (hS : SrtOk Try.prog AA lt gl gs lb sb) (hA : (AA xs1).holds w S) :
    Calls Try.prog 53 #[.agg #[.func (.func gl) #[] lb, .func (.func gs) #[] sb], .int .i64 a2, .int .i64 b3, .int .i64 pivot4] w (RetG ⟨w, S⟩ fun u L => (u = .int .i64 r.1 ∧ L = [AA r.2])) := by
  unfold sort_partitionEqual_func at hm
  refine Calls.enter1 hA [.agg #[.func (.func gl) #[] lb, .func (.func gs) #[] sb], .int .i64 a2, .int .i64 b3, .int .i64 pivot4] Try.func53 rfl Try.ntmps53 rfl ?_
  refine WJ.seq ?_
  refine WJ.reg ?_
  refine SJ.box (cs := [.func (.func gl) #[] lb, .func (.func gs) #[] sb]) rfl rfl rfl fun g5 => ?_
  refine SJ.q (YldS.yld (y_assign rfl)) rfl ?_
  refine SJ.nil ?_
  refine PJ.next ?_
  refine WJ.seq ?_
  refine WJ.reg ?_
  refine SJ.q (YldS.yld (y_fldB (o := 0) fld77_1 rfl)) rfl ?_
  refine SJ.q (YldS.yld (y_loadB (k := 0) (off := 1) (v := .func (.func gs) #[] sb) rfl Try.isAgg70 rfl rfl)) rfl ?_
  refine SJ.q (YldS.yld (y_move rfl)) rfl ?_
  refine SJ.q (YldS.yld (y_move rfl)) rfl ?_
  obtain ⟨l7, h6, hm⟩ := bindS hm
  refine SJ.swapF hS h6 (k := 1) rfl rfl rfl rfl ?_
  refine SJ.nil ?_
  refine PJ.next ?_
  refine WJ.seq ?_
  refine WJ.quiet ?_
  refine QJ.step (YldS.yld (y_move rfl)) rfl ?_
  refine QJ.step (YldS.yld (y_bin rfl rfl rfl)) rfl ?_
  refine QJ.step (YldS.yld (y_move rfl)) rfl ?_
  refine QJ.step (YldS.yld (y_bin rfl rfl rfl)) rfl ?_
  refine QJ.step (YldS.yld (y_assign rfl)) rfl ?_
  refine QJ.step (YldS.yld (y_assign rfl)) rfl ?_
  refine QJ.done ?_
  refine PJ.next ?_
  obtain ⟨kj10, hk11, hm⟩ := withK_open hm
  refine WJ.join (X := (List α) × Int) (fun (x : (List α) × Int) => kj10 x.1 x.2 = some r) (fun (x : (List α) × Int) => [(9, .int .i64 x.2)]) (fun (x : (List α) × Int) => [AA x.1]) ?_ ?_
  · clear hk11
    refine WJ.block ?_
    refine WJ.sel (L' := (fun (x : (List α) × Int × Int) => [box g5 77 [.func (.func gl) #[] lb, .func (.func gs) #[] sb], AA x.1]) (l7, w64 (a2 + 1), w64 (b3 - 1))) [0, 1] ⟨by decide, rfl⟩ ?_
    refine WJ.sub (m' := (fun (x : (List α) × Int × Int) => [(1, .int .i64 a2), (4, pt g5 0), (9, .int .i64 x.2.1), (10, .int .i64 x.2.2)]) (l7, w64 (a2 + 1), w64 (b3 - 1))) ⟨rfl, rfl, rfl, rfl, trivial⟩ ?_
    refine WJ.loop (X := (List α) × Int × Int) (fun N (x : (List α) × Int × Int) => sort_partitionEqual_func_l1 kj10 lt a2 N x.1 x.2.1 x.2.2 = some r) (fun (x : (List α) × Int × Int) => [(1, .int .i64 a2), (4, pt g5 0), (9, .int .i64 x.2.1), (10, .int .i64 x.2.2)]) (fun (x : (List α) × Int × Int) => [box g5 77 [.func (.func gl) #[] lb, .func (.func gs) #[] sb], AA x.1]) ?_ N (l7, w64 (a2 + 1), w64 (b3 - 1)) hm
    · rintro N ⟨l12, i13, j14⟩ hI
      have hm := hI; clear hI
      cases N with
      | zero => cases hm
      | succ N =>
      unfold sort_partitionEqual_func_l1 at hm
      refine WJ.block ?_
      obtain ⟨kj16, hk17, hm⟩ := withK_open hm
      refine WJ.join (X := Int) (fun (x : Int) => kj16 x = some r) (fun (x : Int) => [(1, .int .i64 a2), (4, pt g5 0), (9, .int .i64 x), (10, .int .i64 j14)]) (fun (x : Int) => [box g5 77 [.func (.func gl) #[] lb, .func (.func gs) #[] sb], AA l12]) ?_ ?_
      · clear hk17
        refine WJ.block ?_
        refine WJ.sel (L' := (fun (x : Int) => [box g5 77 [.func (.func gl) #[] lb, .func (.func gs) #[] sb], AA l12]) i13) [0, 1] ⟨by decide, rfl⟩ ?_
        refine WJ.sub (m' := (fun (x : Int) => [(1, .int .i64 a2), (4, pt g5 0), (9, .int .i64 x), (10, .int .i64 j14)]) i13) ⟨rfl, rfl, rfl, rfl, trivial⟩ ?_
        refine WJ.loop (X := Int) (fun N (x : Int) => sort_partitionEqual_func_l2 kj16 lt a2 l12 j14 N x = some r) (fun (x : Int) => [(1, .int .i64 a2), (4, pt g5 0), (9, .int .i64 x), (10, .int .i64 j14)]) (fun (x : Int) => [box g5 77 [.func (.func gl) #[] lb, .func (.func gs) #[] sb], AA l12]) ?_ N i13 hm
        · rintro N i18 hI
          have hm := hI; clear hI
          cases N with
          | zero => cases hm
          | succ N =>
          unfold sort_partitionEqual_func_l2 at hm
          refine WJ.seq ?_
          refine WJ.seq ?_
          refine WJ.quiet ?_
          refine QJ.step (YldS.yld (y_move rfl)) rfl ?_
          refine QJ.step (YldS.yld (y_move rfl)) rfl ?_
          refine QJ.step (YldS.yld (y_bin rfl rfl rfl)) rfl ?_
          refine QJ.step (YldS.yld (y_move rfl)) rfl ?_
          obtain ⟨t19, h20, hm⟩ := bindS hm
          refine QJ.cut 7 [(1, .int .i64 a2), (4, pt g5 0), (9, .int .i64 i18), (10, .int .i64 j14), (30, .bool t19)] ?_ ?_
          · rcases Bool.eq_false_or_eq_true (decide (i18 ≤ j14)) with hb21 | hb21
            · replace h20 := andT h20 hb21
              refine QJ.on rfl rfl (cB hb21) (YldS.yld (y_fldB (o := 0) fld77_0 rfl)) rfl ?_
              refine QJ.on rfl rfl (cB hb21) (YldS.yld (y_loadB (k := 0) (off := 0) (v := .func (.func gl) #[] lb) rfl Try.isAgg54 rfl rfl)) rfl ?_
              refine QJ.on rfl rfl (cB hb21) (YldS.yld (y_move rfl)) rfl ?_
              refine QJ.on rfl rfl (cB hb21) (YldS.yld (y_move rfl)) rfl ?_
              obtain ⟨b23, h22, h20⟩ := bindS h20
              refine QJ.on rfl rfl (cB hb21) (y_callL hS h22 (k := 1) rfl rfl rfl) rfl ?_
              refine QJ.on rfl rfl (cB hb21) (YldS.yld (y_not rfl)) rfl ?_
              refine QJ.step (YldS.yld (y_pick_t (cB hb21) rfl)) rfl ?_
              obtain rfl := Option.some.inj h20
              exact QJ.cut_end ⟨rfl, rfl, rfl, rfl, rfl, trivial⟩
            · obtain rfl := andF h20 hb21
              refine QJ.off rfl rfl (cB hb21) rfl rfl ?_
              refine QJ.off rfl rfl (cB hb21) rfl rfl ?_
              refine QJ.off rfl rfl (cB hb21) rfl rfl ?_
              refine QJ.off rfl rfl (cB hb21) rfl rfl ?_
              refine QJ.off rfl rfl (cB hb21) rfl rfl ?_
              refine QJ.off rfl rfl (cB hb21) rfl rfl ?_
              refine QJ.step (YldS.yld (y_pick_f (cB hb21) rfl)) rfl ?_
              exact QJ.cut_end ⟨rfl, rfl, rfl, rfl, rfl, trivial⟩
          refine QJ.done ?_
          refine PJ.next ?_
          refine WJ.cond (t := t19) rfl (fun hb24 => ?_) (fun hb24 => ?_)
          · replace hm := ifT hm hb24
            refine WJ.skip ?_
            refine PJ.next ?_
            refine WJ.block ?_
            refine WJ.quiet ?_
            refine QJ.step (YldS.yld (y_move rfl)) rfl ?_
            refine QJ.step (YldS.yld (y_bin rfl rfl rfl)) rfl ?_
            refine QJ.step (YldS.yld (y_assign rfl)) rfl ?_
            refine QJ.done ?_
            refine PJ.block_normal ?_
            exact PJ.round (w64 (i18 + 1)) [0, 1] hm ⟨rfl, rfl, rfl, rfl, trivial⟩ ⟨by decide, rfl⟩
          · replace hm := ifF hm hb24
            refine WJ.exit ?_
            refine PJ.then_exit (PJ.then_exit (PJ.block_exit ?_))
            exact PJ.joined i18 [0, 1] hm ⟨rfl, rfl, rfl, rfl, trivial⟩ ⟨by decide, rfl⟩
      · rintro i15 hm
        subst hk17
        obtain ⟨kj26, hk27, hm⟩ := withK_open hm
        refine WJ.join (X := Int) (fun (x : Int) => kj26 x = some r) (fun (x : Int) => [(1, .int .i64 a2), (4, pt g5 0), (9, .int .i64 i15), (10, .int .i64 x)]) (fun (x : Int) => [box g5 77 [.func (.func gl) #[] lb, .func (.func gs) #[] sb], AA l12]) ?_ ?_
        · clear hk27
          refine WJ.block ?_
          refine WJ.sel (L' := (fun (x : Int) => [box g5 77 [.func (.func gl) #[] lb, .func (.func gs) #[] sb], AA l12]) j14) [0, 1] ⟨by decide, rfl⟩ ?_
          refine WJ.sub (m' := (fun (x : Int) => [(1, .int .i64 a2), (4, pt g5 0), (9, .int .i64 i15), (10, .int .i64 x)]) j14) ⟨rfl, rfl, rfl, rfl, trivial⟩ ?_
          refine WJ.loop (X := Int) (fun N (x : Int) => sort_partitionEqual_func_l3 kj26 lt a2 l12 i15 N x = some r) (fun (x : Int) => [(1, .int .i64 a2), (4, pt g5 0), (9, .int .i64 i15), (10, .int .i64 x)]) (fun (x : Int) => [box g5 77 [.func (.func gl) #[] lb, .func (.func gs) #[] sb], AA l12]) ?_ N j14 hm
          · rintro N j28 hI
            have hm := hI; clear hI
            cases N with
            | zero => cases hm
            | succ N =>
            unfold sort_partitionEqual_func_l3 at hm
            refine WJ.seq ?_
            refine WJ.seq ?_
            refine WJ.quiet ?_
            refine QJ.step (YldS.yld (y_move rfl)) rfl ?_
            refine QJ.step (YldS.yld (y_move rfl)) rfl ?_
            refine QJ.step (YldS.yld (y_bin rfl rfl rfl)) rfl ?_
            refine QJ.step (YldS.yld (y_move rfl)) rfl ?_
            obtain ⟨t29, h30, hm⟩ := bindS hm
            refine QJ.cut 6 [(1, .int .i64 a2), (4, pt g5 0), (9, .int .i64 i15), (10, .int .i64 j28), (42, .bool t29)] ?_ ?_
            · rcases Bool.eq_false_or_eq_true (decide (i15 ≤ j28)) with hb31 | hb31
              · replace h30 := andT h30 hb31
                refine QJ.on rfl rfl (cB hb31) (YldS.yld (y_fldB (o := 0) fld77_0 rfl)) rfl ?_
                refine QJ.on rfl rfl (cB hb31) (YldS.yld (y_loadB (k := 0) (off := 0) (v := .func (.func gl) #[] lb) rfl Try.isAgg54 rfl rfl)) rfl ?_
                refine QJ.on rfl rfl (cB hb31) (YldS.yld (y_move rfl)) rfl ?_
                refine QJ.on rfl rfl (cB hb31) (YldS.yld (y_move rfl)) rfl ?_
                obtain ⟨b33, h32, h30⟩ := bindS h30
                refine QJ.on rfl rfl (cB hb31) (y_callL hS h32 (k := 1) rfl rfl rfl) rfl ?_
                refine QJ.step (YldS.yld (y_pick_t (cB hb31) rfl)) rfl ?_
                obtain rfl := Option.some.inj h30
                exact QJ.cut_end ⟨rfl, rfl, rfl, rfl, rfl, trivial⟩
              · obtain rfl := andF h30 hb31
                refine QJ.off rfl rfl (cB hb31) rfl rfl ?_
                refine QJ.off rfl rfl (cB hb31) rfl rfl ?_
                refine QJ.off rfl rfl (cB hb31) rfl rfl ?_
                refine QJ.off rfl rfl (cB hb31) rfl rfl ?_
                refine QJ.off rfl rfl (cB hb31) rfl rfl ?_
                refine QJ.step (YldS.yld (y_pick_f (cB hb31) rfl)) rfl ?_
                exact QJ.cut_end ⟨rfl, rfl, rfl, rfl, rfl, trivial⟩
            refine QJ.done ?_
            refine PJ.next ?_
            refine WJ.cond (t := t29) rfl (fun hb34 => ?_) (fun hb34 => ?_)
            · replace hm := ifT hm hb34
              refine WJ.skip ?_
              refine PJ.next ?_
              refine WJ.block ?_
              refine WJ.quiet ?_
              refine QJ.step (YldS.yld (y_move rfl)) rfl ?_
              refine QJ.step (YldS.yld (y_bin rfl rfl rfl)) rfl ?_
              refine QJ.step (YldS.yld (y_assign rfl)) rfl ?_
              refine QJ.done ?_
              refine PJ.block_normal ?_
              exact PJ.round (w64 (j28 - 1)) [0, 1] hm ⟨rfl, rfl, rfl, rfl, trivial⟩ ⟨by decide, rfl⟩
            · replace hm := ifF hm hb34
              refine WJ.exit ?_
              refine PJ.then_exit (PJ.then_exit (PJ.block_exit ?_))
              exact PJ.joined j28 [0, 1] hm ⟨rfl, rfl, rfl, rfl, trivial⟩ ⟨by decide, rfl⟩
        · rintro j25 hm
          subst hk27
          refine WJ.seq ?_
          refine WJ.seq ?_
          refine WJ.quiet ?_
          refine QJ.step (YldS.yld (y_move rfl)) rfl ?_
          refine QJ.step (YldS.yld (y_move rfl)) rfl ?_
          refine QJ.step (YldS.yld (y_bin rfl rfl rfl)) rfl ?_
          refine QJ.done ?_
          refine PJ.next ?_
          refine WJ.cond (t := decide (i15 > j25)) rfl (fun hb35 => ?_) (fun hb35 => ?_)
          · replace hm := ifT hm hb35
            refine WJ.exit ?_
            refine PJ.then_exit (PJ.block_exit_ne rfl (PJ.then_exit (PJ.block_exit ?_)))
            exact PJ.joined (l12, i15) [1] hm ⟨rfl, trivial⟩ ⟨by decide, rfl⟩
          · replace hm := ifF hm hb35
            refine WJ.skip ?_
            refine PJ.next ?_
            refine WJ.seq ?_
            refine WJ.reg ?_
            refine SJ.q (YldS.yld (y_fldB (o := 0) fld77_1 rfl)) rfl ?_
            refine SJ.q (YldS.yld (y_loadB (k := 0) (off := 1) (v := .func (.func gs) #[] sb) rfl Try.isAgg70 rfl rfl)) rfl ?_
            refine SJ.q (YldS.yld (y_move rfl)) rfl ?_
            refine SJ.q (YldS.yld (y_move rfl)) rfl ?_
            obtain ⟨l37, h36, hm⟩ := bindS hm
            refine SJ.swapF hS h36 (k := 1) rfl rfl rfl rfl ?_
            refine SJ.nil ?_
            refine PJ.next ?_
            refine WJ.seq ?_
            refine WJ.quiet ?_
            refine QJ.step (YldS.yld (y_move rfl)) rfl ?_
            refine QJ.step (YldS.yld (y_bin rfl rfl rfl)) rfl ?_
            refine QJ.step (YldS.yld (y_assign rfl)) rfl ?_
            refine QJ.done ?_
            refine PJ.next ?_
            refine WJ.quiet ?_
            refine QJ.step (YldS.yld (y_move rfl)) rfl ?_
            refine QJ.step (YldS.yld (y_bin rfl rfl rfl)) rfl ?_
            refine QJ.step (YldS.yld (y_assign rfl)) rfl ?_
            refine QJ.done ?_
            refine PJ.block_normal ?_
            exact PJ.round (l37, w64 (i15 + 1), w64 (j25 - 1)) [0, 1] hm ⟨rfl, rfl, rfl, rfl, trivial⟩ ⟨by decide, rfl⟩
  · rintro ⟨l8, i9⟩ hm
    subst hk11
    refine WJ.seq ?_
    refine WJ.quiet ?_
    refine QJ.step (YldS.yld (y_move rfl)) rfl ?_
    refine QJ.step (YldS.yld (y_assign rfl)) rfl ?_
    refine QJ.done ?_
    refine PJ.next ?_
    refine WJ.ret ?_
    obtain rfl := Option.some.inj hm
    refine PJ.sel (L' := [AA l8]) [0] ⟨by decide, rfl⟩ ?_
    exact PJ.retn (vs := [.int .i64 i9]) Try.results53 ⟨rfl, trivial⟩ ⟨rfl, rfl⟩

set_option maxRecDepth 100000 in
set_option maxHeartbeats 1000000 in
theorem ok_sort_partition_func {N : Nat} {xs1 : List α} {a2 : Int} {b3 : Int} {pivot4 : Int} {lt : α → α → Bool} {AA : List α → Asn} {gl gs : Nat} {lb sb : Array Value} {r : Int × Bool × (List α)} (hm : sort_partition_func N xs1 a2 b3 pivot4 lt = some r) (w : World) (S : Nat → Prop) (hS : SrtOk Try.prog AA lt gl gs lb sb) (hA : (AA xs1).holds w S) :
    Calls Try.prog 54 #[.agg #[.func (.func gl) #[] lb, .func (.func gs) #[] sb], .int .i64 a2, .int .i64 b3, .int .i64 pivot4] w (RetG ⟨w, S⟩ fun u L => (u = tup [.int .i64 r.1, .bool r.2.1] ∧ L = [AA r.2.2])) := by
  unfold sort_partition_func at hm
  refine Calls.enter1 hA [.agg #[.func (.func gl) #[] lb, .func (.func gs) #[] sb], .int .i64 a2, .int .i64 b3, .int .i64 pivot4] Try.func54 rfl Try.ntmps54 rfl ?_
  refine WJ.seq ?_
  refine WJ.reg ?_
  refine SJ.box (cs := [.func (.func gl) #[] lb, .func (.func gs) #[] sb]) rfl rfl rfl fun g5 => ?_
  refine SJ.q (YldS.yld (y_assign rfl)) rfl ?_
  refine SJ.q (YldS.yld (y_assign rfl)) rfl ?_
  refine SJ.nil ?_
  refine PJ.next ?_
  refine WJ.seq ?_
  refine WJ.reg ?_
  refine SJ.q (YldS.yld (y_fldB (o := 0) fld77_1 rfl)) rfl ?_
  refine SJ.q (YldS.yld (y_loadB (k := 0) (off := 1) (v := .func (.func gs) #[] sb) rfl Try.isAgg70 rfl rfl)) rfl ?_
  refine SJ.q (YldS.yld (y_move rfl)) rfl ?_
  refine SJ.q (YldS.yld (y_move rfl)) rfl ?_
  obtain ⟨l7, h6, hm⟩ := bindS hm
  refine SJ.swapF hS h6 (k := 1) rfl rfl rfl rfl ?_
  refine SJ.nil ?_
  refine PJ.next ?_
  refine WJ.seq ?_
  refine WJ.quiet ?_
  refine QJ.step (YldS.yld (y_move rfl)) rfl ?_
  refine QJ.step (YldS.yld (y_bin rfl rfl rfl)) rfl ?_
  refine QJ.step (YldS.yld (y_move rfl)) rfl ?_
  refine QJ.step (YldS.yld (y_bin rfl rfl rfl)) rfl ?_
  refine QJ.step (YldS.yld (y_assign rfl)) rfl ?_
  refine QJ.step (YldS.yld (y_assign rfl)) rfl ?_
  refine QJ.done ?_
  refine PJ.next ?_
  obtain ⟨kj9, hk10, hm⟩ := withK_open hm
  refine WJ.join (X := Int) (fun (x : Int) => kj9 x = some r) (fun (x : Int) => [(1, .int .i64 a2), (4, pt g5 0), (10, .int .i64 x), (11, .int .i64 (w64 (b3 - 1)))]) (fun (x : Int) => [box g5 77 [.func (.func gl) #[] lb, .func (.func gs) #[] sb], AA l7]) ?_ ?_
  · clear hk10
    refine WJ.block ?_
    refine WJ.sel (L' := (fun (x : Int) => [box g5 77 [.func (.func gl) #[] lb, .func (.func gs) #[] sb], AA l7]) (w64 (a2 + 1))) [0, 1] ⟨by decide, rfl⟩ ?_
    refine WJ.sub (m' := (fun (x : Int) => [(1, .int .i64 a2), (4, pt g5 0), (10, .int .i64 x), (11, .int .i64 (w64 (b3 - 1)))]) (w64 (a2 + 1))) ⟨rfl, rfl, rfl, rfl, trivial⟩ ?_
    refine WJ.loop (X := Int) (fun N (x : Int) => sort_partition_func_l1 kj9 lt a2 b3 l7 N x = some r) (fun (x : Int) => [(1, .int .i64 a2), (4, pt g5 0), (10, .int .i64 x), (11, .int .i64 (w64 (b3 - 1)))]) (fun (x : Int) => [box g5 77 [.func (.func gl) #[] lb, .func (.func gs) #[] sb], AA l7]) ?_ N (w64 (a2 + 1)) hm
    · rintro N i11 hI
      have hm := hI; clear hI
      cases N with
      | zero => cases hm
      | succ N =>
      unfold sort_partition_func_l1 at hm
      refine WJ.seq ?_
      refine WJ.seq ?_
      refine WJ.quiet ?_
      refine QJ.step (YldS.yld (y_move rfl)) rfl ?_
      refine QJ.step (YldS.yld (y_move rfl)) rfl ?_
      refine QJ.step (YldS.yld (y_bin rfl rfl rfl)) rfl ?_
      refine QJ.step (YldS.yld (y_move rfl)) rfl ?_
      obtain ⟨t12, h13, hm⟩ := bindS hm
      refine QJ.cut 6 [(1, .int .i64 a2), (4, pt g5 0), (10, .int .i64 i11), (11, .int .i64 (w64 (b3 - 1))), (30, .bool t12)] ?_ ?_
      · rcases Bool.eq_false_or_eq_true (decide (i11 ≤ (w64 (b3 - 1)))) with hb14 | hb14
        · replace h13 := andT h13 hb14
          refine QJ.on rfl rfl (cB hb14) (YldS.yld (y_fldB (o := 0) fld77_0 rfl)) rfl ?_
          refine QJ.on rfl rfl (cB hb14) (YldS.yld (y_loadB (k := 0) (off := 0) (v := .func (.func gl) #[] lb) rfl Try.isAgg54 rfl rfl)) rfl ?_
          refine QJ.on rfl rfl (cB hb14) (YldS.yld (y_move rfl)) rfl ?_
          refine QJ.on rfl rfl (cB hb14) (YldS.yld (y_move rfl)) rfl ?_
          obtain ⟨b16, h15, h13⟩ := bindS h13
          refine QJ.on rfl rfl (cB hb14) (y_callL hS h15 (k := 1) rfl rfl rfl) rfl ?_
          refine QJ.step (YldS.yld (y_pick_t (cB hb14) rfl)) rfl ?_
          obtain rfl := Option.some.inj h13
          exact QJ.cut_end ⟨rfl, rfl, rfl, rfl, rfl, trivial⟩
        · obtain rfl := andF h13 hb14
          refine QJ.off rfl rfl (cB hb14) rfl rfl ?_
          refine QJ.off rfl rfl (cB hb14) rfl rfl ?_
          refine QJ.off rfl rfl (cB hb14) rfl rfl ?_
          refine QJ.off rfl rfl (cB hb14) rfl rfl ?_
          refine QJ.off rfl rfl (cB hb14) rfl rfl ?_
          refine QJ.step (YldS.yld (y_pick_f (cB hb14) rfl)) rfl ?_
          exact QJ.cut_end ⟨rfl, rfl, rfl, rfl, rfl, trivial⟩
      refine QJ.done ?_
      refine PJ.next ?_
      refine WJ.cond (t := t12) rfl (fun hb17 => ?_) (fun hb17 => ?_)
      · replace hm := ifT hm hb17
        refine WJ.skip ?_
        refine PJ.next ?_
        refine WJ.block ?_
        refine WJ.quiet ?_
        refine QJ.step (YldS.yld (y_move rfl)) rfl ?_
        refine QJ.step (YldS.yld (y_bin rfl rfl rfl)) rfl ?_
        refine QJ.step (YldS.yld (y_assign rfl)) rfl ?_
        refine QJ.done ?_
        refine PJ.block_normal ?_
        exact PJ.round (w64 (i11 + 1)) [0, 1] hm ⟨rfl, rfl, rfl, rfl, trivial⟩ ⟨by decide, rfl⟩
      · replace hm := ifF hm hb17
        refine WJ.exit ?_
        refine PJ.then_exit (PJ.then_exit (PJ.block_exit ?_))
        exact PJ.joined i11 [0, 1] hm ⟨rfl, rfl, rfl, rfl, trivial⟩ ⟨by decide, rfl⟩
  · rintro i8 hm
    subst hk10
    obtain ⟨kj19, hk20, hm⟩ := withK_open hm
    refine WJ.join (X := Int) (fun (x : Int) => kj19 x = some r) (fun (x : Int) => [(1, .int .i64 a2), (4, pt g5 0), (10, .int .i64 i8), (11, .int .i64 x)]) (fun (x : Int) => [box g5 77 [.func (.func gl) #[] lb, .func (.func gs) #[] sb], AA l7]) ?_ ?_
    · clear hk20
      refine WJ.block ?_
      refine WJ.sel (L' := (fun (x : Int) => [box g5 77 [.func (.func gl) #[] lb, .func (.func gs) #[] sb], AA l7]) (w64 (b3 - 1))) [0, 1] ⟨by decide, rfl⟩ ?_
      refine WJ.sub (m' := (fun (x : Int) => [(1, .int .i64 a2), (4, pt g5 0), (10, .int .i64 i8), (11, .int .i64 x)]) (w64 (b3 - 1))) ⟨rfl, rfl, rfl, rfl, trivial⟩ ?_
      refine WJ.loop (X := Int) (fun N (x : Int) => sort_partition_func_l2 kj19 lt a2 l7 i8 N x = some r) (fun (x : Int) => [(1, .int .i64 a2), (4, pt g5 0), (10, .int .i64 i8), (11, .int .i64 x)]) (fun (x : Int) => [box g5 77 [.func (.func gl) #[] lb, .func (.func gs) #[] sb], AA l7]) ?_ N (w64 (b3 - 1)) hm
      · rintro N j21 hI
        have hm := hI; clear hI
        cases N with
        | zero => cases hm
        | succ N =>
        unfold sort_partition_func_l2 at hm
        refine WJ.seq ?_
        refine WJ.seq ?_
        refine WJ.quiet ?_
        refine QJ.step (YldS.yld (y_move rfl)) rfl ?_
        refine QJ.step (YldS.yld (y_move rfl)) rfl ?_
        refine QJ.step (YldS.yld (y_bin rfl rfl rfl)) rfl ?_
        refine QJ.step (YldS.yld (y_move rfl)) rfl ?_
        obtain ⟨t22, h23, hm⟩ := bindS hm
        refine QJ.cut 7 [(1, .int .i64 a2), (4, pt g5 0), (10, .int .i64 i8), (11, .int .i64 j21), (43, .bool t22)] ?_ ?_
        · rcases Bool.eq_false_or_eq_true (decide (i8 ≤ j21)) with hb24 | hb24
          · replace h23 := andT h23 hb24
            refine QJ.on rfl rfl (cB hb24) (YldS.yld (y_fldB (o := 0) fld77_0 rfl)) rfl ?_
            refine QJ.on rfl rfl (cB hb24) (YldS.yld (y_loadB (k := 0) (off := 0) (v := .func (.func gl) #[] lb) rfl Try.isAgg54 rfl rfl)) rfl ?_
            refine QJ.on rfl rfl (cB hb24) (YldS.yld (y_move rfl)) rfl ?_
            refine QJ.on rfl rfl (cB hb24) (YldS.yld (y_move rfl)) rfl ?_
            obtain ⟨b26, h25, h23⟩ := bindS h23
            refine QJ.on rfl rfl (cB hb24) (y_callL hS h25 (k := 1) rfl rfl rfl) rfl ?_
            refine QJ.on rfl rfl (cB hb24) (YldS.yld (y_not rfl)) rfl ?_
            refine QJ.step (YldS.yld (y_pick_t (cB hb24) rfl)) rfl ?_
            obtain rfl := Option.some.inj h23
            exact QJ.cut_end ⟨rfl, rfl, rfl, rfl, rfl, trivial⟩
          · obtain rfl := andF h23 hb24
            refine QJ.off rfl rfl (cB hb24) rfl rfl ?_
            refine QJ.off rfl rfl (cB hb24) rfl rfl ?_
            refine QJ.off rfl rfl (cB hb24) rfl rfl ?_
            refine QJ.off rfl rfl (cB hb24) rfl rfl ?_
            refine QJ.off rfl rfl (cB hb24) rfl rfl ?_
            refine QJ.off rfl rfl (cB hb24) rfl rfl ?_
            refine QJ.step (YldS.yld (y_pick_f (cB hb24) rfl)) rfl ?_
            exact QJ.cut_end ⟨rfl, rfl, rfl, rfl, rfl, trivial⟩
        refine QJ.done ?_
        refine PJ.next ?_
        refine WJ.cond (t := t22) rfl (fun hb27 => ?_) (fun hb27 => ?_)
        · replace hm := ifT hm hb27
          refine WJ.skip ?_
          refine PJ.next ?_
          refine WJ.block ?_
          refine WJ.quiet ?_
          refine QJ.step (YldS.yld (y_move rfl)) rfl ?_
          refine QJ.step (YldS.yld (y_bin rfl rfl rfl)) rfl ?_
          refine QJ.step (YldS.yld (y_assign rfl)) rfl ?_
          refine QJ.done ?_
          refine PJ.block_normal ?_
          exact PJ.round (w64 (j21 - 1)) [0, 1] hm ⟨rfl, rfl, rfl, rfl, trivial⟩ ⟨by decide, rfl⟩
        · replace hm := ifF hm hb27
          refine WJ.exit ?_
          refine PJ.then_exit (PJ.then_exit (PJ.block_exit ?_))
          exact PJ.joined j21 [0, 1] hm ⟨rfl, rfl, rfl, rfl, trivial⟩ ⟨by decide, rfl⟩
    · rintro j18 hm
      subst hk20
      refine WJ.seq ?_
      refine WJ.seq ?_
      refine WJ.quiet ?_
      refine QJ.step (YldS.yld (y_move rfl)) rfl ?_
      refine QJ.step (YldS.yld (y_move rfl)) rfl ?_
      refine QJ.step (YldS.yld (y_bin rfl rfl rfl)) rfl ?_
      refine QJ.done ?_
      refine PJ.next ?_
      refine WJ.cond (t := decide (i8 > j18)) rfl (fun hb28 => ?_) (fun hb28 => ?_)
      · replace hm := ifT hm hb28
        refine WJ.seq ?_
        refine WJ.reg ?_
        refine SJ.q (YldS.yld (y_fldB (o := 0) fld77_1 rfl)) rfl ?_
        refine SJ.q (YldS.yld (y_loadB (k := 0) (off := 1) (v := .func (.func gs) #[] sb) rfl Try.isAgg70 rfl rfl)) rfl ?_
        refine SJ.q (YldS.yld (y_move rfl)) rfl ?_
        refine SJ.q (YldS.yld (y_move rfl)) rfl ?_
        obtain ⟨l30, h29, hm⟩ := bindS hm
        refine SJ.swapF hS h29 (k := 1) rfl rfl rfl rfl ?_
        refine SJ.nil ?_
        refine PJ.next ?_
        refine WJ.seq ?_
        refine WJ.quiet ?_
        refine QJ.step (YldS.yld (y_move rfl)) rfl ?_
        refine QJ.step (YldS.yld (y_assign rfl)) rfl ?_
        refine QJ.step (YldS.yld (y_assign rfl)) rfl ?_
        refine QJ.done ?_
        refine PJ.next ?_
        refine WJ.ret ?_
        refine PJ.then_ret ?_
        obtain rfl := Option.some.inj hm
        refine PJ.sel (L' := [AA l30]) [1] ⟨by decide, rfl⟩ ?_
        exact PJ.retn (vs := [.int .i64 j18, .bool true]) Try.results54 ⟨rfl, rfl, trivial⟩ ⟨rfl, rfl⟩
      · replace hm := ifF hm hb28
        refine WJ.skip ?_
        refine PJ.next ?_
        refine WJ.seq ?_
        refine WJ.reg ?_
        refine SJ.q (YldS.yld (y_fldB (o := 0) fld77_1 rfl)) rfl ?_
        refine SJ.q (YldS.yld (y_loadB (k := 0) (off := 1) (v := .func (.func gs) #[] sb) rfl Try.isAgg70 rfl rfl)) rfl ?_
        refine SJ.q (YldS.yld (y_move rfl)) rfl ?_
        refine SJ.q (YldS.yld (y_move rfl)) rfl ?_
        obtain ⟨l32, h31, hm⟩ := bindS hm
        refine SJ.swapF hS h31 (k := 1) rfl rfl rfl rfl ?_
        refine SJ.nil ?_
        refine PJ.next ?_
        refine WJ.seq ?_
        refine WJ.quiet ?_
        refine QJ.step (YldS.yld (y_move rfl)) rfl ?_
        refine QJ.step (YldS.yld (y_bin rfl rfl rfl)) rfl ?_
        refine QJ.step (YldS.yld (y_assign rfl)) rfl ?_
        refine QJ.done ?_
        refine PJ.next ?_
        refine WJ.seq ?_
        refine WJ.quiet ?_
        refine QJ.step (YldS.yld (y_move rfl)) rfl ?_
        refine QJ.step (YldS.yld (y_bin rfl rfl rfl)) rfl ?_
        refine QJ.step (YldS.yld (y_assign rfl)) rfl ?_
        refine QJ.done ?_
        refine PJ.next ?_
        obtain ⟨kj35, hk36, hm⟩ := withK_open hm
        refine WJ.join (X := (List α) × Int) (fun (x : (List α) × Int) => kj35 x.1 x.2 = some r) (fun (x : (List α) × Int) => [(1, .int .i64 a2), (4, pt g5 0), (11, .int .i64 x.2)]) (fun (x : (List α) × Int) => [box g5 77 [.func (.func gl) #[] lb, .func (.func gs) #[] sb], AA x.1]) ?_ ?_
        · clear hk36
          refine WJ.block ?_
          refine WJ.sel (L' := (fun (x : (List α) × Int × Int) => [box g5 77 [.func (.func gl) #[] lb, .func (.func gs) #[] sb], AA x.1]) (l32, w64 (i8 + 1), w64 (j18 - 1))) [0, 1] ⟨by decide, rfl⟩ ?_
          refine WJ.sub (m' := (fun (x : (List α) × Int × Int) => [(1, .int .i64 a2), (4, pt g5 0), (10, .int .i64 x.2.1), (11, .int .i64 x.2.2)]) (l32, w64 (i8 + 1), w64 (j18 - 1))) ⟨rfl, rfl, rfl, rfl, trivial⟩ ?_
          refine WJ.loop (X := (List α) × Int × Int) (fun N (x : (List α) × Int × Int) => sort_partition_func_l3 kj35 lt a2 N x.1 x.2.1 x.2.2 = some r) (fun (x : (List α) × Int × Int) => [(1, .int .i64 a2), (4, pt g5 0), (10, .int .i64 x.2.1), (11, .int .i64 x.2.2)]) (fun (x : (List α) × Int × Int) => [box g5 77 [.func (.func gl) #[] lb, .func (.func gs) #[] sb], AA x.1]) ?_ N (l32, w64 (i8 + 1), w64 (j18 - 1)) hm
          · rintro N ⟨l37, i38, j39⟩ hI
            have hm := hI; clear hI
            cases N with
            | zero => cases hm
            | succ N =>
            unfold sort_partition_func_l3 at hm
            refine WJ.block ?_
            obtain ⟨kj41, hk42, hm⟩ := withK_open hm
            refine WJ.join (X := Int) (fun (x : Int) => kj41 x = some r) (fun (x : Int) => [(1, .int .i64 a2), (4, pt g5 0), (10, .int .i64 x), (11, .int .i64 j39)]) (fun (x : Int) => [box g5 77 [.func (.func gl) #[] lb, .func (.func gs) #[] sb], AA l37]) ?_ ?_
            · clear hk42
              refine WJ.block ?_
              refine WJ.sel (L' := (fun (x : Int) => [box g5 77 [.func (.func gl) #[] lb, .func (.func gs) #[] sb], AA l37]) i38) [0, 1] ⟨by decide, rfl⟩ ?_
              refine WJ.sub (m' := (fun (x : Int) => [(1, .int .i64 a2), (4, pt g5 0), (10, .int .i64 x), (11, .int .i64 j39)]) i38) ⟨rfl, rfl, rfl, rfl, trivial⟩ ?_
              refine WJ.loop (X := Int) (fun N (x : Int) => sort_partition_func_l4 kj41 lt a2 l37 j39 N x = some r) (fun (x : Int) => [(1, .int .i64 a2), (4, pt g5 0), (10, .int .i64 x), (11, .int .i64 j39)]) (fun (x : Int) => [box g5 77 [.func (.func gl) #[] lb, .func (.func gs) #[] sb], AA l37]) ?_ N i38 hm
              · rintro N i43 hI
                have hm := hI; clear hI
                cases N with
                | zero => cases hm
                | succ N =>
                unfold sort_partition_func_l4 at hm
                refine WJ.seq ?_
                refine WJ.seq ?_
                refine WJ.quiet ?_
                refine QJ.step (YldS.yld (y_move rfl)) rfl ?_
                refine QJ.step (YldS.yld (y_move rfl)) rfl ?_
                refine QJ.step (YldS.yld (y_bin rfl rfl rfl)) rfl ?_
                refine QJ.step (YldS.yld (y_move rfl)) rfl ?_
                obtain ⟨t44, h45, hm⟩ := bindS hm
                refine QJ.cut 6 [(1, .int .i64 a2), (4, pt g5 0), (10, .int .i64 i43), (11, .int .i64 j39), (73, .bool t44)] ?_ ?_
                · rcases Bool.eq_false_or_eq_true (decide (i43 ≤ j39)) with hb46 | hb46
                  · replace h45 := andT h45 hb46
                    refine QJ.on rfl rfl (cB hb46) (YldS.yld (y_fldB (o := 0) fld77_0 rfl)) rfl ?_
                    refine QJ.on rfl rfl (cB hb46) (YldS.yld (y_loadB (k := 0) (off := 0) (v := .func (.func gl) #[] lb) rfl Try.isAgg54 rfl rfl)) rfl ?_
                    refine QJ.on rfl rfl (cB hb46) (YldS.yld (y_move rfl)) rfl ?_
                    refine QJ.on rfl rfl (cB hb46) (YldS.yld (y_move rfl)) rfl ?_
                    obtain ⟨b48, h47, h45⟩ := bindS h45
                    refine QJ.on rfl rfl (cB hb46) (y_callL hS h47 (k := 1) rfl rfl rfl) rfl ?_
                    refine QJ.step (YldS.yld (y_pick_t (cB hb46) rfl)) rfl ?_
                    obtain rfl := Option.some.inj h45
                    exact QJ.cut_end ⟨rfl, rfl, rfl, rfl, rfl, trivial⟩
                  · obtain rfl := andF h45 hb46
                    refine QJ.off rfl rfl (cB hb46) rfl rfl ?_
                    refine QJ.off rfl rfl (cB hb46) rfl rfl ?_
                    refine QJ.off rfl rfl (cB hb46) rfl rfl ?_
                    refine QJ.off rfl rfl (cB hb46) rfl rfl ?_
                    refine QJ.off rfl rfl (cB hb46) rfl rfl ?_
                    refine QJ.step (YldS.yld (y_pick_f (cB hb46) rfl)) rfl ?_
                    exact QJ.cut_end ⟨rfl, rfl, rfl, rfl, rfl, trivial⟩
                refine QJ.done ?_
                refine PJ.next ?_
                refine WJ.cond (t := t44) rfl (fun hb49 => ?_) (fun hb49 => ?_)
                · replace hm := ifT hm hb49
                  refine WJ.skip ?_
                  refine PJ.next ?_
                  refine WJ.block ?_
                  refine WJ.quiet ?_
                  refine QJ.step (YldS.yld (y_move rfl)) rfl ?_
                  refine QJ.step (YldS.yld (y_bin rfl rfl rfl)) rfl ?_
                  refine QJ.step (YldS.yld (y_assign rfl)) rfl ?_
                  refine QJ.done ?_
                  refine PJ.block_normal ?_
                  exact PJ.round (w64 (i43 + 1)) [0, 1] hm ⟨rfl, rfl, rfl, rfl, trivial⟩ ⟨by decide, rfl⟩
                · replace hm := ifF hm hb49
                  refine WJ.exit ?_
                  refine PJ.then_exit (PJ.then_exit (PJ.block_exit ?_))
                  exact PJ.joined i43 [0, 1] hm ⟨rfl, rfl, rfl, rfl, trivial⟩ ⟨by decide, rfl⟩
            · rintro i40 hm
              subst hk42
              obtain ⟨kj51, hk52, hm⟩ := withK_open hm
              refine WJ.join (X := Int) (fun (x : Int) => kj51 x = some r) (fun (x : Int) => [(1, .int .i64 a2), (4, pt g5 0), (10, .int .i64 i40), (11, .int .i64 x)]) (fun (x : Int) => [box g5 77 [.func (.func gl) #[] lb, .func (.func gs) #[] sb], AA l37]) ?_ ?_
              · clear hk52
                refine WJ.block ?_
                refine WJ.sel (L' := (fun (x : Int) => [box g5 77 [.func (.func gl) #[] lb, .func (.func gs) #[] sb], AA l37]) j39) [0, 1] ⟨by decide, rfl⟩ ?_
                refine WJ.sub (m' := (fun (x : Int) => [(1, .int .i64 a2), (4, pt g5 0), (10, .int .i64 i40), (11, .int .i64 x)]) j39) ⟨rfl, rfl, rfl, rfl, trivial⟩ ?_
                refine WJ.loop (X := Int) (fun N (x : Int) => sort_partition_func_l5 kj51 lt a2 l37 i40 N x = some r) (fun (x : Int) => [(1, .int .i64 a2), (4, pt g5 0), (10, .int .i64 i40), (11, .int .i64 x)]) (fun (x : Int) => [box g5 77 [.func (.func gl) #[] lb, .func (.func gs) #[] sb], AA l37]) ?_ N j39 hm
                · rintro N j53 hI
                  have hm := hI; clear hI
                  cases N with
                  | zero => cases hm
                  | succ N =>
                  unfold sort_partition_func_l5 at hm
                  refine WJ.seq ?_
                  refine WJ.seq ?_
                  refine WJ.quiet ?_
                  refine QJ.step (YldS.yld (y_move rfl)) rfl ?_
                  refine QJ.step (YldS.yld (y_move rfl)) rfl ?_
                  refine QJ.step (YldS.yld (y_bin rfl rfl rfl)) rfl ?_
                  refine QJ.step (YldS.yld (y_move rfl)) rfl ?_
                  obtain ⟨t54, h55, hm⟩ := bindS hm
                  refine QJ.cut 7 [(1, .int .i64 a2), (4, pt g5 0), (10, .int .i64 i40), (11, .int .i64 j53), (86, .bool t54)] ?_ ?_
                  · rcases Bool.eq_false_or_eq_true (decide (i40 ≤ j53)) with hb56 | hb56
                    · replace h55 := andT h55 hb56
                      refine QJ.on rfl rfl (cB hb56) (YldS.yld (y_fldB (o := 0) fld77_0 rfl)) rfl ?_
                      refine QJ.on rfl rfl (cB hb56) (YldS.yld (y_loadB (k := 0) (off := 0) (v := .func (.func gl) #[] lb) rfl Try.isAgg54 rfl rfl)) rfl ?_
                      refine QJ.on rfl rfl (cB hb56) (YldS.yld (y_move rfl)) rfl ?_
                      refine QJ.on rfl rfl (cB hb56) (YldS.yld (y_move rfl)) rfl ?_
                      obtain ⟨b58, h57, h55⟩ := bindS h55
                      refine QJ.on rfl rfl (cB hb56) (y_callL hS h57 (k := 1) rfl rfl rfl) rfl ?_
                      refine QJ.on rfl rfl (cB hb56) (YldS.yld (y_not rfl)) rfl ?_
                      refine QJ.step (YldS.yld (y_pick_t (cB hb56) rfl)) rfl ?_
                      obtain rfl := Option.some.inj h55
                      exact QJ.cut_end ⟨rfl, rfl, rfl, rfl, rfl, trivial⟩
                    · obtain rfl := andF h55 hb56
                      refine QJ.off rfl rfl (cB hb56) rfl rfl ?_
                      refine QJ.off rfl rfl (cB hb56) rfl rfl ?_
                      refine QJ.off rfl rfl (cB hb56) rfl rfl ?_
                      refine QJ.off rfl rfl (cB hb56) rfl rfl ?_
                      refine QJ.off rfl rfl (cB hb56) rfl rfl ?_
                      refine QJ.off rfl rfl (cB hb56) rfl rfl ?_
                      refine QJ.step (YldS.yld (y_pick_f (cB hb56) rfl)) rfl ?_
                      exact QJ.cut_end ⟨rfl, rfl, rfl, rfl, rfl, trivial⟩
                  refine QJ.done ?_
                  refine PJ.next ?_
                  refine WJ.cond (t := t54) rfl (fun hb59 => ?_) (fun hb59 => ?_)
                  · replace hm := ifT hm hb59
                    refine WJ.skip ?_
                    refine PJ.next ?_
                    refine WJ.block ?_
                    refine WJ.quiet ?_
                    refine QJ.step (YldS.yld (y_move rfl)) rfl ?_
                    refine QJ.step (YldS.yld (y_bin rfl rfl rfl)) rfl ?_
                    refine QJ.step (YldS.yld (y_assign rfl)) rfl ?_
                    refine QJ.done ?_
                    refine PJ.block_normal ?_
                    exact PJ.round (w64 (j53 - 1)) [0, 1] hm ⟨rfl, rfl, rfl, rfl, trivial⟩ ⟨by decide, rfl⟩
                  · replace hm := ifF hm hb59
                    refine WJ.exit ?_
                    refine PJ.then_exit (PJ.then_exit (PJ.block_exit ?_))
                    exact PJ.joined j53 [0, 1] hm ⟨rfl, rfl, rfl, rfl, trivial⟩ ⟨by decide, rfl⟩
              · rintro j50 hm
                subst hk52
                refine WJ.seq ?_
                refine WJ.seq ?_
                refine WJ.quiet ?_
                refine QJ.step (YldS.yld (y_move rfl)) rfl ?_
                refine QJ.step (YldS.yld (y_move rfl)) rfl ?_
                refine QJ.step (YldS.yld (y_bin rfl rfl rfl)) rfl ?_
                refine QJ.done ?_
                refine PJ.next ?_
                refine WJ.cond (t := decide (i40 > j50)) rfl (fun hb60 => ?_) (fun hb60 => ?_)
                · replace hm := ifT hm hb60
                  refine WJ.exit ?_
                  refine PJ.then_exit (PJ.block_exit_ne rfl (PJ.then_exit (PJ.block_exit ?_)))
                  exact PJ.joined (l37, j50) [0, 1] hm ⟨rfl, rfl, rfl, trivial⟩ ⟨by decide, rfl⟩
                · replace hm := ifF hm hb60
                  refine WJ.skip ?_
                  refine PJ.next ?_
                  refine WJ.seq ?_
                  refine WJ.reg ?_
                  refine SJ.q (YldS.yld (y_fldB (o := 0) fld77_1 rfl)) rfl ?_
                  refine SJ.q (YldS.yld (y_loadB (k := 0) (off := 1) (v := .func (.func gs) #[] sb) rfl Try.isAgg70 rfl rfl)) rfl ?_
                  refine SJ.q (YldS.yld (y_move rfl)) rfl ?_
                  refine SJ.q (YldS.yld (y_move rfl)) rfl ?_
                  obtain ⟨l62, h61, hm⟩ := bindS hm
                  refine SJ.swapF hS h61 (k := 1) rfl rfl rfl rfl ?_
                  refine SJ.nil ?_
                  refine PJ.next ?_
                  refine WJ.seq ?_
                  refine WJ.quiet ?_
                  refine QJ.step (YldS.yld (y_move rfl)) rfl ?_
                  refine QJ.step (YldS.yld (y_bin rfl rfl rfl)) rfl ?_
                  refine QJ.step (YldS.yld (y_assign rfl)) rfl ?_
                  refine QJ.done ?_
                  refine PJ.next ?_
                  refine WJ.quiet ?_
                  refine QJ.step (YldS.yld (y_move rfl)) rfl ?_
                  refine QJ.step (YldS.yld (y_bin rfl rfl rfl)) rfl ?_
                  refine QJ.step (YldS.yld (y_assign rfl)) rfl ?_
                  refine QJ.done ?_
                  refine PJ.block_normal ?_
                  exact PJ.round (l62, w64 (i40 + 1), w64 (j50 - 1)) [0, 1] hm ⟨rfl, rfl, rfl, rfl, trivial⟩ ⟨by decide, rfl⟩
        · rintro ⟨l33, j34⟩ hm
          subst hk36
          refine WJ.seq ?_
          refine WJ.reg ?_
          refine SJ.q (YldS.yld (y_fldB (o := 0) fld77_1 rfl)) rfl ?_
          refine SJ.q (YldS.yld (y_loadB (k := 0) (off := 1) (v := .func (.func gs) #[] sb) rfl Try.isAgg70 rfl rfl)) rfl ?_
          refine SJ.q (YldS.yld (y_move rfl)) rfl ?_
          refine SJ.q (YldS.yld (y_move rfl)) rfl ?_
          obtain ⟨l64, h63, hm⟩ := bindS hm
          refine SJ.swapF hS h63 (k := 1) rfl rfl rfl rfl ?_
          refine SJ.nil ?_
          refine PJ.next ?_
          refine WJ.seq ?_
          refine WJ.quiet ?_
          refine QJ.step (YldS.yld (y_move rfl)) rfl ?_
          refine QJ.step (YldS.yld (y_assign rfl)) rfl ?_
          refine QJ.step (YldS.yld (y_assign rfl)) rfl ?_
          refine QJ.done ?_
          refine PJ.next ?_
          refine WJ.ret ?_
          obtain rfl := Option.some.inj hm
          refine PJ.sel (L' := [AA l64]) [1] ⟨by decide, rfl⟩ ?_
          exact PJ.retn (vs := [.int .i64 j34, .bool false]) Try.results54 ⟨rfl, rfl, trivial⟩ ⟨rfl, rfl⟩

set_option maxRecDepth 100000 in
set_option maxHeartbeats 1000000 in
theorem ok_sort_pdqsort_funcS {N : Nat} {xs1 : List α} {a2 : Int} {b3 : Int} {limit4 : Int} {lt : α → α → Bool} {AA : List α → Asn} {gl gs : Nat} {lb sb : Array Value} {r : (List α)} (hm : sort_pdqsort_funcS N xs1 a2 b3 limit4 lt = some r) (w : World) (S : Nat → Prop) (hS : SrtOk Try.prog AA lt gl gs lb sb) (hA : (AA xs1).holds w S) :
    Calls Try.prog 30 #[.agg #[.func (.func gl) #[] lb, .func (.func gs) #[] sb], .int .i64 a2, .int .i64 b3, .int .i64 limit4] w (RetG ⟨w, S⟩ fun u L => (u = tup [] ∧ L = [AA r])) := by
  unfold sort_pdqsort_funcS at hm
  refine Calls.enter1 hA [.agg #[.func (.func gl) #[] lb, .func (.func gs) #[] sb], .int .i64 a2, .int .i64 b3, .int .i64 limit4] Try.func30 rfl Try.ntmps30 rfl ?_
  refine WJ.seq ?_
  refine WJ.reg ?_
  refine SJ.box (cs := [.func (.func gl) #[] lb, .func (.func gs) #[] sb]) rfl rfl rfl fun g5 => ?_
  refine SJ.nil ?_
  refine PJ.next ?_
  refine WJ.seq ?_
  refine WJ.quiet ?_
  refine QJ.step (YldS.yld (y_assign rfl)) rfl ?_
  refine QJ.done ?_
  refine PJ.next ?_
  refine WJ.seq ?_
  refine WJ.quiet ?_
  refine QJ.step (YldS.yld (y_assign rfl)) rfl ?_
  refine QJ.done ?_
  refine PJ.next ?_
  refine WJ.block ?_
  refine WJ.sel (L' := (fun (x : (List α) × Int × Int × Int × Bool × Bool) => [box g5 77 [.func (.func gl) #[] lb, .func (.func gs) #[] sb], AA x.1]) (xs1, a2, b3, limit4, true, true)) [0, 1] ⟨by decide, rfl⟩ ?_
  refine WJ.sub (m' := (fun (x : (List α) × Int × Int × Int × Bool × Bool) => [(1, .int .i64 x.2.1), (2, .int .i64 x.2.2.1), (3, .int .i64 x.2.2.2.1), (4, pt g5 0), (8, .bool x.2.2.2.2.1), (9, .bool x.2.2.2.2.2)]) (xs1, a2, b3, limit4, true, true)) ⟨rfl, rfl, rfl, rfl, rfl, rfl, trivial⟩ ?_
  refine WJ.loop (X := (List α) × Int × Int × Int × Bool × Bool) (fun N (x : (List α) × Int × Int × Int × Bool × Bool) => sort_pdqsort_funcS_l1 lt N x.1 x.2.1 x.2.2.1 x.2.2.2.1 x.2.2.2.2.1 x.2.2.2.2.2 = some r) (fun (x : (List α) × Int × Int × Int × Bool × Bool) => [(1, .int .i64 x.2.1), (2, .int .i64 x.2.2.1), (3, .int .i64 x.2.2.2.1), (4, pt g5 0), (8, .bool x.2.2.2.2.1), (9, .bool x.2.2.2.2.2)]) (fun (x : (List α) × Int × Int × Int × Bool × Bool) => [box g5 77 [.func (.func gl) #[] lb, .func (.func gs) #[] sb], AA x.1]) ?_ N (xs1, a2, b3, limit4, true, true) hm
  · rintro N ⟨l6, a7, b8, limit9, wasBalanced10, wasPartitioned11⟩ hI
    have hm := hI; clear hI
    cases N with
    | zero => cases hm
    | succ N =>
    unfold sort_pdqsort_funcS_l1 at hm
    refine WJ.block ?_
    refine WJ.seq ?_
    refine WJ.quiet ?_
    refine QJ.step (YldS.yld (y_move rfl)) rfl ?_
    refine QJ.step (YldS.yld (y_move rfl)) rfl ?_
    refine QJ.step (YldS.yld (y_bin rfl rfl rfl)) rfl ?_
    refine QJ.step (YldS.yld (y_assign rfl)) rfl ?_
    refine QJ.done ?_
    refine PJ.next ?_
    refine WJ.seq ?_
    refine WJ.seq ?_
    refine WJ.quiet ?_
    refine QJ.step (YldS.yld (y_move rfl)) rfl ?_
    refine QJ.step (YldS.yld (y_bin rfl rfl rfl)) rfl ?_
    refine QJ.done ?_
    refine PJ.next ?_
    refine WJ.cond (t := decide ((w64 (b8 - a7)) ≤ 12)) rfl (fun hb12 => ?_) (fun hb12 => ?_)
    · replace hm := ifT hm hb12
      refine WJ.seq ?_
      refine WJ.reg ?_
      refine SJ.q (YldS.yld (y_loadBN (k := 0) (off := 0) (us := [.func (.func gl) #[] lb, .func (.func gs) #[] sb]) rfl Try.isAgg77 Try.sizeOf77 rfl rfl)) rfl ?_
      refine SJ.q (YldS.yld (y_move rfl)) rfl ?_
      refine SJ.q (YldS.yld (y_move rfl)) rfl ?_
      obtain ⟨r13, h14, hm⟩ := bindS hm
      refine SJ.call1 (k := 1) rfl Try.call47 rfl (fun w S hw hA hO => ok_sort_insertionSort_func h14 w S hS hA) rfl ?_
      rintro _ _ ⟨rfl, rfl⟩
      refine SJ.nil ?_
      refine PJ.next ?_
      refine WJ.ret ?_
      refine PJ.then_ret (PJ.block_ret (PJ.then_ret (PJ.block_ret ?_)))
      obtain rfl := Option.some.inj hm
      refine PJ.sel (L' := [AA r13]) [0] ⟨by decide, rfl⟩ ?_
      exact PJ.retn (vs := []) Try.results30 trivial ⟨rfl, rfl⟩
    · replace hm := ifF hm hb12
      cases hm

set_option maxRecDepth 100000 in
set_option maxHeartbeats 1000000 in
theorem ok_sort_pdqsort_func {N : Nat} {xs1 : List α} {a2 : Int} {b3 : Int} {limit4 : Int} {lt : α → α → Bool} {AA : List α → Asn} {gl gs : Nat} {lb sb : Array Value} {r : (List α)} (hm : sort_pdqsort_func N xs1 a2 b3 limit4 lt = some r) (w : World) (S : Nat → Prop) (hS : SrtOk Try.prog AA lt gl gs lb sb) (hA : (AA xs1).holds w S) :
    Calls Try.prog 30 #[.agg #[.func (.func gl) #[] lb, .func (.func gs) #[] sb], .int .i64 a2, .int .i64 b3, .int .i64 limit4] w (RetG ⟨w, S⟩ fun u L => (u = tup [] ∧ L = [AA r])) := by
  unfold sort_pdqsort_func at hm
  refine Calls.enter1 hA [.agg #[.func (.func gl) #[] lb, .func (.func gs) #[] sb], .int .i64 a2, .int .i64 b3, .int .i64 limit4] Try.func30 rfl Try.ntmps30 rfl ?_
  refine WJ.seq ?_
  refine WJ.reg ?_
  refine SJ.box (cs := [.func (.func gl) #[] lb, .func (.func gs) #[] sb]) rfl rfl rfl fun g5 => ?_
  refine SJ.nil ?_
  refine PJ.next ?_
  refine WJ.seq ?_
  refine WJ.quiet ?_
  refine QJ.step (YldS.yld (y_assign rfl)) rfl ?_
  refine QJ.done ?_
  refine PJ.next ?_
  refine WJ.seq ?_
  refine WJ.quiet ?_
  refine QJ.step (YldS.yld (y_assign rfl)) rfl ?_
  refine QJ.done ?_
  refine PJ.next ?_
  refine WJ.block ?_
  refine WJ.sel (L' := (fun (x : (List α) × Int × Int × Int × Bool × Bool) => [box g5 77 [.func (.func gl) #[] lb, .func (.func gs) #[] sb], AA x.1]) (xs1, a2, b3, limit4, true, true)) [0, 1] ⟨by decide, rfl⟩ ?_
  refine WJ.sub (m' := (fun (x : (List α) × Int × Int × Int × Bool × Bool) => [(1, .int .i64 x.2.1), (2, .int .i64 x.2.2.1), (3, .int .i64 x.2.2.2.1), (4, pt g5 0), (8, .bool x.2.2.2.2.1), (9, .bool x.2.2.2.2.2)]) (xs1, a2, b3, limit4, true, true)) ⟨rfl, rfl, rfl, rfl, rfl, rfl, trivial⟩ ?_
  refine WJ.loop (X := (List α) × Int × Int × Int × Bool × Bool) (fun N (x : (List α) × Int × Int × Int × Bool × Bool) => sort_pdqsort_func_l1 lt N x.1 x.2.1 x.2.2.1 x.2.2.2.1 x.2.2.2.2.1 x.2.2.2.2.2 = some r) (fun (x : (List α) × Int × Int × Int × Bool × Bool) => [(1, .int .i64 x.2.1), (2, .int .i64 x.2.2.1), (3, .int .i64 x.2.2.2.1), (4, pt g5 0), (8, .bool x.2.2.2.2.1), (9, .bool x.2.2.2.2.2)]) (fun (x : (List α) × Int × Int × Int × Bool × Bool) => [box g5 77 [.func (.func gl) #[] lb, .func (.func gs) #[] sb], AA x.1]) ?_ N (xs1, a2, b3, limit4, true, true) hm
  · rintro N ⟨l6, a7, b8, limit9, wasBalanced10, wasPartitioned11⟩ hI
    have hm := hI; clear hI
    cases N with
    | zero => cases hm
    | succ N =>
    unfold sort_pdqsort_func_l1 at hm
    refine WJ.block ?_
    refine WJ.seq ?_
    refine WJ.quiet ?_
    refine QJ.step (YldS.yld (y_move rfl)) rfl ?_
    refine QJ.step (YldS.yld (y_move rfl)) rfl ?_
    refine QJ.step (YldS.yld (y_bin rfl rfl rfl)) rfl ?_
    refine QJ.step (YldS.yld (y_assign rfl)) rfl ?_
    refine QJ.done ?_
    refine PJ.next ?_
    refine WJ.seq ?_
    refine WJ.seq ?_
    refine WJ.quiet ?_
    refine QJ.step (YldS.yld (y_move rfl)) rfl ?_
    refine QJ.step (YldS.yld (y_bin rfl rfl rfl)) rfl ?_
    refine QJ.done ?_
    refine PJ.next ?_
    refine WJ.cond (t := decide ((w64 (b8 - a7)) ≤ 12)) rfl (fun hb12 => ?_) (fun hb12 => ?_)
    · replace hm := ifT hm hb12
      refine WJ.seq ?_
      refine WJ.reg ?_
      refine SJ.q (YldS.yld (y_loadBN (k := 0) (off := 0) (us := [.func (.func gl) #[] lb, .func (.func gs) #[] sb]) rfl Try.isAgg77 Try.sizeOf77 rfl rfl)) rfl ?_
      refine SJ.q (YldS.yld (y_move rfl)) rfl ?_
      refine SJ.q (YldS.yld (y_move rfl)) rfl ?_
      obtain ⟨r13, h14, hm⟩ := bindS hm
      refine SJ.call1 (k := 1) rfl Try.call47 rfl (fun w S hw hA hO => ok_sort_insertionSort_func h14 w S hS hA) rfl ?_
      rintro _ _ ⟨rfl, rfl⟩
      refine SJ.nil ?_
      refine PJ.next ?_
      refine WJ.ret ?_
      refine PJ.then_ret (PJ.block_ret (PJ.then_ret (PJ.block_ret ?_)))
      obtain rfl := Option.some.inj hm
      refine PJ.sel (L' := [AA r13]) [0] ⟨by decide, rfl⟩ ?_
      exact PJ.retn (vs := []) Try.results30 trivial ⟨rfl, rfl⟩
    · replace hm := ifF hm hb12
      refine WJ.skip ?_
      refine PJ.next ?_
      refine WJ.seq ?_
      refine WJ.seq ?_
      refine WJ.quiet ?_
      refine QJ.step (YldS.yld (y_move rfl)) rfl ?_
      refine QJ.step (YldS.yld (y_bin rfl rfl rfl)) rfl ?_
      refine QJ.done ?_
      refine PJ.next ?_
      refine WJ.cond (t := (limit9 == 0)) rfl (fun hb15 => ?_) (fun hb15 => ?_)
      · replace hm := ifT hm hb15
        refine WJ.seq ?_
        refine WJ.reg ?_
        refine SJ.q (YldS.yld (y_loadBN (k := 0) (off := 0) (us := [.func (.func gl) #[] lb, .func (.func gs) #[] sb]) rfl Try.isAgg77 Try.sizeOf77 rfl rfl)) rfl ?_
        refine SJ.q (YldS.yld (y_move rfl)) rfl ?_
        refine SJ.q (YldS.yld (y_move rfl)) rfl ?_
        obtain ⟨r16, h17, hm⟩ := bindS hm
        refine SJ.call1 (k := 1) rfl Try.call48 rfl (fun w S hw hA hO => ok_sort_heapSort_func h17 w S hS hA) rfl ?_
        rintro _ _ ⟨rfl, rfl⟩
        refine SJ.nil ?_
        refine PJ.next ?_
        refine WJ.ret ?_
        refine PJ.then_ret (PJ.block_ret (PJ.then_ret (PJ.block_ret ?_)))
        obtain rfl := Option.some.inj hm
        refine PJ.sel (L' := [AA r16]) [0] ⟨by decide, rfl⟩ ?_
        exact PJ.retn (vs := []) Try.results30 trivial ⟨rfl, rfl⟩
      · replace hm := ifF hm hb15
        refine WJ.skip ?_
        refine PJ.next ?_
        obtain ⟨kj20, hk21, hm⟩ := withK_open hm
        refine WJ.join (X := (List α) × Int) (fun (x : (List α) × Int) => kj20 x.1 x.2 = some r) (fun (x : (List α) × Int) => [(1, .int .i64 a7), (2, .int .i64 b8), (3, .int .i64 x.2), (4, pt g5 0), (8, .bool wasBalanced10), (9, .bool wasPartitioned11), (10, .int .i64 (w64 (b8 - a7)))]) (fun (x : (List α) × Int) => [AA x.1, box g5 77 [.func (.func gl) #[] lb, .func (.func gs) #[] sb]]) ?_ ?_
        · clear hk21
          refine WJ.seq ?_
          refine WJ.quiet ?_
          refine QJ.step (YldS.yld (y_move rfl)) rfl ?_
          refine QJ.step (YldS.yld (y_not rfl)) rfl ?_
          refine QJ.done ?_
          refine PJ.next ?_
          refine WJ.cond (t := !wasBalanced10) rfl (fun hb22 => ?_) (fun hb22 => ?_)
          · replace hm := ifT hm hb22
            refine WJ.seq ?_
            refine WJ.reg ?_
            refine SJ.q (YldS.yld (y_loadBN (k := 0) (off := 0) (us := [.func (.func gl) #[] lb, .func (.func gs) #[] sb]) rfl Try.isAgg77 Try.sizeOf77 rfl rfl)) rfl ?_
            refine SJ.q (YldS.yld (y_move rfl)) rfl ?_
            refine SJ.q (YldS.yld (y_move rfl)) rfl ?_
            obtain ⟨r23, h24, hm⟩ := bindS hm
            refine SJ.call1 (k := 1) rfl Try.call49 rfl (fun w S hw hA hO => ok_sort_breakPatterns_func h24 w S hS hA) rfl ?_
            rintro _ _ ⟨rfl, rfl⟩
            refine SJ.nil ?_
            refine PJ.next ?_
            refine WJ.quiet ?_
            refine QJ.step (YldS.yld (y_move rfl)) rfl ?_
            refine QJ.step (YldS.yld (y_bin rfl rfl rfl)) rfl ?_
            refine QJ.step (YldS.yld (y_assign rfl)) rfl ?_
            refine QJ.done ?_
            exact PJ.joined (r23, w64 (limit9 - 1)) [0, 1] hm ⟨rfl, rfl, rfl, rfl, rfl, rfl, rfl, trivial⟩ ⟨by decide, rfl⟩
          · replace hm := ifF hm hb22
            refine WJ.skip ?_
            exact PJ.joined (l6, limit9) [1, 0] hm ⟨rfl, rfl, rfl, rfl, rfl, rfl, rfl, trivial⟩ ⟨by decide, rfl⟩
        · rintro ⟨l18, limit19⟩ hm
          subst hk21
          refine WJ.seq ?_
          refine WJ.reg ?_
          refine SJ.q (YldS.yld (y_loadBN (k := 1) (off := 0) (us := [.func (.func gl) #[] lb, .func (.func gs) #[] sb]) rfl Try.isAgg77 Try.sizeOf77 rfl rfl)) rfl ?_
          refine SJ.q (YldS.yld (y_move rfl)) rfl ?_
          refine SJ.q (YldS.yld (y_move rfl)) rfl ?_
          obtain ⟨r25, h26, hm⟩ := bindS hm
          refine SJ.call1 (k := 0) rfl Try.call50 rfl (fun w S hw hA hO => ok_sort_choosePivot_func h26 w S hS hA) rfl ?_
          rintro _ _ ⟨rfl, rfl⟩
          refine SJ.q (YldS.yld (y_move rfl)) rfl ?_
          refine SJ.q (YldS.yld (y_extract rfl rfl)) rfl ?_
          refine SJ.q (YldS.yld (y_extract rfl rfl)) rfl ?_
          refine SJ.q (YldS.yld (y_assign rfl)) rfl ?_
          refine SJ.q (YldS.yld (y_assign rfl)) rfl ?_
          refine SJ.nil ?_
          refine PJ.next ?_
          obtain ⟨kj30, hk31, hm⟩ := withK_open hm
          refine WJ.join (X := (List α) × Int × Int) (fun (x : (List α) × Int × Int) => kj30 x.1 x.2.1 x.2.2 = some r) (fun (x : (List α) × Int × Int) => [(1, .int .i64 a7), (2, .int .i64 b8), (3, .int .i64 limit19), (4, pt g5 0), (8, .bool wasBalanced10), (9, .bool wasPartitioned11), (10, .int .i64 (w64 (b8 - a7))), (11, .int .i64 x.2.1), (12, .int .i64 x.2.2)]) (fun (x : (List α) × Int × Int) => [AA x.1, box g5 77 [.func (.func gl) #[] lb, .func (.func gs) #[] sb]]) ?_ ?_
          · clear hk31
            refine WJ.seq ?_
            refine WJ.quiet ?_
            refine QJ.step (YldS.yld (y_move rfl)) rfl ?_
            refine QJ.step (YldS.yld (y_bin rfl rfl rfl)) rfl ?_
            refine QJ.done ?_
            refine PJ.next ?_
            refine WJ.cond (t := (r25.2.1 == 2)) rfl (fun hb32 => ?_) (fun hb32 => ?_)
            · replace hm := ifT hm hb32
              refine WJ.seq ?_
              refine WJ.reg ?_
              refine SJ.q (YldS.yld (y_loadBN (k := 1) (off := 0) (us := [.func (.func gl) #[] lb, .func (.func gs) #[] sb]) rfl Try.isAgg77 Try.sizeOf77 rfl rfl)) rfl ?_
              refine SJ.q (YldS.yld (y_move rfl)) rfl ?_
              refine SJ.q (YldS.yld (y_move rfl)) rfl ?_
              obtain ⟨r33, h34, hm⟩ := bindS hm
              refine SJ.call1 (k := 0) rfl Try.call51 rfl (fun w S hw hA hO => ok_sort_reverseRange_func h34 w S hS hA) rfl ?_
              rintro _ _ ⟨rfl, rfl⟩
              refine SJ.nil ?_
              refine PJ.next ?_
              refine WJ.seq ?_
              refine WJ.quiet ?_
              refine QJ.step (YldS.yld (y_move rfl)) rfl ?_
              refine QJ.step (YldS.yld (y_bin rfl rfl rfl)) rfl ?_
              refine QJ.step (YldS.yld (y_move rfl)) rfl ?_
              refine QJ.step (YldS.yld (y_move rfl)) rfl ?_
              refine QJ.step (YldS.yld (y_bin rfl rfl rfl)) rfl ?_
              refine QJ.step (YldS.yld (y_bin rfl rfl rfl)) rfl ?_
              refine QJ.step (YldS.yld (y_assign rfl)) rfl ?_
              refine QJ.done ?_
              refine PJ.next ?_
              refine WJ.quiet ?_
              refine QJ.step (YldS.yld (y_assign rfl)) rfl ?_
              refine QJ.done ?_
              exact PJ.joined (r33, w64 ((w64 (b8 - 1)) - (w64 (r25.1 - a7))), 1) [0, 1] hm ⟨rfl, rfl, rfl, rfl, rfl, rfl, rfl, rfl, rfl, trivial⟩ ⟨by decide, rfl⟩
            · replace hm := ifF hm hb32
              refine WJ.skip ?_
              exact PJ.joined (r25.2.2, r25.1, r25.2.1) [0, 1] hm ⟨rfl, rfl, rfl, rfl, rfl, rfl, rfl, rfl, rfl, trivial⟩ ⟨by decide, rfl⟩
          · rintro ⟨l27, pivot28, hint29⟩ hm
            subst hk31
            obtain ⟨kj36, hk37, hm⟩ := withK_open hm
            refine WJ.join (X := (List α)) (fun (x : (List α)) => kj36 x = some r) (fun (x : (List α)) => [(1, .int .i64 a7), (2, .int .i64 b8), (3, .int .i64 limit19), (4, pt g5 0), (8, .bool wasBalanced10), (9, .bool wasPartitioned11), (10, .int .i64 (w64 (b8 - a7))), (11, .int .i64 pivot28)]) (fun (x : (List α)) => [AA x, box g5 77 [.func (.func gl) #[] lb, .func (.func gs) #[] sb]]) ?_ ?_
            · clear hk37
              refine WJ.seq ?_
              refine WJ.quiet ?_
              refine QJ.step (YldS.yld (y_move rfl)) rfl ?_
              refine QJ.step (YldS.yld (y_move rfl)) rfl ?_
              obtain ⟨t38, h39, hm⟩ := bindS hm
              refine QJ.cut 2 [(1, .int .i64 a7), (2, .int .i64 b8), (3, .int .i64 limit19), (4, pt g5 0), (8, .bool wasBalanced10), (9, .bool wasPartitioned11), (10, .int .i64 (w64 (b8 - a7))), (11, .int .i64 pivot28), (12, .int .i64 hint29), (64, .bool t38)] ?_ ?_
              · rcases Bool.eq_false_or_eq_true wasBalanced10 with hb40 | hb40
                · replace h39 := andT h39 hb40
                  refine QJ.on rfl rfl (cB hb40) (YldS.yld (y_move rfl)) rfl ?_
                  refine QJ.step (YldS.yld (y_pick_t (cB hb40) rfl)) rfl ?_
                  obtain rfl := Option.some.inj h39
                  exact QJ.cut_end ⟨rfl, rfl, rfl, rfl, rfl, rfl, rfl, rfl, rfl, rfl, trivial⟩
                · obtain rfl := andF h39 hb40
                  refine QJ.off rfl rfl (cB hb40) rfl rfl ?_
                  refine QJ.step (YldS.yld (y_pick_f (cB hb40) rfl)) rfl ?_
                  exact QJ.cut_end ⟨rfl, rfl, rfl, rfl, rfl, rfl, rfl, rfl, rfl, rfl, trivial⟩
              refine QJ.step (YldS.yld (y_move rfl)) rfl ?_
              obtain ⟨t41, h42, hm⟩ := bindS hm
              refine QJ.cut 3 [(1, .int .i64 a7), (2, .int .i64 b8), (3, .int .i64 limit19), (4, pt g5 0), (8, .bool wasBalanced10), (9, .bool wasPartitioned11), (10, .int .i64 (w64 (b8 - a7))), (11, .int .i64 pivot28), (68, .bool t41)] ?_ ?_
              · rcases Bool.eq_false_or_eq_true t38 with hb43 | hb43
                · replace h42 := andT h42 hb43
                  refine QJ.on rfl rfl (cB hb43) (YldS.yld (y_move rfl)) rfl ?_
                  refine QJ.on rfl rfl (cB hb43) (YldS.yld (y_bin rfl rfl rfl)) rfl ?_
                  refine QJ.step (YldS.yld (y_pick_t (cB hb43) rfl)) rfl ?_
                  obtain rfl := Option.some.inj h42
                  exact QJ.cut_end ⟨rfl, rfl, rfl, rfl, rfl, rfl, rfl, rfl, rfl, trivial⟩
                · obtain rfl := andF h42 hb43
                  refine QJ.off rfl rfl (cB hb43) rfl rfl ?_
                  refine QJ.off rfl rfl (cB hb43) rfl rfl ?_
                  refine QJ.step (YldS.yld (y_pick_f (cB hb43) rfl)) rfl ?_
                  exact QJ.cut_end ⟨rfl, rfl, rfl, rfl, rfl, rfl, rfl, rfl, rfl, trivial⟩
              refine QJ.done ?_
              refine PJ.next ?_
              refine WJ.cond (t := t41) rfl (fun hb44 => ?_) (fun hb44 => ?_)
              · replace hm := ifT hm hb44
                refine WJ.seq ?_
                refine WJ.reg ?_
                refine SJ.q (YldS.yld (y_loadBN (k := 1) (off := 0) (us := [.func (.func gl) #[] lb, .func (.func gs) #[] sb]) rfl Try.isAgg77 Try.sizeOf77 rfl rfl)) rfl ?_
                refine SJ.q (YldS.yld (y_move rfl)) rfl ?_
                refine SJ.q (YldS.yld (y_move rfl)) rfl ?_
                obtain ⟨r45, h46, hm⟩ := bindS hm
                refine SJ.call1 (k := 0) rfl Try.call52 rfl (fun w S hw hA hO => ok_sort_partialInsertionSort_func h46 w S hS hA) rfl ?_
                rintro _ _ ⟨rfl, rfl⟩
                refine SJ.nil ?_
                refine PJ.next ?_
                refine WJ.cond (t := r45.1) rfl (fun hb47 => ?_) (fun hb47 => ?_)
                · replace hm := ifT hm hb47
                  refine WJ.ret ?_
                  refine PJ.then_ret (PJ.block_ret (PJ.then_ret (PJ.block_ret ?_)))
                  obtain rfl := Option.some.inj hm
                  refine PJ.sel (L' := [AA r45.2]) [0] ⟨by decide, rfl⟩ ?_
                  exact PJ.retn (vs := []) Try.results30 trivial ⟨rfl, rfl⟩
                · replace hm := ifF hm hb47
                  refine WJ.skip ?_
                  exact PJ.joined r45.2 [0, 1] hm ⟨rfl, rfl, rfl, rfl, rfl, rfl, rfl, rfl, trivial⟩ ⟨by decide, rfl⟩
              · replace hm := ifF hm hb44
                refine WJ.skip ?_
                exact PJ.joined l27 [0, 1] hm ⟨rfl, rfl, rfl, rfl, rfl, rfl, rfl, rfl, trivial⟩ ⟨by decide, rfl⟩
            · rintro l35 hm
              subst hk37
              refine WJ.seq ?_
              refine WJ.seq ?_
              refine WJ.quiet ?_
              refine QJ.step (YldS.yld (y_move rfl)) rfl ?_
              refine QJ.step (YldS.yld (y_bin rfl rfl rfl)) rfl ?_
              refine QJ.step (YldS.yld (y_move rfl)) rfl ?_
              obtain ⟨t48, h49, hm⟩ := bindS hm
              refine QJ.cut 8 [(1, .int .i64 a7), (2, .int .i64 b8), (3, .int .i64 limit19), (4, pt g5 0), (8, .bool wasBalanced10), (9, .bool wasPartitioned11), (10, .int .i64 (w64 (b8 - a7))), (11, .int .i64 pivot28), (83, .bool t48)] ?_ ?_
              · rcases Bool.eq_false_or_eq_true (decide (a7 > 0)) with hb50 | hb50
                · replace h49 := andT h49 hb50
                  refine QJ.on rfl rfl (cB hb50) (YldS.yld (y_fldB (o := 0) fld77_0 rfl)) rfl ?_
                  refine QJ.on rfl rfl (cB hb50) (YldS.yld (y_loadB (k := 1) (off := 0) (v := .func (.func gl) #[] lb) rfl Try.isAgg54 rfl rfl)) rfl ?_
                  refine QJ.on rfl rfl (cB hb50) (YldS.yld (y_move rfl)) rfl ?_
                  refine QJ.on rfl rfl (cB hb50) (YldS.yld (y_bin rfl rfl rfl)) rfl ?_
                  refine QJ.on rfl rfl (cB hb50) (YldS.yld (y_move rfl)) rfl ?_
                  obtain ⟨b52, h51, h49⟩ := bindS h49
                  refine QJ.on rfl rfl (cB hb50) (y_callL hS h51 (k := 0) rfl rfl rfl) rfl ?_
                  refine QJ.on rfl rfl (cB hb50) (YldS.yld (y_not rfl)) rfl ?_
                  refine QJ.step (YldS.yld (y_pick_t (cB hb50) rfl)) rfl ?_
                  obtain rfl := Option.some.inj h49
                  exact QJ.cut_end ⟨rfl, rfl, rfl, rfl, rfl, rfl, rfl, rfl, rfl, trivial⟩
                · obtain rfl := andF h49 hb50
                  refine QJ.off rfl rfl (cB hb50) rfl rfl ?_
                  refine QJ.off rfl rfl (cB hb50) rfl rfl ?_
                  refine QJ.off rfl rfl (cB hb50) rfl rfl ?_
                  refine QJ.off rfl rfl (cB hb50) rfl rfl ?_
                  refine QJ.off rfl rfl (cB hb50) rfl rfl ?_
                  refine QJ.off rfl rfl (cB hb50) rfl rfl ?_
                  refine QJ.off rfl rfl (cB hb50) rfl rfl ?_
                  refine QJ.step (YldS.yld (y_pick_f (cB hb50) rfl)) rfl ?_
                  exact QJ.cut_end ⟨rfl, rfl, rfl, rfl, rfl, rfl, rfl, rfl, rfl, trivial⟩
              refine QJ.done ?_
              refine PJ.next ?_
              refine WJ.cond (t := t48) rfl (fun hb53 => ?_) (fun hb53 => ?_)
              · replace hm := ifT hm hb53
                refine WJ.seq ?_
                refine WJ.reg ?_
                refine SJ.q (YldS.yld (y_loadBN (k := 1) (off := 0) (us := [.func (.func gl) #[] lb, .func (.func gs) #[] sb]) rfl Try.isAgg77 Try.sizeOf77 rfl rfl)) rfl ?_
                refine SJ.q (YldS.yld (y_move rfl)) rfl ?_
                refine SJ.q (YldS.yld (y_move rfl)) rfl ?_
                refine SJ.q (YldS.yld (y_move rfl)) rfl ?_
                obtain ⟨r54, h55, hm⟩ := bindS hm
                refine SJ.call1 (k := 0) rfl Try.call53 rfl (fun w S hw hA hO => ok_sort_partitionEqual_func h55 w S hS hA) rfl ?_
                rintro _ _ ⟨rfl, rfl⟩
                refine SJ.q (YldS.yld (y_assign rfl)) rfl ?_
                refine SJ.nil ?_
                refine PJ.next ?_
                refine WJ.seq ?_
                refine WJ.quiet ?_
                refine QJ.step (YldS.yld (y_move rfl)) rfl ?_
                refine QJ.step (YldS.yld (y_assign rfl)) rfl ?_
                refine QJ.done ?_
                refine PJ.next ?_
                refine WJ.exit ?_
                refine PJ.then_exit (PJ.block_exit ?_)
                exact PJ.round (r54.2, r54.1, b8, limit19, wasBalanced10, wasPartitioned11) [1, 0] hm ⟨rfl, rfl, rfl, rfl, rfl, rfl, trivial⟩ ⟨by decide, rfl⟩
              · replace hm := ifF hm hb53
                refine WJ.skip ?_
                refine PJ.next ?_
                refine WJ.seq ?_
                refine WJ.reg ?_
                refine SJ.q (YldS.yld (y_loadBN (k := 1) (off := 0) (us := [.func (.func gl) #[] lb, .func (.func gs) #[] sb]) rfl Try.isAgg77 Try.sizeOf77 rfl rfl)) rfl ?_
                refine SJ.q (YldS.yld (y_move rfl)) rfl ?_
                refine SJ.q (YldS.yld (y_move rfl)) rfl ?_
                refine SJ.q (YldS.yld (y_move rfl)) rfl ?_
                obtain ⟨r56, h57, hm⟩ := bindS hm
                refine SJ.call1 (k := 0) rfl Try.call54 rfl (fun w S hw hA hO => ok_sort_partition_func h57 w S hS hA) rfl ?_
                rintro _ _ ⟨rfl, rfl⟩
                refine SJ.q (YldS.yld (y_move rfl)) rfl ?_
                refine SJ.q (YldS.yld (y_extract rfl rfl)) rfl ?_
                refine SJ.q (YldS.yld (y_extract rfl rfl)) rfl ?_
                refine SJ.q (YldS.yld (y_assign rfl)) rfl ?_
                refine SJ.q (YldS.yld (y_assign rfl)) rfl ?_
                refine SJ.nil ?_
                refine PJ.next ?_
                refine WJ.seq ?_
                refine WJ.quiet ?_
                refine QJ.step (YldS.yld (y_move rfl)) rfl ?_
                refine QJ.step (YldS.yld (y_assign rfl)) rfl ?_
                refine QJ.done ?_
                refine PJ.next ?_
                refine WJ.seq ?_
                refine WJ.quiet ?_
                refine QJ.step (YldS.yld (y_move rfl)) rfl ?_
                refine QJ.step (YldS.yld (y_move rfl)) rfl ?_
                refine QJ.step (YldS.yld (y_bin rfl rfl rfl)) rfl ?_
                refine QJ.step (YldS.yld (y_move rfl)) rfl ?_
                refine QJ.step (YldS.yld (y_move rfl)) rfl ?_
                refine QJ.step (YldS.yld (y_bin rfl rfl rfl)) rfl ?_
                refine QJ.step (YldS.yld (y_assign rfl)) rfl ?_
                refine QJ.step (YldS.yld (y_assign rfl)) rfl ?_
                refine QJ.done ?_
                refine PJ.next ?_
                refine WJ.seq ?_
                refine WJ.quiet ?_
                refine QJ.step (YldS.yld (y_move rfl)) rfl ?_
                refine QJ.step (YldS.yld (y_quo rfl rfl (by decide))) rfl ?_
                refine QJ.step (YldS.yld (y_assign rfl)) rfl ?_
                refine QJ.done ?_
                refine PJ.next ?_
                refine WJ.seq ?_
                refine WJ.quiet ?_
                refine QJ.step (YldS.yld (y_move rfl)) rfl ?_
                refine QJ.step (YldS.yld (y_move rfl)) rfl ?_
                refine QJ.step (YldS.yld (y_bin rfl rfl rfl)) rfl ?_
                refine QJ.done ?_
                refine PJ.next ?_
                refine WJ.cond (t := decide ((w64 (r56.1 - a7)) < (w64 (b8 - r56.1)))) rfl (fun hb58 => ?_) (fun hb58 => ?_)
                · replace hm := ifT hm hb58
                  refine WJ.seq ?_
                  refine WJ.quiet ?_
                  refine QJ.step (YldS.yld (y_move rfl)) rfl ?_
                  refine QJ.step (YldS.yld (y_move rfl)) rfl ?_
                  refine QJ.step (YldS.yld (y_bin rfl rfl rfl)) rfl ?_
                  refine QJ.step (YldS.yld (y_assign rfl)) rfl ?_
                  refine QJ.done ?_
                  refine PJ.next ?_
                  refine WJ.seq ?_
                  refine WJ.reg ?_
                  refine SJ.q (YldS.yld (y_loadBN (k := 1) (off := 0) (us := [.func (.func gl) #[] lb, .func (.func gs) #[] sb]) rfl Try.isAgg77 Try.sizeOf77 rfl rfl)) rfl ?_
                  refine SJ.q (YldS.yld (y_move rfl)) rfl ?_
                  refine SJ.q (YldS.yld (y_move rfl)) rfl ?_
                  refine SJ.q (YldS.yld (y_move rfl)) rfl ?_
                  obtain ⟨r59, h60, hm⟩ := bindS hm
                  refine SJ.call1 (k := 0) rfl Try.call30 rfl (fun w S hw hA hO => ok_sort_pdqsort_funcS h60 w S hS hA) rfl ?_
                  rintro _ _ ⟨rfl, rfl⟩
                  refine SJ.nil ?_
                  refine PJ.next ?_
                  refine WJ.quiet ?_
                  refine QJ.step (YldS.yld (y_move rfl)) rfl ?_
                  refine QJ.step (YldS.yld (y_bin rfl rfl rfl)) rfl ?_
                  refine QJ.step (YldS.yld (y_assign rfl)) rfl ?_
                  refine QJ.done ?_
                  refine PJ.block_normal ?_
                  exact PJ.round (r59, w64 (r56.1 + 1), b8, limit19, decide ((w64 (r56.1 - a7)) ≥ (w64 (Int.tdiv (w64 (b8 - a7)) 8))), r56.2.1) [1, 0] hm ⟨rfl, rfl, rfl, rfl, rfl, rfl, trivial⟩ ⟨by decide, rfl⟩
                · replace hm := ifF hm hb58
                  refine WJ.seq ?_
                  refine WJ.quiet ?_
                  refine QJ.step (YldS.yld (y_move rfl)) rfl ?_
                  refine QJ.step (YldS.yld (y_move rfl)) rfl ?_
                  refine QJ.step (YldS.yld (y_bin rfl rfl rfl)) rfl ?_
                  refine QJ.step (YldS.yld (y_assign rfl)) rfl ?_
                  refine QJ.done ?_
                  refine PJ.next ?_
                  refine WJ.seq ?_
                  refine WJ.reg ?_
                  refine SJ.q (YldS.yld (y_loadBN (k := 1) (off := 0) (us := [.func (.func gl) #[] lb, .func (.func gs) #[] sb]) rfl Try.isAgg77 Try.sizeOf77 rfl rfl)) rfl ?_
                  refine SJ.q (YldS.yld (y_move rfl)) rfl ?_
                  refine SJ.q (YldS.yld (y_bin rfl rfl rfl)) rfl ?_
                  refine SJ.q (YldS.yld (y_move rfl)) rfl ?_
                  refine SJ.q (YldS.yld (y_move rfl)) rfl ?_
                  obtain ⟨r61, h62, hm⟩ := bindS hm
                  refine SJ.call1 (k := 0) rfl Try.call30 rfl (fun w S hw hA hO => ok_sort_pdqsort_funcS h62 w S hS hA) rfl ?_
                  rintro _ _ ⟨rfl, rfl⟩
                  refine SJ.nil ?_
                  refine PJ.next ?_
                  refine WJ.quiet ?_
                  refine QJ.step (YldS.yld (y_move rfl)) rfl ?_
                  refine QJ.step (YldS.yld (y_assign rfl)) rfl ?_
                  refine QJ.done ?_
                  refine PJ.block_normal ?_
                  exact PJ.round (r61, a7, r56.1, limit19, decide ((w64 (b8 - r56.1)) ≥ (w64 (Int.tdiv (w64 (b8 - a7)) 8))), r56.2.1) [1, 0] hm ⟨rfl, rfl, rfl, rfl, rfl, rfl, trivial⟩ ⟨by decide, rfl⟩

set_option maxRecDepth 100000 in
set_option maxHeartbeats 1000000 in
theorem ok_i_RareFaults {N : Nat} {list1 : List Writer} {r : (List TypeFault) × Int} (hm : i_RareFaults N list1 = some r) (w : World) (v2 : Value) (hr3 : RdS w (cx w).Fz v2 (shWriter.rp fTypeFault.rp) list1) :
    Calls Try.prog 7 #[v2] w (RetG (cx w) fun u L => ∃ (u1 : Value), (u = tup [u1, .int .i64 r.2] ∧ L = [row u1 39 fTypeFault r.1])) := by
  unfold i_RareFaults at hm
  refine Calls.enter [v2] Try.func7 rfl Try.ntmps7 rfl ?_
  refine WJ.seq ?_
  refine WJ.quiet ?_
  refine QJ.step (YldS.yld (y_assign rfl)) rfl ?_
  refine QJ.step (YldS.yld (y_assign rfl)) rfl ?_
  refine QJ.done ?_
  refine PJ.next ?_
  refine WJ.seq ?_
  refine WJ.seq ?_
  refine WJ.quiet ?_
  refine QJ.step (YldS.yld (y_move rfl)) rfl ?_
  obtain ⟨r4, h5, hm⟩ := bindS hm
  refine QJ.step (y_call Try.call13 rfl (RetG.quiet fun w hw => ok_i_ValidWriters h5 w _ (hr3.st hw))) rfl ?_
  refine QJ.step (YldS.yld (y_not rfl)) rfl ?_
  refine QJ.done ?_
  refine PJ.next ?_
  refine WJ.cond (t := !r4) rfl (fun hb6 => ?_) (fun hb6 => ?_)
  · replace hm := ifT hm hb6
    refine WJ.seq ?_
    refine WJ.quiet ?_
    refine QJ.step (YldS.yld (y_assign rfl)) rfl ?_
    refine QJ.step (YldS.yld (y_assign rfl)) rfl ?_
    refine QJ.done ?_
    refine PJ.next ?_
    refine WJ.ret ?_
    refine PJ.then_ret ?_
    refine PJ.nil_row 39 fTypeFault ?_
    obtain rfl := Option.some.inj hm
    refine PJ.sel (L' := [row (.slice none 0 0) 39 fTypeFault []]) [0] ⟨by decide, rfl⟩ ?_
    exact PJ.retn (vs := [(.slice none 0 0), .int .i64 1]) Try.results7 ⟨rfl, rfl, trivial⟩ ⟨_, rfl, rfl⟩
  · replace hm := ifF hm hb6
    refine WJ.skip ?_
    refine PJ.next ?_
    refine WJ.seq ?_
    refine WJ.reg ?_
    refine SJ.makeMapK kf39 vI64 rfl fun g7 => ?_
    refine SJ.q (YldS.yld (y_assign rfl)) rfl ?_
    refine SJ.nil ?_
    refine PJ.next ?_
    obtain ⟨kj9, hk10, hm⟩ := withK_open hm
    refine WJ.join (X := (List (TypeFault × Int))) (fun (x : (List (TypeFault × Int))) => kj9 x = some r) (fun (x : (List (TypeFault × Int))) => [(0, v2), (4, .map (some g7))]) (fun (x : (List (TypeFault × Int))) => [mpK kf39 vI64 g7 x]) ?_ ?_
    · clear hk10
      refine WJ.seq ?_
      refine WJ.quiet ?_
      refine QJ.step (YldS.yld (y_move rfl)) rfl ?_
      refine QJ.step (YldS.yld (y_lenS Try.runUnderlying24 hr3 rfl)) rfl ?_
      refine QJ.step (YldS.yld (y_move rfl)) rfl ?_
      refine QJ.done ?_
      refine PJ.next ?_
      refine WJ.block ?_
      refine WJ.sel (L' := (fun (x : (List (TypeFault × Int)) × Int) => [mpK kf39 vI64 g7 x.1]) (([] : List (TypeFault × Int)), 0)) [0] ⟨by decide, rfl⟩ ?_
      refine WJ.sub (m' := (fun (x : (List (TypeFault × Int)) × Int) => [(0, v2), (4, .map (some g7)), (18, v2), (19, .int .i64 (List.length list1 : Int)), (20, .int .i64 x.2)]) (([] : List (TypeFault × Int)), 0)) ⟨rfl, rfl, rfl, rfl, rfl, trivial⟩ ?_
      refine WJ.loop (X := (List (TypeFault × Int)) × Int) (fun N (x : (List (TypeFault × Int)) × Int) => i_RareFaults_l1 kj9 list1 N x.1 x.2 = some r) (fun (x : (List (TypeFault × Int)) × Int) => [(0, v2), (4, .map (some g7)), (18, v2), (19, .int .i64 (List.length list1 : Int)), (20, .int .i64 x.2)]) (fun (x : (List (TypeFault × Int)) × Int) => [mpK kf39 vI64 g7 x.1]) ?_ N (([] : List (TypeFault × Int)), 0) hm
      · rintro N ⟨mp11, x12⟩ hI
        have hm := hI; clear hI
        cases N with
        | zero => cases hm
        | succ N =>
        unfold i_RareFaults_l1 at hm
        refine WJ.seq ?_
        refine WJ.quiet ?_
        refine QJ.step (YldS.yld (y_bin rfl rfl rfl)) rfl ?_
        refine QJ.done ?_
        refine PJ.next ?_
        refine WJ.seq ?_
        refine WJ.cond (t := decide (x12 < (List.length list1 : Int))) rfl (fun hb13 => ?_) (fun hb13 => ?_)
        · replace hm := ifT hm hb13
          refine WJ.skip ?_
          refine PJ.next ?_
          obtain ⟨kj15, hk16, hm⟩ := withK_open hm
          refine WJ.join (X := (List (TypeFault × Int))) (fun (x : (List (TypeFault × Int))) => kj15 x = some r) (fun (x : (List (TypeFault × Int))) => [(0, v2), (4, .map (some g7)), (18, v2), (19, .int .i64 (List.length list1 : Int)), (20, .int .i64 x12)]) (fun (x : (List (TypeFault × Int))) => [mpK kf39 vI64 g7 x]) ?_ ?_
          · clear hk16
            refine WJ.block ?_
            refine WJ.seq ?_
            refine WJ.reg ?_
            obtain ⟨e17, h18, hm⟩ := bindS hm
            obtain ⟨ad19, _, ⟨v22, rfl, hr23⟩, ha20, hy21⟩ := hr3.elem h18
            refine SJ.q (YldS.yld (hy21 Try.runUnderlying24 Try.sizeOf34 rfl rfl)) rfl ?_
            refine SJ.q (YldS.yld (y_loadN Try.isAgg34 Try.sizeOf34 rfl ha20 St.frozenC rfl)) rfl ?_
            refine SJ.alloc (cs := [str [], .slice none 0 0]) Try.zeroValue34 rfl rfl fun g24 => ?_
            refine SJ.nil_row 39 fTypeFault ?_
            have hc25 := And.intro (RdS.cells1 hr23) (RdS.one1 hr23)
            refine SJ.storeL (k := 1) (off := 0) (us := [str e17.name, v22]) rfl rfl rfl rfl Try.sizeOf34 rfl (by simp only [List.all_cons, hc25.2]; rfl) ?_
            refine SJ.nil ?_
            refine PJ.next ?_
            refine WJ.seq ?_
            refine WJ.quiet ?_
            refine QJ.step (YldS.yld (y_fldB (o := 0) fld34_1 rfl)) rfl ?_
            refine QJ.step (YldS.yld (y_loadB (k := 1) (off := 1) (v := v22) rfl Try.isAgg29 rfl rfl)) rfl ?_
            refine QJ.step (YldS.yld (y_lenS Try.runUnderlying29 hr23 rfl)) rfl ?_
            refine QJ.step (YldS.yld (y_move rfl)) rfl ?_
            refine QJ.done ?_
            refine PJ.next ?_
            refine WJ.block ?_
            refine WJ.sel (L' := (fun (x : (List (TypeFault × Int)) × Int) => [mpK kf39 vI64 g7 x.1]) (mp11, 0)) [2] ⟨by decide, rfl⟩ ?_
            refine WJ.sub (m' := (fun (x : (List (TypeFault × Int)) × Int) => [(0, v2), (4, .map (some g7)), (18, v2), (19, .int .i64 (List.length list1 : Int)), (20, .int .i64 x12), (25, v22), (26, .int .i64 (List.length e17.faults : Int)), (27, .int .i64 x.2)]) (mp11, 0)) ⟨rfl, rfl, rfl, rfl, rfl, rfl, rfl, rfl, trivial⟩ ?_
            refine WJ.loop (X := (List (TypeFault × Int)) × Int) (fun N (x : (List (TypeFault × Int)) × Int) => i_RareFaults_l2 kj15 e17 N x.1 x.2 = some r) (fun (x : (List (TypeFault × Int)) × Int) => [(0, v2), (4, .map (some g7)), (18, v2), (19, .int .i64 (List.length list1 : Int)), (20, .int .i64 x12), (25, v22), (26, .int .i64 (List.length e17.faults : Int)), (27, .int .i64 x.2)]) (fun (x : (List (TypeFault × Int)) × Int) => [mpK kf39 vI64 g7 x.1]) ?_ N (mp11, 0) hm
            · rintro N ⟨mp26, x27⟩ hI
              have hm := hI; clear hI
              cases N with
              | zero => cases hm
              | succ N =>
              unfold i_RareFaults_l2 at hm
              refine WJ.seq ?_
              refine WJ.quiet ?_
              refine QJ.step (YldS.yld (y_bin rfl rfl rfl)) rfl ?_
              refine QJ.done ?_
              refine PJ.next ?_
              refine WJ.seq ?_
              refine WJ.cond (t := decide (x27 < (List.length e17.faults : Int))) rfl (fun hb28 => ?_) (fun hb28 => ?_)
              · replace hm := ifT hm hb28
                refine WJ.skip ?_
                refine PJ.next ?_
                refine WJ.seq ?_
                refine WJ.block ?_
                refine WJ.seq ?_
                refine WJ.reg ?_
                obtain ⟨e29, h30, hm⟩ := bindS hm
                obtain ⟨ad31, _, rfl, ha32, hy33⟩ := hr23.elem h30
                refine SJ.q (YldS.yld (hy33 Try.runUnderlying29 Try.sizeOf39 rfl rfl)) rfl ?_
                refine SJ.q (YldS.yld (y_loadN Try.isAgg39 Try.sizeOf39 rfl ha32 St.frozenC rfl)) rfl ?_
                refine SJ.alloc (cs := [str [], .int .i64 0]) Try.zeroValue39 rfl rfl fun g34 => ?_
                refine SJ.storeL (k := 0) (off := 0) (us := [str e29.letter, .int .i64 e29.kind]) rfl rfl rfl rfl Try.sizeOf39 rfl rfl ?_
                refine SJ.nil ?_
                refine PJ.next ?_
                refine WJ.draws (N := 7) (listed0 := #[false, false, false, false, false, false, false]) [box g34 39 [str e29.letter, .int .i64 e29.kind]] follows rfl rfl ?_
                refine RJ.first 0 (listed' := #[true, false, false, false, false, false, false]) [0] rfl (by kernel_rfl) rfl ⟨by decide, rfl⟩ (y_move rfl) rfl ?_
                refine RJ.first 1 (listed' := #[true, true, false, false, false, false, false]) [0] rfl (by kernel_rfl) rfl ⟨by decide, rfl⟩ (y_loadBN (k := 0) (off := 0) (us := [str e29.letter, .int .i64 e29.kind]) rfl Try.isAgg39 Try.sizeOf39 rfl rfl) rfl ?_
                refine RJ.hold (X := Nat) 1 #[true, true, true, true, true, true, false] (fun (x : Nat) => [(0, v2), (4, .map (some g7)), (18, v2), (19, .int .i64 (List.length list1 : Int)), (20, .int .i64 x12), (25, v22), (26, .int .i64 (List.length e17.faults : Int)), (27, .int .i64 x27), (31, .map (some g7)), (34, .int .i64 (w64 ((Option.getD (mgetK TypeFault.beq mp26 e29) (0 : Int)) + 1))), (36, .int .i64 (x : Int))]) (fun (x : Nat) => [box g34 39 [str e29.letter, .int .i64 e29.kind], mpE kf39 vI64 TypeFault.beq g7 mp26 e29 (0 : Int) x]) ?_ ?_
                · rintro st35
                  refine RJ.step1 6 [0] (by kernel_rfl) ⟨by decide, rfl⟩ ?_
                  refine RO.of (listed' := #[true, true, true, true, true, true, true]) rfl rfl ?_
                  refine SJ.entryStoreK (k := 1) (b := w64 ((Option.getD (mgetK TypeFault.beq mp26 e29) (0 : Int)) + 1)) rfl rfl rfl rfl ?_
                  refine SJ.nil ?_
                  refine PJ.draw ?_
                  refine RJ.fin [0] (by kernel_rfl) ⟨by decide, rfl⟩ ?_
                  refine PJ.block_normal (PJ.next ?_)
                  refine WJ.quiet ?_
                  refine QJ.step (YldS.yld (y_bin rfl rfl rfl)) rfl ?_
                  refine QJ.step (YldS.yld (y_move rfl)) rfl ?_
                  refine QJ.done ?_
                  exact PJ.round (msetK TypeFault.beq mp26 e29 (w64 ((Option.getD (mgetK TypeFault.beq mp26 e29) (0 : Int)) + 1)), w64 (x27 + 1)) [1] hm ⟨rfl, rfl, rfl, rfl, rfl, rfl, rfl, rfl, trivial⟩ ⟨by decide, rfl⟩
                · intro hD36
                  refine RJ.step2 2 4 [0] (by kernel_rfl) ⟨by decide, rfl⟩ ?_ ?_
                  · refine RO.of (listed' := #[true, true, true, false, false, false, false]) rfl rfl ?_
                    refine SJ.q (YldS.yld (y_lookupK (k := 1) (key := e29) (z := (0 : Int)) keyP39 rfl Try.underlying52 Try.zeroValue3 rfl rfl)) rfl ?_
                    refine SJ.nil ?_
                    refine PJ.draw ?_
                    refine RJ.first 3 (listed' := #[true, true, true, true, false, false, false]) [0] rfl (by kernel_rfl) rfl ⟨by decide, rfl⟩ (y_bin rfl rfl rfl) rfl ?_
                    refine RJ.step1 4 [0] (by kernel_rfl) ⟨by decide, rfl⟩ ?_
                    refine RO.of (listed' := #[true, true, true, true, true, false, false]) rfl rfl ?_
                    refine SJ.mapEntryK (k := 1) (key := e29) (z := (0 : Int)) keyP39 Try.underlying52 Try.zeroValue3 rfl rfl rfl rfl fun st35 => ?_
                    refine SJ.nil ?_
                    refine PJ.draw ?_
                    refine RJ.first 5 (listed' := #[true, true, true, true, true, true, false]) [0] rfl (by kernel_rfl) rfl ⟨by decide, rfl⟩ (y_extract rfl rfl) rfl ?_
                    exact RJ.weak (hD36 st35) [0, 1] ⟨rfl, rfl, rfl, rfl, rfl, rfl, rfl, rfl, rfl, rfl, rfl, trivial⟩ ⟨by decide, rfl⟩
                  · refine RO.of (listed' := #[true, true, false, false, true, false, false]) rfl rfl ?_
                    refine SJ.mapEntryK (k := 1) (key := e29) (z := (0 : Int)) keyP39 Try.underlying52 Try.zeroValue3 rfl rfl rfl rfl fun st35 => ?_
                    refine SJ.nil ?_
                    refine PJ.draw ?_
                    refine RJ.first 5 (listed' := #[true, true, false, false, true, true, false]) [0] rfl (by kernel_rfl) rfl ⟨by decide, rfl⟩ (y_extract rfl rfl) rfl ?_
                    refine RJ.step1 2 [0] (by kernel_rfl) ⟨by decide, rfl⟩ ?_
                    refine RO.of (listed' := #[true, true, true, false, true, true, false]) rfl rfl ?_
                    refine SJ.q (YldS.yld (y_lookupKE (k := 1) (key := e29) (z := (0 : Int)) keyP39 rfl Try.underlying52 Try.zeroValue3 rfl rfl)) rfl ?_
                    refine SJ.nil ?_
                    refine PJ.draw ?_
                    refine RJ.first 3 (listed' := #[true, true, true, true, true, true, false]) [0] rfl (by kernel_rfl) rfl ⟨by decide, rfl⟩ (y_bin rfl rfl rfl) rfl ?_
                    exact RJ.weak (hD36 st35) [0, 1] ⟨rfl, rfl, rfl, rfl, rfl, rfl, rfl, rfl, rfl, rfl, rfl, trivial⟩ ⟨by decide, rfl⟩
              · replace hm := ifF hm hb28
                refine WJ.exit ?_
                refine PJ.then_exit (PJ.then_exit (PJ.block_exit (PJ.block_normal ?_)))
                exact PJ.joined mp26 [0] hm ⟨rfl, rfl, rfl, rfl, rfl, trivial⟩ ⟨by decide, rfl⟩
          · rintro mp14 hm
            subst hk16
            refine WJ.quiet ?_
            refine QJ.step (YldS.yld (y_bin rfl rfl rfl)) rfl ?_
            refine QJ.step (YldS.yld (y_move rfl)) rfl ?_
            refine QJ.done ?_
            exact PJ.round (mp14, w64 (x12 + 1)) [0] hm ⟨rfl, rfl, rfl, rfl, rfl, trivial⟩ ⟨by decide, rfl⟩
        · replace hm := ifF hm hb13
          refine WJ.exit ?_
          refine PJ.then_exit (PJ.then_exit (PJ.block_exit ?_))
          exact PJ.joined mp11 [0] hm ⟨rfl, rfl, trivial⟩ ⟨by decide, rfl⟩
    · rintro mp8 hm
      subst hk10
      refine WJ.seq ?_
      refine WJ.reg ?_
      refine SJ.buildSlice (R := fTypeFault) (os := []) [] Try.runUnderlying29 Try.sizeOf39 Try.zeroValue39 rfl rfl rfl rfl rfl rfl fun v37 => ?_
      refine SJ.alloc (cs := [.slice none 0 0]) Try.zeroValue29 rfl rfl fun g38 => ?_
      refine SJ.rowCells (k := 1) rfl fun hc39 => ?_
      refine SJ.storeL (k := 0) (off := 0) (us := [v37]) rfl rfl rfl hc39.1 Try.sizeOf29 rfl (by simp [hc39.2]) ?_
      refine SJ.nil ?_
      refine PJ.next ?_
      obtain ⟨kj42, hk43, hm⟩ := withK_open hm
      refine WJ.join (X := (List TypeFault) × Value) (fun (x : (List TypeFault) × Value) => kj42 x.1 = some r) (fun (x : (List TypeFault) × Value) => [(9, pt g38 0)]) (fun (x : (List TypeFault) × Value) => [box g38 29 [x.2], row x.2 39 fTypeFault x.1]) ?_ ?_
      · clear hk43
        refine WJ.seq ?_
        refine WJ.quiet ?_
        refine QJ.step (YldS.yld (y_move rfl)) rfl ?_
        refine QJ.step (YldS.yld (y_lenS Try.runUnderlying24 hr3 rfl)) rfl ?_
        refine QJ.step (YldS.yld (y_move rfl)) rfl ?_
        refine QJ.done ?_
        refine PJ.next ?_
        refine WJ.block ?_
        refine WJ.sel (L' := (fun (x : (List TypeFault) × Value × Int) => [box g38 29 [x.2.1], row x.2.1 39 fTypeFault x.1, mpK kf39 vI64 g7 mp8]) ([], v37, 0)) [0, 1, 2] ⟨by decide, rfl⟩ ?_
        refine WJ.sub (m' := (fun (x : (List TypeFault) × Value × Int) => [(4, .map (some g7)), (9, pt g38 0), (40, v2), (41, .int .i64 (List.length list1 : Int)), (42, .int .i64 x.2.2)]) ([], v37, 0)) ⟨rfl, rfl, rfl, rfl, rfl, trivial⟩ ?_
        refine WJ.loop (X := (List TypeFault) × Value × Int) (fun N (x : (List TypeFault) × Value × Int) => i_RareFaults_l3 kj42 list1 mp8 N x.1 x.2.2 = some r) (fun (x : (List TypeFault) × Value × Int) => [(4, .map (some g7)), (9, pt g38 0), (40, v2), (41, .int .i64 (List.length list1 : Int)), (42, .int .i64 x.2.2)]) (fun (x : (List TypeFault) × Value × Int) => [box g38 29 [x.2.1], row x.2.1 39 fTypeFault x.1, mpK kf39 vI64 g7 mp8]) ?_ N ([], v37, 0) hm
        · rintro N ⟨l44, v45, x46⟩ hI
          have hm := hI; clear hI
          cases N with
          | zero => cases hm
          | succ N =>
          unfold i_RareFaults_l3 at hm
          refine WJ.seq ?_
          refine WJ.quiet ?_
          refine QJ.step (YldS.yld (y_bin rfl rfl rfl)) rfl ?_
          refine QJ.done ?_
          refine PJ.next ?_
          refine WJ.seq ?_
          refine WJ.cond (t := decide (x46 < (List.length list1 : Int))) rfl (fun hb47 => ?_) (fun hb47 => ?_)
          · replace hm := ifT hm hb47
            refine WJ.skip ?_
            refine PJ.next ?_
            obtain ⟨kj50, hk51, hm⟩ := withK_open hm
            refine WJ.join (X := (List TypeFault) × Value) (fun (x : (List TypeFault) × Value) => kj50 x.1 = some r) (fun (x : (List TypeFault) × Value) => [(4, .map (some g7)), (9, pt g38 0), (40, v2), (41, .int .i64 (List.length list1 : Int)), (42, .int .i64 x46)]) (fun (x : (List TypeFault) × Value) => [box g38 29 [x.2], row x.2 39 fTypeFault x.1, mpK kf39 vI64 g7 mp8]) ?_ ?_
            · clear hk51
              refine WJ.block ?_
              refine WJ.seq ?_
              refine WJ.reg ?_
              obtain ⟨e52, h53, hm⟩ := bindS hm
              obtain ⟨ad54, _, ⟨v57, rfl, hr58⟩, ha55, hy56⟩ := hr3.elem h53
              refine SJ.q (YldS.yld (hy56 Try.runUnderlying24 Try.sizeOf34 rfl rfl)) rfl ?_
              refine SJ.q (YldS.yld (y_loadN Try.isAgg34 Try.sizeOf34 rfl ha55 St.frozenC rfl)) rfl ?_
              refine SJ.alloc (cs := [str [], .slice none 0 0]) Try.zeroValue34 rfl rfl fun g59 => ?_
              refine SJ.nil_row 39 fTypeFault ?_
              have hc60 := And.intro (RdS.cells1 hr58) (RdS.one1 hr58)
              refine SJ.storeL (k := 1) (off := 0) (us := [str e52.name, v57]) rfl rfl rfl rfl Try.sizeOf34 rfl (by simp only [List.all_cons, hc60.2]; rfl) ?_
              refine SJ.nil ?_
              refine PJ.next ?_
              refine WJ.seq ?_
              refine WJ.quiet ?_
              refine QJ.step (YldS.yld (y_fldB (o := 0) fld34_1 rfl)) rfl ?_
              refine QJ.step (YldS.yld (y_loadB (k := 1) (off := 1) (v := v57) rfl Try.isAgg29 rfl rfl)) rfl ?_
              refine QJ.step (YldS.yld (y_lenS Try.runUnderlying29 hr58 rfl)) rfl ?_
              refine QJ.step (YldS.yld (y_move rfl)) rfl ?_
              refine QJ.done ?_
              refine PJ.next ?_
              refine WJ.block ?_
              refine WJ.sel (L' := (fun (x : (List TypeFault) × Value × Int) => [box g38 29 [x.2.1], row x.2.1 39 fTypeFault x.1, mpK kf39 vI64 g7 mp8]) (l44, v45, 0)) [2, 3, 4] ⟨by decide, rfl⟩ ?_
              refine WJ.sub (m' := (fun (x : (List TypeFault) × Value × Int) => [(4, .map (some g7)), (9, pt g38 0), (40, v2), (41, .int .i64 (List.length list1 : Int)), (42, .int .i64 x46), (47, v57), (48, .int .i64 (List.length e52.faults : Int)), (49, .int .i64 x.2.2)]) (l44, v45, 0)) ⟨rfl, rfl, rfl, rfl, rfl, rfl, rfl, rfl, trivial⟩ ?_
              refine WJ.loop (X := (List TypeFault) × Value × Int) (fun N (x : (List TypeFault) × Value × Int) => i_RareFaults_l4 kj50 mp8 e52 N x.1 x.2.2 = some r) (fun (x : (List TypeFault) × Value × Int) => [(4, .map (some g7)), (9, pt g38 0), (40, v2), (41, .int .i64 (List.length list1 : Int)), (42, .int .i64 x46), (47, v57), (48, .int .i64 (List.length e52.faults : Int)), (49, .int .i64 x.2.2)]) (fun (x : (List TypeFault) × Value × Int) => [box g38 29 [x.2.1], row x.2.1 39 fTypeFault x.1, mpK kf39 vI64 g7 mp8]) ?_ N (l44, v45, 0) hm
              · rintro N ⟨l61, v62, x63⟩ hI
                have hm := hI; clear hI
                cases N with
                | zero => cases hm
                | succ N =>
                unfold i_RareFaults_l4 at hm
                refine WJ.seq ?_
                refine WJ.quiet ?_
                refine QJ.step (YldS.yld (y_bin rfl rfl rfl)) rfl ?_
                refine QJ.done ?_
                refine PJ.next ?_
                refine WJ.seq ?_
                refine WJ.cond (t := decide (x63 < (List.length e52.faults : Int))) rfl (fun hb64 => ?_) (fun hb64 => ?_)
                · replace hm := ifT hm hb64
                  refine WJ.skip ?_
                  refine PJ.next ?_
                  obtain ⟨kj67, hk68, hm⟩ := withK_open hm
                  refine WJ.join (X := (List TypeFault) × Value) (fun (x : (List TypeFault) × Value) => kj67 x.1 = some r) (fun (x : (List TypeFault) × Value) => [(4, .map (some g7)), (9, pt g38 0), (40, v2), (41, .int .i64 (List.length list1 : Int)), (42, .int .i64 x46), (47, v57), (48, .int .i64 (List.length e52.faults : Int)), (49, .int .i64 x63)]) (fun (x : (List TypeFault) × Value) => [box g38 29 [x.2], row x.2 39 fTypeFault x.1, mpK kf39 vI64 g7 mp8]) ?_ ?_
                  · clear hk68
                    refine WJ.block ?_
                    refine WJ.seq ?_
                    refine WJ.reg ?_
                    obtain ⟨e69, h70, hm⟩ := bindS hm
                    obtain ⟨ad71, _, rfl, ha72, hy73⟩ := hr58.elem h70
                    refine SJ.q (YldS.yld (hy73 Try.runUnderlying29 Try.sizeOf39 rfl rfl)) rfl ?_
                    refine SJ.q (YldS.yld (y_loadN Try.isAgg39 Try.sizeOf39 rfl ha72 St.frozenC rfl)) rfl ?_
                    refine SJ.alloc (cs := [str [], .int .i64 0]) Try.zeroValue39 rfl rfl fun g74 => ?_
                    refine SJ.storeL (k := 0) (off := 0) (us := [str e69.letter, .int .i64 e69.kind]) rfl rfl rfl rfl Try.sizeOf39 rfl rfl ?_
                    refine SJ.nil ?_
                    refine PJ.next ?_
                    refine WJ.seq ?_
                    refine WJ.quiet ?_
                    refine QJ.step (YldS.yld (y_move rfl)) rfl ?_
                    refine QJ.step (YldS.yld (y_loadBN (k := 0) (off := 0) (us := [str e69.letter, .int .i64 e69.kind]) rfl Try.isAgg39 Try.sizeOf39 rfl rfl)) rfl ?_
                    refine QJ.step (YldS.yld (y_lookupK (k := 3) (key := e69) (z := (0 : Int)) keyP39 rfl Try.underlying52 Try.zeroValue3 rfl rfl)) rfl ?_
                    refine QJ.step (YldS.yld (y_bin rfl rfl rfl)) rfl ?_
                    refine QJ.done ?_
                    refine PJ.next ?_
                    refine WJ.cond (t := ((Option.getD (mgetK TypeFault.beq mp8 e69) (0 : Int)) == 1)) rfl (fun hb75 => ?_) (fun hb75 => ?_)
                    · replace hm := ifT hm hb75
                      refine WJ.reg ?_
                      refine SJ.q (YldS.yld (y_loadB (k := 1) (off := 0) (v := v62) rfl Try.isAgg29 rfl rfl)) rfl ?_
                      refine SJ.q (YldS.yld (y_loadBN (k := 0) (off := 0) (us := [str e69.letter, .int .i64 e69.kind]) rfl Try.isAgg39 Try.sizeOf39 rfl rfl)) rfl ?_
                      refine SJ.buildSlice (R := fTypeFault) (os := [.tmp 58]) [e69] Try.runUnderlying29 Try.sizeOf39 Try.zeroValue39 rfl rfl rfl rfl rfl rfl fun v76 => ?_
                      obtain ⟨l77, h78, hm⟩ := bindS hm
                      refine SJ.append (k := 3) (R := fTypeFault) h78 rfl Try.underlying29 el39 rfl rfl rfl (fun w hw => (hw.row_rd (k := 0) rfl)) rfl fun v79 => ?_
                      refine SJ.rowCells (k := 3) rfl fun hc80 => ?_
                      refine SJ.storeL (k := 2) (off := 0) (us := [v79]) rfl rfl rfl hc80.1 Try.sizeOf29 rfl (by simp [hc80.2]) ?_
                      refine SJ.nil ?_
                      refine PJ.block_normal ?_
                      exact PJ.joined (l77, v79) [2, 3, 4] hm ⟨rfl, rfl, rfl, rfl, rfl, rfl, rfl, rfl, trivial⟩ ⟨by decide, rfl⟩
                    · replace hm := ifF hm hb75
                      refine WJ.skip ?_
                      refine PJ.block_normal ?_
                      exact PJ.joined (l61, v62) [1, 2, 3] hm ⟨rfl, rfl, rfl, rfl, rfl, rfl, rfl, rfl, trivial⟩ ⟨by decide, rfl⟩
                  · rintro ⟨l65, v66⟩ hm
                    subst hk68
                    refine WJ.quiet ?_
                    refine QJ.step (YldS.yld (y_bin rfl rfl rfl)) rfl ?_
                    refine QJ.step (YldS.yld (y_move rfl)) rfl ?_
                    refine QJ.done ?_
                    exact PJ.round (l65, v66, w64 (x63 + 1)) [0, 1, 2] hm ⟨rfl, rfl, rfl, rfl, rfl, rfl, rfl, rfl, trivial⟩ ⟨by decide, rfl⟩
                · replace hm := ifF hm hb64
                  refine WJ.exit ?_
                  refine PJ.then_exit (PJ.then_exit (PJ.block_exit (PJ.block_normal ?_)))
                  exact PJ.joined (l61, v62) [0, 1, 2] hm ⟨rfl, rfl, rfl, rfl, rfl, trivial⟩ ⟨by decide, rfl⟩
            · rintro ⟨l48, v49⟩ hm
              subst hk51
              refine WJ.quiet ?_
              refine QJ.step (YldS.yld (y_bin rfl rfl rfl)) rfl ?_
              refine QJ.step (YldS.yld (y_move rfl)) rfl ?_
              refine QJ.done ?_
              exact PJ.round (l48, v49, w64 (x46 + 1)) [0, 1, 2] hm ⟨rfl, rfl, rfl, rfl, rfl, trivial⟩ ⟨by decide, rfl⟩
          · replace hm := ifF hm hb47
            refine WJ.exit ?_
            refine PJ.then_exit (PJ.then_exit (PJ.block_exit ?_))
            exact PJ.joined (l44, v45) [0, 1] hm ⟨rfl, trivial⟩ ⟨by decide, rfl⟩
      · rintro ⟨l40, v41⟩ hm
        subst hk43
        refine WJ.seq ?_
        refine WJ.reg ?_
        refine SJ.q (YldS.yld (y_loadB (k := 0) (off := 0) (v := v41) rfl Try.isAgg29 rfl rfl)) rfl ?_
        refine SJ.q (YldS.yld (y_iface Try.runUnderlying29 rfl)) rfl ?_
        refine SJ.q (YldS.yld (y_func (bs := [.tmp 9]) rfl)) rfl ?_
        refine SJ.sel (L' := [row v41 39 fTypeFault l40, box g38 29 [v41]]) [1, 0] ⟨by decide, rfl⟩ ?_
        refine SJ.star ?_
        obtain ⟨l81, h82, hm⟩ := bindS hm
        refine SJ.call1 (k := 0) rfl Try.call18 rfl (fun w S hw hA hO => sortP_calls (less := fun i j dk => i_RareFaults_c1 i j dk) (lb := [pt g38 0]) sortP18_29 (fun h w S hS hA => ok_sort_pdqsort_func h w S hS hA) Try.call19 (fun dk i j x y hx hy => by simp only [i_RareFaults_c1, hx, hy, idx2_0, idx2_1]) (fun x y => by simp only [i_RareFaults_c1, idx2_0, idx2_1, Option.bind_some]; exact optE) (fun dk i j b hm w S hA => have hw := (St.init1 w hA).unstar; ok_i_RareFaults_c1 hm w _ _ (hw.box_at (k := 1) rfl) (hw.row_rd (k := 0) rfl)) h82 w S hA) rfl ?_
        rintro _ _ ⟨rfl, rfl⟩
        refine SJ.unstar ?_
        refine SJ.nil ?_
        refine PJ.next ?_
        refine WJ.seq ?_
        refine WJ.quiet ?_
        refine QJ.step (YldS.yld (y_loadB (k := 1) (off := 0) (v := v41) rfl Try.isAgg29 rfl rfl)) rfl ?_
        refine QJ.step (YldS.yld (y_assign rfl)) rfl ?_
        refine QJ.step (YldS.yld (y_assign rfl)) rfl ?_
        refine QJ.done ?_
        refine PJ.next ?_
        refine WJ.ret ?_
        obtain rfl := Option.some.inj hm
        refine PJ.sel (L' := [row v41 39 fTypeFault l81]) [0] ⟨by decide, rfl⟩ ?_
        exact PJ.retn (vs := [v41, .int .i64 0]) Try.results7 ⟨rfl, rfl, trivial⟩ ⟨_, rfl, rfl⟩

set_option maxRecDepth 100000 in
set_option maxHeartbeats 1000000 in
theorem ok_i_letterList {N : Nat} {s1 : Str} {r : (List Str)} (hm : i_letterList N s1 = some r) (w : World)  :
    Calls Try.prog 21 #[str s1] w (RetG (cx w) fun u L => ∃ (u1 : Value), (u = u1 ∧ L = [row u1 9 fStr r])) := by
  unfold i_letterList at hm
  refine Calls.enter [str s1] Try.func21 rfl Try.ntmps21 rfl ?_
  refine WJ.seq ?_
  refine WJ.quiet ?_
  refine QJ.step (YldS.yld (y_assign rfl)) rfl ?_
  refine QJ.done ?_
  refine PJ.next ?_
  refine WJ.seq ?_
  refine WJ.reg ?_
  refine SJ.buildSlice (R := fStr) (os := []) [] Try.runUnderlying26 Try.sizeOf9 Try.zeroValue9 rfl rfl rfl rfl rfl rfl fun v2 => ?_
  refine SJ.q (YldS.yld (y_assign rfl)) rfl ?_
  refine SJ.nil ?_
  refine PJ.next ?_
  obtain ⟨kj5, hk6, hm⟩ := withK_open hm
  refine WJ.join (X := (List Str) × Value) (fun (x : (List Str) × Value) => kj5 x.1 = some r) (fun (x : (List Str) × Value) => [(3, x.2)]) (fun (x : (List Str) × Value) => [row x.2 9 fStr x.1]) ?_ ?_
  · clear hk6
    refine WJ.seq ?_
    refine WJ.quiet ?_
    refine QJ.step (YldS.yld (y_move rfl)) rfl ?_
    refine QJ.step (YldS.yld (y_lenStr Try.runUnderlying9 rfl)) rfl ?_
    refine QJ.step (YldS.yld (y_move rfl)) rfl ?_
    refine QJ.done ?_
    refine PJ.next ?_
    refine WJ.block ?_
    refine WJ.sel (L' := (fun (x : (List Str) × Value × Int) => [row x.2.1 9 fStr x.1]) ([], v2, 0)) [0] ⟨by decide, rfl⟩ ?_
    refine WJ.sub (m' := (fun (x : (List Str) × Value × Int) => [(0, str s1), (3, x.2.1), (7, .int .i64 (List.length s1 : Int)), (8, .int .i64 x.2.2)]) ([], v2, 0)) ⟨rfl, rfl, rfl, rfl, trivial⟩ ?_
    refine WJ.loop (X := (List Str) × Value × Int) (fun N (x : (List Str) × Value × Int) => i_letterList_l1 kj5 s1 N x.1 x.2.2 = some r) (fun (x : (List Str) × Value × Int) => [(0, str s1), (3, x.2.1), (7, .int .i64 (List.length s1 : Int)), (8, .int .i64 x.2.2)]) (fun (x : (List Str) × Value × Int) => [row x.2.1 9 fStr x.1]) ?_ N ([], v2, 0) hm
    · rintro N ⟨l7, v8, x9⟩ hI
      have hm := hI; clear hI
      cases N with
      | zero => cases hm
      | succ N =>
      unfold i_letterList_l1 at hm
      refine WJ.seq ?_
      refine WJ.quiet ?_
      refine QJ.step (YldS.yld (y_bin rfl rfl rfl)) rfl ?_
      refine QJ.done ?_
      refine PJ.next ?_
      refine WJ.seq ?_
      refine WJ.cond (t := decide (x9 < (List.length s1 : Int))) rfl (fun hb10 => ?_) (fun hb10 => ?_)
      · replace hm := ifT hm hb10
        refine WJ.skip ?_
        refine PJ.next ?_
        refine WJ.seq ?_
        refine WJ.block ?_
        refine WJ.seq ?_
        refine WJ.quiet ?_
        refine QJ.step (YldS.yld (y_move rfl)) rfl ?_
        refine QJ.step (YldS.yld (y_assign rfl)) rfl ?_
        refine QJ.done ?_
        refine PJ.next ?_
        refine WJ.reg ?_
        refine SJ.q (YldS.yld (y_move rfl)) rfl ?_
        refine SJ.q (YldS.yld (y_move rfl)) rfl ?_
        refine SJ.q (YldS.yld (y_move rfl)) rfl ?_
        refine SJ.q (YldS.yld (y_move rfl)) rfl ?_
        refine SJ.q (YldS.yld (y_bin rfl rfl rfl)) rfl ?_
        obtain ⟨s11, h12, hm⟩ := bindS hm
        refine SJ.q (YldS.yld (y_subStr (i := some x9) (j := some (w64 (x9 + 1))) h12 Try.runUnderlying9 rfl ⟨_, rfl⟩ ⟨_, rfl⟩)) rfl ?_
        refine SJ.buildSlice (R := fStr) (os := [.tmp 16]) [s11] Try.runUnderlying26 Try.sizeOf9 Try.zeroValue9 rfl rfl rfl rfl rfl rfl fun v13 => ?_
        obtain ⟨l14, h15, hm⟩ := bindS hm
        refine SJ.append (k := 1) (R := fStr) h15 rfl Try.underlying26 el9 rfl rfl rfl (fun w hw => (hw.row_rd (k := 0) rfl)) rfl fun v16 => ?_
        refine SJ.q (YldS.yld (y_assign rfl)) rfl ?_
        refine SJ.nil ?_
        refine PJ.block_normal (PJ.next ?_)
        refine WJ.quiet ?_
        refine QJ.step (YldS.yld (y_bin rfl rfl rfl)) rfl ?_
        refine QJ.step (YldS.yld (y_move rfl)) rfl ?_
        refine QJ.done ?_
        exact PJ.round (l14, v16, w64 (x9 + 1)) [1] hm ⟨rfl, rfl, rfl, rfl, trivial⟩ ⟨by decide, rfl⟩
      · replace hm := ifF hm hb10
        refine WJ.exit ?_
        refine PJ.then_exit (PJ.then_exit (PJ.block_exit ?_))
        exact PJ.joined (l7, v8) [0] hm ⟨rfl, trivial⟩ ⟨by decide, rfl⟩
  · rintro ⟨l3, v4⟩ hm
    subst hk6
    refine WJ.seq ?_
    refine WJ.quiet ?_
    refine QJ.step (YldS.yld (y_move rfl)) rfl ?_
    refine QJ.step (YldS.yld (y_assign rfl)) rfl ?_
    refine QJ.done ?_
    refine PJ.next ?_
    refine WJ.ret ?_
    obtain rfl := Option.some.inj hm
    refine PJ.sel (L' := [row v4 9 fStr l3]) [0] ⟨by decide, rfl⟩ ?_
    exact PJ.retn (vs := [v4]) Try.results21 ⟨rfl, trivial⟩ ⟨_, rfl, rfl⟩

set_option maxRecDepth 100000 in
set_option maxHeartbeats 1000000 in
theorem ok_i_LettersApart {N : Nat} {a1 : Writer} {b4 : Writer} {r : (List Str) × Int} (hm : i_LettersApart N a1 b4 = some r) (w : World) (v2 : Value) (hr3 : RdS w (cx w).Fz v2 fTypeFault.rp a1.faults) (v5 : Value) (hr6 : RdS w (cx w).Fz v5 fTypeFault.rp b4.faults) :
    Calls Try.prog 8 #[.agg #[str a1.name, v2], .agg #[str b4.name, v5]] w (RetG (cx w) fun u L => ∃ (u1 : Value), (u = tup [u1, .int .i64 r.2] ∧ L = [row u1 9 fStr r.1])) := by
  unfold i_LettersApart at hm
  refine Calls.enter [.agg #[str a1.name, v2], .agg #[str b4.name, v5]] Try.func8 rfl Try.ntmps8 rfl ?_
  refine WJ.seq ?_
  refine WJ.reg ?_
  refine SJ.box (cs := [str a1.name, v2]) rfl rfl rfl fun g7 => ?_
  refine SJ.box (cs := [str b4.name, v5]) rfl rfl rfl fun g8 => ?_
  refine SJ.q (YldS.yld (y_assign rfl)) rfl ?_
  refine SJ.q (YldS.yld (y_assign rfl)) rfl ?_
  refine SJ.nil ?_
  refine PJ.next ?_
  refine WJ.seq ?_
  refine WJ.seq ?_
  refine WJ.quiet ?_
  refine QJ.step (YldS.yld (y_loadBN (k := 1) (off := 0) (us := [str a1.name, v2]) rfl Try.isAgg34 Try.sizeOf34 rfl rfl)) rfl ?_
  obtain ⟨r9, h10, hm⟩ := bindS hm
  refine QJ.step (y_call Try.call20 rfl (RetG.quiet fun w hw => ok_i_validWriter h10 w _ (hr3.st hw))) rfl ?_
  refine QJ.step (YldS.yld (y_not rfl)) rfl ?_
  refine QJ.step (YldS.yld (y_move rfl)) rfl ?_
  obtain ⟨t11, h12, hm⟩ := bindS hm
  refine QJ.cut 4 [(2, pt g7 0), (3, pt g8 0), (14, .bool t11)] ?_ ?_
  · rcases Bool.eq_false_or_eq_true (!r9) with hb13 | hb13
    · obtain rfl := orT h12 hb13
      refine QJ.off rfl rfl (cB hb13) rfl rfl ?_
      refine QJ.off rfl rfl (cB hb13) rfl rfl ?_
      refine QJ.off rfl rfl (cB hb13) rfl rfl ?_
      refine QJ.step (YldS.yld (y_pick_t (cB hb13) rfl)) rfl ?_
      exact QJ.cut_end ⟨rfl, rfl, rfl, trivial⟩
    · replace h12 := orF h12 hb13
      refine QJ.on rfl rfl (cB hb13) (YldS.yld (y_loadBN (k := 0) (off := 0) (us := [str b4.name, v5]) rfl Try.isAgg34 Try.sizeOf34 rfl rfl)) rfl ?_
      obtain ⟨r14, h15, h12⟩ := bindS h12
      refine QJ.on rfl rfl (cB hb13) (y_call Try.call20 rfl (RetG.quiet fun w hw => ok_i_validWriter h15 w _ (hr6.st hw))) rfl ?_
      refine QJ.on rfl rfl (cB hb13) (YldS.yld (y_not rfl)) rfl ?_
      refine QJ.step (YldS.yld (y_pick_f (cB hb13) rfl)) rfl ?_
      obtain rfl := Option.some.inj h12
      exact QJ.cut_end ⟨rfl, rfl, rfl, trivial⟩
  refine QJ.done ?_
  refine PJ.next ?_
  refine WJ.cond (t := t11) rfl (fun hb16 => ?_) (fun hb16 => ?_)
  · replace hm := ifT hm hb16
    refine WJ.seq ?_
    refine WJ.quiet ?_
    refine QJ.step (YldS.yld (y_assign rfl)) rfl ?_
    refine QJ.step (YldS.yld (y_assign rfl)) rfl ?_
    refine QJ.done ?_
    refine PJ.next ?_
    refine WJ.ret ?_
    refine PJ.then_ret ?_
    refine PJ.nil_row 9 fStr ?_
    obtain rfl := Option.some.inj hm
    refine PJ.sel (L' := [row (.slice none 0 0) 9 fStr []]) [0] ⟨by decide, rfl⟩ ?_
    exact PJ.retn (vs := [(.slice none 0 0), .int .i64 1]) Try.results8 ⟨rfl, rfl, trivial⟩ ⟨_, rfl, rfl⟩
  · replace hm := ifF hm hb16
    refine WJ.skip ?_
    refine PJ.next ?_
    refine WJ.seq ?_
    refine WJ.reg ?_
    refine SJ.q (YldS.yld (y_build0 Try.runUnderlying44 zv44 Try.sizeOf4)) rfl ?_
    refine SJ.allocA (R := fBool) (xs := List.replicate 256 false) 256 zv44 rfl rfl rfl rfl fun g17 => ?_
    refine SJ.storeA (k := 0) (ys := (List.replicate 256 false)) rfl rfl rfl rfl (by simp) Try.sizeOf44 (by simp [length_encs, fBool]) ?_
    refine SJ.nil ?_
    refine PJ.next ?_
    refine WJ.seq ?_
    refine WJ.reg ?_
    refine SJ.q (YldS.yld (y_loadBN (k := 2) (off := 0) (us := [str a1.name, v2]) rfl Try.isAgg34 Try.sizeOf34 rfl rfl)) rfl ?_
    refine SJ.q (YldS.yld (y_loadBN (k := 1) (off := 0) (us := [str b4.name, v5]) rfl Try.isAgg34 Try.sizeOf34 rfl rfl)) rfl ?_
    obtain ⟨r18, h19, hm⟩ := bindS hm
    refine SJ.call2 (k := 0) rfl Try.call14 rfl (fun w S hw hA hO hB => ok_i_apart h19 w S _ (hr3.st1 hw hO) _ (hr6.st1 hw hO) hA) rfl ?_
    rintro _ _ ⟨rfl, rfl⟩
    refine SJ.nil ?_
    refine PJ.next ?_
    refine WJ.seq ?_
    refine WJ.reg ?_
    obtain ⟨r20, h21, hm⟩ := bindS hm
    refine SJ.q (y_call Try.call15 rfl (RetG.quiet fun w hw => ok_i_ascending h21 w _ (hw.row_rd (k := 0) rfl))) rfl ?_
    obtain ⟨r22, h23, hm⟩ := bindS hm
    refine SJ.call Try.call21 rfl (fun w hw => ok_i_letterList h23 w ) rfl ?_
    rintro v24 _ ⟨_, rfl, rfl⟩
    refine SJ.q (YldS.yld (y_assign rfl)) rfl ?_
    refine SJ.q (YldS.yld (y_assign rfl)) rfl ?_
    refine SJ.nil ?_
    refine PJ.next ?_
    refine WJ.ret ?_
    obtain rfl := Option.some.inj hm
    refine PJ.sel (L' := [row v24 9 fStr r22]) [0] ⟨by decide, rfl⟩ ?_
    exact PJ.retn (vs := [v24, .int .i64 0]) Try.results8 ⟨rfl, rfl, trivial⟩ ⟨_, rfl, rfl⟩

set_option maxRecDepth 100000 in
set_option maxHeartbeats 1000000 in
theorem ok_w_a2HasText {N : Nat} {list1 : List Str} {s4 : Str} {r : Bool} (hm : w_a2HasText N list1 s4 = some r) (w : World) (v2 : Value) (hr3 : RdS w (cx w).Fz v2 fStr.rp list1) :
    Calls Try.prog 9 #[v2, str s4] w (Ret (cx w) (.bool r)) := by
  unfold w_a2HasText at hm
  refine Calls.enter [v2, str s4] Try.func9 rfl Try.ntmps9 rfl ?_
  refine WJ.seq ?_
  refine WJ.quiet ?_
  refine QJ.step (YldS.yld (y_assign rfl)) rfl ?_
  refine QJ.done ?_
  refine PJ.next ?_
  obtain ⟨kj5, hk6, hm⟩ := withK_open hm
  refine WJ.join (X := Unit) (fun (_ : Unit) => kj5  = some r) (fun (_ : Unit) => []) (fun (_ : Unit) => []) ?_ ?_
  · clear hk6
    refine WJ.seq ?_
    refine WJ.quiet ?_
    refine QJ.step (YldS.yld (y_assign rfl)) rfl ?_
    refine QJ.done ?_
    refine PJ.next ?_
    refine WJ.block ?_
    refine WJ.sel (L' := (fun (x : Int) => []) 0) [] ⟨List.nodup_nil, rfl⟩ ?_
    refine WJ.sub (m' := (fun (x : Int) => [(0, v2), (1, str s4), (5, .int .i64 x)]) 0) ⟨rfl, rfl, rfl, trivial⟩ ?_
    refine WJ.loop (X := Int) (fun N (x : Int) => w_a2HasText_l1 kj5 list1 s4 N x = some r) (fun (x : Int) => [(0, v2), (1, str s4), (5, .int .i64 x)]) (fun (x : Int) => []) ?_ N 0 hm
    · rintro N i7 hI
      have hm := hI; clear hI
      cases N with
      | zero => cases hm
      | succ N =>
      unfold w_a2HasText_l1 at hm
      refine WJ.seq ?_
      refine WJ.seq ?_
      refine WJ.quiet ?_
      refine QJ.step (YldS.yld (y_move rfl)) rfl ?_
      refine QJ.step (YldS.yld (y_move rfl)) rfl ?_
      refine QJ.step (YldS.yld (y_lenS Try.runUnderlying26 hr3 rfl)) rfl ?_
      refine QJ.step (YldS.yld (y_bin rfl rfl rfl)) rfl ?_
      refine QJ.done ?_
      refine PJ.next ?_
      refine WJ.cond (t := decide (i7 < (List.length list1 : Int))) rfl (fun hb8 => ?_) (fun hb8 => ?_)
      · replace hm := ifT hm hb8
        refine WJ.skip ?_
        refine PJ.next ?_
        refine WJ.seq ?_
        refine WJ.block ?_
        refine WJ.seq ?_
        refine WJ.quiet ?_
        refine QJ.step (YldS.yld (y_move rfl)) rfl ?_
        refine QJ.step (YldS.yld (y_move rfl)) rfl ?_
        obtain ⟨e9, h10, hm⟩ := bindS hm
        obtain ⟨ad11, _, rfl, ha12, hy13⟩ := hr3.elem h10
        refine QJ.step (YldS.yld (hy13 Try.runUnderlying26 Try.sizeOf9 rfl rfl)) rfl ?_
        refine QJ.step (YldS.yld (y_load1 (v := str e9) Try.isAgg9 ha12 St.frozenC rfl)) rfl ?_
        refine QJ.step (YldS.yld (y_move rfl)) rfl ?_
        refine QJ.step (YldS.yld (y_binS rfl rfl rfl)) rfl ?_
        refine QJ.done ?_
        refine PJ.next ?_
        refine WJ.cond (t := (e9 == s4)) rfl (fun hb14 => ?_) (fun hb14 => ?_)
        · replace hm := ifT hm hb14
          refine WJ.seq ?_
          refine WJ.quiet ?_
          refine QJ.step (YldS.yld (y_assign rfl)) rfl ?_
          refine QJ.done ?_
          refine PJ.next ?_
          refine WJ.ret ?_
          refine PJ.block_ret (PJ.then_ret (PJ.then_ret (PJ.block_ret (PJ.then_ret ?_))))
          obtain rfl := Option.some.inj hm
          refine PJ.sel (L' := []) [] ⟨List.nodup_nil, rfl⟩ ?_
          exact PJ.retn (vs := [.bool true]) Try.results9 ⟨rfl, trivial⟩ ⟨rfl, rfl⟩
        · replace hm := ifF hm hb14
          refine WJ.skip ?_
          refine PJ.block_normal (PJ.next ?_)
          refine WJ.quiet ?_
          refine QJ.step (YldS.yld (y_move rfl)) rfl ?_
          refine QJ.step (YldS.yld (y_bin rfl rfl rfl)) rfl ?_
          refine QJ.step (YldS.yld (y_assign rfl)) rfl ?_
          refine QJ.done ?_
          exact PJ.round (w64 (i7 + 1)) [] hm ⟨rfl, rfl, rfl, trivial⟩ ⟨List.nodup_nil, rfl⟩
      · replace hm := ifF hm hb8
        refine WJ.exit ?_
        refine PJ.then_exit (PJ.then_exit (PJ.block_exit ?_))
        exact PJ.joined () [] hm trivial ⟨List.nodup_nil, rfl⟩
  · rintro _ hm
    subst hk6
    refine WJ.seq ?_
    refine WJ.quiet ?_
    refine QJ.step (YldS.yld (y_assign rfl)) rfl ?_
    refine QJ.done ?_
    refine PJ.next ?_
    refine WJ.ret ?_
    obtain rfl := Option.some.inj hm
    refine PJ.sel (L' := []) [] ⟨List.nodup_nil, rfl⟩ ?_
    exact PJ.retn (vs := [.bool false]) Try.results9 ⟨rfl, trivial⟩ ⟨rfl, rfl⟩

set_option maxRecDepth 100000 in
set_option maxHeartbeats 1000000 in
theorem ok_i_KindOf {N : Nat} {w1 : Writer} {letter4 : Str} {r : Int × Int} (hm : i_KindOf N w1 letter4 = some r) (w : World) (v2 : Value) (hr3 : RdS w (cx w).Fz v2 fTypeFault.rp w1.faults) :
    Calls Try.prog 10 #[.agg #[str w1.name, v2], str letter4] w (Ret (cx w) (tup [.int .i64 r.1, .int .i64 r.2])) := by
  unfold i_KindOf at hm
  refine Calls.enter [.agg #[str w1.name, v2], str letter4] Try.func10 rfl Try.ntmps10 rfl ?_
  refine WJ.seq ?_
  refine WJ.reg ?_
  refine SJ.box (cs := [str w1.name, v2]) rfl rfl rfl fun g5 => ?_
  refine SJ.q (YldS.yld (y_assign rfl)) rfl ?_
  refine SJ.q (YldS.yld (y_assign rfl)) rfl ?_
  refine SJ.nil ?_
  refine PJ.next ?_
  refine WJ.seq ?_
  refine WJ.seq ?_
  refine WJ.quiet ?_
  refine QJ.step (YldS.yld (y_loadBN (k := 0) (off := 0) (us := [str w1.name, v2]) rfl Try.isAgg34 Try.sizeOf34 rfl rfl)) rfl ?_
  obtain ⟨r6, h7, hm⟩ := bindS hm
  refine QJ.step (y_call Try.call20 rfl (RetG.quiet fun w hw => ok_i_validWriter h7 w _ (hr3.st hw))) rfl ?_
  refine QJ.step (YldS.yld (y_not rfl)) rfl ?_
  refine QJ.done ?_
  refine PJ.next ?_
  refine WJ.cond (t := !r6) rfl (fun hb8 => ?_) (fun hb8 => ?_)
  · replace hm := ifT hm hb8
    refine WJ.seq ?_
    refine WJ.quiet ?_
    refine QJ.step (YldS.yld (y_assign rfl)) rfl ?_
    refine QJ.step (YldS.yld (y_assign rfl)) rfl ?_
    refine QJ.done ?_
    refine PJ.next ?_
    refine WJ.ret ?_
    refine PJ.then_ret ?_
    obtain rfl := Option.some.inj hm
    refine PJ.sel (L' := []) [] ⟨List.nodup_nil, rfl⟩ ?_
    exact PJ.retn (vs := [.int .i64 0, .int .i64 1]) Try.results10 ⟨rfl, rfl, trivial⟩ ⟨rfl, rfl⟩
  · replace hm := ifF hm hb8
    refine WJ.skip ?_
    refine PJ.next ?_
    refine WJ.seq ?_
    refine WJ.seq ?_
    refine WJ.quiet ?_
    refine QJ.step (YldS.yld (y_move rfl)) rfl ?_
    obtain ⟨r9, h10, hm⟩ := bindS hm
    refine QJ.step (y_call Try.call22 rfl (RetG.quiet fun w hw => ok_i_isLetter h10 w )) rfl ?_
    refine QJ.step (YldS.yld (y_not rfl)) rfl ?_
    refine QJ.done ?_
    refine PJ.next ?_
    refine WJ.cond (t := !r9) rfl (fun hb11 => ?_) (fun hb11 => ?_)
    · replace hm := ifT hm hb11
      refine WJ.seq ?_
      refine WJ.quiet ?_
      refine QJ.step (YldS.yld (y_assign rfl)) rfl ?_
      refine QJ.step (YldS.yld (y_assign rfl)) rfl ?_
      refine QJ.done ?_
      refine PJ.next ?_
      refine WJ.ret ?_
      refine PJ.then_ret ?_
      obtain rfl := Option.some.inj hm
      refine PJ.sel (L' := []) [] ⟨List.nodup_nil, rfl⟩ ?_
      exact PJ.retn (vs := [.int .i64 0, .int .i64 2]) Try.results10 ⟨rfl, rfl, trivial⟩ ⟨rfl, rfl⟩
    · replace hm := ifF hm hb11
      refine WJ.skip ?_
      refine PJ.next ?_
      refine WJ.seq ?_
      refine WJ.quiet ?_
      refine QJ.step (YldS.yld (y_loadBN (k := 0) (off := 0) (us := [str w1.name, v2]) rfl Try.isAgg34 Try.sizeOf34 rfl rfl)) rfl ?_
      refine QJ.step (YldS.yld (y_move rfl)) rfl ?_
      obtain ⟨r12, h13, hm⟩ := bindS hm
      refine QJ.step (y_call Try.call23 rfl (RetG.quiet fun w hw => ok_i_Writer_kind h13 w _ (hr3.st hw))) rfl ?_
      refine QJ.step (YldS.yld (y_assign rfl)) rfl ?_
      refine QJ.step (YldS.yld (y_assign rfl)) rfl ?_
      refine QJ.done ?_
      refine PJ.next ?_
      refine WJ.ret ?_
      obtain rfl := Option.some.inj hm
      refine PJ.sel (L' := []) [] ⟨List.nodup_nil, rfl⟩ ?_
      exact PJ.retn (vs := [.int .i64 r12, .int .i64 0]) Try.results10 ⟨rfl, rfl, trivial⟩ ⟨rfl, rfl⟩

set_option maxRecDepth 100000 in
set_option maxHeartbeats 1000000 in
theorem ok_w_FnFewLetters {N : Nat} {code1 : List UInt8} {more4 : List UInt8} {r : Bool} (hm : w_FnFewLetters N code1 more4 = some r) (w : World) (v2 : Value) (hr3 : RdS w (cx w).Fz v2 fByte.rp code1) (v5 : Value) (hr6 : RdS w (cx w).Fz v5 fByte.rp more4) :
    Calls Try.prog 3 #[v2, v5] w (Ret (cx w) (.bool r)) := by
  unfold w_FnFewLetters at hm
  refine Calls.enter [v2, v5] Try.func3 rfl Try.ntmps3 rfl ?_
  refine WJ.seq ?_
  refine WJ.quiet ?_
  refine QJ.step (YldS.yld (y_assign rfl)) rfl ?_
  refine QJ.done ?_
  refine PJ.next ?_
  refine WJ.seq ?_
  refine WJ.seq ?_
  refine WJ.quiet ?_
  refine QJ.step (YldS.yld (y_move rfl)) rfl ?_
  refine QJ.step (YldS.yld (y_move rfl)) rfl ?_
  obtain ⟨r7, h8, hm⟩ := bindS hm
  refine QJ.step (y_call Try.call4 rfl (RetG.quiet fun w hw => ok_w_a2Long h8 w _ (hr3.st hw) _ (hr6.st hw))) rfl ?_
  refine QJ.done ?_
  refine PJ.next ?_
  refine WJ.cond (t := r7) rfl (fun hb9 => ?_) (fun hb9 => ?_)
  · replace hm := ifT hm hb9
    refine WJ.seq ?_
    refine WJ.quiet ?_
    refine QJ.step (YldS.yld (y_assign rfl)) rfl ?_
    refine QJ.done ?_
    refine PJ.next ?_
    refine WJ.ret ?_
    refine PJ.then_ret ?_
    obtain rfl := Option.some.inj hm
    refine PJ.sel (L' := []) [] ⟨List.nodup_nil, rfl⟩ ?_
    exact PJ.retn (vs := [.bool true]) Try.results3 ⟨rfl, trivial⟩ ⟨rfl, rfl⟩
  · replace hm := ifF hm hb9
    refine WJ.skip ?_
    refine PJ.next ?_
    refine WJ.seq ?_
    refine WJ.reg ?_
    refine SJ.q (YldS.yld (y_move rfl)) rfl ?_
    obtain ⟨r10, h11, hm⟩ := bindS hm
    refine SJ.call Try.call5 rfl (fun w hw => ok_s_A2Writers h11 w _ (hr3.st hw)) rfl ?_
    rintro v12 _ ⟨_, vs13, rfl, rfl⟩
    refine SJ.q (YldS.yld (y_assign rfl)) rfl ?_
    refine SJ.nil ?_
    refine PJ.next ?_
    refine WJ.seq ?_
    refine WJ.reg ?_
    refine SJ.q (YldS.yld (y_move rfl)) rfl ?_
    obtain ⟨r14, h15, hm⟩ := bindS hm
    refine SJ.call Try.call6 rfl (fun w hw => ok_i_FewestLetters h15 w _ (hw.nss_rd (k := 0) (j := 1) rfl rfl)) rfl ?_
    rintro _ _ ⟨v16, rfl, rfl⟩
    refine SJ.q (YldS.yld (y_move rfl)) rfl ?_
    refine SJ.q (YldS.yld (y_extract rfl rfl)) rfl ?_
    refine SJ.q (YldS.yld (y_extract rfl rfl)) rfl ?_
    refine SJ.q (YldS.yld (y_assign rfl)) rfl ?_
    refine SJ.q (YldS.yld (y_assign rfl)) rfl ?_
    refine SJ.nil ?_
    refine PJ.next ?_
    refine WJ.seq ?_
    refine WJ.reg ?_
    refine SJ.q (YldS.yld (y_move rfl)) rfl ?_
    obtain ⟨r17, h18, hm⟩ := bindS hm
    refine SJ.call Try.call7 rfl (fun w hw => ok_i_RareFaults h18 w _ (hw.nss_rd (k := 1) (j := 2) rfl rfl)) rfl ?_
    rintro _ _ ⟨v19, rfl, rfl⟩
    refine SJ.q (YldS.yld (y_move rfl)) rfl ?_
    refine SJ.q (YldS.yld (y_extract rfl rfl)) rfl ?_
    refine SJ.q (YldS.yld (y_extract rfl rfl)) rfl ?_
    refine SJ.q (YldS.yld (y_assign rfl)) rfl ?_
    refine SJ.q (YldS.yld (y_assign rfl)) rfl ?_
    refine SJ.nil ?_
    refine PJ.next ?_
    refine WJ.seq ?_
    refine WJ.seq ?_
    refine WJ.quiet ?_
    refine QJ.step (YldS.yld (y_move rfl)) rfl ?_
    refine QJ.step (YldS.yld (y_bin rfl rfl rfl)) rfl ?_
    refine QJ.step (YldS.yld (y_move rfl)) rfl ?_
    obtain ⟨t20, h21, hm⟩ := bindS hm
    refine QJ.cut 7 [(5, v12), (6, v16), (7, .int .i64 r14.2), (8, v19), (48, .bool t20)] ?_ ?_
    · rcases Bool.eq_false_or_eq_true (r17.2 != 0) with hb22 | hb22
      · obtain rfl := orT h21 hb22
        refine QJ.off rfl rfl (cB hb22) rfl rfl ?_
        refine QJ.off rfl rfl (cB hb22) rfl rfl ?_
        refine QJ.off rfl rfl (cB hb22) rfl rfl ?_
        refine QJ.off_undef rfl rfl rfl rfl ?_
        refine QJ.off_undef rfl rfl rfl rfl ?_
        refine QJ.off rfl rfl (cB hb22) rfl rfl ?_
        refine QJ.step (YldS.yld (y_pick_t (cB hb22) rfl)) rfl ?_
        exact QJ.cut_end ⟨rfl, rfl, rfl, rfl, rfl, trivial⟩
      · replace h21 := orF h21 hb22
        refine QJ.on rfl rfl (cB hb22) (YldS.yld (y_move rfl)) rfl ?_
        refine QJ.on rfl rfl (cB hb22) (YldS.yld (y_bin rfl rfl rfl)) rfl ?_
        refine QJ.on rfl rfl (cB hb22) (YldS.yld (y_move rfl)) rfl ?_
        obtain ⟨t23, h24, h21⟩ := bindS h21
        refine QJ.cut 3 [(5, v12), (6, v16), (7, .int .i64 r14.2), (8, v19), (41, .bool (r17.2 != 0)), (47, .bool t23)] ?_ ?_
        · rcases Bool.eq_false_or_eq_true (r14.2 != 0) with hb25 | hb25
          · replace h24 := andT h24 hb25
            refine QJ.on rfl rfl (cB hb25) (YldS.yld (y_move rfl)) rfl ?_
            refine QJ.on rfl rfl (cB hb25) (YldS.yld (y_bin rfl rfl rfl)) rfl ?_
            refine QJ.on rfl rfl (cB hb22) (YldS.yld (y_pick_t (cB hb25) rfl)) rfl ?_
            obtain rfl := Option.some.inj h24
            exact QJ.cut_end ⟨rfl, rfl, rfl, rfl, rfl, rfl, trivial⟩
          · obtain rfl := andF h24 hb25
            refine QJ.off rfl rfl (cB hb25) rfl rfl ?_
            refine QJ.off rfl rfl (cB hb25) rfl rfl ?_
            refine QJ.on rfl rfl (cB hb22) (YldS.yld (y_pick_f (cB hb25) rfl)) rfl ?_
            exact QJ.cut_end ⟨rfl, rfl, rfl, rfl, rfl, rfl, trivial⟩
        refine QJ.step (YldS.yld (y_pick_f (cB hb22) rfl)) rfl ?_
        obtain rfl := Option.some.inj h21
        exact QJ.cut_end ⟨rfl, rfl, rfl, rfl, rfl, trivial⟩
    refine QJ.done ?_
    refine PJ.next ?_
    refine WJ.cond (t := t20) rfl (fun hb26 => ?_) (fun hb26 => ?_)
    · replace hm := ifT hm hb26
      refine WJ.seq ?_
      refine WJ.quiet ?_
      refine QJ.step (YldS.yld (y_assign rfl)) rfl ?_
      refine QJ.done ?_
      refine PJ.next ?_
      refine WJ.ret ?_
      refine PJ.then_ret ?_
      obtain rfl := Option.some.inj hm
      refine PJ.sel (L' := []) [] ⟨List.nodup_nil, rfl⟩ ?_
      exact PJ.retn (vs := [.bool false]) Try.results3 ⟨rfl, trivial⟩ ⟨rfl, rfl⟩
    · replace hm := ifF hm hb26
      refine WJ.skip ?_
      refine PJ.next ?_
      refine WJ.seq ?_
      refine WJ.quiet ?_
      refine QJ.step (YldS.yld (y_assign rfl)) rfl ?_
      refine QJ.done ?_
      refine PJ.next ?_
      obtain ⟨kj28, hk29, hm⟩ := withK_open hm
      refine WJ.join (X := Bool) (fun (x : Bool) => kj28 x = some r) (fun (x : Bool) => [(5, v12), (7, .int .i64 r14.2), (8, v19), (10, .bool x)]) (fun (x : Bool) => [row v19 39 fTypeFault r17.1, row v12 34 fRaw2 vs13, ins shWriter 39 fTypeFault vs13 r10]) ?_ ?_
      · clear hk29
        refine WJ.seq ?_
        refine WJ.quiet ?_
        refine QJ.step (YldS.yld (y_assign rfl)) rfl ?_
        refine QJ.done ?_
        refine PJ.next ?_
        refine WJ.block ?_
        refine WJ.sel (L' := (fun (x : Bool × Int) => [row v19 39 fTypeFault r17.1, row v16 9 fStr r14.1, row v12 34 fRaw2 vs13, ins shWriter 39 fTypeFault vs13 r10]) (false, 0)) [0, 1, 2, 3] ⟨by decide, rfl⟩ ?_
        refine WJ.sub (m' := (fun (x : Bool × Int) => [(5, v12), (6, v16), (7, .int .i64 r14.2), (8, v19), (10, .bool x.1), (11, .int .i64 x.2)]) (false, 0)) ⟨rfl, rfl, rfl, rfl, rfl, rfl, trivial⟩ ?_
        refine WJ.loop (X := Bool × Int) (fun N (x : Bool × Int) => w_FnFewLetters_l1 kj28 r10 r14 N x.1 x.2 = some r) (fun (x : Bool × Int) => [(5, v12), (6, v16), (7, .int .i64 r14.2), (8, v19), (10, .bool x.1), (11, .int .i64 x.2)]) (fun (x : Bool × Int) => [row v19 39 fTypeFault r17.1, row v16 9 fStr r14.1, row v12 34 fRaw2 vs13, ins shWriter 39 fTypeFault vs13 r10]) ?_ N (false, 0) hm
        · rintro N ⟨clash30, i31⟩ hI
          have hm := hI; clear hI
          cases N with
          | zero => cases hm
          | succ N =>
          unfold w_FnFewLetters_l1 at hm
          refine WJ.seq ?_
          refine WJ.seq ?_
          refine WJ.quiet ?_
          refine QJ.step (YldS.yld (y_move rfl)) rfl ?_
          refine QJ.step (YldS.yld (y_move rfl)) rfl ?_
          refine QJ.step (YldS.yld (y_lenSh (k := 2) (j := 3) rfl rfl Try.runUnderlying24 rfl)) rfl ?_
          refine QJ.step (YldS.yld (y_bin rfl rfl rfl)) rfl ?_
          refine QJ.done ?_
          refine PJ.next ?_
          refine WJ.cond (t := decide (i31 < (List.length r10 : Int))) rfl (fun hb32 => ?_) (fun hb32 => ?_)
          · replace hm := ifT hm hb32
            refine WJ.skip ?_
            refine PJ.next ?_
            obtain ⟨kj34, hk35, hm⟩ := withK_open hm
            refine WJ.join (X := Bool) (fun (x : Bool) => kj34 x = some r) (fun (x : Bool) => [(5, v12), (6, v16), (7, .int .i64 r14.2), (8, v19), (10, .bool x), (11, .int .i64 i31)]) (fun (x : Bool) => [row v19 39 fTypeFault r17.1, row v16 9 fStr r14.1, row v12 34 fRaw2 vs13, ins shWriter 39 fTypeFault vs13 r10]) ?_ ?_
            · clear hk35
              refine WJ.block ?_
              refine WJ.seq ?_
              refine WJ.quiet ?_
              refine QJ.step (YldS.yld (y_assign rfl)) rfl ?_
              refine QJ.done ?_
              refine PJ.next ?_
              refine WJ.block ?_
              refine WJ.sel (L' := (fun (x : Bool × Int) => [row v19 39 fTypeFault r17.1, row v16 9 fStr r14.1, row v12 34 fRaw2 vs13, ins shWriter 39 fTypeFault vs13 r10]) (clash30, 0)) [0, 1, 2, 3] ⟨by decide, rfl⟩ ?_
              refine WJ.sub (m' := (fun (x : Bool × Int) => [(5, v12), (6, v16), (7, .int .i64 r14.2), (8, v19), (10, .bool x.1), (11, .int .i64 i31), (12, .int .i64 x.2)]) (clash30, 0)) ⟨rfl, rfl, rfl, rfl, rfl, rfl, rfl, trivial⟩ ?_
              refine WJ.loop (X := Bool × Int) (fun N (x : Bool × Int) => w_FnFewLetters_l2 kj34 r10 r14 i31 N x.1 x.2 = some r) (fun (x : Bool × Int) => [(5, v12), (6, v16), (7, .int .i64 r14.2), (8, v19), (10, .bool x.1), (11, .int .i64 i31), (12, .int .i64 x.2)]) (fun (x : Bool × Int) => [row v19 39 fTypeFault r17.1, row v16 9 fStr r14.1, row v12 34 fRaw2 vs13, ins shWriter 39 fTypeFault vs13 r10]) ?_ N (clash30, 0) hm
              · rintro N ⟨clash36, k37⟩ hI
                have hm := hI; clear hI
                cases N with
                | zero => cases hm
                | succ N =>
                unfold w_FnFewLetters_l2 at hm
                refine WJ.seq ?_
                refine WJ.seq ?_
                refine WJ.quiet ?_
                refine QJ.step (YldS.yld (y_move rfl)) rfl ?_
                refine QJ.step (YldS.yld (y_move rfl)) rfl ?_
                refine QJ.step (YldS.yld (y_bin rfl rfl rfl)) rfl ?_
                refine QJ.done ?_
                refine PJ.next ?_
                refine WJ.cond (t := decide (k37 < i31)) rfl (fun hb38 => ?_) (fun hb38 => ?_)
                · replace hm := ifT hm hb38
                  refine WJ.skip ?_
                  refine PJ.next ?_
                  obtain ⟨kj40, hk41, hm⟩ := withK_open hm
                  refine WJ.join (X := Bool) (fun (x : Bool) => kj40 x = some r) (fun (x : Bool) => [(5, v12), (6, v16), (7, .int .i64 r14.2), (8, v19), (10, .bool x), (11, .int .i64 i31), (12, .int .i64 k37)]) (fun (x : Bool) => [row v19 39 fTypeFault r17.1, row v16 9 fStr r14.1, row v12 34 fRaw2 vs13, ins shWriter 39 fTypeFault vs13 r10]) ?_ ?_
                  · clear hk41
                    refine WJ.block ?_
                    refine WJ.seq ?_
                    refine WJ.ins_len 3 rfl fun hl42 => ?_
                    obtain ⟨e43, h44, hm⟩ := bindS hm
                    obtain ⟨y45, hy46⟩ := inn_idx hl42.1 h44
                    obtain hs47 := hl42.2 _ _ _ hy46 h44
                    obtain ⟨e48, h49, hm⟩ := bindS hm
                    obtain ⟨y50, hy51⟩ := inn_idx hl42.1 h49
                    obtain hs52 := hl42.2 _ _ _ hy51 h49
                    obtain ⟨r53, h54, hm⟩ := bindS hm
                    refine WJ.draws (N := 14) (listed0 := #[false, false, false, false, false, false, false, false, false, false, false, false, false, false]) [row v19 39 fTypeFault r17.1, row v16 9 fStr r14.1, row v12 34 fRaw2 vs13, ins shWriter 39 fTypeFault vs13 r10] follows rfl rfl ?_
                    refine RJ.first 0 (listed' := #[true, false, false, false, false, false, false, false, false, false, false, false, false, false]) [0, 1, 2, 3] rfl (by kernel_rfl) rfl ⟨by decide, rfl⟩ (y_move rfl) rfl ?_
                    refine RJ.first 1 (listed' := #[true, true, false, false, false, false, false, false, false, false, false, false, false, false]) [0, 1, 2, 3] rfl (by kernel_rfl) rfl ⟨by decide, rfl⟩ (y_move rfl) rfl ?_
                    refine RJ.first 2 (listed' := #[true, true, true, false, false, false, false, false, false, false, false, false, false, false]) [0, 1, 2, 3] rfl (by kernel_rfl) rfl ⟨by decide, rfl⟩ (y_ixRow (k := 2) (R := fRaw2) rfl Try.runUnderlying24 Try.sizeOf34 rfl rfl hy46) rfl ?_
                    refine RJ.first 3 (listed' := #[true, true, true, true, false, false, false, false, false, false, false, false, false, false]) [0, 1, 2, 3] rfl (by kernel_rfl) rfl ⟨by decide, rfl⟩ (y_loadRN (k := 2) (i := (Int.toNat i31)) (off := 0) (us := [str e43.name, (shWriter.sl y45)]) rfl Try.isAgg34 Try.sizeOf34 rfl (idx_get hy46) (sh_cells hs47 rfl)) rfl ?_
                    refine RJ.first 4 (listed' := #[true, true, true, true, true, false, false, false, false, false, false, false, false, false]) [0, 1, 2, 3] rfl (by kernel_rfl) rfl ⟨by decide, rfl⟩ (y_move rfl) rfl ?_
                    refine RJ.first 5 (listed' := #[true, true, true, true, true, true, false, false, false, false, false, false, false, false]) [0, 1, 2, 3] rfl (by kernel_rfl) rfl ⟨by decide, rfl⟩ (y_move rfl) rfl ?_
                    refine RJ.first 6 (listed' := #[true, true, true, true, true, true, true, false, false, false, false, false, false, false]) [0, 1, 2, 3] rfl (by kernel_rfl) rfl ⟨by decide, rfl⟩ (y_ixRow (k := 2) (R := fRaw2) rfl Try.runUnderlying24 Try.sizeOf34 rfl rfl hy51) rfl ?_
                    refine RJ.first 7 (listed' := #[true, true, true, true, true, true, true, true, false, false, false, false, false, false]) [0, 1, 2, 3] rfl (by kernel_rfl) rfl ⟨by decide, rfl⟩ (y_loadRN (k := 2) (i := (Int.toNat k37)) (off := 0) (us := [str e48.name, (shWriter.sl y50)]) rfl Try.isAgg34 Try.sizeOf34 rfl (idx_get hy51) (sh_cells hs52 rfl)) rfl ?_
                    refine RJ.step1 8 [0, 1, 2, 3] (by kernel_rfl) ⟨by decide, rfl⟩ ?_
                    refine RO.of (listed' := #[true, true, true, true, true, true, true, true, true, false, false, false, false, false]) rfl rfl ?_
                    refine SJ.call Try.call8 rfl (fun w hw => ok_i_LettersApart h54 w _ (hw.ins_rd (k := 3) rfl rfl hy46 h44) _ (hw.ins_rd (k := 3) rfl rfl hy51 h49)) rfl ?_
                    rintro _ _ ⟨v55, rfl, rfl⟩
                    refine SJ.nil ?_
                    refine PJ.draw ?_
                    refine RJ.step1 9 [1, 2, 3, 4] (by kernel_rfl) ⟨by decide, rfl⟩ ?_
                    refine RO.of (listed' := #[true, true, true, true, true, true, true, true, true, true, false, false, false, false]) rfl rfl ?_
                    refine SJ.q (YldS.yld (y_move rfl)) rfl ?_
                    refine SJ.nil ?_
                    refine PJ.draw ?_
                    refine RJ.first 10 (listed' := #[true, true, true, true, true, true, true, true, true, true, true, false, false, false]) [1, 2, 3, 4] rfl (by kernel_rfl) rfl ⟨by decide, rfl⟩ (y_extract rfl rfl) rfl ?_
                    refine RJ.first 11 (listed' := #[true, true, true, true, true, true, true, true, true, true, true, true, false, false]) [1, 2, 3, 4] rfl (by kernel_rfl) rfl ⟨by decide, rfl⟩ (y_extract rfl rfl) rfl ?_
                    refine RJ.first 12 (listed' := #[true, true, true, true, true, true, true, true, true, true, true, true, true, false]) [1, 2, 3, 4] rfl (by kernel_rfl) rfl ⟨by decide, rfl⟩ (y_assign rfl) rfl ?_
                    refine RJ.first 13 (listed' := #[true, true, true, true, true, true, true, true, true, true, true, true, true, true]) [1, 2, 3, 4] rfl (by kernel_rfl) rfl ⟨by decide, rfl⟩ (y_assign rfl) rfl ?_
                    refine RJ.fin [1, 2, 3, 4] (by kernel_rfl) ⟨by decide, rfl⟩ ?_
                    refine PJ.next ?_
                    refine WJ.seq ?_
                    refine WJ.ins_len 4 rfl fun hl56 => ?_
                    obtain ⟨e57, h58, hm⟩ := bindS hm
                    obtain ⟨y59, hy60⟩ := inn_idx hl56.1 h58
                    obtain hs61 := hl56.2 _ _ _ hy60 h58
                    obtain ⟨e62, h63, hm⟩ := bindS hm
                    obtain ⟨y64, hy65⟩ := inn_idx hl56.1 h63
                    obtain hs66 := hl56.2 _ _ _ hy65 h63
                    obtain ⟨r67, h68, hm⟩ := bindS hm
                    refine WJ.draws (N := 14) (listed0 := #[false, false, false, false, false, false, false, false, false, false, false, false, false, false]) [row v55 9 fStr r53.1, row v19 39 fTypeFault r17.1, row v16 9 fStr r14.1, row v12 34 fRaw2 vs13, ins shWriter 39 fTypeFault vs13 r10] follows rfl rfl ?_
                    refine RJ.first 0 (listed' := #[true, false, false, false, false, false, false, false, false, false, false, false, false, false]) [0, 1, 2, 3, 4] rfl (by kernel_rfl) rfl ⟨by decide, rfl⟩ (y_move rfl) rfl ?_
                    refine RJ.first 1 (listed' := #[true, true, false, false, false, false, false, false, false, false, false, false, false, false]) [0, 1, 2, 3, 4] rfl (by kernel_rfl) rfl ⟨by decide, rfl⟩ (y_move rfl) rfl ?_
                    refine RJ.first 2 (listed' := #[true, true, true, false, false, false, false, false, false, false, false, false, false, false]) [0, 1, 2, 3, 4] rfl (by kernel_rfl) rfl ⟨by decide, rfl⟩ (y_ixRow (k := 3) (R := fRaw2) rfl Try.runUnderlying24 Try.sizeOf34 rfl rfl hy60) rfl ?_
                    refine RJ.first 3 (listed' := #[true, true, true, true, false, false, false, false, false, false, false, false, false, false]) [0, 1, 2, 3, 4] rfl (by kernel_rfl) rfl ⟨by decide, rfl⟩ (y_loadRN (k := 3) (i := (Int.toNat k37)) (off := 0) (us := [str e57.name, (shWriter.sl y59)]) rfl Try.isAgg34 Try.sizeOf34 rfl (idx_get hy60) (sh_cells hs61 rfl)) rfl ?_
                    refine RJ.first 4 (listed' := #[true, true, true, true, true, false, false, false, false, false, false, false, false, false]) [0, 1, 2, 3, 4] rfl (by kernel_rfl) rfl ⟨by decide, rfl⟩ (y_move rfl) rfl ?_
                    refine RJ.first 5 (listed' := #[true, true, true, true, true, true, false, false, false, false, false, false, false, false]) [0, 1, 2, 3, 4] rfl (by kernel_rfl) rfl ⟨by decide, rfl⟩ (y_move rfl) rfl ?_
                    refine RJ.first 6 (listed' := #[true, true, true, true, true, true, true, false, false, false, false, false, false, false]) [0, 1, 2, 3, 4] rfl (by kernel_rfl) rfl ⟨by decide, rfl⟩ (y_ixRow (k := 3) (R := fRaw2) rfl Try.runUnderlying24 Try.sizeOf34 rfl rfl hy65) rfl ?_
                    refine RJ.first 7 (listed' := #[true, true, true, true, true, true, true, true, false, false, false, false, false, false]) [0, 1, 2, 3, 4] rfl (by kernel_rfl) rfl ⟨by decide, rfl⟩ (y_loadRN (k := 3) (i := (Int.toNat i31)) (off := 0) (us := [str e62.name, (shWriter.sl y64)]) rfl Try.isAgg34 Try.sizeOf34 rfl (idx_get hy65) (sh_cells hs66 rfl)) rfl ?_
                    refine RJ.step1 8 [0, 1, 2, 3, 4] (by kernel_rfl) ⟨by decide, rfl⟩ ?_
                    refine RO.of (listed' := #[true, true, true, true, true, true, true, true, true, false, false, false, false, false]) rfl rfl ?_
                    refine SJ.call Try.call8 rfl (fun w hw => ok_i_LettersApart h68 w _ (hw.ins_rd (k := 4) rfl rfl hy60 h58) _ (hw.ins_rd (k := 4) rfl rfl hy65 h63)) rfl ?_
                    rintro _ _ ⟨v69, rfl, rfl⟩
                    refine SJ.nil ?_
                    refine PJ.draw ?_
                    refine RJ.step1 9 [1, 2, 3, 4, 5] (by kernel_rfl) ⟨by decide, rfl⟩ ?_
                    refine RO.of (listed' := #[true, true, true, true, true, true, true, true, true, true, false, false, false, false]) rfl rfl ?_
                    refine SJ.q (YldS.yld (y_move rfl)) rfl ?_
                    refine SJ.nil ?_
                    refine PJ.draw ?_
                    refine RJ.first 10 (listed' := #[true, true, true, true, true, true, true, true, true, true, true, false, false, false]) [1, 2, 3, 4, 5] rfl (by kernel_rfl) rfl ⟨by decide, rfl⟩ (y_extract rfl rfl) rfl ?_
                    refine RJ.first 11 (listed' := #[true, true, true, true, true, true, true, true, true, true, true, true, false, false]) [1, 2, 3, 4, 5] rfl (by kernel_rfl) rfl ⟨by decide, rfl⟩ (y_extract rfl rfl) rfl ?_
                    refine RJ.first 12 (listed' := #[true, true, true, true, true, true, true, true, true, true, true, true, true, false]) [1, 2, 3, 4, 5] rfl (by kernel_rfl) rfl ⟨by decide, rfl⟩ (y_assign rfl) rfl ?_
                    refine RJ.first 13 (listed' := #[true, true, true, true, true, true, true, true, true, true, true, true, true, true]) [1, 2, 3, 4, 5] rfl (by kernel_rfl) rfl ⟨by decide, rfl⟩ (y_assign rfl) rfl ?_
                    refine RJ.fin [1, 2, 3, 4, 5] (by kernel_rfl) ⟨by decide, rfl⟩ ?_
                    refine PJ.next ?_
                    refine WJ.seq ?_
                    refine WJ.seq ?_
                    refine WJ.quiet ?_
                    refine QJ.step (YldS.yld (y_move rfl)) rfl ?_
                    refine QJ.step (YldS.yld (y_bin rfl rfl rfl)) rfl ?_
                    refine QJ.step (YldS.yld (y_move rfl)) rfl ?_
                    obtain ⟨t70, h71, hm⟩ := bindS hm
                    refine QJ.cut 3 [(5, v12), (6, v16), (7, .int .i64 r14.2), (8, v19), (10, .bool clash36), (11, .int .i64 i31), (12, .int .i64 k37), (13, v55), (15, v69), (89, .bool t70)] ?_ ?_
                    · rcases Bool.eq_false_or_eq_true (r53.2 != 0) with hb72 | hb72
                      · obtain rfl := orT h71 hb72
                        refine QJ.off rfl rfl (cB hb72) rfl rfl ?_
                        refine QJ.off rfl rfl (cB hb72) rfl rfl ?_
                        refine QJ.step (YldS.yld (y_pick_t (cB hb72) rfl)) rfl ?_
                        exact QJ.cut_end ⟨rfl, rfl, rfl, rfl, rfl, rfl, rfl, rfl, rfl, rfl, trivial⟩
                      · replace h71 := orF h71 hb72
                        refine QJ.on rfl rfl (cB hb72) (YldS.yld (y_move rfl)) rfl ?_
                        refine QJ.on rfl rfl (cB hb72) (YldS.yld (y_bin rfl rfl rfl)) rfl ?_
                        refine QJ.step (YldS.yld (y_pick_f (cB hb72) rfl)) rfl ?_
                        obtain rfl := Option.some.inj h71
                        exact QJ.cut_end ⟨rfl, rfl, rfl, rfl, rfl, rfl, rfl, rfl, rfl, rfl, trivial⟩
                    refine QJ.step (YldS.yld (y_move rfl)) rfl ?_
                    obtain ⟨t73, h74, hm⟩ := bindS hm
                    refine QJ.cut 6 [(5, v12), (6, v16), (7, .int .i64 r14.2), (8, v19), (10, .bool clash36), (11, .int .i64 i31), (12, .int .i64 k37), (13, v55), (15, v69), (96, .bool t73)] ?_ ?_
                    · rcases Bool.eq_false_or_eq_true t70 with hb75 | hb75
                      · obtain rfl := orT h74 hb75
                        refine QJ.off rfl rfl (cB hb75) rfl rfl ?_
                        refine QJ.off rfl rfl (cB hb75) rfl rfl ?_
                        refine QJ.off rfl rfl (cB hb75) rfl rfl ?_
                        refine QJ.off rfl rfl (cB hb75) rfl rfl ?_
                        refine QJ.off rfl rfl (cB hb75) rfl rfl ?_
                        refine QJ.step (YldS.yld (y_pick_t (cB hb75) rfl)) rfl ?_
                        exact QJ.cut_end ⟨rfl, rfl, rfl, rfl, rfl, rfl, rfl, rfl, rfl, rfl, trivial⟩
                      · replace h74 := orF h74 hb75
                        refine QJ.on rfl rfl (cB hb75) (YldS.yld (y_move rfl)) rfl ?_
                        refine QJ.on rfl rfl (cB hb75) (YldS.yld (y_lenRow (k := 1) rfl Try.runUnderlying26 rfl)) rfl ?_
                        refine QJ.on rfl rfl (cB hb75) (YldS.yld (y_move rfl)) rfl ?_
                        refine QJ.on rfl rfl (cB hb75) (YldS.yld (y_lenRow (k := 0) rfl Try.runUnderlying26 rfl)) rfl ?_
                        refine QJ.on rfl rfl (cB hb75) (YldS.yld (y_bin rfl rfl rfl)) rfl ?_
                        refine QJ.step (YldS.yld (y_pick_f (cB hb75) rfl)) rfl ?_
                        obtain rfl := Option.some.inj h74
                        exact QJ.cut_end ⟨rfl, rfl, rfl, rfl, rfl, rfl, rfl, rfl, rfl, rfl, trivial⟩
                    refine QJ.done ?_
                    refine PJ.next ?_
                    refine WJ.cond (t := t73) rfl (fun hb76 => ?_) (fun hb76 => ?_)
                    · replace hm := ifT hm hb76
                      refine WJ.seq ?_
                      refine WJ.quiet ?_
                      refine QJ.step (YldS.yld (y_assign rfl)) rfl ?_
                      refine QJ.done ?_
                      refine PJ.next ?_
                      refine WJ.ret ?_
                      refine PJ.then_ret (PJ.block_ret (PJ.then_ret (PJ.then_ret (PJ.block_ret (PJ.block_ret (PJ.then_ret (PJ.then_ret (PJ.block_ret (PJ.then_ret ?_)))))))))
                      obtain rfl := Option.some.inj hm
                      refine PJ.sel (L' := []) [] ⟨List.nodup_nil, rfl⟩ ?_
                      exact PJ.retn (vs := [.bool false]) Try.results3 ⟨rfl, trivial⟩ ⟨rfl, rfl⟩
                    · replace hm := ifF hm hb76
                      refine WJ.skip ?_
                      refine PJ.next ?_
                      refine WJ.seq ?_
                      refine WJ.quiet ?_
                      refine QJ.step (YldS.yld (y_assign rfl)) rfl ?_
                      refine QJ.done ?_
                      refine PJ.next ?_
                      obtain ⟨kj78, hk79, hm⟩ := withK_open hm
                      refine WJ.join (X := Bool) (fun (x : Bool) => kj78 x = some r) (fun (x : Bool) => [(5, v12), (6, v16), (7, .int .i64 r14.2), (8, v19), (10, .bool clash36), (11, .int .i64 i31), (12, .int .i64 k37), (13, v55), (17, .bool x)]) (fun (x : Bool) => [row v55 9 fStr r53.1, row v19 39 fTypeFault r17.1, row v16 9 fStr r14.1, row v12 34 fRaw2 vs13, ins shWriter 39 fTypeFault vs13 r10]) ?_ ?_
                      · clear hk79
                        refine WJ.seq ?_
                        refine WJ.quiet ?_
                        refine QJ.step (YldS.yld (y_assign rfl)) rfl ?_
                        refine QJ.done ?_
                        refine PJ.next ?_
                        refine WJ.block ?_
                        refine WJ.sel (L' := (fun (x : Bool × Int) => [row v69 9 fStr r67.1, row v55 9 fStr r53.1, row v19 39 fTypeFault r17.1, row v16 9 fStr r14.1, row v12 34 fRaw2 vs13, ins shWriter 39 fTypeFault vs13 r10]) (false, 0)) [0, 1, 2, 3, 4, 5] ⟨by decide, rfl⟩ ?_
                        refine WJ.sub (m' := (fun (x : Bool × Int) => [(5, v12), (6, v16), (7, .int .i64 r14.2), (8, v19), (10, .bool clash36), (11, .int .i64 i31), (12, .int .i64 k37), (13, v55), (15, v69), (17, .bool x.1), (18, .int .i64 x.2)]) (false, 0)) ⟨rfl, rfl, rfl, rfl, rfl, rfl, rfl, rfl, rfl, rfl, rfl, trivial⟩ ?_
                        refine WJ.loop (X := Bool × Int) (fun N (x : Bool × Int) => w_FnFewLetters_l3 kj78 r14 r53 r67 N x.1 x.2 = some r) (fun (x : Bool × Int) => [(5, v12), (6, v16), (7, .int .i64 r14.2), (8, v19), (10, .bool clash36), (11, .int .i64 i31), (12, .int .i64 k37), (13, v55), (15, v69), (17, .bool x.1), (18, .int .i64 x.2)]) (fun (x : Bool × Int) => [row v69 9 fStr r67.1, row v55 9 fStr r53.1, row v19 39 fTypeFault r17.1, row v16 9 fStr r14.1, row v12 34 fRaw2 vs13, ins shWriter 39 fTypeFault vs13 r10]) ?_ N (false, 0) hm
                        · rintro N ⟨told80, n81⟩ hI
                          have hm := hI; clear hI
                          cases N with
                          | zero => cases hm
                          | succ N =>
                          unfold w_FnFewLetters_l3 at hm
                          refine WJ.seq ?_
                          refine WJ.seq ?_
                          refine WJ.quiet ?_
                          refine QJ.step (YldS.yld (y_move rfl)) rfl ?_
                          refine QJ.step (YldS.yld (y_move rfl)) rfl ?_
                          refine QJ.step (YldS.yld (y_lenRow (k := 1) rfl Try.runUnderlying26 rfl)) rfl ?_
                          refine QJ.step (YldS.yld (y_bin rfl rfl rfl)) rfl ?_
                          refine QJ.done ?_
                          refine PJ.next ?_
                          refine WJ.cond (t := decide (n81 < (List.length r53.1 : Int))) rfl (fun hb82 => ?_) (fun hb82 => ?_)
                          · replace hm := ifT hm hb82
                            refine WJ.skip ?_
                            refine PJ.next ?_
                            refine WJ.seq ?_
                            refine WJ.block ?_
                            refine WJ.seq ?_
                            refine WJ.seq ?_
                            refine WJ.quiet_draw follows (by kernel_rfl) ?_
                            refine QJ.step (YldS.yld (y_move rfl)) rfl ?_
                            refine QJ.step (YldS.yld (y_move rfl)) rfl ?_
                            obtain ⟨e83, h84, hm⟩ := bindS hm
                            refine QJ.step (YldS.yld (y_ixRow (k := 1) (R := fStr) rfl Try.runUnderlying26 Try.sizeOf9 rfl rfl h84)) rfl ?_
                            refine QJ.step (YldS.yld (y_loadR (k := 1) (i := (Int.toNat n81)) (off := 0) (u := str e83) rfl Try.isAgg9 rfl (idx_get h84) rfl)) rfl ?_
                            refine QJ.step (YldS.yld (y_move rfl)) rfl ?_
                            refine QJ.step (YldS.yld (y_move rfl)) rfl ?_
                            obtain ⟨e85, h86, hm⟩ := bindS hm
                            refine QJ.step (YldS.yld (y_ixRow (k := 0) (R := fStr) rfl Try.runUnderlying26 Try.sizeOf9 rfl rfl h86)) rfl ?_
                            refine QJ.step (YldS.yld (y_loadR (k := 0) (i := (Int.toNat n81)) (off := 0) (u := str e85) rfl Try.isAgg9 rfl (idx_get h86) rfl)) rfl ?_
                            refine QJ.step (YldS.yld (y_binS rfl rfl rfl)) rfl ?_
                            refine QJ.done ?_
                            refine PJ.next ?_
                            refine WJ.cond (t := (e83 != e85)) rfl (fun hb87 => ?_) (fun hb87 => ?_)
                            · replace hm := ifT hm hb87
                              refine WJ.seq ?_
                              refine WJ.quiet ?_
                              refine QJ.step (YldS.yld (y_assign rfl)) rfl ?_
                              refine QJ.done ?_
                              refine PJ.next ?_
                              refine WJ.ret ?_
                              refine PJ.then_ret (PJ.block_ret (PJ.then_ret (PJ.then_ret (PJ.block_ret (PJ.then_ret (PJ.block_ret (PJ.then_ret (PJ.then_ret (PJ.block_ret (PJ.block_ret (PJ.then_ret (PJ.then_ret (PJ.block_ret (PJ.then_ret ?_))))))))))))))
                              obtain rfl := Option.some.inj hm
                              refine PJ.sel (L' := []) [] ⟨List.nodup_nil, rfl⟩ ?_
                              exact PJ.retn (vs := [.bool false]) Try.results3 ⟨rfl, trivial⟩ ⟨rfl, rfl⟩
                            · replace hm := ifF hm hb87
                              refine WJ.skip ?_
                              refine PJ.next ?_
                              refine WJ.quiet ?_
                              refine QJ.step (YldS.yld (y_move rfl)) rfl ?_
                              refine QJ.step (YldS.yld (y_move rfl)) rfl ?_
                              obtain ⟨t88, h89, hm⟩ := bindS hm
                              refine QJ.cut 7 [(5, v12), (6, v16), (7, .int .i64 r14.2), (8, v19), (10, .bool clash36), (11, .int .i64 i31), (12, .int .i64 k37), (13, v55), (15, v69), (18, .int .i64 n81), (120, .bool t88)] ?_ ?_
                              · rcases Bool.eq_false_or_eq_true told80 with hb90 | hb90
                                · obtain rfl := orT h89 hb90
                                  refine QJ.off rfl rfl (cB hb90) rfl rfl ?_
                                  refine QJ.off rfl rfl (cB hb90) rfl rfl ?_
                                  refine QJ.off rfl rfl (cB hb90) rfl rfl ?_
                                  refine QJ.off rfl rfl (cB hb90) rfl rfl ?_
                                  refine QJ.off rfl rfl (cB hb90) rfl rfl ?_
                                  refine QJ.off rfl rfl (cB hb90) rfl rfl ?_
                                  refine QJ.step (YldS.yld (y_pick_t (cB hb90) rfl)) rfl ?_
                                  exact QJ.cut_end ⟨rfl, rfl, rfl, rfl, rfl, rfl, rfl, rfl, rfl, rfl, rfl, trivial⟩
                                · replace h89 := orF h89 hb90
                                  refine QJ.on rfl rfl (cB hb90) (YldS.yld (y_move rfl)) rfl ?_
                                  refine QJ.on rfl rfl (cB hb90) (YldS.yld (y_move rfl)) rfl ?_
                                  refine QJ.on rfl rfl (cB hb90) (YldS.yld (y_move rfl)) rfl ?_
                                  obtain ⟨e91, h92, h89⟩ := bindS h89
                                  refine QJ.on rfl rfl (cB hb90) (YldS.yld (y_ixRow (k := 1) (R := fStr) rfl Try.runUnderlying26 Try.sizeOf9 rfl rfl h92)) rfl ?_
                                  refine QJ.on rfl rfl (cB hb90) (YldS.yld (y_loadR (k := 1) (i := (Int.toNat n81)) (off := 0) (u := str e91) rfl Try.isAgg9 rfl (idx_get h92) rfl)) rfl ?_
                                  obtain ⟨r93, h94, h89⟩ := bindS h89
                                  refine QJ.on rfl rfl (cB hb90) (y_call Try.call9 rfl (RetG.quiet fun w hw => ok_w_a2HasText h94 w _ (hw.row_rd (k := 3) rfl))) rfl ?_
                                  refine QJ.step (YldS.yld (y_pick_f (cB hb90) rfl)) rfl ?_
                                  obtain rfl := Option.some.inj h89
                                  exact QJ.cut_end ⟨rfl, rfl, rfl, rfl, rfl, rfl, rfl, rfl, rfl, rfl, rfl, trivial⟩
                              refine QJ.step (YldS.yld (y_assign rfl)) rfl ?_
                              refine QJ.done ?_
                              refine PJ.block_normal (PJ.next ?_)
                              refine WJ.quiet ?_
                              refine QJ.step (YldS.yld (y_move rfl)) rfl ?_
                              refine QJ.step (YldS.yld (y_bin rfl rfl rfl)) rfl ?_
                              refine QJ.step (YldS.yld (y_assign rfl)) rfl ?_
                              refine QJ.done ?_
                              exact PJ.round (t88, w64 (n81 + 1)) [0, 1, 2, 3, 4, 5] hm ⟨rfl, rfl, rfl, rfl, rfl, rfl, rfl, rfl, rfl, rfl, rfl, trivial⟩ ⟨by decide, rfl⟩
                          · replace hm := ifF hm hb82
                            refine WJ.exit ?_
                            refine PJ.then_exit (PJ.then_exit (PJ.block_exit ?_))
                            exact PJ.joined told80 [1, 2, 3, 4, 5] hm ⟨rfl, rfl, rfl, rfl, rfl, rfl, rfl, rfl, rfl, trivial⟩ ⟨by decide, rfl⟩
                      · rintro told77 hm
                        subst hk79
                        refine WJ.seq ?_
                        refine WJ.quiet ?_
                        refine QJ.step (YldS.yld (y_move rfl)) rfl ?_
                        refine QJ.step (YldS.yld (y_move rfl)) rfl ?_
                        obtain ⟨t95, h96, hm⟩ := bindS hm
                        refine QJ.cut 4 [(5, v12), (6, v16), (7, .int .i64 r14.2), (8, v19), (11, .int .i64 i31), (12, .int .i64 k37), (17, .bool told77), (126, .bool t95)] ?_ ?_
                        · rcases Bool.eq_false_or_eq_true clash36 with hb97 | hb97
                          · obtain rfl := orT h96 hb97
                            refine QJ.off rfl rfl (cB hb97) rfl rfl ?_
                            refine QJ.off rfl rfl (cB hb97) rfl rfl ?_
                            refine QJ.off rfl rfl (cB hb97) rfl rfl ?_
                            refine QJ.step (YldS.yld (y_pick_t (cB hb97) rfl)) rfl ?_
                            exact QJ.cut_end ⟨rfl, rfl, rfl, rfl, rfl, rfl, rfl, rfl, trivial⟩
                          · replace h96 := orF h96 hb97
                            refine QJ.on rfl rfl (cB hb97) (YldS.yld (y_move rfl)) rfl ?_
                            refine QJ.on rfl rfl (cB hb97) (YldS.yld (y_lenRow (k := 0) rfl Try.runUnderlying26 rfl)) rfl ?_
                            refine QJ.on rfl rfl (cB hb97) (YldS.yld (y_bin rfl rfl rfl)) rfl ?_
                            refine QJ.step (YldS.yld (y_pick_f (cB hb97) rfl)) rfl ?_
                            obtain rfl := Option.some.inj h96
                            exact QJ.cut_end ⟨rfl, rfl, rfl, rfl, rfl, rfl, rfl, rfl, trivial⟩
                        refine QJ.step (YldS.yld (y_assign rfl)) rfl ?_
                        refine QJ.done ?_
                        refine PJ.next ?_
                        refine WJ.seq ?_
                        refine WJ.quiet ?_
                        refine QJ.step (YldS.yld (y_move rfl)) rfl ?_
                        refine QJ.step (YldS.yld (y_bin rfl rfl rfl)) rfl ?_
                        refine QJ.step (YldS.yld (y_move rfl)) rfl ?_
                        obtain ⟨t98, h99, hm⟩ := bindS hm
                        refine QJ.cut 3 [(5, v12), (6, v16), (7, .int .i64 r14.2), (8, v19), (10, .bool t95), (11, .int .i64 i31), (12, .int .i64 k37), (132, .bool t98)] ?_ ?_
                        · rcases Bool.eq_false_or_eq_true (r14.2 == 0) with hb100 | hb100
                          · replace h99 := andT h99 hb100
                            refine QJ.on rfl rfl (cB hb100) (YldS.yld (y_move rfl)) rfl ?_
                            refine QJ.on rfl rfl (cB hb100) (YldS.yld (y_not rfl)) rfl ?_
                            refine QJ.step (YldS.yld (y_pick_t (cB hb100) rfl)) rfl ?_
                            obtain rfl := Option.some.inj h99
                            exact QJ.cut_end ⟨rfl, rfl, rfl, rfl, rfl, rfl, rfl, rfl, trivial⟩
                          · obtain rfl := andF h99 hb100
                            refine QJ.off rfl rfl (cB hb100) rfl rfl ?_
                            refine QJ.off rfl rfl (cB hb100) rfl rfl ?_
                            refine QJ.step (YldS.yld (y_pick_f (cB hb100) rfl)) rfl ?_
                            exact QJ.cut_end ⟨rfl, rfl, rfl, rfl, rfl, rfl, rfl, rfl, trivial⟩
                        refine QJ.done ?_
                        refine PJ.next ?_
                        refine WJ.cond (t := t98) rfl (fun hb101 => ?_) (fun hb101 => ?_)
                        · replace hm := ifT hm hb101
                          refine WJ.seq ?_
                          refine WJ.quiet ?_
                          refine QJ.step (YldS.yld (y_assign rfl)) rfl ?_
                          refine QJ.done ?_
                          refine PJ.next ?_
                          refine WJ.ret ?_
                          refine PJ.block_ret (PJ.then_ret (PJ.then_ret (PJ.block_ret (PJ.block_ret (PJ.then_ret (PJ.then_ret (PJ.block_ret (PJ.then_ret ?_))))))))
                          obtain rfl := Option.some.inj hm
                          refine PJ.sel (L' := []) [] ⟨List.nodup_nil, rfl⟩ ?_
                          exact PJ.retn (vs := [.bool false]) Try.results3 ⟨rfl, trivial⟩ ⟨rfl, rfl⟩
                        · replace hm := ifF hm hb101
                          refine WJ.skip ?_
                          refine PJ.block_normal ?_
                          exact PJ.joined t95 [1, 2, 3, 4] hm ⟨rfl, rfl, rfl, rfl, rfl, rfl, rfl, trivial⟩ ⟨by decide, rfl⟩
                  · rintro clash39 hm
                    subst hk41
                    refine WJ.quiet ?_
                    refine QJ.step (YldS.yld (y_move rfl)) rfl ?_
                    refine QJ.step (YldS.yld (y_bin rfl rfl rfl)) rfl ?_
                    refine QJ.step (YldS.yld (y_assign rfl)) rfl ?_
                    refine QJ.done ?_
                    exact PJ.round (clash39, w64 (k37 + 1)) [0, 1, 2, 3] hm ⟨rfl, rfl, rfl, rfl, rfl, rfl, rfl, trivial⟩ ⟨by decide, rfl⟩
                · replace hm := ifF hm hb38
                  refine WJ.exit ?_
                  refine PJ.then_exit (PJ.then_exit (PJ.block_exit (PJ.block_normal ?_)))
                  exact PJ.joined clash36 [0, 1, 2, 3] hm ⟨rfl, rfl, rfl, rfl, rfl, rfl, trivial⟩ ⟨by decide, rfl⟩
            · rintro clash33 hm
              subst hk35
              refine WJ.quiet ?_
              refine QJ.step (YldS.yld (y_move rfl)) rfl ?_
              refine QJ.step (YldS.yld (y_bin rfl rfl rfl)) rfl ?_
              refine QJ.step (YldS.yld (y_assign rfl)) rfl ?_
              refine QJ.done ?_
              exact PJ.round (clash33, w64 (i31 + 1)) [0, 1, 2, 3] hm ⟨rfl, rfl, rfl, rfl, rfl, rfl, trivial⟩ ⟨by decide, rfl⟩
          · replace hm := ifF hm hb32
            refine WJ.exit ?_
            refine PJ.then_exit (PJ.then_exit (PJ.block_exit ?_))
            exact PJ.joined clash30 [0, 2, 3] hm ⟨rfl, rfl, rfl, rfl, trivial⟩ ⟨by decide, rfl⟩
      · rintro clash27 hm
        subst hk29
        refine WJ.seq ?_
        refine WJ.seq ?_
        refine WJ.quiet ?_
        refine QJ.step (YldS.yld (y_move rfl)) rfl ?_
        refine QJ.step (YldS.yld (y_move rfl)) rfl ?_
        refine QJ.step (YldS.yld (y_bin rfl rfl rfl)) rfl ?_
        refine QJ.step (YldS.yld (y_neB Try.underlying4 rfl rfl rfl)) rfl ?_
        refine QJ.done ?_
        refine PJ.next ?_
        refine WJ.cond (t := (clash27 != (r14.2 == 9))) rfl (fun hb102 => ?_) (fun hb102 => ?_)
        · replace hm := ifT hm hb102
          refine WJ.seq ?_
          refine WJ.quiet ?_
          refine QJ.step (YldS.yld (y_assign rfl)) rfl ?_
          refine QJ.done ?_
          refine PJ.next ?_
          refine WJ.ret ?_
          refine PJ.then_ret ?_
          obtain rfl := Option.some.inj hm
          refine PJ.sel (L' := []) [] ⟨List.nodup_nil, rfl⟩ ?_
          exact PJ.retn (vs := [.bool false]) Try.results3 ⟨rfl, trivial⟩ ⟨rfl, rfl⟩
        · replace hm := ifF hm hb102
          refine WJ.skip ?_
          refine PJ.next ?_
          obtain ⟨kj103, hk104, hm⟩ := withK_open hm
          refine WJ.join (X := Unit) (fun (_ : Unit) => kj103  = some r) (fun (_ : Unit) => []) (fun (_ : Unit) => []) ?_ ?_
          · clear hk104
            refine WJ.seq ?_
            refine WJ.quiet ?_
            refine QJ.step (YldS.yld (y_assign rfl)) rfl ?_
            refine QJ.done ?_
            refine PJ.next ?_
            refine WJ.block ?_
            refine WJ.sel (L' := (fun (x : Int) => [row v19 39 fTypeFault r17.1, row v12 34 fRaw2 vs13, ins shWriter 39 fTypeFault vs13 r10]) 0) [0, 1, 2] ⟨by decide, rfl⟩ ?_
            refine WJ.sub (m' := (fun (x : Int) => [(5, v12), (8, v19), (19, .int .i64 x)]) 0) ⟨rfl, rfl, rfl, trivial⟩ ?_
            refine WJ.loop (X := Int) (fun N (x : Int) => w_FnFewLetters_l4 kj103 r10 r17 N x = some r) (fun (x : Int) => [(5, v12), (8, v19), (19, .int .i64 x)]) (fun (x : Int) => [row v19 39 fTypeFault r17.1, row v12 34 fRaw2 vs13, ins shWriter 39 fTypeFault vs13 r10]) ?_ N 0 hm
            · rintro N i105 hI
              have hm := hI; clear hI
              cases N with
              | zero => cases hm
              | succ N =>
              unfold w_FnFewLetters_l4 at hm
              refine WJ.seq ?_
              refine WJ.seq ?_
              refine WJ.quiet ?_
              refine QJ.step (YldS.yld (y_move rfl)) rfl ?_
              refine QJ.step (YldS.yld (y_move rfl)) rfl ?_
              refine QJ.step (YldS.yld (y_lenRow (k := 0) rfl Try.runUnderlying29 rfl)) rfl ?_
              refine QJ.step (YldS.yld (y_bin rfl rfl rfl)) rfl ?_
              refine QJ.done ?_
              refine PJ.next ?_
              refine WJ.cond (t := decide (i105 < (List.length r17.1 : Int))) rfl (fun hb106 => ?_) (fun hb106 => ?_)
              · replace hm := ifT hm hb106
                refine WJ.skip ?_
                refine PJ.next ?_
                obtain ⟨kj107, hk108, hm⟩ := withK_open hm
                refine WJ.join (X := Unit) (fun (_ : Unit) => kj107  = some r) (fun (_ : Unit) => [(5, v12), (8, v19), (19, .int .i64 i105)]) (fun (_ : Unit) => [row v19 39 fTypeFault r17.1, row v12 34 fRaw2 vs13, ins shWriter 39 fTypeFault vs13 r10]) ?_ ?_
                · clear hk108
                  refine WJ.block ?_
                  refine WJ.seq ?_
                  refine WJ.quiet ?_
                  refine QJ.step (YldS.yld (y_assign rfl)) rfl ?_
                  refine QJ.done ?_
                  refine PJ.next ?_
                  obtain ⟨kj110, hk111, hm⟩ := withK_open hm
                  refine WJ.join (X := Int) (fun (x : Int) => kj110 x = some r) (fun (x : Int) => [(5, v12), (8, v19), (19, .int .i64 i105), (20, .int .i64 x)]) (fun (x : Int) => [row v19 39 fTypeFault r17.1, row v12 34 fRaw2 vs13, ins shWriter 39 fTypeFault vs13 r10]) ?_ ?_
                  · clear hk111
                    refine WJ.seq ?_
                    refine WJ.quiet ?_
                    refine QJ.step (YldS.yld (y_assign rfl)) rfl ?_
                    refine QJ.done ?_
                    refine PJ.next ?_
                    refine WJ.block ?_
                    refine WJ.sel (L' := (fun (x : Int × Int) => [row v19 39 fTypeFault r17.1, row v12 34 fRaw2 vs13, ins shWriter 39 fTypeFault vs13 r10]) (0, 0)) [0, 1, 2] ⟨by decide, rfl⟩ ?_
                    refine WJ.sub (m' := (fun (x : Int × Int) => [(5, v12), (8, v19), (19, .int .i64 i105), (20, .int .i64 x.1), (21, .int .i64 x.2)]) (0, 0)) ⟨rfl, rfl, rfl, rfl, rfl, trivial⟩ ?_
                    refine WJ.loop (X := Int × Int) (fun N (x : Int × Int) => w_FnFewLetters_l5 kj110 r10 r17 i105 N x.1 x.2 = some r) (fun (x : Int × Int) => [(5, v12), (8, v19), (19, .int .i64 i105), (20, .int .i64 x.1), (21, .int .i64 x.2)]) (fun (x : Int × Int) => [row v19 39 fTypeFault r17.1, row v12 34 fRaw2 vs13, ins shWriter 39 fTypeFault vs13 r10]) ?_ N (0, 0) hm
                    · rintro N ⟨many112, k113⟩ hI
                      have hm := hI; clear hI
                      cases N with
                      | zero => cases hm
                      | succ N =>
                      unfold w_FnFewLetters_l5 at hm
                      refine WJ.seq ?_
                      refine WJ.seq ?_
                      refine WJ.quiet ?_
                      refine QJ.step (YldS.yld (y_move rfl)) rfl ?_
                      refine QJ.step (YldS.yld (y_move rfl)) rfl ?_
                      refine QJ.step (YldS.yld (y_lenSh (k := 1) (j := 2) rfl rfl Try.runUnderlying24 rfl)) rfl ?_
                      refine QJ.step (YldS.yld (y_bin rfl rfl rfl)) rfl ?_
                      refine QJ.done ?_
                      refine PJ.next ?_
                      refine WJ.cond (t := decide (k113 < (List.length r10 : Int))) rfl (fun hb114 => ?_) (fun hb114 => ?_)
                      · replace hm := ifT hm hb114
                        refine WJ.skip ?_
                        refine PJ.next ?_
                        obtain ⟨kj116, hk117, hm⟩ := withK_open hm
                        refine WJ.join (X := Int) (fun (x : Int) => kj116 x = some r) (fun (x : Int) => [(5, v12), (8, v19), (19, .int .i64 i105), (20, .int .i64 x), (21, .int .i64 k113)]) (fun (x : Int) => [row v19 39 fTypeFault r17.1, row v12 34 fRaw2 vs13, ins shWriter 39 fTypeFault vs13 r10]) ?_ ?_
                        · clear hk117
                          refine WJ.block ?_
                          refine WJ.seq ?_
                          refine WJ.ins_len 2 rfl fun hl118 => ?_
                          refine WJ.quiet_draw follows (by kernel_rfl) ?_
                          refine QJ.step (YldS.yld (y_move rfl)) rfl ?_
                          refine QJ.step (YldS.yld (y_move rfl)) rfl ?_
                          obtain ⟨e119, h120, hm⟩ := bindS hm
                          obtain ⟨y121, hy122⟩ := inn_idx hl118.1 h120
                          obtain hs123 := hl118.2 _ _ _ hy122 h120
                          refine QJ.step (YldS.yld (y_ixRow (k := 1) (R := fRaw2) rfl Try.runUnderlying24 Try.sizeOf34 rfl rfl hy122)) rfl ?_
                          refine QJ.step (YldS.yld (y_loadRN (k := 1) (i := (Int.toNat k113)) (off := 0) (us := [str e119.name, (shWriter.sl y121)]) rfl Try.isAgg34 Try.sizeOf34 rfl (idx_get hy122) (sh_cells hs123 rfl))) rfl ?_
                          refine QJ.step (YldS.yld (y_move rfl)) rfl ?_
                          refine QJ.step (YldS.yld (y_move rfl)) rfl ?_
                          obtain ⟨e124, h125, hm⟩ := bindS hm
                          refine QJ.step (YldS.yld (y_ixRow (k := 0) (R := fTypeFault) rfl Try.runUnderlying29 Try.sizeOf39 rfl rfl h125)) rfl ?_
                          refine QJ.step (YldS.yld (y_fldR fld39_0 rfl)) rfl ?_
                          refine QJ.step (YldS.yld (y_loadR (k := 0) (i := (Int.toNat i105)) (off := 0) (u := str e124.letter) rfl Try.isAgg9 rfl (idx_get h125) rfl)) rfl ?_
                          obtain ⟨r126, h127, hm⟩ := bindS hm
                          refine QJ.step (y_call Try.call10 rfl (RetG.quiet fun w hw => ok_i_KindOf h127 w _ (hw.ins_rd (k := 2) rfl rfl hy122 h120))) rfl ?_
                          refine QJ.step (YldS.yld (y_move rfl)) rfl ?_
                          refine QJ.step (YldS.yld (y_extract rfl rfl)) rfl ?_
                          refine QJ.step (YldS.yld (y_extract rfl rfl)) rfl ?_
                          refine QJ.step (YldS.yld (y_assign rfl)) rfl ?_
                          refine QJ.step (YldS.yld (y_assign rfl)) rfl ?_
                          refine QJ.done ?_
                          refine PJ.next ?_
                          refine WJ.seq ?_
                          refine WJ.seq ?_
                          refine WJ.quiet ?_
                          refine QJ.step (YldS.yld (y_move rfl)) rfl ?_
                          refine QJ.step (YldS.yld (y_bin rfl rfl rfl)) rfl ?_
                          refine QJ.done ?_
                          refine PJ.next ?_
                          refine WJ.cond (t := (r126.2 != 0)) rfl (fun hb128 => ?_) (fun hb128 => ?_)
                          · replace hm := ifT hm hb128
                            refine WJ.seq ?_
                            refine WJ.quiet ?_
                            refine QJ.step (YldS.yld (y_assign rfl)) rfl ?_
                            refine QJ.done ?_
                            refine PJ.next ?_
                            refine WJ.ret ?_
                            refine PJ.then_ret (PJ.block_ret (PJ.then_ret (PJ.then_ret (PJ.block_ret (PJ.then_ret (PJ.block_ret (PJ.then_ret (PJ.then_ret (PJ.block_ret (PJ.then_ret ?_))))))))))
                            obtain rfl := Option.some.inj hm
                            refine PJ.sel (L' := []) [] ⟨List.nodup_nil, rfl⟩ ?_
                            exact PJ.retn (vs := [.bool false]) Try.results3 ⟨rfl, trivial⟩ ⟨rfl, rfl⟩
                          · replace hm := ifF hm hb128
                            refine WJ.skip ?_
                            refine PJ.next ?_
                            refine WJ.seq ?_
                            refine WJ.quiet ?_
                            refine QJ.step (YldS.yld (y_move rfl)) rfl ?_
                            refine QJ.step (YldS.yld (y_move rfl)) rfl ?_
                            refine QJ.step (YldS.yld (y_move rfl)) rfl ?_
                            obtain ⟨e129, h130, hm⟩ := bindS hm
                            refine QJ.step (YldS.yld (y_ixRow (k := 0) (R := fTypeFault) rfl Try.runUnderlying29 Try.sizeOf39 rfl rfl h130)) rfl ?_
                            refine QJ.step (YldS.yld (y_fldR fld39_1 rfl)) rfl ?_
                            refine QJ.step (YldS.yld (y_loadR (k := 0) (i := (Int.toNat i105)) (off := 1) (u := .int .i64 e129.kind) rfl Try.isAgg2 rfl (idx_get h130) rfl)) rfl ?_
                            refine QJ.step (YldS.yld (y_bin rfl rfl rfl)) rfl ?_
                            refine QJ.done ?_
                            refine PJ.next ?_
                            refine WJ.cond (t := (r126.1 == e129.kind)) rfl (fun hb131 => ?_) (fun hb131 => ?_)
                            · replace hm := ifT hm hb131
                              refine WJ.quiet ?_
                              refine QJ.step (YldS.yld (y_move rfl)) rfl ?_
                              refine QJ.step (YldS.yld (y_bin rfl rfl rfl)) rfl ?_
                              refine QJ.step (YldS.yld (y_assign rfl)) rfl ?_
                              refine QJ.done ?_
                              refine PJ.block_normal ?_
                              exact PJ.joined (w64 (many112 + 1)) [0, 1, 2] hm ⟨rfl, rfl, rfl, rfl, rfl, trivial⟩ ⟨by decide, rfl⟩
                            · replace hm := ifF hm hb131
                              refine WJ.skip ?_
                              refine PJ.block_normal ?_
                              exact PJ.joined many112 [0, 1, 2] hm ⟨rfl, rfl, rfl, rfl, rfl, trivial⟩ ⟨by decide, rfl⟩
                        · rintro many115 hm
                          subst hk117
                          refine WJ.quiet ?_
                          refine QJ.step (YldS.yld (y_move rfl)) rfl ?_
                          refine QJ.step (YldS.yld (y_bin rfl rfl rfl)) rfl ?_
                          refine QJ.step (YldS.yld (y_assign rfl)) rfl ?_
                          refine QJ.done ?_
                          exact PJ.round (many115, w64 (k113 + 1)) [0, 1, 2] hm ⟨rfl, rfl, rfl, rfl, rfl, trivial⟩ ⟨by decide, rfl⟩
                      · replace hm := ifF hm hb114
                        refine WJ.exit ?_
                        refine PJ.then_exit (PJ.then_exit (PJ.block_exit ?_))
                        exact PJ.joined many112 [0, 1, 2] hm ⟨rfl, rfl, rfl, rfl, trivial⟩ ⟨by decide, rfl⟩
                  · rintro many109 hm
                    subst hk111
                    refine WJ.seq ?_
                    refine WJ.quiet ?_
                    refine QJ.step (YldS.yld (y_move rfl)) rfl ?_
                    refine QJ.step (YldS.yld (y_bin rfl rfl rfl)) rfl ?_
                    refine QJ.step (YldS.yld (y_move rfl)) rfl ?_
                    obtain ⟨t132, h133, hm⟩ := bindS hm
                    refine QJ.cut 7 [(5, v12), (8, v19), (19, .int .i64 i105), (182, .bool t132)] ?_ ?_
                    · rcases Bool.eq_false_or_eq_true (many109 != 1) with hb134 | hb134
                      · obtain rfl := orT h133 hb134
                        refine QJ.off rfl rfl (cB hb134) rfl rfl ?_
                        refine QJ.off rfl rfl (cB hb134) rfl rfl ?_
                        refine QJ.off rfl rfl (cB hb134) rfl rfl ?_
                        refine QJ.off rfl rfl (cB hb134) rfl rfl ?_
                        refine QJ.off rfl rfl (cB hb134) rfl rfl ?_
                        refine QJ.off rfl rfl (cB hb134) rfl rfl ?_
                        refine QJ.step (YldS.yld (y_pick_t (cB hb134) rfl)) rfl ?_
                        exact QJ.cut_end ⟨rfl, rfl, rfl, rfl, trivial⟩
                      · replace h133 := orF h133 hb134
                        refine QJ.on rfl rfl (cB hb134) (YldS.yld (y_move rfl)) rfl ?_
                        refine QJ.on rfl rfl (cB hb134) (YldS.yld (y_move rfl)) rfl ?_
                        obtain ⟨e135, h136, h133⟩ := bindS h133
                        refine QJ.on rfl rfl (cB hb134) (YldS.yld (y_ixRow (k := 0) (R := fTypeFault) rfl Try.runUnderlying29 Try.sizeOf39 rfl rfl h136)) rfl ?_
                        refine QJ.on rfl rfl (cB hb134) (YldS.yld (y_fldR fld39_1 rfl)) rfl ?_
                        refine QJ.on rfl rfl (cB hb134) (YldS.yld (y_loadR (k := 0) (i := (Int.toNat i105)) (off := 1) (u := .int .i64 e135.kind) rfl Try.isAgg2 rfl (idx_get h136) rfl)) rfl ?_
                        refine QJ.on rfl rfl (cB hb134) (YldS.yld (y_bin rfl rfl rfl)) rfl ?_
                        refine QJ.step (YldS.yld (y_pick_f (cB hb134) rfl)) rfl ?_
                        obtain rfl := Option.some.inj h133
                        exact QJ.cut_end ⟨rfl, rfl, rfl, rfl, trivial⟩
                    refine QJ.done ?_
                    refine PJ.next ?_
                    refine WJ.cond (t := t132) rfl (fun hb137 => ?_) (fun hb137 => ?_)
                    · replace hm := ifT hm hb137
                      refine WJ.seq ?_
                      refine WJ.quiet ?_
                      refine QJ.step (YldS.yld (y_assign rfl)) rfl ?_
                      refine QJ.done ?_
                      refine PJ.next ?_
                      refine WJ.ret ?_
                      refine PJ.block_ret (PJ.then_ret (PJ.then_ret (PJ.block_ret (PJ.then_ret ?_))))
                      obtain rfl := Option.some.inj hm
                      refine PJ.sel (L' := []) [] ⟨List.nodup_nil, rfl⟩ ?_
                      exact PJ.retn (vs := [.bool false]) Try.results3 ⟨rfl, trivial⟩ ⟨rfl, rfl⟩
                    · replace hm := ifF hm hb137
                      refine WJ.skip ?_
                      refine PJ.block_normal ?_
                      exact PJ.joined () [0, 1, 2] hm ⟨rfl, rfl, rfl, trivial⟩ ⟨by decide, rfl⟩
                · rintro _ hm
                  subst hk108
                  refine WJ.quiet ?_
                  refine QJ.step (YldS.yld (y_move rfl)) rfl ?_
                  refine QJ.step (YldS.yld (y_bin rfl rfl rfl)) rfl ?_
                  refine QJ.step (YldS.yld (y_assign rfl)) rfl ?_
                  refine QJ.done ?_
                  exact PJ.round (w64 (i105 + 1)) [0, 1, 2] hm ⟨rfl, rfl, rfl, trivial⟩ ⟨by decide, rfl⟩
              · replace hm := ifF hm hb106
                refine WJ.exit ?_
                refine PJ.then_exit (PJ.then_exit (PJ.block_exit ?_))
                exact PJ.joined () [] hm trivial ⟨List.nodup_nil, rfl⟩
          · rintro _ hm
            subst hk104
            refine WJ.seq ?_
            refine WJ.quiet ?_
            refine QJ.step (YldS.yld (y_assign rfl)) rfl ?_
            refine QJ.done ?_
            refine PJ.next ?_
            refine WJ.ret ?_
            obtain rfl := Option.some.inj hm
            refine PJ.sel (L' := []) [] ⟨List.nodup_nil, rfl⟩ ?_
            exact PJ.retn (vs := [.bool true]) Try.results3 ⟨rfl, trivial⟩ ⟨rfl, rfl⟩

end Go.Proofs.Ythifimjkndpmpaa
