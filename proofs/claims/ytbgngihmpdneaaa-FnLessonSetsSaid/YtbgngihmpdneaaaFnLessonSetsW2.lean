/-
  The walks: a call hands back what its plain function computes, where that has a value. No other conditions.
-/
import Derived.Test.YtbgngihmpdneaaaFnLessonSetsW
import Derived.Test.YtbgngihmpdneaaaChecked
namespace Go.Proofs.Ytbgngihmpdneaaa
open Go.RowKit Go.Proofs
set_option linter.unusedVariables false
set_option linter.unusedSimpArgs false

set_option maxRecDepth 100000 in
set_option maxHeartbeats 1000000 in
theorem ok_i_compareNumbers {N : Nat} {a1 : List Int} {b4 : List Int} {r : Int} (hm : i_compareNumbers N a1 b4 = some r) (w : World) (v2 : Value) (hr3 : RdS w (cx w).Fz v2 fI64.rp a1) (v5 : Value) (hr6 : RdS w (cx w).Fz v5 fI64.rp b4) :
    Calls Try.prog 36 #[v2, v5] w (Ret (cx w) (.int .i64 r)) := by
  unfold i_compareNumbers at hm
  refine Calls.enter [v2, v5] Try.func36 rfl Try.ntmps36 rfl ?_
  refine WJ.seq ?_
  refine WJ.quiet ?_
  refine QJ.step (YldS.yld (y_assign rfl)) rfl ?_
  refine QJ.done ?_
  refine PJ.next ?_
  obtain ⟨kj7, hk8, hm⟩ := withK_open hm
  refine WJ.join (X := Unit) (fun (_ : Unit) => kj7  = some r) (fun (_ : Unit) => [(0, v2), (1, v5)]) (fun (_ : Unit) => []) ?_ ?_
  · clear hk8
    refine WJ.seq ?_
    refine WJ.quiet ?_
    refine QJ.step (YldS.yld (y_assign rfl)) rfl ?_
    refine QJ.done ?_
    refine PJ.next ?_
    refine WJ.block ?_
    refine WJ.sel (L' := (fun (x : Int) => []) 0) [] ⟨List.nodup_nil, rfl⟩ ?_
    refine WJ.sub (m' := (fun (x : Int) => [(0, v2), (1, v5), (5, .int .i64 x)]) 0) ⟨rfl, rfl, rfl, trivial⟩ ?_
    refine WJ.loop (X := Int) (fun N (x : Int) => i_compareNumbers_l1 kj7 a1 b4 N x = some r) (fun (x : Int) => [(0, v2), (1, v5), (5, .int .i64 x)]) (fun (x : Int) => []) ?_ N 0 hm
    · rintro N i9 hI
      have hm := hI; clear hI
      cases N with
      | zero => cases hm
      | succ N =>
      unfold i_compareNumbers_l1 at hm
      refine WJ.seq ?_
      refine WJ.seq ?_
      refine WJ.quiet ?_
      refine QJ.step (YldS.yld (y_move rfl)) rfl ?_
      refine QJ.step (YldS.yld (y_move rfl)) rfl ?_
      refine QJ.step (YldS.yld (y_lenS Try.runUnderlying27 hr3 rfl)) rfl ?_
      refine QJ.step (YldS.yld (y_bin rfl rfl rfl)) rfl ?_
      refine QJ.step (YldS.yld (y_move rfl)) rfl ?_
      obtain ⟨t10, h11, hm⟩ := bindS hm
      refine QJ.cut 5 [(0, v2), (1, v5), (5, .int .i64 i9), (15, .bool t10)] ?_ ?_
      · rcases Bool.eq_false_or_eq_true (decide (i9 < (List.length a1 : Int))) with hb12 | hb12
        · replace h11 := andT h11 hb12
          refine QJ.on rfl rfl (cB hb12) (YldS.yld (y_move rfl)) rfl ?_
          refine QJ.on rfl rfl (cB hb12) (YldS.yld (y_move rfl)) rfl ?_
          refine QJ.on rfl rfl (cB hb12) (YldS.yld (y_lenS Try.runUnderlying27 hr6 rfl)) rfl ?_
          refine QJ.on rfl rfl (cB hb12) (YldS.yld (y_bin rfl rfl rfl)) rfl ?_
          refine QJ.step (YldS.yld (y_pick_t (cB hb12) rfl)) rfl ?_
          obtain rfl := Option.some.inj h11
          exact QJ.cut_end ⟨rfl, rfl, rfl, rfl, trivial⟩
        · obtain rfl := andF h11 hb12
          refine QJ.off rfl rfl (cB hb12) rfl rfl ?_
          refine QJ.off rfl rfl (cB hb12) rfl rfl ?_
          refine QJ.off rfl rfl (cB hb12) rfl rfl ?_
          refine QJ.off rfl rfl (cB hb12) rfl rfl ?_
          refine QJ.step (YldS.yld (y_pick_f (cB hb12) rfl)) rfl ?_
          exact QJ.cut_end ⟨rfl, rfl, rfl, rfl, trivial⟩
      refine QJ.done ?_
      refine PJ.next ?_
      refine WJ.cond (t := t10) rfl (fun hb13 => ?_) (fun hb13 => ?_)
      · replace hm := ifT hm hb13
        refine WJ.skip ?_
        refine PJ.next ?_
        refine WJ.seq ?_
        refine WJ.block ?_
        refine WJ.block ?_
        refine WJ.seq ?_
        refine WJ.quiet_draw follows (by kernel_rfl) ?_
        refine QJ.step (YldS.yld (y_move rfl)) rfl ?_
        refine QJ.step (YldS.yld (y_move rfl)) rfl ?_
        obtain ⟨e14, h15, hm⟩ := bindS hm
        obtain ⟨ad16, _, rfl, ha17, hy18⟩ := hr3.elem h15
        refine QJ.step (YldS.yld (hy18 Try.runUnderlying27 Try.sizeOf2 rfl rfl)) rfl ?_
        refine QJ.step (YldS.yld (y_load1 (v := .int .i64 e14) Try.isAgg2 ha17 St.frozenC rfl)) rfl ?_
        refine QJ.step (YldS.yld (y_move rfl)) rfl ?_
        refine QJ.step (YldS.yld (y_move rfl)) rfl ?_
        obtain ⟨e19, h20, hm⟩ := bindS hm
        obtain ⟨ad21, _, rfl, ha22, hy23⟩ := hr6.elem h20
        refine QJ.step (YldS.yld (hy23 Try.runUnderlying27 Try.sizeOf2 rfl rfl)) rfl ?_
        refine QJ.step (YldS.yld (y_load1 (v := .int .i64 e19) Try.isAgg2 ha22 St.frozenC rfl)) rfl ?_
        refine QJ.step (YldS.yld (y_bin rfl rfl rfl)) rfl ?_
        refine QJ.step (YldS.yld (y_assign rfl)) rfl ?_
        refine QJ.done ?_
        refine PJ.next ?_
        refine WJ.cond (t := decide (e14 < e19)) rfl (fun hb24 => ?_) (fun hb24 => ?_)
        · replace hm := ifT hm hb24
          refine WJ.seq ?_
          refine WJ.quiet ?_
          refine QJ.step (YldS.yld (y_assign rfl)) rfl ?_
          refine QJ.done ?_
          refine PJ.next ?_
          refine WJ.ret ?_
          refine PJ.block_ret (PJ.block_ret (PJ.then_ret (PJ.then_ret (PJ.block_ret (PJ.then_ret ?_)))))
          obtain rfl := Option.some.inj hm
          refine PJ.sel (L' := []) [] ⟨List.nodup_nil, rfl⟩ ?_
          exact PJ.retn (vs := [.int .i64 (-1)]) Try.results36 ⟨rfl, trivial⟩ ⟨rfl, rfl⟩
        · replace hm := ifF hm hb24
          refine WJ.seq ?_
          refine WJ.quiet_draw follows (by kernel_rfl) ?_
          refine QJ.step (YldS.yld (y_move rfl)) rfl ?_
          refine QJ.step (YldS.yld (y_move rfl)) rfl ?_
          obtain ⟨e25, h26, hm⟩ := bindS hm
          obtain ⟨ad27, _, rfl, ha28, hy29⟩ := hr3.elem h26
          refine QJ.step (YldS.yld (hy29 Try.runUnderlying27 Try.sizeOf2 rfl rfl)) rfl ?_
          refine QJ.step (YldS.yld (y_load1 (v := .int .i64 e25) Try.isAgg2 ha28 St.frozenC rfl)) rfl ?_
          refine QJ.step (YldS.yld (y_move rfl)) rfl ?_
          refine QJ.step (YldS.yld (y_move rfl)) rfl ?_
          obtain ⟨e30, h31, hm⟩ := bindS hm
          obtain ⟨ad32, _, rfl, ha33, hy34⟩ := hr6.elem h31
          refine QJ.step (YldS.yld (hy34 Try.runUnderlying27 Try.sizeOf2 rfl rfl)) rfl ?_
          refine QJ.step (YldS.yld (y_load1 (v := .int .i64 e30) Try.isAgg2 ha33 St.frozenC rfl)) rfl ?_
          refine QJ.step (YldS.yld (y_bin rfl rfl rfl)) rfl ?_
          refine QJ.step (YldS.yld (y_assign rfl)) rfl ?_
          refine QJ.done ?_
          refine PJ.next ?_
          refine WJ.cond (t := decide (e25 > e30)) rfl (fun hb35 => ?_) (fun hb35 => ?_)
          · replace hm := ifT hm hb35
            refine WJ.seq ?_
            refine WJ.quiet ?_
            refine QJ.step (YldS.yld (y_assign rfl)) rfl ?_
            refine QJ.done ?_
            refine PJ.next ?_
            refine WJ.ret ?_
            refine PJ.block_ret (PJ.block_ret (PJ.then_ret (PJ.then_ret (PJ.block_ret (PJ.then_ret ?_)))))
            obtain rfl := Option.some.inj hm
            refine PJ.sel (L' := []) [] ⟨List.nodup_nil, rfl⟩ ?_
            exact PJ.retn (vs := [.int .i64 1]) Try.results36 ⟨rfl, trivial⟩ ⟨rfl, rfl⟩
          · replace hm := ifF hm hb35
            refine WJ.skip ?_
            refine PJ.block_normal (PJ.block_normal (PJ.next ?_))
            refine WJ.quiet ?_
            refine QJ.step (YldS.yld (y_move rfl)) rfl ?_
            refine QJ.step (YldS.yld (y_bin rfl rfl rfl)) rfl ?_
            refine QJ.step (YldS.yld (y_assign rfl)) rfl ?_
            refine QJ.done ?_
            exact PJ.round (w64 (i9 + 1)) [] hm ⟨rfl, rfl, rfl, trivial⟩ ⟨List.nodup_nil, rfl⟩
      · replace hm := ifF hm hb13
        refine WJ.exit ?_
        refine PJ.then_exit (PJ.then_exit (PJ.block_exit ?_))
        exact PJ.joined () [] hm ⟨rfl, rfl, trivial⟩ ⟨List.nodup_nil, rfl⟩
  · rintro _ hm
    subst hk8
    refine WJ.seq ?_
    refine WJ.block ?_
    refine WJ.seq ?_
    refine WJ.quiet ?_
    refine QJ.step (YldS.yld (y_move rfl)) rfl ?_
    refine QJ.step (YldS.yld (y_lenS Try.runUnderlying27 hr3 rfl)) rfl ?_
    refine QJ.step (YldS.yld (y_move rfl)) rfl ?_
    refine QJ.step (YldS.yld (y_lenS Try.runUnderlying27 hr6 rfl)) rfl ?_
    refine QJ.step (YldS.yld (y_bin rfl rfl rfl)) rfl ?_
    refine QJ.step (YldS.yld (y_assign rfl)) rfl ?_
    refine QJ.done ?_
    refine PJ.next ?_
    refine WJ.cond (t := decide ((List.length a1 : Int) < (List.length b4 : Int))) rfl (fun hb36 => ?_) (fun hb36 => ?_)
    · replace hm := ifT hm hb36
      refine WJ.seq ?_
      refine WJ.quiet ?_
      refine QJ.step (YldS.yld (y_assign rfl)) rfl ?_
      refine QJ.done ?_
      refine PJ.next ?_
      refine WJ.ret ?_
      refine PJ.block_ret (PJ.then_ret ?_)
      obtain rfl := Option.some.inj hm
      refine PJ.sel (L' := []) [] ⟨List.nodup_nil, rfl⟩ ?_
      exact PJ.retn (vs := [.int .i64 (-1)]) Try.results36 ⟨rfl, trivial⟩ ⟨rfl, rfl⟩
    · replace hm := ifF hm hb36
      refine WJ.seq ?_
      refine WJ.quiet ?_
      refine QJ.step (YldS.yld (y_move rfl)) rfl ?_
      refine QJ.step (YldS.yld (y_lenS Try.runUnderlying27 hr3 rfl)) rfl ?_
      refine QJ.step (YldS.yld (y_move rfl)) rfl ?_
      refine QJ.step (YldS.yld (y_lenS Try.runUnderlying27 hr6 rfl)) rfl ?_
      refine QJ.step (YldS.yld (y_bin rfl rfl rfl)) rfl ?_
      refine QJ.step (YldS.yld (y_assign rfl)) rfl ?_
      refine QJ.done ?_
      refine PJ.next ?_
      refine WJ.cond (t := decide ((List.length a1 : Int) > (List.length b4 : Int))) rfl (fun hb37 => ?_) (fun hb37 => ?_)
      · replace hm := ifT hm hb37
        refine WJ.seq ?_
        refine WJ.quiet ?_
        refine QJ.step (YldS.yld (y_assign rfl)) rfl ?_
        refine QJ.done ?_
        refine PJ.next ?_
        refine WJ.ret ?_
        refine PJ.block_ret (PJ.then_ret ?_)
        obtain rfl := Option.some.inj hm
        refine PJ.sel (L' := []) [] ⟨List.nodup_nil, rfl⟩ ?_
        exact PJ.retn (vs := [.int .i64 1]) Try.results36 ⟨rfl, trivial⟩ ⟨rfl, rfl⟩
      · replace hm := ifF hm hb37
        refine WJ.skip ?_
        refine PJ.block_normal (PJ.next ?_)
        refine WJ.seq ?_
        refine WJ.quiet ?_
        refine QJ.step (YldS.yld (y_assign rfl)) rfl ?_
        refine QJ.done ?_
        refine PJ.next ?_
        refine WJ.ret ?_
        obtain rfl := Option.some.inj hm
        refine PJ.sel (L' := []) [] ⟨List.nodup_nil, rfl⟩ ?_
        exact PJ.retn (vs := [.int .i64 0]) Try.results36 ⟨rfl, trivial⟩ ⟨rfl, rfl⟩

set_option maxRecDepth 100000 in
set_option maxHeartbeats 1000000 in
theorem ok_i_LessonsForText {N : Nat} {list1 : List Lesson} {text4 : Str} {r : (List Int) × Int} (hm : i_LessonsForText N list1 text4 = some r) (w : World) (v2 : Value) (hr3 : RdS w (cx w).Fz v2 (shLesson.rp fI64.rp) list1) :
    Calls Try.prog 7 #[v2, str text4] w (RetG (cx w) fun u L => ∃ (u1 : Value), (u = tup [u1, .int .i64 r.2] ∧ L = [row u1 2 fI64 r.1])) := by
  unfold i_LessonsForText at hm
  refine Calls.enter [v2, str text4] Try.func7 rfl Try.ntmps7 rfl ?_
  refine WJ.seq ?_
  refine WJ.quiet ?_
  refine QJ.step (YldS.yld (y_assign rfl)) rfl ?_
  refine QJ.step (YldS.yld (y_assign rfl)) rfl ?_
  refine QJ.done ?_
  refine PJ.next ?_
  refine WJ.seq ?_
  refine WJ.seq ?_
  refine WJ.quiet ?_
  refine QJ.step (YldS.yld (y_move rfl)) rfl ?_
  obtain ⟨r5, h6, hm⟩ := bindS hm
  refine QJ.step (y_call Try.call27 rfl (RetG.quiet fun w hw => ok_i_ValidLessons h6 w _ (hr3.st hw))) rfl ?_
  refine QJ.step (YldS.yld (y_not rfl)) rfl ?_
  refine QJ.done ?_
  refine PJ.next ?_
  refine WJ.cond (t := !r5) rfl (fun hb7 => ?_) (fun hb7 => ?_)
  · replace hm := ifT hm hb7
    refine WJ.seq ?_
    refine WJ.quiet ?_
    refine QJ.step (YldS.yld (y_assign rfl)) rfl ?_
    refine QJ.step (YldS.yld (y_assign rfl)) rfl ?_
    refine QJ.done ?_
    refine PJ.next ?_
    refine WJ.ret ?_
    refine PJ.then_ret ?_
    refine PJ.nil_row 2 fI64 ?_
    obtain rfl := Option.some.inj hm
    refine PJ.sel (L' := [row (.slice none 0 0) 2 fI64 []]) [0] ⟨by decide, rfl⟩ ?_
    exact PJ.retn (vs := [(.slice none 0 0), .int .i64 1]) Try.results7 ⟨rfl, rfl, trivial⟩ ⟨_, rfl, rfl⟩
  · replace hm := ifF hm hb7
    refine WJ.skip ?_
    refine PJ.next ?_
    refine WJ.seq ?_
    refine WJ.seq ?_
    refine WJ.quiet ?_
    refine QJ.step (YldS.yld (y_move rfl)) rfl ?_
    obtain ⟨r8, h9, hm⟩ := bindS hm
    refine QJ.step (y_call Try.call28 rfl (RetG.quiet fun w hw => ok_i_isText h9 w )) rfl ?_
    refine QJ.step (YldS.yld (y_not rfl)) rfl ?_
    refine QJ.done ?_
    refine PJ.next ?_
    refine WJ.cond (t := !r8) rfl (fun hb10 => ?_) (fun hb10 => ?_)
    · replace hm := ifT hm hb10
      refine WJ.seq ?_
      refine WJ.quiet ?_
      refine QJ.step (YldS.yld (y_assign rfl)) rfl ?_
      refine QJ.step (YldS.yld (y_assign rfl)) rfl ?_
      refine QJ.done ?_
      refine PJ.next ?_
      refine WJ.ret ?_
      refine PJ.then_ret ?_
      refine PJ.nil_row 2 fI64 ?_
      obtain rfl := Option.some.inj hm
      refine PJ.sel (L' := [row (.slice none 0 0) 2 fI64 []]) [0] ⟨by decide, rfl⟩ ?_
      exact PJ.retn (vs := [(.slice none 0 0), .int .i64 2]) Try.results7 ⟨rfl, rfl, trivial⟩ ⟨_, rfl, rfl⟩
    · replace hm := ifF hm hb10
      refine WJ.skip ?_
      refine PJ.next ?_
      refine WJ.seq ?_
      refine WJ.seq ?_
      refine WJ.quiet ?_
      refine QJ.step (YldS.yld (y_move rfl)) rfl ?_
      obtain ⟨r11, h12, hm⟩ := bindS hm
      refine QJ.step (y_call Try.call29 rfl (RetG.quiet fun w hw => ok_i_lessonCircle h12 w _ (hr3.st hw))) rfl ?_
      refine QJ.step (YldS.yld (y_bin rfl rfl rfl)) rfl ?_
      refine QJ.done ?_
      refine PJ.next ?_
      refine WJ.cond (t := decide (r11 ≥ 0)) rfl (fun hb13 => ?_) (fun hb13 => ?_)
      · replace hm := ifT hm hb13
        refine WJ.seq ?_
        refine WJ.quiet ?_
        refine QJ.step (YldS.yld (y_assign rfl)) rfl ?_
        refine QJ.step (YldS.yld (y_assign rfl)) rfl ?_
        refine QJ.done ?_
        refine PJ.next ?_
        refine WJ.ret ?_
        refine PJ.then_ret ?_
        refine PJ.nil_row 2 fI64 ?_
        obtain rfl := Option.some.inj hm
        refine PJ.sel (L' := [row (.slice none 0 0) 2 fI64 []]) [0] ⟨by decide, rfl⟩ ?_
        exact PJ.retn (vs := [(.slice none 0 0), .int .i64 9]) Try.results7 ⟨rfl, rfl, trivial⟩ ⟨_, rfl, rfl⟩
      · replace hm := ifF hm hb13
        refine WJ.skip ?_
        refine PJ.next ?_
        refine WJ.seq ?_
        refine WJ.reg ?_
        refine SJ.buildSlice (R := fI64) (os := []) [] Try.runUnderlying27 Try.sizeOf2 Try.zeroValue2 rfl rfl rfl rfl rfl rfl fun v14 => ?_
        refine SJ.q (YldS.yld (y_assign rfl)) rfl ?_
        refine SJ.q (YldS.yld (y_assign rfl)) rfl ?_
        refine SJ.q (YldS.yld (y_assign rfl)) rfl ?_
        refine SJ.nil ?_
        refine PJ.next ?_
        obtain ⟨kj18, hk19, hm⟩ := withK_open hm
        refine WJ.join (X := (List Int) × Value × Bool) (fun (x : (List Int) × Value × Bool) => kj18 x.1 x.2.2 = some r) (fun (x : (List Int) × Value × Bool) => [(6, x.2.1), (8, .bool x.2.2)]) (fun (x : (List Int) × Value × Bool) => [row x.2.1 2 fI64 x.1]) ?_ ?_
        · clear hk19
          refine WJ.seq ?_
          refine WJ.quiet ?_
          refine QJ.step (YldS.yld (y_move rfl)) rfl ?_
          refine QJ.step (YldS.yld (y_lenS Try.runUnderlying24 hr3 rfl)) rfl ?_
          obtain ⟨q20, h21, hm⟩ := bindS hm
          refine QJ.step (YldS.yld (y_shl' h21 rfl rfl)) rfl ?_
          refine QJ.step (YldS.yld (y_move rfl)) rfl ?_
          refine QJ.done ?_
          refine PJ.next ?_
          refine WJ.block ?_
          refine WJ.sel (L' := (fun (x : (List Int) × Value × Int × Bool × Int) => [row x.2.1 2 fI64 x.1]) ([], v14, 0, false, 0)) [0] ⟨by decide, rfl⟩ ?_
          refine WJ.sub (m' := (fun (x : (List Int) × Value × Int × Bool × Int) => [(0, v2), (1, str text4), (6, x.2.1), (7, .int .i64 x.2.2.1), (8, .bool x.2.2.2.1), (29, .int .i64 q20), (30, .int .i64 x.2.2.2.2)]) ([], v14, 0, false, 0)) ⟨rfl, rfl, rfl, rfl, rfl, rfl, rfl, trivial⟩ ?_
          refine WJ.loop (X := (List Int) × Value × Int × Bool × Int) (fun N (x : (List Int) × Value × Int × Bool × Int) => i_LessonsForText_l1 kj18 list1 text4 q20 N x.1 x.2.2.1 x.2.2.2.1 x.2.2.2.2 = some r) (fun (x : (List Int) × Value × Int × Bool × Int) => [(0, v2), (1, str text4), (6, x.2.1), (7, .int .i64 x.2.2.1), (8, .bool x.2.2.2.1), (29, .int .i64 q20), (30, .int .i64 x.2.2.2.2)]) (fun (x : (List Int) × Value × Int × Bool × Int) => [row x.2.1 2 fI64 x.1]) ?_ N ([], v14, 0, false, 0) hm
          · rintro N ⟨l22, v23, least24, found25, x26⟩ hI
            have hm := hI; clear hI
            cases N with
            | zero => cases hm
            | succ N =>
            unfold i_LessonsForText_l1 at hm
            refine WJ.seq ?_
            refine WJ.quiet ?_
            refine QJ.step (YldS.yld (y_bin rfl rfl rfl)) rfl ?_
            refine QJ.done ?_
            refine PJ.next ?_
            refine WJ.seq ?_
            refine WJ.cond (t := decide (x26 < q20)) rfl (fun hb27 => ?_) (fun hb27 => ?_)
            · replace hm := ifT hm hb27
              refine WJ.skip ?_
              refine PJ.next ?_
              obtain ⟨kj32, hk33, hm⟩ := withK_open hm
              refine WJ.join (X := (List Int) × Value × Int × Bool) (fun (x : (List Int) × Value × Int × Bool) => kj32 x.1 x.2.2.1 x.2.2.2 = some r) (fun (x : (List Int) × Value × Int × Bool) => [(0, v2), (1, str text4), (6, x.2.1), (7, .int .i64 x.2.2.1), (8, .bool x.2.2.2), (29, .int .i64 q20), (30, .int .i64 x26)]) (fun (x : (List Int) × Value × Int × Bool) => [row x.2.1 2 fI64 x.1]) ?_ ?_
              · clear hk33
                refine WJ.block ?_
                refine WJ.seq ?_
                refine WJ.quiet ?_
                refine QJ.step (YldS.yld (y_move rfl)) rfl ?_
                refine QJ.step (YldS.yld (y_assign rfl)) rfl ?_
                refine QJ.done ?_
                refine PJ.next ?_
                refine WJ.seq ?_
                refine WJ.reg ?_
                refine SJ.q (YldS.yld (y_move rfl)) rfl ?_
                refine SJ.q (YldS.yld (y_move rfl)) rfl ?_
                refine SJ.q (YldS.yld (y_lenS Try.runUnderlying24 hr3 rfl)) rfl ?_
                obtain ⟨r34, h35, hm⟩ := bindS hm
                refine SJ.call Try.call30 rfl (fun w hw => ok_i_chosen h35 w ) rfl ?_
                rintro v36 _ ⟨_, rfl, rfl⟩
                refine SJ.q (YldS.yld (y_assign rfl)) rfl ?_
                refine SJ.nil ?_
                refine PJ.next ?_
                refine WJ.seq ?_
                refine WJ.reg ?_
                refine SJ.q (YldS.yld (y_move rfl)) rfl ?_
                refine SJ.q (YldS.yld (y_move rfl)) rfl ?_
                refine SJ.q (YldS.yld (y_lenS Try.runUnderlying24 hr3 rfl)) rfl ?_
                obtain ⟨r37, h38, hm⟩ := bindS hm
                refine SJ.call Try.call31 rfl (fun w hw => ok_i_marks h38 w _ (hw.row_rd (k := 0) rfl)) rfl ?_
                rintro v39 _ ⟨_, rfl, rfl⟩
                refine SJ.q (YldS.yld (y_assign rfl)) rfl ?_
                refine SJ.nil ?_
                refine PJ.next ?_
                refine WJ.seq ?_
                refine WJ.quiet ?_
                refine QJ.step (YldS.yld (y_assign rfl)) rfl ?_
                refine QJ.done ?_
                refine PJ.next ?_
                obtain ⟨kj41, hk42, hm⟩ := withK_open hm
                refine WJ.join (X := Bool) (fun (x : Bool) => kj41 x = some r) (fun (x : Bool) => [(0, v2), (1, str text4), (6, v23), (7, .int .i64 least24), (8, .bool found25), (10, v36), (12, .bool x), (29, .int .i64 q20), (30, .int .i64 x26)]) (fun (x : Bool) => [row v36 2 fI64 r34, row v23 2 fI64 l22]) ?_ ?_
                · clear hk42
                  refine WJ.seq ?_
                  refine WJ.quiet ?_
                  refine QJ.step (YldS.yld (y_move rfl)) rfl ?_
                  refine QJ.step (YldS.yld (y_lenRow (k := 1) rfl Try.runUnderlying27 rfl)) rfl ?_
                  refine QJ.step (YldS.yld (y_move rfl)) rfl ?_
                  refine QJ.done ?_
                  refine PJ.next ?_
                  refine WJ.block ?_
                  refine WJ.sel (L' := (fun (x : Bool × Int) => [row v39 4 fBool r37, row v36 2 fI64 r34, row v23 2 fI64 l22]) (true, 0)) [0, 1, 2] ⟨by decide, rfl⟩ ?_
                  refine WJ.sub (m' := (fun (x : Bool × Int) => [(0, v2), (1, str text4), (6, v23), (7, .int .i64 least24), (8, .bool found25), (10, v36), (11, v39), (12, .bool x.1), (29, .int .i64 q20), (30, .int .i64 x26), (41, v36), (42, .int .i64 (List.length r34 : Int)), (43, .int .i64 x.2)]) (true, 0)) ⟨rfl, rfl, rfl, rfl, rfl, rfl, rfl, rfl, rfl, rfl, rfl, rfl, rfl, trivial⟩ ?_
                  refine WJ.loop (X := Bool × Int) (fun N (x : Bool × Int) => i_LessonsForText_l2 kj41 list1 r34 r37 N x.1 x.2 = some r) (fun (x : Bool × Int) => [(0, v2), (1, str text4), (6, v23), (7, .int .i64 least24), (8, .bool found25), (10, v36), (11, v39), (12, .bool x.1), (29, .int .i64 q20), (30, .int .i64 x26), (41, v36), (42, .int .i64 (List.length r34 : Int)), (43, .int .i64 x.2)]) (fun (x : Bool × Int) => [row v39 4 fBool r37, row v36 2 fI64 r34, row v23 2 fI64 l22]) ?_ N (true, 0) hm
                  · rintro N ⟨complete43, x44⟩ hI
                    have hm := hI; clear hI
                    cases N with
                    | zero => cases hm
                    | succ N =>
                    unfold i_LessonsForText_l2 at hm
                    refine WJ.seq ?_
                    refine WJ.quiet ?_
                    refine QJ.step (YldS.yld (y_bin rfl rfl rfl)) rfl ?_
                    refine QJ.done ?_
                    refine PJ.next ?_
                    refine WJ.seq ?_
                    refine WJ.cond (t := decide (x44 < (List.length r34 : Int))) rfl (fun hb45 => ?_) (fun hb45 => ?_)
                    · replace hm := ifT hm hb45
                      refine WJ.skip ?_
                      refine PJ.next ?_
                      refine WJ.seq ?_
                      refine WJ.block ?_
                      refine WJ.seq ?_
                      refine WJ.quiet ?_
                      obtain ⟨e46, h47, hm⟩ := bindS hm
                      refine QJ.step (YldS.yld (y_ixRow (k := 1) (R := fI64) rfl Try.runUnderlying27 Try.sizeOf2 rfl rfl h47)) rfl ?_
                      refine QJ.step (YldS.yld (y_loadR (k := 1) (i := (Int.toNat x44)) (off := 0) (u := .int .i64 e46) rfl Try.isAgg2 rfl (idx_get h47) rfl)) rfl ?_
                      refine QJ.step (YldS.yld (y_assign rfl)) rfl ?_
                      refine QJ.done ?_
                      refine PJ.next ?_
                      refine WJ.quiet ?_
                      refine QJ.step (YldS.yld (y_move rfl)) rfl ?_
                      refine QJ.step (YldS.yld (y_move rfl)) rfl ?_
                      obtain ⟨t48, h49, hm⟩ := bindS hm
                      refine QJ.cut 8 [(0, v2), (1, str text4), (6, v23), (7, .int .i64 least24), (8, .bool found25), (10, v36), (11, v39), (29, .int .i64 q20), (30, .int .i64 x26), (41, v36), (42, .int .i64 (List.length r34 : Int)), (43, .int .i64 x44), (56, .bool t48)] ?_ ?_
                      · rcases Bool.eq_false_or_eq_true complete43 with hb50 | hb50
                        · replace h49 := andT h49 hb50
                          refine QJ.on rfl rfl (cB hb50) (YldS.yld (y_move rfl)) rfl ?_
                          refine QJ.on rfl rfl (cB hb50) (YldS.yld (y_move rfl)) rfl ?_
                          obtain ⟨e51, h52, h49⟩ := bindS h49
                          obtain ⟨ad53, _, ⟨v56, rfl, hr57⟩, ha54, hy55⟩ := hr3.elem h52
                          refine QJ.on rfl rfl (cB hb50) (YldS.yld (hy55 Try.runUnderlying24 Try.sizeOf38 rfl rfl)) rfl ?_
                          refine QJ.on rfl rfl (cB hb50) (YldS.yld (y_fld (ad := ad53) fld38_2 rfl)) rfl ?_
                          refine QJ.on rfl rfl (cB hb50) (YldS.yld (y_load1 (v := v56) Try.isAgg27 (ha54.sub 2 1) St.frozenC rfl)) rfl ?_
                          refine QJ.on rfl rfl (cB hb50) (YldS.yld (y_move rfl)) rfl ?_
                          obtain ⟨r58, h59, h49⟩ := bindS h49
                          refine QJ.on rfl rfl (cB hb50) (y_call Try.call32 rfl (RetG.quiet fun w hw => ok_i_allIn h59 w _ (hr57.st hw) _ (hw.row_rd (k := 0) rfl))) rfl ?_
                          refine QJ.step (YldS.yld (y_pick_t (cB hb50) rfl)) rfl ?_
                          obtain rfl := Option.some.inj h49
                          exact QJ.cut_end ⟨rfl, rfl, rfl, rfl, rfl, rfl, rfl, rfl, rfl, rfl, rfl, rfl, rfl, trivial⟩
                        · obtain rfl := andF h49 hb50
                          refine QJ.off rfl rfl (cB hb50) rfl rfl ?_
                          refine QJ.off rfl rfl (cB hb50) rfl rfl ?_
                          refine QJ.off rfl rfl (cB hb50) rfl rfl ?_
                          refine QJ.off rfl rfl (cB hb50) rfl rfl ?_
                          refine QJ.off rfl rfl (cB hb50) rfl rfl ?_
                          refine QJ.off rfl rfl (cB hb50) rfl rfl ?_
                          refine QJ.off rfl rfl (cB hb50) rfl rfl ?_
                          refine QJ.step (YldS.yld (y_pick_f (cB hb50) rfl)) rfl ?_
                          exact QJ.cut_end ⟨rfl, rfl, rfl, rfl, rfl, rfl, rfl, rfl, rfl, rfl, rfl, rfl, rfl, trivial⟩
                      refine QJ.step (YldS.yld (y_assign rfl)) rfl ?_
                      refine QJ.done ?_
                      refine PJ.block_normal (PJ.next ?_)
                      refine WJ.quiet ?_
                      refine QJ.step (YldS.yld (y_bin rfl rfl rfl)) rfl ?_
                      refine QJ.step (YldS.yld (y_move rfl)) rfl ?_
                      refine QJ.done ?_
                      exact PJ.round (t48, w64 (x44 + 1)) [0, 1, 2] hm ⟨rfl, rfl, rfl, rfl, rfl, rfl, rfl, rfl, rfl, rfl, rfl, rfl, rfl, trivial⟩ ⟨by decide, rfl⟩
                    · replace hm := ifF hm hb45
                      refine WJ.exit ?_
                      refine PJ.then_exit (PJ.then_exit (PJ.block_exit ?_))
                      exact PJ.joined complete43 [1, 2] hm ⟨rfl, rfl, rfl, rfl, rfl, rfl, rfl, rfl, rfl, trivial⟩ ⟨by decide, rfl⟩
                · rintro complete40 hm
                  subst hk42
                  refine WJ.seq ?_
                  refine WJ.seq ?_
                  refine WJ.reg ?_
                  refine SJ.q (YldS.yld (y_move rfl)) rfl ?_
                  refine SJ.q (YldS.yld (y_not rfl)) rfl ?_
                  refine SJ.q (YldS.yld (y_move rfl)) rfl ?_
                  obtain ⟨t60, h61, hm⟩ := bindS hm
                  refine SJ.cut 7 [(0, v2), (1, str text4), (6, v23), (7, .int .i64 least24), (8, .bool found25), (10, v36), (29, .int .i64 q20), (30, .int .i64 x26), (67, .bool t60)] [row v36 2 fI64 r34, row v23 2 fI64 l22] ?_ ?_
                  · rcases Bool.eq_false_or_eq_true (!complete40) with hb62 | hb62
                    · obtain rfl := orT h61 hb62
                      refine SJ.off rfl rfl (cB hb62) rfl rfl ?_
                      refine SJ.off rfl rfl (cB hb62) rfl rfl ?_
                      refine SJ.off rfl rfl (cB hb62) rfl rfl ?_
                      refine SJ.off rfl rfl (cB hb62) rfl rfl ?_
                      refine SJ.off rfl rfl (cB hb62) rfl rfl ?_
                      refine SJ.off rfl rfl (cB hb62) rfl rfl ?_
                      refine SJ.q (YldS.yld (y_pick_t (cB hb62) rfl)) rfl ?_
                      exact SJ.cut_end [0, 1] ⟨rfl, rfl, rfl, rfl, rfl, rfl, rfl, rfl, rfl, trivial⟩ ⟨by decide, rfl⟩
                    · replace h61 := orF h61 hb62
                      refine SJ.on rfl rfl (cB hb62) (SJ.q (YldS.yld (y_move rfl)) rfl ?_)
                      refine SJ.on rfl rfl (cB hb62) (SJ.q (YldS.yld (y_move rfl)) rfl ?_)
                      refine SJ.on rfl rfl (cB hb62) (SJ.q (YldS.yld (y_move rfl)) rfl ?_)
                      obtain ⟨r63, h64, h61⟩ := bindS h61
                      refine SJ.on rfl rfl (cB hb62) (SJ.call Try.call34 rfl (fun w hw => ok_i_known h64 w _ (hr3.st hw) _ (hw.row_rd (k := 0) rfl)) rfl ?_)
                      rintro _ _ ⟨g65, rfl, rfl⟩
                      obtain ⟨r66, h67, h61⟩ := bindS h61
                      refine SJ.on rfl rfl (cB hb62) (SJ.q (y_call Try.call33 rfl (RetG.quiet fun w hw => ok_i_typable h67 w _ (hw.row_rd (k := 0) rfl))) rfl ?_)
                      refine SJ.on rfl rfl (cB hb62) (SJ.q (YldS.yld (y_not rfl)) rfl ?_)
                      refine SJ.q (YldS.yld (y_pick_f (cB hb62) rfl)) rfl ?_
                      obtain rfl := Option.some.inj h61
                      exact SJ.cut_end [1, 2] ⟨rfl, rfl, rfl, rfl, rfl, rfl, rfl, rfl, rfl, trivial⟩ ⟨by decide, rfl⟩
                  refine SJ.nil ?_
                  refine PJ.next ?_
                  refine WJ.cond (t := t60) rfl (fun hb68 => ?_) (fun hb68 => ?_)
                  · replace hm := ifT hm hb68
                    refine WJ.exit ?_
                    refine PJ.then_exit (PJ.block_exit ?_)
                    exact PJ.joined (l22, v23, least24, found25) [1] hm ⟨rfl, rfl, rfl, rfl, rfl, rfl, rfl, trivial⟩ ⟨by decide, rfl⟩
                  · replace hm := ifF hm hb68
                    refine WJ.skip ?_
                    refine PJ.next ?_
                    refine WJ.seq ?_
                    refine WJ.quiet ?_
                    refine QJ.step (YldS.yld (y_move rfl)) rfl ?_
                    refine QJ.step (YldS.yld (y_move rfl)) rfl ?_
                    obtain ⟨r69, h70, hm⟩ := bindS hm
                    refine QJ.step (y_call Try.call35 rfl (RetG.quiet fun w hw => ok_i_hours h70 w _ (hr3.st hw) _ (hw.row_rd (k := 0) rfl))) rfl ?_
                    refine QJ.step (YldS.yld (y_assign rfl)) rfl ?_
                    refine QJ.done ?_
                    refine PJ.next ?_
                    refine WJ.seq ?_
                    refine WJ.quiet ?_
                    refine QJ.step (YldS.yld (y_move rfl)) rfl ?_
                    refine QJ.step (YldS.yld (y_not rfl)) rfl ?_
                    refine QJ.step (YldS.yld (y_move rfl)) rfl ?_
                    obtain ⟨t71, h72, hm⟩ := bindS hm
                    refine QJ.cut 4 [(0, v2), (1, str text4), (6, v23), (7, .int .i64 least24), (8, .bool found25), (10, v36), (15, .int .i64 r69), (29, .int .i64 q20), (30, .int .i64 x26), (77, .bool t71)] ?_ ?_
                    · rcases Bool.eq_false_or_eq_true (!found25) with hb73 | hb73
                      · obtain rfl := orT h72 hb73
                        refine QJ.off rfl rfl (cB hb73) rfl rfl ?_
                        refine QJ.off rfl rfl (cB hb73) rfl rfl ?_
                        refine QJ.off rfl rfl (cB hb73) rfl rfl ?_
                        refine QJ.step (YldS.yld (y_pick_t (cB hb73) rfl)) rfl ?_
                        exact QJ.cut_end ⟨rfl, rfl, rfl, rfl, rfl, rfl, rfl, rfl, rfl, rfl, trivial⟩
                      · replace h72 := orF h72 hb73
                        refine QJ.on rfl rfl (cB hb73) (YldS.yld (y_move rfl)) rfl ?_
                        refine QJ.on rfl rfl (cB hb73) (YldS.yld (y_move rfl)) rfl ?_
                        refine QJ.on rfl rfl (cB hb73) (YldS.yld (y_bin rfl rfl rfl)) rfl ?_
                        refine QJ.step (YldS.yld (y_pick_f (cB hb73) rfl)) rfl ?_
                        obtain rfl := Option.some.inj h72
                        exact QJ.cut_end ⟨rfl, rfl, rfl, rfl, rfl, rfl, rfl, rfl, rfl, rfl, trivial⟩
                    refine QJ.step (YldS.yld (y_assign rfl)) rfl ?_
                    refine QJ.done ?_
                    refine PJ.next ?_
                    obtain ⟨kj75, hk76, hm⟩ := withK_open hm
                    refine WJ.join (X := Bool) (fun (x : Bool) => kj75 x = some r) (fun (x : Bool) => [(0, v2), (1, str text4), (6, v23), (7, .int .i64 least24), (8, .bool found25), (10, v36), (15, .int .i64 r69), (16, .bool x), (29, .int .i64 q20), (30, .int .i64 x26)]) (fun (x : Bool) => [row v36 2 fI64 r34, row v23 2 fI64 l22]) ?_ ?_
                    · clear hk76
                      refine WJ.seq ?_
                      refine WJ.quiet ?_
                      refine QJ.step (YldS.yld (y_move rfl)) rfl ?_
                      refine QJ.step (YldS.yld (y_move rfl)) rfl ?_
                      obtain ⟨t77, h78, hm⟩ := bindS hm
                      refine QJ.cut 4 [(0, v2), (1, str text4), (6, v23), (7, .int .i64 least24), (8, .bool found25), (10, v36), (15, .int .i64 r69), (16, .bool t71), (29, .int .i64 q20), (30, .int .i64 x26), (83, .bool t77)] ?_ ?_
                      · rcases Bool.eq_false_or_eq_true found25 with hb79 | hb79
                        · replace h78 := andT h78 hb79
                          refine QJ.on rfl rfl (cB hb79) (YldS.yld (y_move rfl)) rfl ?_
                          refine QJ.on rfl rfl (cB hb79) (YldS.yld (y_move rfl)) rfl ?_
                          refine QJ.on rfl rfl (cB hb79) (YldS.yld (y_bin rfl rfl rfl)) rfl ?_
                          refine QJ.step (YldS.yld (y_pick_t (cB hb79) rfl)) rfl ?_
                          obtain rfl := Option.some.inj h78
                          exact QJ.cut_end ⟨rfl, rfl, rfl, rfl, rfl, rfl, rfl, rfl, rfl, rfl, rfl, trivial⟩
                        · obtain rfl := andF h78 hb79
                          refine QJ.off rfl rfl (cB hb79) rfl rfl ?_
                          refine QJ.off rfl rfl (cB hb79) rfl rfl ?_
                          refine QJ.off rfl rfl (cB hb79) rfl rfl ?_
                          refine QJ.step (YldS.yld (y_pick_f (cB hb79) rfl)) rfl ?_
                          exact QJ.cut_end ⟨rfl, rfl, rfl, rfl, rfl, rfl, rfl, rfl, rfl, rfl, rfl, trivial⟩
                      refine QJ.done ?_
                      refine PJ.next ?_
                      refine WJ.cond (t := t77) rfl (fun hb80 => ?_) (fun hb80 => ?_)
                      · replace hm := ifT hm hb80
                        refine WJ.quiet ?_
                        refine QJ.step (YldS.yld (y_move rfl)) rfl ?_
                        refine QJ.step (YldS.yld (y_lenRow (k := 0) rfl Try.runUnderlying27 rfl)) rfl ?_
                        refine QJ.step (YldS.yld (y_move rfl)) rfl ?_
                        refine QJ.step (YldS.yld (y_lenRow (k := 1) rfl Try.runUnderlying27 rfl)) rfl ?_
                        refine QJ.step (YldS.yld (y_bin rfl rfl rfl)) rfl ?_
                        refine QJ.step (YldS.yld (y_move rfl)) rfl ?_
                        obtain ⟨t81, h82, hm⟩ := bindS hm
                        refine QJ.cut 12 [(0, v2), (1, str text4), (6, v23), (7, .int .i64 least24), (8, .bool found25), (10, v36), (15, .int .i64 r69), (29, .int .i64 q20), (30, .int .i64 x26), (101, .bool t81)] ?_ ?_
                        · rcases Bool.eq_false_or_eq_true (decide ((List.length r34 : Int) < (List.length l22 : Int))) with hb83 | hb83
                          · obtain rfl := orT h82 hb83
                            refine QJ.off rfl rfl (cB hb83) rfl rfl ?_
                            refine QJ.off rfl rfl (cB hb83) rfl rfl ?_
                            refine QJ.off rfl rfl (cB hb83) rfl rfl ?_
                            refine QJ.off rfl rfl (cB hb83) rfl rfl ?_
                            refine QJ.off rfl rfl (cB hb83) rfl rfl ?_
                            refine QJ.off rfl rfl (cB hb83) rfl rfl ?_
                            refine QJ.off_undef rfl rfl rfl rfl ?_
                            refine QJ.off_undef rfl rfl rfl rfl ?_
                            refine QJ.off_undef rfl rfl rfl rfl ?_
                            refine QJ.off_undef rfl rfl rfl rfl ?_
                            refine QJ.off rfl rfl (cB hb83) rfl rfl ?_
                            refine QJ.step (YldS.yld (y_pick_t (cB hb83) rfl)) rfl ?_
                            exact QJ.cut_end ⟨rfl, rfl, rfl, rfl, rfl, rfl, rfl, rfl, rfl, rfl, trivial⟩
                          · replace h82 := orF h82 hb83
                            refine QJ.on rfl rfl (cB hb83) (YldS.yld (y_move rfl)) rfl ?_
                            refine QJ.on rfl rfl (cB hb83) (YldS.yld (y_lenRow (k := 0) rfl Try.runUnderlying27 rfl)) rfl ?_
                            refine QJ.on rfl rfl (cB hb83) (YldS.yld (y_move rfl)) rfl ?_
                            refine QJ.on rfl rfl (cB hb83) (YldS.yld (y_lenRow (k := 1) rfl Try.runUnderlying27 rfl)) rfl ?_
                            refine QJ.on rfl rfl (cB hb83) (YldS.yld (y_bin rfl rfl rfl)) rfl ?_
                            refine QJ.on rfl rfl (cB hb83) (YldS.yld (y_move rfl)) rfl ?_
                            obtain ⟨t84, h85, h82⟩ := bindS h82
                            refine QJ.cut 5 [(0, v2), (1, str text4), (6, v23), (7, .int .i64 least24), (8, .bool found25), (10, v36), (15, .int .i64 r69), (29, .int .i64 q20), (30, .int .i64 x26), (89, .bool (decide ((List.length r34 : Int) < (List.length l22 : Int)))), (100, .bool t84)] ?_ ?_
                            · rcases Bool.eq_false_or_eq_true ((List.length r34 : Int) == (List.length l22 : Int)) with hb86 | hb86
                              · replace h85 := andT h85 hb86
                                refine QJ.on rfl rfl (cB hb86) (YldS.yld (y_move rfl)) rfl ?_
                                refine QJ.on rfl rfl (cB hb86) (YldS.yld (y_move rfl)) rfl ?_
                                obtain ⟨r87, h88, h85⟩ := bindS h85
                                refine QJ.on rfl rfl (cB hb86) (y_call Try.call36 rfl (RetG.quiet fun w hw => ok_i_compareNumbers h88 w _ (hw.row_rd (k := 0) rfl) _ (hw.row_rd (k := 1) rfl))) rfl ?_
                                refine QJ.on rfl rfl (cB hb86) (YldS.yld (y_bin rfl rfl rfl)) rfl ?_
                                refine QJ.on rfl rfl (cB hb83) (YldS.yld (y_pick_t (cB hb86) rfl)) rfl ?_
                                obtain rfl := Option.some.inj h85
                                exact QJ.cut_end ⟨rfl, rfl, rfl, rfl, rfl, rfl, rfl, rfl, rfl, rfl, rfl, trivial⟩
                              · obtain rfl := andF h85 hb86
                                refine QJ.off rfl rfl (cB hb86) rfl rfl ?_
                                refine QJ.off rfl rfl (cB hb86) rfl rfl ?_
                                refine QJ.off rfl rfl (cB hb86) rfl rfl ?_
                                refine QJ.off rfl rfl (cB hb86) rfl rfl ?_
                                refine QJ.on rfl rfl (cB hb83) (YldS.yld (y_pick_f (cB hb86) rfl)) rfl ?_
                                exact QJ.cut_end ⟨rfl, rfl, rfl, rfl, rfl, rfl, rfl, rfl, rfl, rfl, rfl, trivial⟩
                            refine QJ.step (YldS.yld (y_pick_f (cB hb83) rfl)) rfl ?_
                            obtain rfl := Option.some.inj h82
                            exact QJ.cut_end ⟨rfl, rfl, rfl, rfl, rfl, rfl, rfl, rfl, rfl, rfl, trivial⟩
                        refine QJ.step (YldS.yld (y_assign rfl)) rfl ?_
                        refine QJ.done ?_
                        exact PJ.joined t81 [0, 1] hm ⟨rfl, rfl, rfl, rfl, rfl, rfl, rfl, rfl, rfl, rfl, trivial⟩ ⟨by decide, rfl⟩
                      · replace hm := ifF hm hb80
                        refine WJ.skip ?_
                        exact PJ.joined t71 [0, 1] hm ⟨rfl, rfl, rfl, rfl, rfl, rfl, rfl, rfl, rfl, rfl, trivial⟩ ⟨by decide, rfl⟩
                    · rintro better74 hm
                      subst hk76
                      refine WJ.seq ?_
                      refine WJ.quiet ?_
                      refine QJ.step (YldS.yld (y_move rfl)) rfl ?_
                      refine QJ.done ?_
                      refine PJ.next ?_
                      refine WJ.cond (t := better74) rfl (fun hb89 => ?_) (fun hb89 => ?_)
                      · replace hm := ifT hm hb89
                        refine WJ.quiet ?_
                        refine QJ.step (YldS.yld (y_move rfl)) rfl ?_
                        refine QJ.step (YldS.yld (y_move rfl)) rfl ?_
                        refine QJ.step (YldS.yld (y_assign rfl)) rfl ?_
                        refine QJ.step (YldS.yld (y_assign rfl)) rfl ?_
                        refine QJ.step (YldS.yld (y_assign rfl)) rfl ?_
                        refine QJ.done ?_
                        refine PJ.block_normal ?_
                        exact PJ.joined (r34, v36, r69, true) [0] hm ⟨rfl, rfl, rfl, rfl, rfl, rfl, rfl, trivial⟩ ⟨by decide, rfl⟩
                      · replace hm := ifF hm hb89
                        refine WJ.skip ?_
                        refine PJ.block_normal ?_
                        exact PJ.joined (l22, v23, least24, found25) [1] hm ⟨rfl, rfl, rfl, rfl, rfl, rfl, rfl, trivial⟩ ⟨by decide, rfl⟩
              · rintro ⟨l28, v29, least30, found31⟩ hm
                subst hk33
                refine WJ.quiet ?_
                refine QJ.step (YldS.yld (y_bin rfl rfl rfl)) rfl ?_
                refine QJ.step (YldS.yld (y_move rfl)) rfl ?_
                refine QJ.done ?_
                exact PJ.round (l28, v29, least30, found31, w64 (x26 + 1)) [0] hm ⟨rfl, rfl, rfl, rfl, rfl, rfl, rfl, trivial⟩ ⟨by decide, rfl⟩
            · replace hm := ifF hm hb27
              refine WJ.exit ?_
              refine PJ.then_exit (PJ.then_exit (PJ.block_exit ?_))
              exact PJ.joined (l22, v23, found25) [0] hm ⟨rfl, rfl, trivial⟩ ⟨by decide, rfl⟩
        · rintro ⟨l15, v16, found17⟩ hm
          subst hk19
          refine WJ.seq ?_
          refine WJ.seq ?_
          refine WJ.quiet ?_
          refine QJ.step (YldS.yld (y_move rfl)) rfl ?_
          refine QJ.step (YldS.yld (y_not rfl)) rfl ?_
          refine QJ.done ?_
          refine PJ.next ?_
          refine WJ.cond (t := !found17) rfl (fun hb90 => ?_) (fun hb90 => ?_)
          · replace hm := ifT hm hb90
            refine WJ.seq ?_
            refine WJ.quiet ?_
            refine QJ.step (YldS.yld (y_assign rfl)) rfl ?_
            refine QJ.step (YldS.yld (y_assign rfl)) rfl ?_
            refine QJ.done ?_
            refine PJ.next ?_
            refine WJ.ret ?_
            refine PJ.then_ret ?_
            refine PJ.nil_row 2 fI64 ?_
            obtain rfl := Option.some.inj hm
            refine PJ.sel (L' := [row (.slice none 0 0) 2 fI64 []]) [0] ⟨by decide, rfl⟩ ?_
            exact PJ.retn (vs := [(.slice none 0 0), .int .i64 3]) Try.results7 ⟨rfl, rfl, trivial⟩ ⟨_, rfl, rfl⟩
          · replace hm := ifF hm hb90
            refine WJ.skip ?_
            refine PJ.next ?_
            refine WJ.seq ?_
            refine WJ.quiet ?_
            refine QJ.step (YldS.yld (y_move rfl)) rfl ?_
            refine QJ.step (YldS.yld (y_assign rfl)) rfl ?_
            refine QJ.step (YldS.yld (y_assign rfl)) rfl ?_
            refine QJ.done ?_
            refine PJ.next ?_
            refine WJ.ret ?_
            obtain rfl := Option.some.inj hm
            refine PJ.sel (L' := [row v16 2 fI64 l15]) [0] ⟨by decide, rfl⟩ ?_
            exact PJ.retn (vs := [v16, .int .i64 0]) Try.results7 ⟨rfl, rfl, trivial⟩ ⟨_, rfl, rfl⟩

set_option maxRecDepth 100000 in
set_option maxHeartbeats 1000000 in
theorem ok_s_l01Small {c1 : UInt8} {r : Bool} (hm : s_l01Small c1 = some r) (w : World)  :
    Calls Try.prog 103 #[.int .u8 (UInt8.toNat c1 : Int)] w (Ret (cx w) (.bool r)) := by
  unfold s_l01Small at hm
  refine Calls.enter [.int .u8 (UInt8.toNat c1 : Int)] Try.func103 rfl Try.ntmps103 rfl ?_
  refine WJ.seq ?_
  refine WJ.quiet ?_
  refine QJ.step (YldS.yld (y_assign rfl)) rfl ?_
  refine QJ.done ?_
  refine PJ.next ?_
  refine WJ.seq ?_
  refine WJ.quiet ?_
  refine QJ.step (YldS.yld (y_move rfl)) rfl ?_
  refine QJ.step (YldS.yld (y_bin8 c1 (97 : UInt8) rfl rfl rfl)) rfl ?_
  refine QJ.step (YldS.yld (y_move rfl)) rfl ?_
  obtain ⟨t2, h3, hm⟩ := bindS hm
  refine QJ.cut 3 [(8, .bool t2)] ?_ ?_
  · rcases Bool.eq_false_or_eq_true (decide (c1 ≥ (97 : UInt8))) with hb4 | hb4
    · replace h3 := andT h3 hb4
      refine QJ.on rfl rfl (cB hb4) (YldS.yld (y_move rfl)) rfl ?_
      refine QJ.on rfl rfl (cB hb4) (YldS.yld (y_bin8 c1 (122 : UInt8) rfl rfl rfl)) rfl ?_
      refine QJ.step (YldS.yld (y_pick_t (cB hb4) rfl)) rfl ?_
      obtain rfl := Option.some.inj h3
      exact QJ.cut_end ⟨rfl, trivial⟩
    · obtain rfl := andF h3 hb4
      refine QJ.off rfl rfl (cB hb4) rfl rfl ?_
      refine QJ.off rfl rfl (cB hb4) rfl rfl ?_
      refine QJ.step (YldS.yld (y_pick_f (cB hb4) rfl)) rfl ?_
      exact QJ.cut_end ⟨rfl, trivial⟩
  refine QJ.step (YldS.yld (y_assign rfl)) rfl ?_
  refine QJ.done ?_
  refine PJ.next ?_
  refine WJ.ret ?_
  obtain rfl := Option.some.inj hm
  refine PJ.sel (L' := []) [] ⟨List.nodup_nil, rfl⟩ ?_
  exact PJ.retn (vs := [.bool t2]) Try.results103 ⟨rfl, trivial⟩ ⟨rfl, rfl⟩

set_option maxRecDepth 100000 in
set_option maxHeartbeats 1000000 in
theorem ok_s_l01Digit {c1 : UInt8} {r : Bool} (hm : s_l01Digit c1 = some r) (w : World)  :
    Calls Try.prog 104 #[.int .u8 (UInt8.toNat c1 : Int)] w (Ret (cx w) (.bool r)) := by
  unfold s_l01Digit at hm
  refine Calls.enter [.int .u8 (UInt8.toNat c1 : Int)] Try.func104 rfl Try.ntmps104 rfl ?_
  refine WJ.seq ?_
  refine WJ.quiet ?_
  refine QJ.step (YldS.yld (y_assign rfl)) rfl ?_
  refine QJ.done ?_
  refine PJ.next ?_
  refine WJ.seq ?_
  refine WJ.quiet ?_
  refine QJ.step (YldS.yld (y_move rfl)) rfl ?_
  refine QJ.step (YldS.yld (y_bin8 c1 (48 : UInt8) rfl rfl rfl)) rfl ?_
  refine QJ.step (YldS.yld (y_move rfl)) rfl ?_
  obtain ⟨t2, h3, hm⟩ := bindS hm
  refine QJ.cut 3 [(8, .bool t2)] ?_ ?_
  · rcases Bool.eq_false_or_eq_true (decide (c1 ≥ (48 : UInt8))) with hb4 | hb4
    · replace h3 := andT h3 hb4
      refine QJ.on rfl rfl (cB hb4) (YldS.yld (y_move rfl)) rfl ?_
      refine QJ.on rfl rfl (cB hb4) (YldS.yld (y_bin8 c1 (57 : UInt8) rfl rfl rfl)) rfl ?_
      refine QJ.step (YldS.yld (y_pick_t (cB hb4) rfl)) rfl ?_
      obtain rfl := Option.some.inj h3
      exact QJ.cut_end ⟨rfl, trivial⟩
    · obtain rfl := andF h3 hb4
      refine QJ.off rfl rfl (cB hb4) rfl rfl ?_
      refine QJ.off rfl rfl (cB hb4) rfl rfl ?_
      refine QJ.step (YldS.yld (y_pick_f (cB hb4) rfl)) rfl ?_
      exact QJ.cut_end ⟨rfl, trivial⟩
  refine QJ.step (YldS.yld (y_assign rfl)) rfl ?_
  refine QJ.done ?_
  refine PJ.next ?_
  refine WJ.ret ?_
  obtain rfl := Option.some.inj hm
  refine PJ.sel (L' := []) [] ⟨List.nodup_nil, rfl⟩ ?_
  exact PJ.retn (vs := [.bool t2]) Try.results104 ⟨rfl, trivial⟩ ⟨rfl, rfl⟩

set_option maxRecDepth 100000 in
set_option maxHeartbeats 1000000 in
theorem ok_s_IsName {N : Nat} {s1 : Str} {r : Bool} (hm : s_IsName N s1 = some r) (w : World)  :
    Calls Try.prog 96 #[str s1] w (Ret (cx w) (.bool r)) := by
  unfold s_IsName at hm
  refine Calls.enter [str s1] Try.func96 rfl Try.ntmps96 rfl ?_
  refine WJ.seq ?_
  refine WJ.quiet ?_
  refine QJ.step (YldS.yld (y_assign rfl)) rfl ?_
  refine QJ.done ?_
  refine PJ.next ?_
  refine WJ.seq ?_
  refine WJ.seq ?_
  refine WJ.quiet ?_
  refine QJ.step (YldS.yld (y_move rfl)) rfl ?_
  refine QJ.step (YldS.yld (y_binS rfl rfl rfl)) rfl ?_
  refine QJ.step (YldS.yld (y_move rfl)) rfl ?_
  obtain ⟨t2, h3, hm⟩ := bindS hm
  refine QJ.cut 4 [(0, str s1), (10, .bool t2)] ?_ ?_
  · rcases Bool.eq_false_or_eq_true (s1 == []) with hb4 | hb4
    · obtain rfl := orT h3 hb4
      refine QJ.off rfl rfl (cB hb4) rfl rfl ?_
      refine QJ.off rfl rfl (cB hb4) rfl rfl ?_
      refine QJ.off rfl rfl (cB hb4) rfl rfl ?_
      refine QJ.step (YldS.yld (y_pick_t (cB hb4) rfl)) rfl ?_
      exact QJ.cut_end ⟨rfl, rfl, trivial⟩
    · replace h3 := orF h3 hb4
      refine QJ.on rfl rfl (cB hb4) (YldS.yld (y_move rfl)) rfl ?_
      refine QJ.on rfl rfl (cB hb4) (YldS.yld (y_lenStr Try.runUnderlying9 rfl)) rfl ?_
      refine QJ.on rfl rfl (cB hb4) (YldS.yld (y_bin rfl rfl rfl)) rfl ?_
      refine QJ.step (YldS.yld (y_pick_f (cB hb4) rfl)) rfl ?_
      obtain rfl := Option.some.inj h3
      exact QJ.cut_end ⟨rfl, rfl, trivial⟩
  refine QJ.step (YldS.yld (y_move rfl)) rfl ?_
  obtain ⟨t5, h6, hm⟩ := bindS hm
  refine QJ.cut 5 [(0, str s1), (16, .bool t5)] ?_ ?_
  · rcases Bool.eq_false_or_eq_true t2 with hb7 | hb7
    · obtain rfl := orT h6 hb7
      refine QJ.off rfl rfl (cB hb7) rfl rfl ?_
      refine QJ.off rfl rfl (cB hb7) rfl rfl ?_
      refine QJ.off rfl rfl (cB hb7) rfl rfl ?_
      refine QJ.off rfl rfl (cB hb7) rfl rfl ?_
      refine QJ.step (YldS.yld (y_pick_t (cB hb7) rfl)) rfl ?_
      exact QJ.cut_end ⟨rfl, rfl, trivial⟩
    · replace h6 := orF h6 hb7
      refine QJ.on rfl rfl (cB hb7) (YldS.yld (y_move rfl)) rfl ?_
      obtain ⟨c8, h9, h6⟩ := bindS h6
      refine QJ.on rfl rfl (cB hb7) (YldS.yld (y_idxStr Try.runUnderlying9 rfl rfl h9)) rfl ?_
      obtain ⟨r10, h11, h6⟩ := bindS h6
      refine QJ.on rfl rfl (cB hb7) (y_call Try.call103 rfl (RetG.quiet fun w hw => ok_s_l01Small h11 w )) rfl ?_
      refine QJ.on rfl rfl (cB hb7) (YldS.yld (y_not rfl)) rfl ?_
      refine QJ.step (YldS.yld (y_pick_f (cB hb7) rfl)) rfl ?_
      obtain rfl := Option.some.inj h6
      exact QJ.cut_end ⟨rfl, rfl, trivial⟩
  refine QJ.done ?_
  refine PJ.next ?_
  refine WJ.cond (t := t5) rfl (fun hb12 => ?_) (fun hb12 => ?_)
  · replace hm := ifT hm hb12
    refine WJ.seq ?_
    refine WJ.quiet ?_
    refine QJ.step (YldS.yld (y_assign rfl)) rfl ?_
    refine QJ.done ?_
    refine PJ.next ?_
    refine WJ.ret ?_
    refine PJ.then_ret ?_
    obtain rfl := Option.some.inj hm
    refine PJ.sel (L' := []) [] ⟨List.nodup_nil, rfl⟩ ?_
    exact PJ.retn (vs := [.bool false]) Try.results96 ⟨rfl, trivial⟩ ⟨rfl, rfl⟩
  · replace hm := ifF hm hb12
    refine WJ.skip ?_
    refine PJ.next ?_
    obtain ⟨kj13, hk14, hm⟩ := withK_open hm
    refine WJ.join (X := Unit) (fun (_ : Unit) => kj13  = some r) (fun (_ : Unit) => []) (fun (_ : Unit) => []) ?_ ?_
    · clear hk14
      refine WJ.seq ?_
      refine WJ.quiet ?_
      refine QJ.step (YldS.yld (y_assign rfl)) rfl ?_
      refine QJ.done ?_
      refine PJ.next ?_
      refine WJ.block ?_
      refine WJ.sel (L' := (fun (x : Int) => []) 0) [] ⟨List.nodup_nil, rfl⟩ ?_
      refine WJ.sub (m' := (fun (x : Int) => [(0, str s1), (3, .int .i64 x)]) 0) ⟨rfl, rfl, trivial⟩ ?_
      refine WJ.loop (X := Int) (fun N (x : Int) => s_IsName_l1 kj13 s1 N x = some r) (fun (x : Int) => [(0, str s1), (3, .int .i64 x)]) (fun (x : Int) => []) ?_ N 0 hm
      · rintro N i15 hI
        have hm := hI; clear hI
        cases N with
        | zero => cases hm
        | succ N =>
        unfold s_IsName_l1 at hm
        refine WJ.seq ?_
        refine WJ.seq ?_
        refine WJ.quiet ?_
        refine QJ.step (YldS.yld (y_move rfl)) rfl ?_
        refine QJ.step (YldS.yld (y_move rfl)) rfl ?_
        refine QJ.step (YldS.yld (y_lenStr Try.runUnderlying9 rfl)) rfl ?_
        refine QJ.step (YldS.yld (y_bin rfl rfl rfl)) rfl ?_
        refine QJ.done ?_
        refine PJ.next ?_
        refine WJ.cond (t := decide (i15 < (List.length s1 : Int))) rfl (fun hb16 => ?_) (fun hb16 => ?_)
        · replace hm := ifT hm hb16
          refine WJ.skip ?_
          refine PJ.next ?_
          refine WJ.seq ?_
          refine WJ.block ?_
          refine WJ.seq ?_
          refine WJ.quiet ?_
          refine QJ.step (YldS.yld (y_move rfl)) rfl ?_
          refine QJ.step (YldS.yld (y_move rfl)) rfl ?_
          obtain ⟨c17, h18, hm⟩ := bindS hm
          refine QJ.step (YldS.yld (y_idxStr Try.runUnderlying9 rfl rfl h18)) rfl ?_
          obtain ⟨r19, h20, hm⟩ := bindS hm
          refine QJ.step (y_call Try.call103 rfl (RetG.quiet fun w hw => ok_s_l01Small h20 w )) rfl ?_
          refine QJ.step (YldS.yld (y_not rfl)) rfl ?_
          refine QJ.step (YldS.yld (y_move rfl)) rfl ?_
          obtain ⟨t21, h22, hm⟩ := bindS hm
          refine QJ.cut 6 [(0, str s1), (3, .int .i64 i15), (34, .bool t21)] ?_ ?_
          · rcases Bool.eq_false_or_eq_true (!r19) with hb23 | hb23
            · replace h22 := andT h22 hb23
              refine QJ.on rfl rfl (cB hb23) (YldS.yld (y_move rfl)) rfl ?_
              refine QJ.on rfl rfl (cB hb23) (YldS.yld (y_move rfl)) rfl ?_
              obtain ⟨c24, h25, h22⟩ := bindS h22
              refine QJ.on rfl rfl (cB hb23) (YldS.yld (y_idxStr Try.runUnderlying9 rfl rfl h25)) rfl ?_
              obtain ⟨r26, h27, h22⟩ := bindS h22
              refine QJ.on rfl rfl (cB hb23) (y_call Try.call104 rfl (RetG.quiet fun w hw => ok_s_l01Digit h27 w )) rfl ?_
              refine QJ.on rfl rfl (cB hb23) (YldS.yld (y_not rfl)) rfl ?_
              refine QJ.step (YldS.yld (y_pick_t (cB hb23) rfl)) rfl ?_
              obtain rfl := Option.some.inj h22
              exact QJ.cut_end ⟨rfl, rfl, rfl, trivial⟩
            · obtain rfl := andF h22 hb23
              refine QJ.off rfl rfl (cB hb23) rfl rfl ?_
              refine QJ.off rfl rfl (cB hb23) rfl rfl ?_
              refine QJ.off rfl rfl (cB hb23) rfl rfl ?_
              refine QJ.off rfl rfl (cB hb23) rfl rfl ?_
              refine QJ.off rfl rfl (cB hb23) rfl rfl ?_
              refine QJ.step (YldS.yld (y_pick_f (cB hb23) rfl)) rfl ?_
              exact QJ.cut_end ⟨rfl, rfl, rfl, trivial⟩
          refine QJ.step (YldS.yld (y_move rfl)) rfl ?_
          obtain ⟨t28, h29, hm⟩ := bindS hm
          refine QJ.cut 5 [(0, str s1), (3, .int .i64 i15), (40, .bool t28)] ?_ ?_
          · rcases Bool.eq_false_or_eq_true t21 with hb30 | hb30
            · replace h29 := andT h29 hb30
              refine QJ.on rfl rfl (cB hb30) (YldS.yld (y_move rfl)) rfl ?_
              refine QJ.on rfl rfl (cB hb30) (YldS.yld (y_move rfl)) rfl ?_
              obtain ⟨c31, h32, h29⟩ := bindS h29
              refine QJ.on rfl rfl (cB hb30) (YldS.yld (y_idxStr Try.runUnderlying9 rfl rfl h32)) rfl ?_
              refine QJ.on rfl rfl (cB hb30) (YldS.yld (y_bin8 c31 (45 : UInt8) rfl rfl rfl)) rfl ?_
              refine QJ.step (YldS.yld (y_pick_t (cB hb30) rfl)) rfl ?_
              obtain rfl := Option.some.inj h29
              exact QJ.cut_end ⟨rfl, rfl, rfl, trivial⟩
            · obtain rfl := andF h29 hb30
              refine QJ.off rfl rfl (cB hb30) rfl rfl ?_
              refine QJ.off rfl rfl (cB hb30) rfl rfl ?_
              refine QJ.off rfl rfl (cB hb30) rfl rfl ?_
              refine QJ.off rfl rfl (cB hb30) rfl rfl ?_
              refine QJ.step (YldS.yld (y_pick_f (cB hb30) rfl)) rfl ?_
              exact QJ.cut_end ⟨rfl, rfl, rfl, trivial⟩
          refine QJ.done ?_
          refine PJ.next ?_
          refine WJ.cond (t := t28) rfl (fun hb33 => ?_) (fun hb33 => ?_)
          · replace hm := ifT hm hb33
            refine WJ.seq ?_
            refine WJ.quiet ?_
            refine QJ.step (YldS.yld (y_assign rfl)) rfl ?_
            refine QJ.done ?_
            refine PJ.next ?_
            refine WJ.ret ?_
            refine PJ.block_ret (PJ.then_ret (PJ.then_ret (PJ.block_ret (PJ.then_ret ?_))))
            obtain rfl := Option.some.inj hm
            refine PJ.sel (L' := []) [] ⟨List.nodup_nil, rfl⟩ ?_
            exact PJ.retn (vs := [.bool false]) Try.results96 ⟨rfl, trivial⟩ ⟨rfl, rfl⟩
          · replace hm := ifF hm hb33
            refine WJ.skip ?_
            refine PJ.block_normal (PJ.next ?_)
            refine WJ.quiet ?_
            refine QJ.step (YldS.yld (y_move rfl)) rfl ?_
            refine QJ.step (YldS.yld (y_bin rfl rfl rfl)) rfl ?_
            refine QJ.step (YldS.yld (y_assign rfl)) rfl ?_
            refine QJ.done ?_
            exact PJ.round (w64 (i15 + 1)) [] hm ⟨rfl, rfl, trivial⟩ ⟨List.nodup_nil, rfl⟩
        · replace hm := ifF hm hb16
          refine WJ.exit ?_
          refine PJ.then_exit (PJ.then_exit (PJ.block_exit ?_))
          exact PJ.joined () [] hm trivial ⟨List.nodup_nil, rfl⟩
    · rintro _ hm
      subst hk14
      refine WJ.seq ?_
      refine WJ.quiet ?_
      refine QJ.step (YldS.yld (y_assign rfl)) rfl ?_
      refine QJ.done ?_
      refine PJ.next ?_
      refine WJ.ret ?_
      obtain rfl := Option.some.inj hm
      refine PJ.sel (L' := []) [] ⟨List.nodup_nil, rfl⟩ ?_
      exact PJ.retn (vs := [.bool true]) Try.results96 ⟨rfl, trivial⟩ ⟨rfl, rfl⟩

set_option maxRecDepth 100000 in
set_option maxHeartbeats 1000000 in
theorem ok_s_l02Text {N : Nat} {s1 : Str} {r : Bool} (hm : s_l02Text N s1 = some r) (w : World)  :
    Calls Try.prog 97 #[str s1] w (Ret (cx w) (.bool r)) := by
  unfold s_l02Text at hm
  refine Calls.enter [str s1] Try.func97 rfl Try.ntmps97 rfl ?_
  refine WJ.seq ?_
  refine WJ.quiet ?_
  refine QJ.step (YldS.yld (y_assign rfl)) rfl ?_
  refine QJ.done ?_
  refine PJ.next ?_
  obtain ⟨kj2, hk3, hm⟩ := withK_open hm
  refine WJ.join (X := Unit) (fun (_ : Unit) => kj2  = some r) (fun (_ : Unit) => [(0, str s1)]) (fun (_ : Unit) => []) ?_ ?_
  · clear hk3
    refine WJ.seq ?_
    refine WJ.quiet ?_
    refine QJ.step (YldS.yld (y_assign rfl)) rfl ?_
    refine QJ.done ?_
    refine PJ.next ?_
    refine WJ.block ?_
    refine WJ.sel (L' := (fun (x : Int) => []) 0) [] ⟨List.nodup_nil, rfl⟩ ?_
    refine WJ.sub (m' := (fun (x : Int) => [(0, str s1), (3, .int .i64 x)]) 0) ⟨rfl, rfl, trivial⟩ ?_
    refine WJ.loop (X := Int) (fun N (x : Int) => s_l02Text_l1 kj2 s1 N x = some r) (fun (x : Int) => [(0, str s1), (3, .int .i64 x)]) (fun (x : Int) => []) ?_ N 0 hm
    · rintro N i4 hI
      have hm := hI; clear hI
      cases N with
      | zero => cases hm
      | succ N =>
      unfold s_l02Text_l1 at hm
      refine WJ.seq ?_
      refine WJ.seq ?_
      refine WJ.quiet ?_
      refine QJ.step (YldS.yld (y_move rfl)) rfl ?_
      refine QJ.step (YldS.yld (y_move rfl)) rfl ?_
      refine QJ.step (YldS.yld (y_lenStr Try.runUnderlying9 rfl)) rfl ?_
      refine QJ.step (YldS.yld (y_bin rfl rfl rfl)) rfl ?_
      refine QJ.done ?_
      refine PJ.next ?_
      refine WJ.cond (t := decide (i4 < (List.length s1 : Int))) rfl (fun hb5 => ?_) (fun hb5 => ?_)
      · replace hm := ifT hm hb5
        refine WJ.skip ?_
        refine PJ.next ?_
        refine WJ.seq ?_
        refine WJ.block ?_
        refine WJ.seq ?_
        refine WJ.quiet ?_
        refine QJ.step (YldS.yld (y_move rfl)) rfl ?_
        refine QJ.step (YldS.yld (y_move rfl)) rfl ?_
        obtain ⟨c6, h7, hm⟩ := bindS hm
        refine QJ.step (YldS.yld (y_idxStr Try.runUnderlying9 rfl rfl h7)) rfl ?_
        refine QJ.step (YldS.yld (y_bin8 c6 (33 : UInt8) rfl rfl rfl)) rfl ?_
        refine QJ.step (YldS.yld (y_move rfl)) rfl ?_
        obtain ⟨t8, h9, hm⟩ := bindS hm
        refine QJ.cut 5 [(0, str s1), (3, .int .i64 i4), (19, .bool t8)] ?_ ?_
        · rcases Bool.eq_false_or_eq_true (decide (c6 < (33 : UInt8))) with hb10 | hb10
          · obtain rfl := orT h9 hb10
            refine QJ.off rfl rfl (cB hb10) rfl rfl ?_
            refine QJ.off rfl rfl (cB hb10) rfl rfl ?_
            refine QJ.off rfl rfl (cB hb10) rfl rfl ?_
            refine QJ.off rfl rfl (cB hb10) rfl rfl ?_
            refine QJ.step (YldS.yld (y_pick_t (cB hb10) rfl)) rfl ?_
            exact QJ.cut_end ⟨rfl, rfl, rfl, trivial⟩
          · replace h9 := orF h9 hb10
            refine QJ.on rfl rfl (cB hb10) (YldS.yld (y_move rfl)) rfl ?_
            refine QJ.on rfl rfl (cB hb10) (YldS.yld (y_move rfl)) rfl ?_
            obtain ⟨c11, h12, h9⟩ := bindS h9
            refine QJ.on rfl rfl (cB hb10) (YldS.yld (y_idxStr Try.runUnderlying9 rfl rfl h12)) rfl ?_
            refine QJ.on rfl rfl (cB hb10) (YldS.yld (y_bin8 c11 (126 : UInt8) rfl rfl rfl)) rfl ?_
            refine QJ.step (YldS.yld (y_pick_f (cB hb10) rfl)) rfl ?_
            obtain rfl := Option.some.inj h9
            exact QJ.cut_end ⟨rfl, rfl, rfl, trivial⟩
        refine QJ.done ?_
        refine PJ.next ?_
        refine WJ.cond (t := t8) rfl (fun hb13 => ?_) (fun hb13 => ?_)
        · replace hm := ifT hm hb13
          refine WJ.seq ?_
          refine WJ.quiet ?_
          refine QJ.step (YldS.yld (y_assign rfl)) rfl ?_
          refine QJ.done ?_
          refine PJ.next ?_
          refine WJ.ret ?_
          refine PJ.block_ret (PJ.then_ret (PJ.then_ret (PJ.block_ret (PJ.then_ret ?_))))
          obtain rfl := Option.some.inj hm
          refine PJ.sel (L' := []) [] ⟨List.nodup_nil, rfl⟩ ?_
          exact PJ.retn (vs := [.bool false]) Try.results97 ⟨rfl, trivial⟩ ⟨rfl, rfl⟩
        · replace hm := ifF hm hb13
          refine WJ.skip ?_
          refine PJ.block_normal (PJ.next ?_)
          refine WJ.quiet ?_
          refine QJ.step (YldS.yld (y_move rfl)) rfl ?_
          refine QJ.step (YldS.yld (y_bin rfl rfl rfl)) rfl ?_
          refine QJ.step (YldS.yld (y_assign rfl)) rfl ?_
          refine QJ.done ?_
          exact PJ.round (w64 (i4 + 1)) [] hm ⟨rfl, rfl, trivial⟩ ⟨List.nodup_nil, rfl⟩
      · replace hm := ifF hm hb5
        refine WJ.exit ?_
        refine PJ.then_exit (PJ.then_exit (PJ.block_exit ?_))
        exact PJ.joined () [] hm ⟨rfl, trivial⟩ ⟨List.nodup_nil, rfl⟩
  · rintro _ hm
    subst hk3
    refine WJ.seq ?_
    refine WJ.quiet ?_
    refine QJ.step (YldS.yld (y_move rfl)) rfl ?_
    refine QJ.step (YldS.yld (y_lenStr Try.runUnderlying9 rfl)) rfl ?_
    refine QJ.step (YldS.yld (y_bin rfl rfl rfl)) rfl ?_
    refine QJ.step (YldS.yld (y_assign rfl)) rfl ?_
    refine QJ.done ?_
    refine PJ.next ?_
    refine WJ.ret ?_
    obtain rfl := Option.some.inj hm
    refine PJ.sel (L' := []) [] ⟨List.nodup_nil, rfl⟩ ?_
    exact PJ.retn (vs := [.bool (decide ((List.length s1 : Int) ≤ 100))]) Try.results97 ⟨rfl, trivial⟩ ⟨rfl, rfl⟩

set_option maxRecDepth 100000 in
set_option maxHeartbeats 1000000 in
theorem ok_s_l00In {n1 : Int} {low2 : Int} {high3 : Int} {r : Bool} (hm : s_l00In n1 low2 high3 = some r) (w : World)  :
    Calls Try.prog 66 #[.int .i64 n1, .int .i64 low2, .int .i64 high3] w (Ret (cx w) (.bool r)) := by
  unfold s_l00In at hm
  refine Calls.enter [.int .i64 n1, .int .i64 low2, .int .i64 high3] Try.func66 rfl Try.ntmps66 rfl ?_
  refine WJ.seq ?_
  refine WJ.quiet ?_
  refine QJ.step (YldS.yld (y_assign rfl)) rfl ?_
  refine QJ.done ?_
  refine PJ.next ?_
  refine WJ.seq ?_
  refine WJ.quiet ?_
  refine QJ.step (YldS.yld (y_move rfl)) rfl ?_
  refine QJ.step (YldS.yld (y_move rfl)) rfl ?_
  refine QJ.step (YldS.yld (y_bin rfl rfl rfl)) rfl ?_
  refine QJ.step (YldS.yld (y_move rfl)) rfl ?_
  obtain ⟨t4, h5, hm⟩ := bindS hm
  refine QJ.cut 4 [(14, .bool t4)] ?_ ?_
  · rcases Bool.eq_false_or_eq_true (decide (n1 ≥ low2)) with hb6 | hb6
    · replace h5 := andT h5 hb6
      refine QJ.on rfl rfl (cB hb6) (YldS.yld (y_move rfl)) rfl ?_
      refine QJ.on rfl rfl (cB hb6) (YldS.yld (y_move rfl)) rfl ?_
      refine QJ.on rfl rfl (cB hb6) (YldS.yld (y_bin rfl rfl rfl)) rfl ?_
      refine QJ.step (YldS.yld (y_pick_t (cB hb6) rfl)) rfl ?_
      obtain rfl := Option.some.inj h5
      exact QJ.cut_end ⟨rfl, trivial⟩
    · obtain rfl := andF h5 hb6
      refine QJ.off rfl rfl (cB hb6) rfl rfl ?_
      refine QJ.off rfl rfl (cB hb6) rfl rfl ?_
      refine QJ.off rfl rfl (cB hb6) rfl rfl ?_
      refine QJ.step (YldS.yld (y_pick_f (cB hb6) rfl)) rfl ?_
      exact QJ.cut_end ⟨rfl, trivial⟩
  refine QJ.step (YldS.yld (y_assign rfl)) rfl ?_
  refine QJ.done ?_
  refine PJ.next ?_
  refine WJ.ret ?_
  obtain rfl := Option.some.inj hm
  refine PJ.sel (L' := []) [] ⟨List.nodup_nil, rfl⟩ ?_
  exact PJ.retn (vs := [.bool t4]) Try.results66 ⟨rfl, trivial⟩ ⟨rfl, rfl⟩

set_option maxRecDepth 100000 in
set_option maxHeartbeats 1000000 in
theorem ok_s_l00Rises {N : Nat} {list1 : List Int} {low4 : Int} {high5 : Int} {r : Bool} (hm : s_l00Rises N list1 low4 high5 = some r) (w : World) (v2 : Value) (hr3 : RdS w (cx w).Fz v2 fI64.rp list1) :
    Calls Try.prog 74 #[v2, .int .i64 low4, .int .i64 high5] w (Ret (cx w) (.bool r)) := by
  unfold s_l00Rises at hm
  refine Calls.enter [v2, .int .i64 low4, .int .i64 high5] Try.func74 rfl Try.ntmps74 rfl ?_
  refine WJ.seq ?_
  refine WJ.quiet ?_
  refine QJ.step (YldS.yld (y_assign rfl)) rfl ?_
  refine QJ.done ?_
  refine PJ.next ?_
  obtain ⟨kj6, hk7, hm⟩ := withK_open hm
  refine WJ.join (X := Unit) (fun (_ : Unit) => kj6  = some r) (fun (_ : Unit) => []) (fun (_ : Unit) => []) ?_ ?_
  · clear hk7
    refine WJ.seq ?_
    refine WJ.quiet ?_
    refine QJ.step (YldS.yld (y_assign rfl)) rfl ?_
    refine QJ.done ?_
    refine PJ.next ?_
    refine WJ.block ?_
    refine WJ.sel (L' := (fun (x : Int) => []) 0) [] ⟨List.nodup_nil, rfl⟩ ?_
    refine WJ.sub (m' := (fun (x : Int) => [(0, v2), (1, .int .i64 low4), (2, .int .i64 high5), (7, .int .i64 x)]) 0) ⟨rfl, rfl, rfl, rfl, trivial⟩ ?_
    refine WJ.loop (X := Int) (fun N (x : Int) => s_l00Rises_l1 kj6 list1 low4 high5 N x = some r) (fun (x : Int) => [(0, v2), (1, .int .i64 low4), (2, .int .i64 high5), (7, .int .i64 x)]) (fun (x : Int) => []) ?_ N 0 hm
    · rintro N i8 hI
      have hm := hI; clear hI
      cases N with
      | zero => cases hm
      | succ N =>
      unfold s_l00Rises_l1 at hm
      refine WJ.seq ?_
      refine WJ.seq ?_
      refine WJ.quiet ?_
      refine QJ.step (YldS.yld (y_move rfl)) rfl ?_
      refine QJ.step (YldS.yld (y_move rfl)) rfl ?_
      refine QJ.step (YldS.yld (y_lenS Try.runUnderlying27 hr3 rfl)) rfl ?_
      refine QJ.step (YldS.yld (y_bin rfl rfl rfl)) rfl ?_
      refine QJ.done ?_
      refine PJ.next ?_
      refine WJ.cond (t := decide (i8 < (List.length list1 : Int))) rfl (fun hb9 => ?_) (fun hb9 => ?_)
      · replace hm := ifT hm hb9
        refine WJ.skip ?_
        refine PJ.next ?_
        refine WJ.seq ?_
        refine WJ.block ?_
        refine WJ.seq ?_
        refine WJ.quiet_draw follows (by kernel_rfl) ?_
        refine QJ.step (YldS.yld (y_move rfl)) rfl ?_
        refine QJ.step (YldS.yld (y_move rfl)) rfl ?_
        obtain ⟨e10, h11, hm⟩ := bindS hm
        obtain ⟨ad12, _, rfl, ha13, hy14⟩ := hr3.elem h11
        refine QJ.step (YldS.yld (hy14 Try.runUnderlying27 Try.sizeOf2 rfl rfl)) rfl ?_
        refine QJ.step (YldS.yld (y_load1 (v := .int .i64 e10) Try.isAgg2 ha13 St.frozenC rfl)) rfl ?_
        refine QJ.step (YldS.yld (y_move rfl)) rfl ?_
        refine QJ.step (YldS.yld (y_move rfl)) rfl ?_
        obtain ⟨r15, h16, hm⟩ := bindS hm
        refine QJ.step (y_call Try.call66 rfl (RetG.quiet fun w hw => ok_s_l00In h16 w )) rfl ?_
        refine QJ.step (YldS.yld (y_not rfl)) rfl ?_
        refine QJ.step (YldS.yld (y_move rfl)) rfl ?_
        obtain ⟨t17, h18, hm⟩ := bindS hm
        refine QJ.cut 15 [(0, v2), (1, .int .i64 low4), (2, .int .i64 high5), (7, .int .i64 i8), (37, .bool t17)] ?_ ?_
        · rcases Bool.eq_false_or_eq_true (!r15) with hb19 | hb19
          · obtain rfl := orT h18 hb19
            refine QJ.off rfl rfl (cB hb19) rfl rfl ?_
            refine QJ.off rfl rfl (cB hb19) rfl rfl ?_
            refine QJ.off rfl rfl (cB hb19) rfl rfl ?_
            refine QJ.off_undef rfl rfl rfl rfl ?_
            refine QJ.off_undef rfl rfl rfl rfl ?_
            refine QJ.off_undef rfl rfl rfl rfl ?_
            refine QJ.off_undef rfl rfl rfl rfl ?_
            refine QJ.off_undef rfl rfl rfl rfl ?_
            refine QJ.off_undef rfl rfl rfl rfl ?_
            refine QJ.off_undef rfl rfl rfl rfl ?_
            refine QJ.off_undef rfl rfl rfl rfl ?_
            refine QJ.off_undef rfl rfl rfl rfl ?_
            refine QJ.off_undef rfl rfl rfl rfl ?_
            refine QJ.off rfl rfl (cB hb19) rfl rfl ?_
            refine QJ.step (YldS.yld (y_pick_t (cB hb19) rfl)) rfl ?_
            exact QJ.cut_end ⟨rfl, rfl, rfl, rfl, rfl, trivial⟩
          · replace h18 := orF h18 hb19
            refine QJ.on rfl rfl (cB hb19) (YldS.yld (y_move rfl)) rfl ?_
            refine QJ.on rfl rfl (cB hb19) (YldS.yld (y_bin rfl rfl rfl)) rfl ?_
            refine QJ.on rfl rfl (cB hb19) (YldS.yld (y_move rfl)) rfl ?_
            obtain ⟨t20, h21, h18⟩ := bindS h18
            refine QJ.cut 11 [(0, v2), (1, .int .i64 low4), (2, .int .i64 high5), (7, .int .i64 i8), (22, .bool (!r15)), (36, .bool t20)] ?_ ?_
            · rcases Bool.eq_false_or_eq_true (decide (i8 > 0)) with hb22 | hb22
              · replace h21 := andT h21 hb22
                refine QJ.on rfl rfl (cB hb22) (YldS.yld (y_move rfl)) rfl ?_
                refine QJ.on rfl rfl (cB hb22) (YldS.yld (y_move rfl)) rfl ?_
                refine QJ.on rfl rfl (cB hb22) (YldS.yld (y_bin rfl rfl rfl)) rfl ?_
                obtain ⟨e23, h24, h21⟩ := bindS h21
                obtain ⟨ad25, _, rfl, ha26, hy27⟩ := hr3.elem h24
                refine QJ.on rfl rfl (cB hb22) (YldS.yld (hy27 Try.runUnderlying27 Try.sizeOf2 rfl rfl)) rfl ?_
                refine QJ.on rfl rfl (cB hb22) (YldS.yld (y_load1 (v := .int .i64 e23) Try.isAgg2 ha26 St.frozenC rfl)) rfl ?_
                refine QJ.on rfl rfl (cB hb22) (YldS.yld (y_move rfl)) rfl ?_
                refine QJ.on rfl rfl (cB hb22) (YldS.yld (y_move rfl)) rfl ?_
                obtain ⟨e28, h29, h21⟩ := bindS h21
                obtain ⟨ad30, _, rfl, ha31, hy32⟩ := hr3.elem h29
                refine QJ.on rfl rfl (cB hb22) (YldS.yld (hy32 Try.runUnderlying27 Try.sizeOf2 rfl rfl)) rfl ?_
                refine QJ.on rfl rfl (cB hb22) (YldS.yld (y_load1 (v := .int .i64 e28) Try.isAgg2 ha31 St.frozenC rfl)) rfl ?_
                refine QJ.on rfl rfl (cB hb22) (YldS.yld (y_bin rfl rfl rfl)) rfl ?_
                refine QJ.on rfl rfl (cB hb19) (YldS.yld (y_pick_t (cB hb22) rfl)) rfl ?_
                obtain rfl := Option.some.inj h21
                exact QJ.cut_end ⟨rfl, rfl, rfl, rfl, rfl, rfl, trivial⟩
              · obtain rfl := andF h21 hb22
                refine QJ.off rfl rfl (cB hb22) rfl rfl ?_
                refine QJ.off rfl rfl (cB hb22) rfl rfl ?_
                refine QJ.off rfl rfl (cB hb22) rfl rfl ?_
                refine QJ.off rfl rfl (cB hb22) rfl rfl ?_
                refine QJ.off rfl rfl (cB hb22) rfl rfl ?_
                refine QJ.off rfl rfl (cB hb22) rfl rfl ?_
                refine QJ.off rfl rfl (cB hb22) rfl rfl ?_
                refine QJ.off rfl rfl (cB hb22) rfl rfl ?_
                refine QJ.off rfl rfl (cB hb22) rfl rfl ?_
                refine QJ.off rfl rfl (cB hb22) rfl rfl ?_
                refine QJ.on rfl rfl (cB hb19) (YldS.yld (y_pick_f (cB hb22) rfl)) rfl ?_
                exact QJ.cut_end ⟨rfl, rfl, rfl, rfl, rfl, rfl, trivial⟩
            refine QJ.step (YldS.yld (y_pick_f (cB hb19) rfl)) rfl ?_
            obtain rfl := Option.some.inj h18
            exact QJ.cut_end ⟨rfl, rfl, rfl, rfl, rfl, trivial⟩
        refine QJ.done ?_
        refine PJ.next ?_
        refine WJ.cond (t := t17) rfl (fun hb33 => ?_) (fun hb33 => ?_)
        · replace hm := ifT hm hb33
          refine WJ.seq ?_
          refine WJ.quiet ?_
          refine QJ.step (YldS.yld (y_assign rfl)) rfl ?_
          refine QJ.done ?_
          refine PJ.next ?_
          refine WJ.ret ?_
          refine PJ.block_ret (PJ.then_ret (PJ.then_ret (PJ.block_ret (PJ.then_ret ?_))))
          obtain rfl := Option.some.inj hm
          refine PJ.sel (L' := []) [] ⟨List.nodup_nil, rfl⟩ ?_
          exact PJ.retn (vs := [.bool false]) Try.results74 ⟨rfl, trivial⟩ ⟨rfl, rfl⟩
        · replace hm := ifF hm hb33
          refine WJ.skip ?_
          refine PJ.block_normal (PJ.next ?_)
          refine WJ.quiet ?_
          refine QJ.step (YldS.yld (y_move rfl)) rfl ?_
          refine QJ.step (YldS.yld (y_bin rfl rfl rfl)) rfl ?_
          refine QJ.step (YldS.yld (y_assign rfl)) rfl ?_
          refine QJ.done ?_
          exact PJ.round (w64 (i8 + 1)) [] hm ⟨rfl, rfl, rfl, rfl, trivial⟩ ⟨List.nodup_nil, rfl⟩
      · replace hm := ifF hm hb9
        refine WJ.exit ?_
        refine PJ.then_exit (PJ.then_exit (PJ.block_exit ?_))
        exact PJ.joined () [] hm trivial ⟨List.nodup_nil, rfl⟩
  · rintro _ hm
    subst hk7
    refine WJ.seq ?_
    refine WJ.quiet ?_
    refine QJ.step (YldS.yld (y_assign rfl)) rfl ?_
    refine QJ.done ?_
    refine PJ.next ?_
    refine WJ.ret ?_
    obtain rfl := Option.some.inj hm
    refine PJ.sel (L' := []) [] ⟨List.nodup_nil, rfl⟩ ?_
    exact PJ.retn (vs := [.bool true]) Try.results74 ⟨rfl, trivial⟩ ⟨rfl, rfl⟩

set_option maxRecDepth 100000 in
set_option maxHeartbeats 1000000 in
theorem ok_s_l00Has {N : Nat} {list1 : List Int} {n4 : Int} {r : Bool} (hm : s_l00Has N list1 n4 = some r) (w : World) (v2 : Value) (hr3 : RdS w (cx w).Fz v2 fI64.rp list1) :
    Calls Try.prog 75 #[v2, .int .i64 n4] w (Ret (cx w) (.bool r)) := by
  unfold s_l00Has at hm
  refine Calls.enter [v2, .int .i64 n4] Try.func75 rfl Try.ntmps75 rfl ?_
  refine WJ.seq ?_
  refine WJ.quiet ?_
  refine QJ.step (YldS.yld (y_assign rfl)) rfl ?_
  refine QJ.done ?_
  refine PJ.next ?_
  obtain ⟨kj5, hk6, hm⟩ := withK_open hm
  refine WJ.join (X := Unit) (fun (_ : Unit) => kj5  = some r) (fun (_ : Unit) => []) (fun (_ : Unit) => []) ?_ ?_
  · clear hk6
    refine WJ.seq ?_
    refine WJ.quiet ?_
    refine QJ.step (YldS.yld (y_assign rfl)) rfl ?_
    refine QJ.done ?_
    refine PJ.next ?_
    refine WJ.block ?_
    refine WJ.sel (L' := (fun (x : Int) => []) 0) [] ⟨List.nodup_nil, rfl⟩ ?_
    refine WJ.sub (m' := (fun (x : Int) => [(0, v2), (1, .int .i64 n4), (5, .int .i64 x)]) 0) ⟨rfl, rfl, rfl, trivial⟩ ?_
    refine WJ.loop (X := Int) (fun N (x : Int) => s_l00Has_l1 kj5 list1 n4 N x = some r) (fun (x : Int) => [(0, v2), (1, .int .i64 n4), (5, .int .i64 x)]) (fun (x : Int) => []) ?_ N 0 hm
    · rintro N i7 hI
      have hm := hI; clear hI
      cases N with
      | zero => cases hm
      | succ N =>
      unfold s_l00Has_l1 at hm
      refine WJ.seq ?_
      refine WJ.seq ?_
      refine WJ.quiet ?_
      refine QJ.step (YldS.yld (y_move rfl)) rfl ?_
      refine QJ.step (YldS.yld (y_move rfl)) rfl ?_
      refine QJ.step (YldS.yld (y_lenS Try.runUnderlying27 hr3 rfl)) rfl ?_
      refine QJ.step (YldS.yld (y_bin rfl rfl rfl)) rfl ?_
      refine QJ.done ?_
      refine PJ.next ?_
      refine WJ.cond (t := decide (i7 < (List.length list1 : Int))) rfl (fun hb8 => ?_) (fun hb8 => ?_)
      · replace hm := ifT hm hb8
        refine WJ.skip ?_
        refine PJ.next ?_
        refine WJ.seq ?_
        refine WJ.block ?_
        refine WJ.seq ?_
        refine WJ.quiet ?_
        refine QJ.step (YldS.yld (y_move rfl)) rfl ?_
        refine QJ.step (YldS.yld (y_move rfl)) rfl ?_
        obtain ⟨e9, h10, hm⟩ := bindS hm
        obtain ⟨ad11, _, rfl, ha12, hy13⟩ := hr3.elem h10
        refine QJ.step (YldS.yld (hy13 Try.runUnderlying27 Try.sizeOf2 rfl rfl)) rfl ?_
        refine QJ.step (YldS.yld (y_load1 (v := .int .i64 e9) Try.isAgg2 ha12 St.frozenC rfl)) rfl ?_
        refine QJ.step (YldS.yld (y_move rfl)) rfl ?_
        refine QJ.step (YldS.yld (y_bin rfl rfl rfl)) rfl ?_
        refine QJ.done ?_
        refine PJ.next ?_
        refine WJ.cond (t := (e9 == n4)) rfl (fun hb14 => ?_) (fun hb14 => ?_)
        · replace hm := ifT hm hb14
          refine WJ.seq ?_
          refine WJ.quiet ?_
          refine QJ.step (YldS.yld (y_assign rfl)) rfl ?_
          refine QJ.done ?_
          refine PJ.next ?_
          refine WJ.ret ?_
          refine PJ.block_ret (PJ.then_ret (PJ.then_ret (PJ.block_ret (PJ.then_ret ?_))))
          obtain rfl := Option.some.inj hm
          refine PJ.sel (L' := []) [] ⟨List.nodup_nil, rfl⟩ ?_
          exact PJ.retn (vs := [.bool true]) Try.results75 ⟨rfl, trivial⟩ ⟨rfl, rfl⟩
        · replace hm := ifF hm hb14
          refine WJ.skip ?_
          refine PJ.block_normal (PJ.next ?_)
          refine WJ.quiet ?_
          refine QJ.step (YldS.yld (y_move rfl)) rfl ?_
          refine QJ.step (YldS.yld (y_bin rfl rfl rfl)) rfl ?_
          refine QJ.step (YldS.yld (y_assign rfl)) rfl ?_
          refine QJ.done ?_
          exact PJ.round (w64 (i7 + 1)) [] hm ⟨rfl, rfl, rfl, trivial⟩ ⟨List.nodup_nil, rfl⟩
      · replace hm := ifF hm hb8
        refine WJ.exit ?_
        refine PJ.then_exit (PJ.then_exit (PJ.block_exit ?_))
        exact PJ.joined () [] hm trivial ⟨List.nodup_nil, rfl⟩
  · rintro _ hm
    subst hk6
    refine WJ.seq ?_
    refine WJ.quiet ?_
    refine QJ.step (YldS.yld (y_assign rfl)) rfl ?_
    refine QJ.done ?_
    refine PJ.next ?_
    refine WJ.ret ?_
    obtain rfl := Option.some.inj hm
    refine PJ.sel (L' := []) [] ⟨List.nodup_nil, rfl⟩ ?_
    exact PJ.retn (vs := [.bool false]) Try.results75 ⟨rfl, trivial⟩ ⟨rfl, rfl⟩

set_option maxRecDepth 100000 in
set_option maxHeartbeats 1000000 in
theorem ok_s_l18Ok {N : Nat} {list1 : List Lesson} {r : Bool} (hm : s_l18Ok N list1 = some r) (w : World) (v2 : Value) (hr3 : RdS w (cx w).Fz v2 (shLesson.rp fI64.rp) list1) :
    Calls Try.prog 73 #[v2] w (Ret (cx w) (.bool r)) := by
  unfold s_l18Ok at hm
  refine Calls.enter [v2] Try.func73 rfl Try.ntmps73 rfl ?_
  refine WJ.seq ?_
  refine WJ.quiet ?_
  refine QJ.step (YldS.yld (y_assign rfl)) rfl ?_
  refine QJ.done ?_
  refine PJ.next ?_
  refine WJ.seq ?_
  refine WJ.quiet ?_
  refine QJ.step (YldS.yld (y_move rfl)) rfl ?_
  refine QJ.step (YldS.yld (y_lenS Try.runUnderlying24 hr3 rfl)) rfl ?_
  refine QJ.step (YldS.yld (y_assign rfl)) rfl ?_
  refine QJ.done ?_
  refine PJ.next ?_
  obtain ⟨kj4, hk5, hm⟩ := withK_open hm
  refine WJ.join (X := Unit) (fun (_ : Unit) => kj4  = some r) (fun (_ : Unit) => [(3, .int .i64 (List.length list1 : Int))]) (fun (_ : Unit) => []) ?_ ?_
  · clear hk5
    refine WJ.seq ?_
    refine WJ.quiet ?_
    refine QJ.step (YldS.yld (y_assign rfl)) rfl ?_
    refine QJ.done ?_
    refine PJ.next ?_
    refine WJ.block ?_
    refine WJ.sel (L' := (fun (x : Int) => []) 0) [] ⟨List.nodup_nil, rfl⟩ ?_
    refine WJ.sub (m' := (fun (x : Int) => [(0, v2), (3, .int .i64 (List.length list1 : Int)), (4, .int .i64 x)]) 0) ⟨rfl, rfl, rfl, trivial⟩ ?_
    refine WJ.loop (X := Int) (fun N (x : Int) => s_l18Ok_l1 kj4 list1 N x = some r) (fun (x : Int) => [(0, v2), (3, .int .i64 (List.length list1 : Int)), (4, .int .i64 x)]) (fun (x : Int) => []) ?_ N 0 hm
    · rintro N i6 hI
      have hm := hI; clear hI
      cases N with
      | zero => cases hm
      | succ N =>
      unfold s_l18Ok_l1 at hm
      refine WJ.seq ?_
      refine WJ.seq ?_
      refine WJ.quiet ?_
      refine QJ.step (YldS.yld (y_move rfl)) rfl ?_
      refine QJ.step (YldS.yld (y_move rfl)) rfl ?_
      refine QJ.step (YldS.yld (y_lenS Try.runUnderlying24 hr3 rfl)) rfl ?_
      refine QJ.step (YldS.yld (y_bin rfl rfl rfl)) rfl ?_
      refine QJ.done ?_
      refine PJ.next ?_
      refine WJ.cond (t := decide (i6 < (List.length list1 : Int))) rfl (fun hb7 => ?_) (fun hb7 => ?_)
      · replace hm := ifT hm hb7
        refine WJ.skip ?_
        refine PJ.next ?_
        obtain ⟨kj8, hk9, hm⟩ := withK_open hm
        refine WJ.join (X := Unit) (fun (_ : Unit) => kj8  = some r) (fun (_ : Unit) => [(0, v2), (3, .int .i64 (List.length list1 : Int)), (4, .int .i64 i6)]) (fun (_ : Unit) => []) ?_ ?_
        · clear hk9
          refine WJ.block ?_
          refine WJ.seq ?_
          refine WJ.quiet ?_
          refine QJ.step (YldS.yld (y_move rfl)) rfl ?_
          refine QJ.step (YldS.yld (y_move rfl)) rfl ?_
          obtain ⟨e10, h11, hm⟩ := bindS hm
          obtain ⟨ad12, _, ⟨v15, rfl, hr16⟩, ha13, hy14⟩ := hr3.elem h11
          refine QJ.step (YldS.yld (hy14 Try.runUnderlying24 Try.sizeOf38 rfl rfl)) rfl ?_
          refine QJ.step (YldS.yld (y_assign rfl)) rfl ?_
          refine QJ.done ?_
          refine PJ.next ?_
          refine WJ.seq ?_
          refine WJ.seq ?_
          refine WJ.quiet ?_
          refine QJ.step (YldS.yld (y_move rfl)) rfl ?_
          refine QJ.step (YldS.yld (y_nil rfl)) rfl ?_
          refine QJ.step (YldS.yld (y_fld (ad := ad12) fld38_0 rfl)) rfl ?_
          refine QJ.step (YldS.yld (y_load1 (v := str e10.name) Try.isAgg9 (ha13.sub 0 1) St.frozenC rfl)) rfl ?_
          obtain ⟨r17, h18, hm⟩ := bindS hm
          refine QJ.step (y_call Try.call96 rfl (RetG.quiet fun w hw => ok_s_IsName h18 w )) rfl ?_
          refine QJ.step (YldS.yld (y_not rfl)) rfl ?_
          refine QJ.step (YldS.yld (y_move rfl)) rfl ?_
          obtain ⟨t19, h20, hm⟩ := bindS hm
          refine QJ.cut 7 [(0, v2), (3, .int .i64 (List.length list1 : Int)), (4, .int .i64 i6), (5, .pointer (some ad12)), (32, .bool t19)] ?_ ?_
          · rcases Bool.eq_false_or_eq_true (!r17) with hb21 | hb21
            · obtain rfl := orT h20 hb21
              refine QJ.off rfl rfl (cB hb21) rfl rfl ?_
              refine QJ.off rfl rfl (cB hb21) rfl rfl ?_
              refine QJ.off rfl rfl (cB hb21) rfl rfl ?_
              refine QJ.off rfl rfl (cB hb21) rfl rfl ?_
              refine QJ.off rfl rfl (cB hb21) rfl rfl ?_
              refine QJ.off rfl rfl (cB hb21) rfl rfl ?_
              refine QJ.step (YldS.yld (y_pick_t (cB hb21) rfl)) rfl ?_
              exact QJ.cut_end ⟨rfl, rfl, rfl, rfl, rfl, trivial⟩
            · replace h20 := orF h20 hb21
              refine QJ.on rfl rfl (cB hb21) (YldS.yld (y_move rfl)) rfl ?_
              refine QJ.on rfl rfl (cB hb21) (YldS.yld (y_nil rfl)) rfl ?_
              refine QJ.on rfl rfl (cB hb21) (YldS.yld (y_fld (ad := ad12) fld38_1 rfl)) rfl ?_
              refine QJ.on rfl rfl (cB hb21) (YldS.yld (y_load1 (v := str e10.letters) Try.isAgg9 (ha13.sub 1 1) St.frozenC rfl)) rfl ?_
              obtain ⟨r22, h23, h20⟩ := bindS h20
              refine QJ.on rfl rfl (cB hb21) (y_call Try.call97 rfl (RetG.quiet fun w hw => ok_s_l02Text h23 w )) rfl ?_
              refine QJ.on rfl rfl (cB hb21) (YldS.yld (y_not rfl)) rfl ?_
              refine QJ.step (YldS.yld (y_pick_f (cB hb21) rfl)) rfl ?_
              obtain rfl := Option.some.inj h20
              exact QJ.cut_end ⟨rfl, rfl, rfl, rfl, rfl, trivial⟩
          refine QJ.step (YldS.yld (y_move rfl)) rfl ?_
          obtain ⟨t24, h25, hm⟩ := bindS hm
          refine QJ.cut 9 [(0, v2), (3, .int .i64 (List.length list1 : Int)), (4, .int .i64 i6), (5, .pointer (some ad12)), (42, .bool t24)] ?_ ?_
          · rcases Bool.eq_false_or_eq_true t19 with hb26 | hb26
            · obtain rfl := orT h25 hb26
              refine QJ.off rfl rfl (cB hb26) rfl rfl ?_
              refine QJ.off rfl rfl (cB hb26) rfl rfl ?_
              refine QJ.off rfl rfl (cB hb26) rfl rfl ?_
              refine QJ.off rfl rfl (cB hb26) rfl rfl ?_
              refine QJ.off rfl rfl (cB hb26) rfl rfl ?_
              refine QJ.off rfl rfl (cB hb26) rfl rfl ?_
              refine QJ.off rfl rfl (cB hb26) rfl rfl ?_
              refine QJ.off rfl rfl (cB hb26) rfl rfl ?_
              refine QJ.step (YldS.yld (y_pick_t (cB hb26) rfl)) rfl ?_
              exact QJ.cut_end ⟨rfl, rfl, rfl, rfl, rfl, trivial⟩
            · replace h25 := orF h25 hb26
              refine QJ.on rfl rfl (cB hb26) (YldS.yld (y_move rfl)) rfl ?_
              refine QJ.on rfl rfl (cB hb26) (YldS.yld (y_nil rfl)) rfl ?_
              refine QJ.on rfl rfl (cB hb26) (YldS.yld (y_fld (ad := ad12) fld38_2 rfl)) rfl ?_
              refine QJ.on rfl rfl (cB hb26) (YldS.yld (y_load1 (v := v15) Try.isAgg27 (ha13.sub 2 1) St.frozenC rfl)) rfl ?_
              refine QJ.on rfl rfl (cB hb26) (YldS.yld (y_move rfl)) rfl ?_
              refine QJ.on rfl rfl (cB hb26) (YldS.yld (y_bin rfl rfl rfl)) rfl ?_
              obtain ⟨r27, h28, h25⟩ := bindS h25
              refine QJ.on rfl rfl (cB hb26) (y_call Try.call74 rfl (RetG.quiet fun w hw => ok_s_l00Rises h28 w _ (hr16.st hw))) rfl ?_
              refine QJ.on rfl rfl (cB hb26) (YldS.yld (y_not rfl)) rfl ?_
              refine QJ.step (YldS.yld (y_pick_f (cB hb26) rfl)) rfl ?_
              obtain rfl := Option.some.inj h25
              exact QJ.cut_end ⟨rfl, rfl, rfl, rfl, rfl, trivial⟩
          refine QJ.step (YldS.yld (y_move rfl)) rfl ?_
          obtain ⟨t29, h30, hm⟩ := bindS hm
          refine QJ.cut 7 [(0, v2), (3, .int .i64 (List.length list1 : Int)), (4, .int .i64 i6), (5, .pointer (some ad12)), (50, .bool t29)] ?_ ?_
          · rcases Bool.eq_false_or_eq_true t24 with hb31 | hb31
            · obtain rfl := orT h30 hb31
              refine QJ.off rfl rfl (cB hb31) rfl rfl ?_
              refine QJ.off rfl rfl (cB hb31) rfl rfl ?_
              refine QJ.off rfl rfl (cB hb31) rfl rfl ?_
              refine QJ.off rfl rfl (cB hb31) rfl rfl ?_
              refine QJ.off rfl rfl (cB hb31) rfl rfl ?_
              refine QJ.off rfl rfl (cB hb31) rfl rfl ?_
              refine QJ.step (YldS.yld (y_pick_t (cB hb31) rfl)) rfl ?_
              exact QJ.cut_end ⟨rfl, rfl, rfl, rfl, rfl, trivial⟩
            · replace h30 := orF h30 hb31
              refine QJ.on rfl rfl (cB hb31) (YldS.yld (y_move rfl)) rfl ?_
              refine QJ.on rfl rfl (cB hb31) (YldS.yld (y_nil rfl)) rfl ?_
              refine QJ.on rfl rfl (cB hb31) (YldS.yld (y_fld (ad := ad12) fld38_2 rfl)) rfl ?_
              refine QJ.on rfl rfl (cB hb31) (YldS.yld (y_load1 (v := v15) Try.isAgg27 (ha13.sub 2 1) St.frozenC rfl)) rfl ?_
              refine QJ.on rfl rfl (cB hb31) (YldS.yld (y_move rfl)) rfl ?_
              obtain ⟨r32, h33, h30⟩ := bindS h30
              refine QJ.on rfl rfl (cB hb31) (y_call Try.call75 rfl (RetG.quiet fun w hw => ok_s_l00Has h33 w _ (hr16.st hw))) rfl ?_
              refine QJ.step (YldS.yld (y_pick_f (cB hb31) rfl)) rfl ?_
              obtain rfl := Option.some.inj h30
              exact QJ.cut_end ⟨rfl, rfl, rfl, rfl, rfl, trivial⟩
          refine QJ.step (YldS.yld (y_move rfl)) rfl ?_
          obtain ⟨t34, h35, hm⟩ := bindS hm
          refine QJ.cut 7 [(0, v2), (3, .int .i64 (List.length list1 : Int)), (4, .int .i64 i6), (5, .pointer (some ad12)), (58, .bool t34)] ?_ ?_
          · rcases Bool.eq_false_or_eq_true t29 with hb36 | hb36
            · obtain rfl := orT h35 hb36
              refine QJ.off rfl rfl (cB hb36) rfl rfl ?_
              refine QJ.off rfl rfl (cB hb36) rfl rfl ?_
              refine QJ.off rfl rfl (cB hb36) rfl rfl ?_
              refine QJ.off rfl rfl (cB hb36) rfl rfl ?_
              refine QJ.off rfl rfl (cB hb36) rfl rfl ?_
              refine QJ.off rfl rfl (cB hb36) rfl rfl ?_
              refine QJ.step (YldS.yld (y_pick_t (cB hb36) rfl)) rfl ?_
              exact QJ.cut_end ⟨rfl, rfl, rfl, rfl, rfl, trivial⟩
            · replace h35 := orF h35 hb36
              refine QJ.on rfl rfl (cB hb36) (YldS.yld (y_move rfl)) rfl ?_
              refine QJ.on rfl rfl (cB hb36) (YldS.yld (y_nil rfl)) rfl ?_
              refine QJ.on rfl rfl (cB hb36) (YldS.yld (y_fld (ad := ad12) fld38_3 rfl)) rfl ?_
              refine QJ.on rfl rfl (cB hb36) (YldS.yld (y_load1 (v := .int .i64 e10.hours) Try.isAgg2 (ha13.sub 3 1) St.frozenC rfl)) rfl ?_
              obtain ⟨r37, h38, h35⟩ := bindS h35
              refine QJ.on rfl rfl (cB hb36) (y_call Try.call66 rfl (RetG.quiet fun w hw => ok_s_l00In h38 w )) rfl ?_
              refine QJ.on rfl rfl (cB hb36) (YldS.yld (y_not rfl)) rfl ?_
              refine QJ.step (YldS.yld (y_pick_f (cB hb36) rfl)) rfl ?_
              obtain rfl := Option.some.inj h35
              exact QJ.cut_end ⟨rfl, rfl, rfl, rfl, rfl, trivial⟩
          refine QJ.done ?_
          refine PJ.next ?_
          refine WJ.cond (t := t34) rfl (fun hb39 => ?_) (fun hb39 => ?_)
          · replace hm := ifT hm hb39
            refine WJ.seq ?_
            refine WJ.quiet ?_
            refine QJ.step (YldS.yld (y_assign rfl)) rfl ?_
            refine QJ.done ?_
            refine PJ.next ?_
            refine WJ.ret ?_
            refine PJ.then_ret (PJ.block_ret (PJ.then_ret (PJ.then_ret (PJ.block_ret (PJ.then_ret ?_)))))
            obtain rfl := Option.some.inj hm
            refine PJ.sel (L' := []) [] ⟨List.nodup_nil, rfl⟩ ?_
            exact PJ.retn (vs := [.bool false]) Try.results73 ⟨rfl, trivial⟩ ⟨rfl, rfl⟩
          · replace hm := ifF hm hb39
            refine WJ.skip ?_
            refine PJ.next ?_
            obtain ⟨kj40, hk41, hm⟩ := withK_open hm
            refine WJ.join (X := Unit) (fun (_ : Unit) => kj40  = some r) (fun (_ : Unit) => [(0, v2), (3, .int .i64 (List.length list1 : Int)), (4, .int .i64 i6), (5, .pointer (some ad12))]) (fun (_ : Unit) => []) ?_ ?_
            · clear hk41
              refine WJ.seq ?_
              refine WJ.quiet ?_
              refine QJ.step (YldS.yld (y_assign rfl)) rfl ?_
              refine QJ.done ?_
              refine PJ.next ?_
              refine WJ.block ?_
              refine WJ.sel (L' := (fun (x : Int) => []) 1) [] ⟨List.nodup_nil, rfl⟩ ?_
              refine WJ.sub (m' := (fun (x : Int) => [(0, v2), (3, .int .i64 (List.length list1 : Int)), (4, .int .i64 i6), (5, .pointer (some ad12)), (6, .int .i64 x)]) 1) ⟨rfl, rfl, rfl, rfl, rfl, trivial⟩ ?_
              refine WJ.loop (X := Int) (fun N (x : Int) => s_l18Ok_l2 kj40 e10 N x = some r) (fun (x : Int) => [(0, v2), (3, .int .i64 (List.length list1 : Int)), (4, .int .i64 i6), (5, .pointer (some ad12)), (6, .int .i64 x)]) (fun (x : Int) => []) ?_ N 1 hm
              · rintro N k42 hI
                have hm := hI; clear hI
                cases N with
                | zero => cases hm
                | succ N =>
                unfold s_l18Ok_l2 at hm
                refine WJ.seq ?_
                refine WJ.seq ?_
                refine WJ.quiet ?_
                refine QJ.step (YldS.yld (y_move rfl)) rfl ?_
                refine QJ.step (YldS.yld (y_move rfl)) rfl ?_
                refine QJ.step (YldS.yld (y_nil rfl)) rfl ?_
                refine QJ.step (YldS.yld (y_fld (ad := ad12) fld38_1 rfl)) rfl ?_
                refine QJ.step (YldS.yld (y_load1 (v := str e10.letters) Try.isAgg9 (ha13.sub 1 1) St.frozenC rfl)) rfl ?_
                refine QJ.step (YldS.yld (y_lenStr Try.runUnderlying9 rfl)) rfl ?_
                refine QJ.step (YldS.yld (y_bin rfl rfl rfl)) rfl ?_
                refine QJ.done ?_
                refine PJ.next ?_
                refine WJ.cond (t := decide (k42 < (List.length e10.letters : Int))) rfl (fun hb43 => ?_) (fun hb43 => ?_)
                · replace hm := ifT hm hb43
                  refine WJ.skip ?_
                  refine PJ.next ?_
                  refine WJ.seq ?_
                  refine WJ.block ?_
                  refine WJ.seq ?_
                  refine WJ.quiet_draw follows (by kernel_rfl) ?_
                  refine QJ.step (YldS.yld (y_move rfl)) rfl ?_
                  refine QJ.step (YldS.yld (y_nil rfl)) rfl ?_
                  refine QJ.step (YldS.yld (y_fld (ad := ad12) fld38_1 rfl)) rfl ?_
                  refine QJ.step (YldS.yld (y_load1 (v := str e10.letters) Try.isAgg9 (ha13.sub 1 1) St.frozenC rfl)) rfl ?_
                  refine QJ.step (YldS.yld (y_move rfl)) rfl ?_
                  refine QJ.step (YldS.yld (y_bin rfl rfl rfl)) rfl ?_
                  obtain ⟨c44, h45, hm⟩ := bindS hm
                  refine QJ.step (YldS.yld (y_idxStr Try.runUnderlying9 rfl rfl h45)) rfl ?_
                  refine QJ.step (YldS.yld (y_move rfl)) rfl ?_
                  refine QJ.step (YldS.yld (y_nil rfl)) rfl ?_
                  refine QJ.step (YldS.yld (y_fld (ad := ad12) fld38_1 rfl)) rfl ?_
                  refine QJ.step (YldS.yld (y_load1 (v := str e10.letters) Try.isAgg9 (ha13.sub 1 1) St.frozenC rfl)) rfl ?_
                  refine QJ.step (YldS.yld (y_move rfl)) rfl ?_
                  obtain ⟨c46, h47, hm⟩ := bindS hm
                  refine QJ.step (YldS.yld (y_idxStr Try.runUnderlying9 rfl rfl h47)) rfl ?_
                  refine QJ.step (YldS.yld (y_bin8 c44 c46 rfl rfl rfl)) rfl ?_
                  refine QJ.done ?_
                  refine PJ.next ?_
                  refine WJ.cond (t := decide (c44 ≥ c46)) rfl (fun hb48 => ?_) (fun hb48 => ?_)
                  · replace hm := ifT hm hb48
                    refine WJ.seq ?_
                    refine WJ.quiet ?_
                    refine QJ.step (YldS.yld (y_assign rfl)) rfl ?_
                    refine QJ.done ?_
                    refine PJ.next ?_
                    refine WJ.ret ?_
                    refine PJ.block_ret (PJ.then_ret (PJ.then_ret (PJ.block_ret (PJ.then_ret (PJ.block_ret (PJ.then_ret (PJ.then_ret (PJ.block_ret (PJ.then_ret ?_)))))))))
                    obtain rfl := Option.some.inj hm
                    refine PJ.sel (L' := []) [] ⟨List.nodup_nil, rfl⟩ ?_
                    exact PJ.retn (vs := [.bool false]) Try.results73 ⟨rfl, trivial⟩ ⟨rfl, rfl⟩
                  · replace hm := ifF hm hb48
                    refine WJ.skip ?_
                    refine PJ.block_normal (PJ.next ?_)
                    refine WJ.quiet ?_
                    refine QJ.step (YldS.yld (y_move rfl)) rfl ?_
                    refine QJ.step (YldS.yld (y_bin rfl rfl rfl)) rfl ?_
                    refine QJ.step (YldS.yld (y_assign rfl)) rfl ?_
                    refine QJ.done ?_
                    exact PJ.round (w64 (k42 + 1)) [] hm ⟨rfl, rfl, rfl, rfl, rfl, trivial⟩ ⟨List.nodup_nil, rfl⟩
                · replace hm := ifF hm hb43
                  refine WJ.exit ?_
                  refine PJ.then_exit (PJ.then_exit (PJ.block_exit ?_))
                  exact PJ.joined () [] hm ⟨rfl, rfl, rfl, rfl, trivial⟩ ⟨List.nodup_nil, rfl⟩
            · rintro _ hm
              subst hk41
              refine WJ.seq ?_
              refine WJ.quiet ?_
              refine QJ.step (YldS.yld (y_assign rfl)) rfl ?_
              refine QJ.done ?_
              refine PJ.next ?_
              refine WJ.block ?_
              refine WJ.sel (L' := (fun (x : Int) => []) 0) [] ⟨List.nodup_nil, rfl⟩ ?_
              refine WJ.sub (m' := (fun (x : Int) => [(0, v2), (3, .int .i64 (List.length list1 : Int)), (4, .int .i64 i6), (5, .pointer (some ad12)), (7, .int .i64 x)]) 0) ⟨rfl, rfl, rfl, rfl, rfl, trivial⟩ ?_
              refine WJ.loop (X := Int) (fun N (x : Int) => s_l18Ok_l3 kj8 list1 i6 e10 N x = some r) (fun (x : Int) => [(0, v2), (3, .int .i64 (List.length list1 : Int)), (4, .int .i64 i6), (5, .pointer (some ad12)), (7, .int .i64 x)]) (fun (x : Int) => []) ?_ N 0 hm
              · rintro N k49 hI
                have hm := hI; clear hI
                cases N with
                | zero => cases hm
                | succ N =>
                unfold s_l18Ok_l3 at hm
                refine WJ.seq ?_
                refine WJ.seq ?_
                refine WJ.quiet ?_
                refine QJ.step (YldS.yld (y_move rfl)) rfl ?_
                refine QJ.step (YldS.yld (y_move rfl)) rfl ?_
                refine QJ.step (YldS.yld (y_bin rfl rfl rfl)) rfl ?_
                refine QJ.done ?_
                refine PJ.next ?_
                refine WJ.cond (t := decide (k49 < i6)) rfl (fun hb50 => ?_) (fun hb50 => ?_)
                · replace hm := ifT hm hb50
                  refine WJ.skip ?_
                  refine PJ.next ?_
                  refine WJ.seq ?_
                  refine WJ.block ?_
                  refine WJ.seq ?_
                  refine WJ.quiet_draw follows (by kernel_rfl) ?_
                  refine QJ.step (YldS.yld (y_move rfl)) rfl ?_
                  refine QJ.step (YldS.yld (y_move rfl)) rfl ?_
                  obtain ⟨e51, h52, hm⟩ := bindS hm
                  obtain ⟨ad53, _, ⟨v56, rfl, hr57⟩, ha54, hy55⟩ := hr3.elem h52
                  refine QJ.step (YldS.yld (hy55 Try.runUnderlying24 Try.sizeOf38 rfl rfl)) rfl ?_
                  refine QJ.step (YldS.yld (y_fld (ad := ad53) fld38_0 rfl)) rfl ?_
                  refine QJ.step (YldS.yld (y_load1 (v := str e51.name) Try.isAgg9 (ha54.sub 0 1) St.frozenC rfl)) rfl ?_
                  refine QJ.step (YldS.yld (y_move rfl)) rfl ?_
                  refine QJ.step (YldS.yld (y_nil rfl)) rfl ?_
                  refine QJ.step (YldS.yld (y_fld (ad := ad12) fld38_0 rfl)) rfl ?_
                  refine QJ.step (YldS.yld (y_load1 (v := str e10.name) Try.isAgg9 (ha13.sub 0 1) St.frozenC rfl)) rfl ?_
                  refine QJ.step (YldS.yld (y_binS rfl rfl rfl)) rfl ?_
                  refine QJ.done ?_
                  refine PJ.next ?_
                  refine WJ.cond (t := (e51.name == e10.name)) rfl (fun hb58 => ?_) (fun hb58 => ?_)
                  · replace hm := ifT hm hb58
                    refine WJ.seq ?_
                    refine WJ.quiet ?_
                    refine QJ.step (YldS.yld (y_assign rfl)) rfl ?_
                    refine QJ.done ?_
                    refine PJ.next ?_
                    refine WJ.ret ?_
                    refine PJ.block_ret (PJ.then_ret (PJ.then_ret (PJ.block_ret (PJ.block_ret (PJ.then_ret (PJ.then_ret (PJ.block_ret (PJ.then_ret ?_))))))))
                    obtain rfl := Option.some.inj hm
                    refine PJ.sel (L' := []) [] ⟨List.nodup_nil, rfl⟩ ?_
                    exact PJ.retn (vs := [.bool false]) Try.results73 ⟨rfl, trivial⟩ ⟨rfl, rfl⟩
                  · replace hm := ifF hm hb58
                    refine WJ.skip ?_
                    refine PJ.block_normal (PJ.next ?_)
                    refine WJ.quiet ?_
                    refine QJ.step (YldS.yld (y_move rfl)) rfl ?_
                    refine QJ.step (YldS.yld (y_bin rfl rfl rfl)) rfl ?_
                    refine QJ.step (YldS.yld (y_assign rfl)) rfl ?_
                    refine QJ.done ?_
                    exact PJ.round (w64 (k49 + 1)) [] hm ⟨rfl, rfl, rfl, rfl, rfl, trivial⟩ ⟨List.nodup_nil, rfl⟩
                · replace hm := ifF hm hb50
                  refine WJ.exit ?_
                  refine PJ.then_exit (PJ.then_exit (PJ.block_exit (PJ.block_normal ?_)))
                  exact PJ.joined () [] hm ⟨rfl, rfl, rfl, trivial⟩ ⟨List.nodup_nil, rfl⟩
        · rintro _ hm
          subst hk9
          refine WJ.quiet ?_
          refine QJ.step (YldS.yld (y_move rfl)) rfl ?_
          refine QJ.step (YldS.yld (y_bin rfl rfl rfl)) rfl ?_
          refine QJ.step (YldS.yld (y_assign rfl)) rfl ?_
          refine QJ.done ?_
          exact PJ.round (w64 (i6 + 1)) [] hm ⟨rfl, rfl, rfl, trivial⟩ ⟨List.nodup_nil, rfl⟩
      · replace hm := ifF hm hb7
        refine WJ.exit ?_
        refine PJ.then_exit (PJ.then_exit (PJ.block_exit ?_))
        exact PJ.joined () [] hm ⟨rfl, trivial⟩ ⟨List.nodup_nil, rfl⟩
  · rintro _ hm
    subst hk5
    refine WJ.seq ?_
    refine WJ.quiet ?_
    refine QJ.step (YldS.yld (y_move rfl)) rfl ?_
    refine QJ.step (YldS.yld (y_bin rfl rfl rfl)) rfl ?_
    refine QJ.step (YldS.yld (y_assign rfl)) rfl ?_
    refine QJ.done ?_
    refine PJ.next ?_
    refine WJ.ret ?_
    obtain rfl := Option.some.inj hm
    refine PJ.sel (L' := []) [] ⟨List.nodup_nil, rfl⟩ ?_
    exact PJ.retn (vs := [.bool (decide ((List.length list1 : Int) ≤ 12))]) Try.results73 ⟨rfl, trivial⟩ ⟨rfl, rfl⟩

set_option maxRecDepth 100000 in
set_option maxHeartbeats 1000000 in
theorem ok_s_l18Taken {N : Nat} {list1 : List Lesson} {taken4 : List Int} {r : Int} (hm : s_l18Taken N list1 taken4 = some r) (w : World) (v2 : Value) (hr3 : RdS w (cx w).Fz v2 (shLesson.rp fI64.rp) list1) (v5 : Value) (hr6 : RdS w (cx w).Fz v5 fI64.rp taken4) :
    Calls Try.prog 37 #[v2, v5] w (Ret (cx w) (.int .i64 r)) := by
  unfold s_l18Taken at hm
  refine Calls.enter [v2, v5] Try.func37 rfl Try.ntmps37 rfl ?_
  refine WJ.seq ?_
  refine WJ.quiet ?_
  refine QJ.step (YldS.yld (y_assign rfl)) rfl ?_
  refine QJ.done ?_
  refine PJ.next ?_
  refine WJ.seq ?_
  refine WJ.seq ?_
  refine WJ.quiet ?_
  refine QJ.step (YldS.yld (y_move rfl)) rfl ?_
  obtain ⟨r7, h8, hm⟩ := bindS hm
  refine QJ.step (y_call Try.call73 rfl (RetG.quiet fun w hw => ok_s_l18Ok h8 w _ (hr3.st hw))) rfl ?_
  refine QJ.step (YldS.yld (y_not rfl)) rfl ?_
  refine QJ.done ?_
  refine PJ.next ?_
  refine WJ.cond (t := !r7) rfl (fun hb9 => ?_) (fun hb9 => ?_)
  · replace hm := ifT hm hb9
    refine WJ.seq ?_
    refine WJ.quiet ?_
    refine QJ.step (YldS.yld (y_assign rfl)) rfl ?_
    refine QJ.done ?_
    refine PJ.next ?_
    refine WJ.ret ?_
    refine PJ.then_ret ?_
    obtain rfl := Option.some.inj hm
    refine PJ.sel (L' := []) [] ⟨List.nodup_nil, rfl⟩ ?_
    exact PJ.retn (vs := [.int .i64 1]) Try.results37 ⟨rfl, trivial⟩ ⟨rfl, rfl⟩
  · replace hm := ifF hm hb9
    refine WJ.skip ?_
    refine PJ.next ?_
    refine WJ.seq ?_
    refine WJ.seq ?_
    refine WJ.quiet ?_
    refine QJ.step (YldS.yld (y_move rfl)) rfl ?_
    refine QJ.step (YldS.yld (y_move rfl)) rfl ?_
    refine QJ.step (YldS.yld (y_lenS Try.runUnderlying24 hr3 rfl)) rfl ?_
    refine QJ.step (YldS.yld (y_bin rfl rfl rfl)) rfl ?_
    obtain ⟨r10, h11, hm⟩ := bindS hm
    refine QJ.step (y_call Try.call74 rfl (RetG.quiet fun w hw => ok_s_l00Rises h11 w _ (hr6.st hw))) rfl ?_
    refine QJ.step (YldS.yld (y_not rfl)) rfl ?_
    refine QJ.done ?_
    refine PJ.next ?_
    refine WJ.cond (t := !r10) rfl (fun hb12 => ?_) (fun hb12 => ?_)
    · replace hm := ifT hm hb12
      refine WJ.seq ?_
      refine WJ.quiet ?_
      refine QJ.step (YldS.yld (y_assign rfl)) rfl ?_
      refine QJ.done ?_
      refine PJ.next ?_
      refine WJ.ret ?_
      refine PJ.then_ret ?_
      obtain rfl := Option.some.inj hm
      refine PJ.sel (L' := []) [] ⟨List.nodup_nil, rfl⟩ ?_
      exact PJ.retn (vs := [.int .i64 2]) Try.results37 ⟨rfl, trivial⟩ ⟨rfl, rfl⟩
    · replace hm := ifF hm hb12
      refine WJ.skip ?_
      refine PJ.next ?_
      refine WJ.seq ?_
      refine WJ.quiet ?_
      refine QJ.step (YldS.yld (y_assign rfl)) rfl ?_
      refine QJ.done ?_
      refine PJ.next ?_
      refine WJ.ret ?_
      obtain rfl := Option.some.inj hm
      refine PJ.sel (L' := []) [] ⟨List.nodup_nil, rfl⟩ ?_
      exact PJ.retn (vs := [.int .i64 0]) Try.results37 ⟨rfl, trivial⟩ ⟨rfl, rfl⟩

set_option maxRecDepth 100000 in
set_option maxHeartbeats 1000000 in
theorem ok_s_l00Text {N : Nat} {s1 : Str} {most2 : Int} {r : Bool} (hm : s_l00Text N s1 most2 = some r) (w : World)  :
    Calls Try.prog 38 #[str s1, .int .i64 most2] w (Ret (cx w) (.bool r)) := by
  unfold s_l00Text at hm
  refine Calls.enter [str s1, .int .i64 most2] Try.func38 rfl Try.ntmps38 rfl ?_
  refine WJ.seq ?_
  refine WJ.quiet ?_
  refine QJ.step (YldS.yld (y_assign rfl)) rfl ?_
  refine QJ.done ?_
  refine PJ.next ?_
  obtain ⟨kj3, hk4, hm⟩ := withK_open hm
  refine WJ.join (X := Unit) (fun (_ : Unit) => kj3  = some r) (fun (_ : Unit) => [(0, str s1), (1, .int .i64 most2)]) (fun (_ : Unit) => []) ?_ ?_
  · clear hk4
    refine WJ.seq ?_
    refine WJ.quiet ?_
    refine QJ.step (YldS.yld (y_assign rfl)) rfl ?_
    refine QJ.done ?_
    refine PJ.next ?_
    refine WJ.block ?_
    refine WJ.sel (L' := (fun (x : Int) => []) 0) [] ⟨List.nodup_nil, rfl⟩ ?_
    refine WJ.sub (m' := (fun (x : Int) => [(0, str s1), (1, .int .i64 most2), (5, .int .i64 x)]) 0) ⟨rfl, rfl, rfl, trivial⟩ ?_
    refine WJ.loop (X := Int) (fun N (x : Int) => s_l00Text_l1 kj3 s1 N x = some r) (fun (x : Int) => [(0, str s1), (1, .int .i64 most2), (5, .int .i64 x)]) (fun (x : Int) => []) ?_ N 0 hm
    · rintro N i5 hI
      have hm := hI; clear hI
      cases N with
      | zero => cases hm
      | succ N =>
      unfold s_l00Text_l1 at hm
      refine WJ.seq ?_
      refine WJ.seq ?_
      refine WJ.quiet ?_
      refine QJ.step (YldS.yld (y_move rfl)) rfl ?_
      refine QJ.step (YldS.yld (y_move rfl)) rfl ?_
      refine QJ.step (YldS.yld (y_lenStr Try.runUnderlying9 rfl)) rfl ?_
      refine QJ.step (YldS.yld (y_bin rfl rfl rfl)) rfl ?_
      refine QJ.done ?_
      refine PJ.next ?_
      refine WJ.cond (t := decide (i5 < (List.length s1 : Int))) rfl (fun hb6 => ?_) (fun hb6 => ?_)
      · replace hm := ifT hm hb6
        refine WJ.skip ?_
        refine PJ.next ?_
        refine WJ.seq ?_
        refine WJ.block ?_
        refine WJ.seq ?_
        refine WJ.quiet ?_
        refine QJ.step (YldS.yld (y_move rfl)) rfl ?_
        refine QJ.step (YldS.yld (y_move rfl)) rfl ?_
        obtain ⟨c7, h8, hm⟩ := bindS hm
        refine QJ.step (YldS.yld (y_idxStr Try.runUnderlying9 rfl rfl h8)) rfl ?_
        refine QJ.step (YldS.yld (y_bin8 c7 (32 : UInt8) rfl rfl rfl)) rfl ?_
        refine QJ.step (YldS.yld (y_move rfl)) rfl ?_
        obtain ⟨t9, h10, hm⟩ := bindS hm
        refine QJ.cut 5 [(0, str s1), (1, .int .i64 most2), (5, .int .i64 i5), (21, .bool t9)] ?_ ?_
        · rcases Bool.eq_false_or_eq_true (decide (c7 < (32 : UInt8))) with hb11 | hb11
          · obtain rfl := orT h10 hb11
            refine QJ.off rfl rfl (cB hb11) rfl rfl ?_
            refine QJ.off rfl rfl (cB hb11) rfl rfl ?_
            refine QJ.off rfl rfl (cB hb11) rfl rfl ?_
            refine QJ.off rfl rfl (cB hb11) rfl rfl ?_
            refine QJ.step (YldS.yld (y_pick_t (cB hb11) rfl)) rfl ?_
            exact QJ.cut_end ⟨rfl, rfl, rfl, rfl, trivial⟩
          · replace h10 := orF h10 hb11
            refine QJ.on rfl rfl (cB hb11) (YldS.yld (y_move rfl)) rfl ?_
            refine QJ.on rfl rfl (cB hb11) (YldS.yld (y_move rfl)) rfl ?_
            obtain ⟨c12, h13, h10⟩ := bindS h10
            refine QJ.on rfl rfl (cB hb11) (YldS.yld (y_idxStr Try.runUnderlying9 rfl rfl h13)) rfl ?_
            refine QJ.on rfl rfl (cB hb11) (YldS.yld (y_bin8 c12 (126 : UInt8) rfl rfl rfl)) rfl ?_
            refine QJ.step (YldS.yld (y_pick_f (cB hb11) rfl)) rfl ?_
            obtain rfl := Option.some.inj h10
            exact QJ.cut_end ⟨rfl, rfl, rfl, rfl, trivial⟩
        refine QJ.done ?_
        refine PJ.next ?_
        refine WJ.cond (t := t9) rfl (fun hb14 => ?_) (fun hb14 => ?_)
        · replace hm := ifT hm hb14
          refine WJ.seq ?_
          refine WJ.quiet ?_
          refine QJ.step (YldS.yld (y_assign rfl)) rfl ?_
          refine QJ.done ?_
          refine PJ.next ?_
          refine WJ.ret ?_
          refine PJ.block_ret (PJ.then_ret (PJ.then_ret (PJ.block_ret (PJ.then_ret ?_))))
          obtain rfl := Option.some.inj hm
          refine PJ.sel (L' := []) [] ⟨List.nodup_nil, rfl⟩ ?_
          exact PJ.retn (vs := [.bool false]) Try.results38 ⟨rfl, trivial⟩ ⟨rfl, rfl⟩
        · replace hm := ifF hm hb14
          refine WJ.skip ?_
          refine PJ.block_normal (PJ.next ?_)
          refine WJ.quiet ?_
          refine QJ.step (YldS.yld (y_move rfl)) rfl ?_
          refine QJ.step (YldS.yld (y_bin rfl rfl rfl)) rfl ?_
          refine QJ.step (YldS.yld (y_assign rfl)) rfl ?_
          refine QJ.done ?_
          exact PJ.round (w64 (i5 + 1)) [] hm ⟨rfl, rfl, rfl, trivial⟩ ⟨List.nodup_nil, rfl⟩
      · replace hm := ifF hm hb6
        refine WJ.exit ?_
        refine PJ.then_exit (PJ.then_exit (PJ.block_exit ?_))
        exact PJ.joined () [] hm ⟨rfl, rfl, trivial⟩ ⟨List.nodup_nil, rfl⟩
  · rintro _ hm
    subst hk4
    refine WJ.seq ?_
    refine WJ.quiet ?_
    refine QJ.step (YldS.yld (y_move rfl)) rfl ?_
    refine QJ.step (YldS.yld (y_lenStr Try.runUnderlying9 rfl)) rfl ?_
    refine QJ.step (YldS.yld (y_move rfl)) rfl ?_
    refine QJ.step (YldS.yld (y_bin rfl rfl rfl)) rfl ?_
    refine QJ.step (YldS.yld (y_assign rfl)) rfl ?_
    refine QJ.done ?_
    refine PJ.next ?_
    refine WJ.ret ?_
    obtain rfl := Option.some.inj hm
    refine PJ.sel (L' := []) [] ⟨List.nodup_nil, rfl⟩ ?_
    exact PJ.retn (vs := [.bool (decide ((List.length s1 : Int) ≤ most2))]) Try.results38 ⟨rfl, trivial⟩ ⟨rfl, rfl⟩

set_option maxRecDepth 100000 in
set_option maxHeartbeats 1000000 in
theorem ok_s_l00Own {list1 : List Int} {r : (List Int)} (hm : s_l00Own list1 = some r) (w : World) (v2 : Value) (hr3 : RdS w (cx w).Fz v2 fI64.rp list1) :
    Calls Try.prog 77 #[v2] w (RetG (cx w) fun u L => ∃ (u1 : Value), (u = u1 ∧ L = [row u1 2 fI64 r])) := by
  unfold s_l00Own at hm
  refine Calls.enter [v2] Try.func77 rfl Try.ntmps77 rfl ?_
  refine WJ.seq ?_
  refine WJ.quiet ?_
  refine QJ.step (YldS.yld (y_assign rfl)) rfl ?_
  refine QJ.done ?_
  refine PJ.next ?_
  refine WJ.seq ?_
  refine WJ.reg ?_
  refine SJ.buildSlice (R := fI64) (os := []) [] Try.runUnderlying27 Try.sizeOf2 Try.zeroValue2 rfl rfl rfl rfl rfl rfl fun v4 => ?_
  refine SJ.q (YldS.yld (y_move rfl)) rfl ?_
  obtain ⟨l5, h6, hm⟩ := bindS hm
  refine SJ.append (k := 0) (R := fI64) h6 rfl Try.underlying27 el2 rfl rfl rfl (fun w hw => (hr3.st hw)) rfl fun v7 => ?_
  refine SJ.q (YldS.yld (y_assign rfl)) rfl ?_
  refine SJ.nil ?_
  refine PJ.next ?_
  refine WJ.ret ?_
  obtain rfl := Option.some.inj hm
  refine PJ.sel (L' := [row v7 2 fI64 l5]) [0] ⟨by decide, rfl⟩ ?_
  exact PJ.retn (vs := [v7]) Try.results77 ⟨rfl, trivial⟩ ⟨_, rfl, rfl⟩

set_option maxRecDepth 100000 in
set_option maxHeartbeats 1000000 in
theorem ok_s_l00Put {N : Nat} {list1 : List Int} {n4 : Int} {r : (List Int)} (hm : s_l00Put N list1 n4 = some r) (w : World) (v2 : Value) (hr3 : RdS w (cx w).Fz v2 fI64.rp list1) :
    Calls Try.prog 78 #[v2, .int .i64 n4] w (RetG (cx w) fun u L => ∃ (u1 : Value), (u = u1 ∧ L = [row u1 2 fI64 r])) := by
  unfold s_l00Put at hm
  refine Calls.enter [v2, .int .i64 n4] Try.func78 rfl Try.ntmps78 rfl ?_
  refine WJ.seq ?_
  refine WJ.quiet ?_
  refine QJ.step (YldS.yld (y_assign rfl)) rfl ?_
  refine QJ.done ?_
  refine PJ.next ?_
  refine WJ.seq ?_
  refine WJ.reg ?_
  refine SJ.buildSlice (R := fI64) (os := []) [] Try.runUnderlying27 Try.sizeOf2 Try.zeroValue2 rfl rfl rfl rfl rfl rfl fun v5 => ?_
  refine SJ.q (YldS.yld (y_assign rfl)) rfl ?_
  refine SJ.nil ?_
  refine PJ.next ?_
  refine WJ.seq ?_
  refine WJ.quiet ?_
  refine QJ.step (YldS.yld (y_assign rfl)) rfl ?_
  refine QJ.done ?_
  refine PJ.next ?_
  obtain ⟨kj9, hk10, hm⟩ := withK_open hm
  refine WJ.join (X := (List Int) × Value × Bool) (fun (x : (List Int) × Value × Bool) => kj9 x.1 x.2.2 = some r) (fun (x : (List Int) × Value × Bool) => [(1, .int .i64 n4), (5, x.2.1), (6, .bool x.2.2)]) (fun (x : (List Int) × Value × Bool) => [row x.2.1 2 fI64 x.1]) ?_ ?_
  · clear hk10
    refine WJ.seq ?_
    refine WJ.quiet ?_
    refine QJ.step (YldS.yld (y_assign rfl)) rfl ?_
    refine QJ.done ?_
    refine PJ.next ?_
    refine WJ.block ?_
    refine WJ.sel (L' := (fun (x : (List Int) × Value × Bool × Int) => [row x.2.1 2 fI64 x.1]) ([], v5, false, 0)) [0] ⟨by decide, rfl⟩ ?_
    refine WJ.sub (m' := (fun (x : (List Int) × Value × Bool × Int) => [(0, v2), (1, .int .i64 n4), (5, x.2.1), (6, .bool x.2.2.1), (7, .int .i64 x.2.2.2)]) ([], v5, false, 0)) ⟨rfl, rfl, rfl, rfl, rfl, trivial⟩ ?_
    refine WJ.loop (X := (List Int) × Value × Bool × Int) (fun N (x : (List Int) × Value × Bool × Int) => s_l00Put_l1 kj9 list1 n4 N x.1 x.2.2.1 x.2.2.2 = some r) (fun (x : (List Int) × Value × Bool × Int) => [(0, v2), (1, .int .i64 n4), (5, x.2.1), (6, .bool x.2.2.1), (7, .int .i64 x.2.2.2)]) (fun (x : (List Int) × Value × Bool × Int) => [row x.2.1 2 fI64 x.1]) ?_ N ([], v5, false, 0) hm
    · rintro N ⟨l11, v12, done13, i14⟩ hI
      have hm := hI; clear hI
      cases N with
      | zero => cases hm
      | succ N =>
      unfold s_l00Put_l1 at hm
      refine WJ.seq ?_
      refine WJ.seq ?_
      refine WJ.quiet ?_
      refine QJ.step (YldS.yld (y_move rfl)) rfl ?_
      refine QJ.step (YldS.yld (y_move rfl)) rfl ?_
      refine QJ.step (YldS.yld (y_lenS Try.runUnderlying27 hr3 rfl)) rfl ?_
      refine QJ.step (YldS.yld (y_bin rfl rfl rfl)) rfl ?_
      refine QJ.done ?_
      refine PJ.next ?_
      refine WJ.cond (t := decide (i14 < (List.length list1 : Int))) rfl (fun hb15 => ?_) (fun hb15 => ?_)
      · replace hm := ifT hm hb15
        refine WJ.skip ?_
        refine PJ.next ?_
        refine WJ.seq ?_
        refine WJ.block ?_
        obtain ⟨kj19, hk20, hm⟩ := withK_open hm
        refine WJ.join (X := (List Int) × Value × Bool) (fun (x : (List Int) × Value × Bool) => kj19 x.1 x.2.2 = some r) (fun (x : (List Int) × Value × Bool) => [(0, v2), (1, .int .i64 n4), (5, x.2.1), (6, .bool x.2.2), (7, .int .i64 i14)]) (fun (x : (List Int) × Value × Bool) => [row x.2.1 2 fI64 x.1]) ?_ ?_
        · clear hk20
          refine WJ.seq ?_
          refine WJ.quiet ?_
          refine QJ.step (YldS.yld (y_move rfl)) rfl ?_
          refine QJ.step (YldS.yld (y_not rfl)) rfl ?_
          refine QJ.step (YldS.yld (y_move rfl)) rfl ?_
          obtain ⟨t21, h22, hm⟩ := bindS hm
          refine QJ.cut 7 [(0, v2), (1, .int .i64 n4), (5, v12), (6, .bool done13), (7, .int .i64 i14), (24, .bool t21)] ?_ ?_
          · rcases Bool.eq_false_or_eq_true (!done13) with hb23 | hb23
            · replace h22 := andT h22 hb23
              refine QJ.on rfl rfl (cB hb23) (YldS.yld (y_move rfl)) rfl ?_
              refine QJ.on rfl rfl (cB hb23) (YldS.yld (y_move rfl)) rfl ?_
              obtain ⟨e24, h25, h22⟩ := bindS h22
              obtain ⟨ad26, _, rfl, ha27, hy28⟩ := hr3.elem h25
              refine QJ.on rfl rfl (cB hb23) (YldS.yld (hy28 Try.runUnderlying27 Try.sizeOf2 rfl rfl)) rfl ?_
              refine QJ.on rfl rfl (cB hb23) (YldS.yld (y_load1 (v := .int .i64 e24) Try.isAgg2 ha27 St.frozenC rfl)) rfl ?_
              refine QJ.on rfl rfl (cB hb23) (YldS.yld (y_move rfl)) rfl ?_
              refine QJ.on rfl rfl (cB hb23) (YldS.yld (y_bin rfl rfl rfl)) rfl ?_
              refine QJ.step (YldS.yld (y_pick_t (cB hb23) rfl)) rfl ?_
              obtain rfl := Option.some.inj h22
              exact QJ.cut_end ⟨rfl, rfl, rfl, rfl, rfl, rfl, trivial⟩
            · obtain rfl := andF h22 hb23
              refine QJ.off rfl rfl (cB hb23) rfl rfl ?_
              refine QJ.off rfl rfl (cB hb23) rfl rfl ?_
              refine QJ.off rfl rfl (cB hb23) rfl rfl ?_
              refine QJ.off rfl rfl (cB hb23) rfl rfl ?_
              refine QJ.off rfl rfl (cB hb23) rfl rfl ?_
              refine QJ.off rfl rfl (cB hb23) rfl rfl ?_
              refine QJ.step (YldS.yld (y_pick_f (cB hb23) rfl)) rfl ?_
              exact QJ.cut_end ⟨rfl, rfl, rfl, rfl, rfl, rfl, trivial⟩
          refine QJ.done ?_
          refine PJ.next ?_
          refine WJ.cond (t := t21) rfl (fun hb29 => ?_) (fun hb29 => ?_)
          · replace hm := ifT hm hb29
            refine WJ.seq ?_
            refine WJ.quiet ?_
            refine QJ.step (YldS.yld (y_assign rfl)) rfl ?_
            refine QJ.done ?_
            refine PJ.next ?_
            refine WJ.seq ?_
            refine WJ.quiet ?_
            refine QJ.step (YldS.yld (y_move rfl)) rfl ?_
            refine QJ.step (YldS.yld (y_move rfl)) rfl ?_
            obtain ⟨e30, h31, hm⟩ := bindS hm
            obtain ⟨ad32, _, rfl, ha33, hy34⟩ := hr3.elem h31
            refine QJ.step (YldS.yld (hy34 Try.runUnderlying27 Try.sizeOf2 rfl rfl)) rfl ?_
            refine QJ.step (YldS.yld (y_load1 (v := .int .i64 e30) Try.isAgg2 ha33 St.frozenC rfl)) rfl ?_
            refine QJ.step (YldS.yld (y_move rfl)) rfl ?_
            refine QJ.step (YldS.yld (y_bin rfl rfl rfl)) rfl ?_
            refine QJ.done ?_
            refine PJ.next ?_
            refine WJ.cond (t := decide (e30 > n4)) rfl (fun hb35 => ?_) (fun hb35 => ?_)
            · replace hm := ifT hm hb35
              refine WJ.reg ?_
              refine SJ.q (YldS.yld (y_move rfl)) rfl ?_
              refine SJ.q (YldS.yld (y_move rfl)) rfl ?_
              refine SJ.buildSlice (R := fI64) (os := [.tmp 32]) [n4] Try.runUnderlying27 Try.sizeOf2 Try.zeroValue2 rfl rfl rfl rfl rfl rfl fun v36 => ?_
              obtain ⟨l37, h38, hm⟩ := bindS hm
              refine SJ.append (k := 1) (R := fI64) h38 rfl Try.underlying27 el2 rfl rfl rfl (fun w hw => (hw.row_rd (k := 0) rfl)) rfl fun v39 => ?_
              refine SJ.q (YldS.yld (y_assign rfl)) rfl ?_
              refine SJ.nil ?_
              exact PJ.joined (l37, v39, true) [1] hm ⟨rfl, rfl, rfl, rfl, rfl, trivial⟩ ⟨by decide, rfl⟩
            · replace hm := ifF hm hb35
              refine WJ.skip ?_
              exact PJ.joined (l11, v12, true) [0] hm ⟨rfl, rfl, rfl, rfl, rfl, trivial⟩ ⟨by decide, rfl⟩
          · replace hm := ifF hm hb29
            refine WJ.skip ?_
            exact PJ.joined (l11, v12, done13) [0] hm ⟨rfl, rfl, rfl, rfl, rfl, trivial⟩ ⟨by decide, rfl⟩
        · rintro ⟨l16, v17, done18⟩ hm
          subst hk20
          refine WJ.reg ?_
          refine SJ.q (YldS.yld (y_move rfl)) rfl ?_
          refine SJ.q (YldS.yld (y_move rfl)) rfl ?_
          refine SJ.q (YldS.yld (y_move rfl)) rfl ?_
          obtain ⟨e40, h41, hm⟩ := bindS hm
          obtain ⟨ad42, _, rfl, ha43, hy44⟩ := hr3.elem h41
          refine SJ.q (YldS.yld (hy44 Try.runUnderlying27 Try.sizeOf2 rfl rfl)) rfl ?_
          refine SJ.q (YldS.yld (y_load1 (v := .int .i64 e40) Try.isAgg2 ha43 St.frozenC rfl)) rfl ?_
          refine SJ.buildSlice (R := fI64) (os := [.tmp 39]) [e40] Try.runUnderlying27 Try.sizeOf2 Try.zeroValue2 rfl rfl rfl rfl rfl rfl fun v45 => ?_
          obtain ⟨l46, h47, hm⟩ := bindS hm
          refine SJ.append (k := 1) (R := fI64) h47 rfl Try.underlying27 el2 rfl rfl rfl (fun w hw => (hw.row_rd (k := 0) rfl)) rfl fun v48 => ?_
          refine SJ.q (YldS.yld (y_assign rfl)) rfl ?_
          refine SJ.nil ?_
          refine PJ.block_normal (PJ.next ?_)
          refine WJ.quiet ?_
          refine QJ.step (YldS.yld (y_move rfl)) rfl ?_
          refine QJ.step (YldS.yld (y_bin rfl rfl rfl)) rfl ?_
          refine QJ.step (YldS.yld (y_assign rfl)) rfl ?_
          refine QJ.done ?_
          exact PJ.round (l46, v48, done18, w64 (i14 + 1)) [1] hm ⟨rfl, rfl, rfl, rfl, rfl, trivial⟩ ⟨by decide, rfl⟩
      · replace hm := ifF hm hb15
        refine WJ.exit ?_
        refine PJ.then_exit (PJ.then_exit (PJ.block_exit ?_))
        exact PJ.joined (l11, v12, done13) [0] hm ⟨rfl, rfl, rfl, trivial⟩ ⟨by decide, rfl⟩
  · rintro ⟨l6, v7, done8⟩ hm
    subst hk10
    obtain ⟨kj51, hk52, hm⟩ := withK_open hm
    refine WJ.join (X := (List Int) × Value) (fun (x : (List Int) × Value) => kj51 x.1 = some r) (fun (x : (List Int) × Value) => [(5, x.2)]) (fun (x : (List Int) × Value) => [row x.2 2 fI64 x.1]) ?_ ?_
    · clear hk52
      refine WJ.seq ?_
      refine WJ.quiet ?_
      refine QJ.step (YldS.yld (y_move rfl)) rfl ?_
      refine QJ.step (YldS.yld (y_not rfl)) rfl ?_
      refine QJ.done ?_
      refine PJ.next ?_
      refine WJ.cond (t := !done8) rfl (fun hb53 => ?_) (fun hb53 => ?_)
      · replace hm := ifT hm hb53
        refine WJ.reg ?_
        refine SJ.q (YldS.yld (y_move rfl)) rfl ?_
        refine SJ.q (YldS.yld (y_move rfl)) rfl ?_
        refine SJ.buildSlice (R := fI64) (os := [.tmp 45]) [n4] Try.runUnderlying27 Try.sizeOf2 Try.zeroValue2 rfl rfl rfl rfl rfl rfl fun v54 => ?_
        obtain ⟨l55, h56, hm⟩ := bindS hm
        refine SJ.append (k := 1) (R := fI64) h56 rfl Try.underlying27 el2 rfl rfl rfl (fun w hw => (hw.row_rd (k := 0) rfl)) rfl fun v57 => ?_
        refine SJ.q (YldS.yld (y_assign rfl)) rfl ?_
        refine SJ.nil ?_
        exact PJ.joined (l55, v57) [1] hm ⟨rfl, trivial⟩ ⟨by decide, rfl⟩
      · replace hm := ifF hm hb53
        refine WJ.skip ?_
        exact PJ.joined (l6, v7) [0] hm ⟨rfl, trivial⟩ ⟨by decide, rfl⟩
    · rintro ⟨l49, v50⟩ hm
      subst hk52
      refine WJ.seq ?_
      refine WJ.quiet ?_
      refine QJ.step (YldS.yld (y_move rfl)) rfl ?_
      refine QJ.step (YldS.yld (y_assign rfl)) rfl ?_
      refine QJ.done ?_
      refine PJ.next ?_
      refine WJ.ret ?_
      obtain rfl := Option.some.inj hm
      refine PJ.sel (L' := [row v50 2 fI64 l49]) [0] ⟨by decide, rfl⟩ ?_
      exact PJ.retn (vs := [v50]) Try.results78 ⟨rfl, trivial⟩ ⟨_, rfl, rfl⟩

set_option maxRecDepth 100000 in
set_option maxHeartbeats 1000000 in
theorem ok_s_l18All {N : Nat} {list1 : List Lesson} {some4 : List Int} {r : (List Int)} (hm : s_l18All N list1 some4 = some r) (w : World) (v2 : Value) (hr3 : RdS w (cx w).Fz v2 (shLesson.rp fI64.rp) list1) (v5 : Value) (hr6 : RdS w (cx w).Fz v5 fI64.rp some4) :
    Calls Try.prog 43 #[v2, v5] w (RetG (cx w) fun u L => ∃ (u1 : Value), (u = u1 ∧ L = [row u1 2 fI64 r])) := by
  unfold s_l18All at hm
  refine Calls.enter [v2, v5] Try.func43 rfl Try.ntmps43 rfl ?_
  refine WJ.seq ?_
  refine WJ.quiet ?_
  refine QJ.step (YldS.yld (y_assign rfl)) rfl ?_
  refine QJ.done ?_
  refine PJ.next ?_
  refine WJ.seq ?_
  refine WJ.reg ?_
  refine SJ.q (YldS.yld (y_move rfl)) rfl ?_
  obtain ⟨r7, h8, hm⟩ := bindS hm
  refine SJ.call Try.call77 rfl (fun w hw => ok_s_l00Own h8 w _ (hr6.st hw)) rfl ?_
  rintro v9 _ ⟨_, rfl, rfl⟩
  refine SJ.q (YldS.yld (y_assign rfl)) rfl ?_
  refine SJ.nil ?_
  refine PJ.next ?_
  obtain ⟨kj12, hk13, hm⟩ := withK_open hm
  refine WJ.join (X := (List Int) × Value) (fun (x : (List Int) × Value) => kj12 x.1 = some r) (fun (x : (List Int) × Value) => [(5, x.2)]) (fun (x : (List Int) × Value) => [row x.2 2 fI64 x.1]) ?_ ?_
  · clear hk13
    refine WJ.seq ?_
    refine WJ.quiet ?_
    refine QJ.step (YldS.yld (y_assign rfl)) rfl ?_
    refine QJ.done ?_
    refine PJ.next ?_
    refine WJ.block ?_
    refine WJ.sel (L' := (fun (x : (List Int) × Value × Int) => [row x.2.1 2 fI64 x.1]) (r7, v9, 0)) [0] ⟨by decide, rfl⟩ ?_
    refine WJ.sub (m' := (fun (x : (List Int) × Value × Int) => [(0, v2), (5, x.2.1), (6, .int .i64 x.2.2)]) (r7, v9, 0)) ⟨rfl, rfl, rfl, trivial⟩ ?_
    refine WJ.loop (X := (List Int) × Value × Int) (fun N (x : (List Int) × Value × Int) => s_l18All_l1 kj12 list1 N x.1 x.2.2 = some r) (fun (x : (List Int) × Value × Int) => [(0, v2), (5, x.2.1), (6, .int .i64 x.2.2)]) (fun (x : (List Int) × Value × Int) => [row x.2.1 2 fI64 x.1]) ?_ N (r7, v9, 0) hm
    · rintro N ⟨l14, v15, i16⟩ hI
      have hm := hI; clear hI
      cases N with
      | zero => cases hm
      | succ N =>
      unfold s_l18All_l1 at hm
      refine WJ.seq ?_
      refine WJ.seq ?_
      refine WJ.quiet ?_
      refine QJ.step (YldS.yld (y_move rfl)) rfl ?_
      refine QJ.step (YldS.yld (y_move rfl)) rfl ?_
      refine QJ.step (YldS.yld (y_lenRow (k := 0) rfl Try.runUnderlying27 rfl)) rfl ?_
      refine QJ.step (YldS.yld (y_bin rfl rfl rfl)) rfl ?_
      refine QJ.done ?_
      refine PJ.next ?_
      refine WJ.cond (t := decide (i16 < (List.length l14 : Int))) rfl (fun hb17 => ?_) (fun hb17 => ?_)
      · replace hm := ifT hm hb17
        refine WJ.skip ?_
        refine PJ.next ?_
        obtain ⟨kj21, hk22, hm⟩ := withK_open hm
        refine WJ.join (X := (List Int) × Value × Int) (fun (x : (List Int) × Value × Int) => kj21 x.1 x.2.2 = some r) (fun (x : (List Int) × Value × Int) => [(0, v2), (5, x.2.1), (6, .int .i64 x.2.2)]) (fun (x : (List Int) × Value × Int) => [row x.2.1 2 fI64 x.1]) ?_ ?_
        · clear hk22
          refine WJ.block ?_
          refine WJ.seq ?_
          refine WJ.quiet ?_
          refine QJ.step (YldS.yld (y_move rfl)) rfl ?_
          refine QJ.step (YldS.yld (y_move rfl)) rfl ?_
          refine QJ.step (YldS.yld (y_move rfl)) rfl ?_
          obtain ⟨e23, h24, hm⟩ := bindS hm
          refine QJ.step (YldS.yld (y_ixRow (k := 0) (R := fI64) rfl Try.runUnderlying27 Try.sizeOf2 rfl rfl h24)) rfl ?_
          refine QJ.step (YldS.yld (y_loadR (k := 0) (i := (Int.toNat i16)) (off := 0) (u := .int .i64 e23) rfl Try.isAgg2 rfl (idx_get h24) rfl)) rfl ?_
          obtain ⟨e25, h26, hm⟩ := bindS hm
          obtain ⟨ad27, _, ⟨v30, rfl, hr31⟩, ha28, hy29⟩ := hr3.elem h26
          refine QJ.step (YldS.yld (hy29 Try.runUnderlying24 Try.sizeOf38 rfl rfl)) rfl ?_
          refine QJ.step (YldS.yld (y_fld (ad := ad27) fld38_2 rfl)) rfl ?_
          refine QJ.step (YldS.yld (y_load1 (v := v30) Try.isAgg27 (ha28.sub 2 1) St.frozenC rfl)) rfl ?_
          refine QJ.step (YldS.yld (y_assign rfl)) rfl ?_
          refine QJ.done ?_
          refine PJ.next ?_
          refine WJ.seq ?_
          refine WJ.quiet ?_
          refine QJ.step (YldS.yld (y_assign rfl)) rfl ?_
          refine QJ.done ?_
          refine PJ.next ?_
          refine WJ.block ?_
          refine WJ.sel (L' := (fun (x : Int × Int) => [row v15 2 fI64 l14]) (i16, 0)) [0] ⟨by decide, rfl⟩ ?_
          refine WJ.sub (m' := (fun (x : Int × Int) => [(0, v2), (5, v15), (6, .int .i64 x.1), (7, v30), (8, .int .i64 x.2)]) (i16, 0)) ⟨rfl, rfl, rfl, rfl, rfl, trivial⟩ ?_
          refine WJ.loop (X := Int × Int) (fun N (x : Int × Int) => s_l18All_l2 kj21 l14 e25 N x.1 x.2 = some r) (fun (x : Int × Int) => [(0, v2), (5, v15), (6, .int .i64 x.1), (7, v30), (8, .int .i64 x.2)]) (fun (x : Int × Int) => [row v15 2 fI64 l14]) ?_ N (i16, 0) hm
          · rintro N ⟨i32, k33⟩ hI
            have hm := hI; clear hI
            cases N with
            | zero => cases hm
            | succ N =>
            unfold s_l18All_l2 at hm
            refine WJ.seq ?_
            refine WJ.seq ?_
            refine WJ.quiet ?_
            refine QJ.step (YldS.yld (y_move rfl)) rfl ?_
            refine QJ.step (YldS.yld (y_move rfl)) rfl ?_
            refine QJ.step (YldS.yld (y_lenS Try.runUnderlying27 hr31 rfl)) rfl ?_
            refine QJ.step (YldS.yld (y_bin rfl rfl rfl)) rfl ?_
            refine QJ.done ?_
            refine PJ.next ?_
            refine WJ.cond (t := decide (k33 < (List.length e25.needs : Int))) rfl (fun hb34 => ?_) (fun hb34 => ?_)
            · replace hm := ifT hm hb34
              refine WJ.skip ?_
              refine PJ.next ?_
              refine WJ.seq ?_
              refine WJ.block ?_
              refine WJ.seq ?_
              refine WJ.quiet ?_
              refine QJ.step (YldS.yld (y_move rfl)) rfl ?_
              refine QJ.step (YldS.yld (y_move rfl)) rfl ?_
              refine QJ.step (YldS.yld (y_move rfl)) rfl ?_
              obtain ⟨e35, h36, hm⟩ := bindS hm
              obtain ⟨ad37, _, rfl, ha38, hy39⟩ := hr31.elem h36
              refine QJ.step (YldS.yld (hy39 Try.runUnderlying27 Try.sizeOf2 rfl rfl)) rfl ?_
              refine QJ.step (YldS.yld (y_load1 (v := .int .i64 e35) Try.isAgg2 ha38 St.frozenC rfl)) rfl ?_
              obtain ⟨r40, h41, hm⟩ := bindS hm
              refine QJ.step (y_call Try.call75 rfl (RetG.quiet fun w hw => ok_s_l00Has h41 w _ (hw.row_rd (k := 0) rfl))) rfl ?_
              refine QJ.step (YldS.yld (y_not rfl)) rfl ?_
              refine QJ.done ?_
              refine PJ.next ?_
              refine WJ.cond (t := !r40) rfl (fun hb42 => ?_) (fun hb42 => ?_)
              · replace hm := ifT hm hb42
                refine WJ.seq ?_
                refine WJ.reg ?_
                refine SJ.q (YldS.yld (y_move rfl)) rfl ?_
                refine SJ.q (YldS.yld (y_move rfl)) rfl ?_
                refine SJ.q (YldS.yld (y_move rfl)) rfl ?_
                obtain ⟨e43, h44, hm⟩ := bindS hm
                obtain ⟨ad45, _, rfl, ha46, hy47⟩ := hr31.elem h44
                refine SJ.q (YldS.yld (hy47 Try.runUnderlying27 Try.sizeOf2 rfl rfl)) rfl ?_
                refine SJ.q (YldS.yld (y_load1 (v := .int .i64 e43) Try.isAgg2 ha46 St.frozenC rfl)) rfl ?_
                obtain ⟨r48, h49, hm⟩ := bindS hm
                refine SJ.call Try.call78 rfl (fun w hw => ok_s_l00Put h49 w _ (hw.row_rd (k := 0) rfl)) rfl ?_
                rintro v50 _ ⟨_, rfl, rfl⟩
                refine SJ.q (YldS.yld (y_assign rfl)) rfl ?_
                refine SJ.nil ?_
                refine PJ.next ?_
                refine WJ.seq ?_
                refine WJ.quiet ?_
                refine QJ.step (YldS.yld (y_assign rfl)) rfl ?_
                refine QJ.done ?_
                refine PJ.next ?_
                refine WJ.exit ?_
                refine PJ.block_exit_ne rfl (PJ.then_exit (PJ.then_exit (PJ.block_exit (PJ.block_normal ?_))))
                exact PJ.joined (r48, v50, (-1)) [0] hm ⟨rfl, rfl, rfl, trivial⟩ ⟨by decide, rfl⟩
              · replace hm := ifF hm hb42
                refine WJ.skip ?_
                refine PJ.block_normal (PJ.next ?_)
                refine WJ.quiet ?_
                refine QJ.step (YldS.yld (y_move rfl)) rfl ?_
                refine QJ.step (YldS.yld (y_bin rfl rfl rfl)) rfl ?_
                refine QJ.step (YldS.yld (y_assign rfl)) rfl ?_
                refine QJ.done ?_
                exact PJ.round (i32, w64 (k33 + 1)) [0] hm ⟨rfl, rfl, rfl, rfl, rfl, trivial⟩ ⟨by decide, rfl⟩
            · replace hm := ifF hm hb34
              refine WJ.exit ?_
              refine PJ.then_exit (PJ.then_exit (PJ.block_exit (PJ.block_normal ?_)))
              exact PJ.joined (l14, v15, i32) [0] hm ⟨rfl, rfl, rfl, trivial⟩ ⟨by decide, rfl⟩
        · rintro ⟨l18, v19, i20⟩ hm
          subst hk22
          refine WJ.quiet ?_
          refine QJ.step (YldS.yld (y_move rfl)) rfl ?_
          refine QJ.step (YldS.yld (y_bin rfl rfl rfl)) rfl ?_
          refine QJ.step (YldS.yld (y_assign rfl)) rfl ?_
          refine QJ.done ?_
          exact PJ.round (l18, v19, w64 (i20 + 1)) [0] hm ⟨rfl, rfl, rfl, trivial⟩ ⟨by decide, rfl⟩
      · replace hm := ifF hm hb17
        refine WJ.exit ?_
        refine PJ.then_exit (PJ.then_exit (PJ.block_exit ?_))
        exact PJ.joined (l14, v15) [0] hm ⟨rfl, trivial⟩ ⟨by decide, rfl⟩
  · rintro ⟨l10, v11⟩ hm
    subst hk13
    refine WJ.seq ?_
    refine WJ.quiet ?_
    refine QJ.step (YldS.yld (y_move rfl)) rfl ?_
    refine QJ.step (YldS.yld (y_assign rfl)) rfl ?_
    refine QJ.done ?_
    refine PJ.next ?_
    refine WJ.ret ?_
    obtain rfl := Option.some.inj hm
    refine PJ.sel (L' := [row v11 2 fI64 l10]) [0] ⟨by decide, rfl⟩ ?_
    exact PJ.retn (vs := [v11]) Try.results43 ⟨rfl, trivial⟩ ⟨_, rfl, rfl⟩

set_option maxRecDepth 100000 in
set_option maxHeartbeats 1000000 in
theorem ok_s_l18Circle {N : Nat} {list1 : List Lesson} {r : Int} (hm : s_l18Circle N list1 = some r) (w : World) (v2 : Value) (hr3 : RdS w (cx w).Fz v2 (shLesson.rp fI64.rp) list1) :
    Calls Try.prog 39 #[v2] w (Ret (cx w) (.int .i64 r)) := by
  unfold s_l18Circle at hm
  refine Calls.enter [v2] Try.func39 rfl Try.ntmps39 rfl ?_
  refine WJ.seq ?_
  refine WJ.quiet ?_
  refine QJ.step (YldS.yld (y_assign rfl)) rfl ?_
  refine QJ.done ?_
  refine PJ.next ?_
  obtain ⟨kj4, hk5, hm⟩ := withK_open hm
  refine WJ.join (X := Unit) (fun (_ : Unit) => kj4  = some r) (fun (_ : Unit) => []) (fun (_ : Unit) => []) ?_ ?_
  · clear hk5
    refine WJ.seq ?_
    refine WJ.quiet ?_
    refine QJ.step (YldS.yld (y_assign rfl)) rfl ?_
    refine QJ.done ?_
    refine PJ.next ?_
    refine WJ.block ?_
    refine WJ.sel (L' := (fun (x : Int) => []) 0) [] ⟨List.nodup_nil, rfl⟩ ?_
    refine WJ.sub (m' := (fun (x : Int) => [(0, v2), (3, .int .i64 x)]) 0) ⟨rfl, rfl, trivial⟩ ?_
    refine WJ.loop (X := Int) (fun N (x : Int) => s_l18Circle_l1 kj4 list1 N x = some r) (fun (x : Int) => [(0, v2), (3, .int .i64 x)]) (fun (x : Int) => []) ?_ N 0 hm
    · rintro N k6 hI
      have hm := hI; clear hI
      cases N with
      | zero => cases hm
      | succ N =>
      unfold s_l18Circle_l1 at hm
      refine WJ.seq ?_
      refine WJ.seq ?_
      refine WJ.quiet ?_
      refine QJ.step (YldS.yld (y_move rfl)) rfl ?_
      refine QJ.step (YldS.yld (y_move rfl)) rfl ?_
      refine QJ.step (YldS.yld (y_lenS Try.runUnderlying24 hr3 rfl)) rfl ?_
      refine QJ.step (YldS.yld (y_bin rfl rfl rfl)) rfl ?_
      refine QJ.done ?_
      refine PJ.next ?_
      refine WJ.cond (t := decide (k6 < (List.length list1 : Int))) rfl (fun hb7 => ?_) (fun hb7 => ?_)
      · replace hm := ifT hm hb7
        refine WJ.skip ?_
        refine PJ.next ?_
        refine WJ.seq ?_
        refine WJ.block ?_
        refine WJ.seq ?_
        refine WJ.reg ?_
        refine SJ.q (YldS.yld (y_move rfl)) rfl ?_
        refine SJ.q (YldS.yld (y_move rfl)) rfl ?_
        refine SJ.q (YldS.yld (y_move rfl)) rfl ?_
        obtain ⟨e8, h9, hm⟩ := bindS hm
        obtain ⟨ad10, _, ⟨v13, rfl, hr14⟩, ha11, hy12⟩ := hr3.elem h9
        refine SJ.q (YldS.yld (hy12 Try.runUnderlying24 Try.sizeOf38 rfl rfl)) rfl ?_
        refine SJ.q (YldS.yld (y_fld (ad := ad10) fld38_2 rfl)) rfl ?_
        refine SJ.q (YldS.yld (y_load1 (v := v13) Try.isAgg27 (ha11.sub 2 1) St.frozenC rfl)) rfl ?_
        obtain ⟨r15, h16, hm⟩ := bindS hm
        refine SJ.call Try.call43 rfl (fun w hw => ok_s_l18All h16 w _ (hr3.st hw) _ (hr14.st hw)) rfl ?_
        rintro v17 _ ⟨_, rfl, rfl⟩
        refine SJ.q (YldS.yld (y_move rfl)) rfl ?_
        obtain ⟨r18, h19, hm⟩ := bindS hm
        refine SJ.q (y_call Try.call75 rfl (RetG.quiet fun w hw => ok_s_l00Has h19 w _ (hw.row_rd (k := 0) rfl))) rfl ?_
        refine SJ.nil ?_
        refine PJ.next ?_
        refine WJ.cond (t := r18) rfl (fun hb20 => ?_) (fun hb20 => ?_)
        · replace hm := ifT hm hb20
          refine WJ.seq ?_
          refine WJ.quiet ?_
          refine QJ.step (YldS.yld (y_move rfl)) rfl ?_
          refine QJ.step (YldS.yld (y_assign rfl)) rfl ?_
          refine QJ.done ?_
          refine PJ.next ?_
          refine WJ.ret ?_
          refine PJ.block_ret (PJ.then_ret (PJ.then_ret (PJ.block_ret (PJ.then_ret ?_))))
          obtain rfl := Option.some.inj hm
          refine PJ.sel (L' := []) [] ⟨List.nodup_nil, rfl⟩ ?_
          exact PJ.retn (vs := [.int .i64 k6]) Try.results39 ⟨rfl, trivial⟩ ⟨rfl, rfl⟩
        · replace hm := ifF hm hb20
          refine WJ.skip ?_
          refine PJ.block_normal (PJ.next ?_)
          refine WJ.quiet ?_
          refine QJ.step (YldS.yld (y_move rfl)) rfl ?_
          refine QJ.step (YldS.yld (y_bin rfl rfl rfl)) rfl ?_
          refine QJ.step (YldS.yld (y_assign rfl)) rfl ?_
          refine QJ.done ?_
          exact PJ.round (w64 (k6 + 1)) [] hm ⟨rfl, rfl, trivial⟩ ⟨List.nodup_nil, rfl⟩
      · replace hm := ifF hm hb7
        refine WJ.exit ?_
        refine PJ.then_exit (PJ.then_exit (PJ.block_exit ?_))
        exact PJ.joined () [] hm trivial ⟨List.nodup_nil, rfl⟩
  · rintro _ hm
    subst hk5
    refine WJ.seq ?_
    refine WJ.quiet ?_
    refine QJ.step (YldS.yld (y_assign rfl)) rfl ?_
    refine QJ.done ?_
    refine PJ.next ?_
    refine WJ.ret ?_
    obtain rfl := Option.some.inj hm
    refine PJ.sel (L' := []) [] ⟨List.nodup_nil, rfl⟩ ?_
    exact PJ.retn (vs := [.int .i64 (-1)]) Try.results39 ⟨rfl, trivial⟩ ⟨rfl, rfl⟩

set_option maxRecDepth 100000 in
set_option maxHeartbeats 1000000 in
theorem ok_s_l18Hours {N : Nat} {list1 : List Lesson} {some4 : List Int} {r : Int} (hm : s_l18Hours N list1 some4 = some r) (w : World) (v2 : Value) (hr3 : RdS w (cx w).Fz v2 (shLesson.rp fI64.rp) list1) (v5 : Value) (hr6 : RdS w (cx w).Fz v5 fI64.rp some4) :
    Calls Try.prog 40 #[v2, v5] w (Ret (cx w) (.int .i64 r)) := by
  unfold s_l18Hours at hm
  refine Calls.enter [v2, v5] Try.func40 rfl Try.ntmps40 rfl ?_
  refine WJ.seq ?_
  refine WJ.quiet ?_
  refine QJ.step (YldS.yld (y_assign rfl)) rfl ?_
  refine QJ.done ?_
  refine PJ.next ?_
  refine WJ.seq ?_
  refine WJ.quiet ?_
  refine QJ.step (YldS.yld (y_assign rfl)) rfl ?_
  refine QJ.done ?_
  refine PJ.next ?_
  obtain ⟨kj8, hk9, hm⟩ := withK_open hm
  refine WJ.join (X := Int) (fun (x : Int) => kj8 x = some r) (fun (x : Int) => [(5, .int .i64 x)]) (fun (x : Int) => []) ?_ ?_
  · clear hk9
    refine WJ.seq ?_
    refine WJ.quiet ?_
    refine QJ.step (YldS.yld (y_assign rfl)) rfl ?_
    refine QJ.done ?_
    refine PJ.next ?_
    refine WJ.block ?_
    refine WJ.sel (L' := (fun (x : Int × Int) => []) (0, 0)) [] ⟨List.nodup_nil, rfl⟩ ?_
    refine WJ.sub (m' := (fun (x : Int × Int) => [(0, v2), (1, v5), (5, .int .i64 x.1), (6, .int .i64 x.2)]) (0, 0)) ⟨rfl, rfl, rfl, rfl, trivial⟩ ?_
    refine WJ.loop (X := Int × Int) (fun N (x : Int × Int) => s_l18Hours_l1 kj8 list1 some4 N x.1 x.2 = some r) (fun (x : Int × Int) => [(0, v2), (1, v5), (5, .int .i64 x.1), (6, .int .i64 x.2)]) (fun (x : Int × Int) => []) ?_ N (0, 0) hm
    · rintro N ⟨sum10, i11⟩ hI
      have hm := hI; clear hI
      cases N with
      | zero => cases hm
      | succ N =>
      unfold s_l18Hours_l1 at hm
      refine WJ.seq ?_
      refine WJ.seq ?_
      refine WJ.quiet ?_
      refine QJ.step (YldS.yld (y_move rfl)) rfl ?_
      refine QJ.step (YldS.yld (y_move rfl)) rfl ?_
      refine QJ.step (YldS.yld (y_lenS Try.runUnderlying27 hr6 rfl)) rfl ?_
      refine QJ.step (YldS.yld (y_bin rfl rfl rfl)) rfl ?_
      refine QJ.done ?_
      refine PJ.next ?_
      refine WJ.cond (t := decide (i11 < (List.length some4 : Int))) rfl (fun hb12 => ?_) (fun hb12 => ?_)
      · replace hm := ifT hm hb12
        refine WJ.skip ?_
        refine PJ.next ?_
        refine WJ.seq ?_
        refine WJ.block ?_
        refine WJ.quiet ?_
        refine QJ.step (YldS.yld (y_move rfl)) rfl ?_
        refine QJ.step (YldS.yld (y_move rfl)) rfl ?_
        refine QJ.step (YldS.yld (y_move rfl)) rfl ?_
        refine QJ.step (YldS.yld (y_move rfl)) rfl ?_
        obtain ⟨e13, h14, hm⟩ := bindS hm
        obtain ⟨ad15, _, rfl, ha16, hy17⟩ := hr6.elem h14
        refine QJ.step (YldS.yld (hy17 Try.runUnderlying27 Try.sizeOf2 rfl rfl)) rfl ?_
        refine QJ.step (YldS.yld (y_load1 (v := .int .i64 e13) Try.isAgg2 ha16 St.frozenC rfl)) rfl ?_
        obtain ⟨e18, h19, hm⟩ := bindS hm
        obtain ⟨ad20, _, ⟨v23, rfl, hr24⟩, ha21, hy22⟩ := hr3.elem h19
        refine QJ.step (YldS.yld (hy22 Try.runUnderlying24 Try.sizeOf38 rfl rfl)) rfl ?_
        refine QJ.step (YldS.yld (y_fld (ad := ad20) fld38_3 rfl)) rfl ?_
        refine QJ.step (YldS.yld (y_load1 (v := .int .i64 e18.hours) Try.isAgg2 (ha21.sub 3 1) St.frozenC rfl)) rfl ?_
        refine QJ.step (YldS.yld (y_bin rfl rfl rfl)) rfl ?_
        refine QJ.step (YldS.yld (y_assign rfl)) rfl ?_
        refine QJ.done ?_
        refine PJ.block_normal (PJ.next ?_)
        refine WJ.quiet ?_
        refine QJ.step (YldS.yld (y_move rfl)) rfl ?_
        refine QJ.step (YldS.yld (y_bin rfl rfl rfl)) rfl ?_
        refine QJ.step (YldS.yld (y_assign rfl)) rfl ?_
        refine QJ.done ?_
        exact PJ.round (w64 (sum10 + e18.hours), w64 (i11 + 1)) [] hm ⟨rfl, rfl, rfl, rfl, trivial⟩ ⟨List.nodup_nil, rfl⟩
      · replace hm := ifF hm hb12
        refine WJ.exit ?_
        refine PJ.then_exit (PJ.then_exit (PJ.block_exit ?_))
        exact PJ.joined sum10 [] hm ⟨rfl, trivial⟩ ⟨List.nodup_nil, rfl⟩
  · rintro sum7 hm
    subst hk9
    refine WJ.seq ?_
    refine WJ.quiet ?_
    refine QJ.step (YldS.yld (y_move rfl)) rfl ?_
    refine QJ.step (YldS.yld (y_assign rfl)) rfl ?_
    refine QJ.done ?_
    refine PJ.next ?_
    refine WJ.ret ?_
    obtain rfl := Option.some.inj hm
    refine PJ.sel (L' := []) [] ⟨List.nodup_nil, rfl⟩ ?_
    exact PJ.retn (vs := [.int .i64 sum7]) Try.results40 ⟨rfl, trivial⟩ ⟨rfl, rfl⟩

set_option maxRecDepth 100000 in
set_option maxHeartbeats 1000000 in
theorem ok_s_l18Known {N : Nat} {list1 : List Lesson} {taken4 : List Int} {r : Str} (hm : s_l18Known N list1 taken4 = some r) (w : World) (v2 : Value) (hr3 : RdS w (cx w).Fz v2 (shLesson.rp fI64.rp) list1) (v5 : Value) (hr6 : RdS w (cx w).Fz v5 fI64.rp taken4) :
    Calls Try.prog 42 #[v2, v5] w (Ret (cx w) (str r)) := by
  unfold s_l18Known at hm
  refine Calls.enter [v2, v5] Try.func42 rfl Try.ntmps42 rfl ?_
  refine WJ.seq ?_
  refine WJ.quiet ?_
  refine QJ.step (YldS.yld (y_assign rfl)) rfl ?_
  refine QJ.done ?_
  refine PJ.next ?_
  refine WJ.seq ?_
  refine WJ.quiet ?_
  refine QJ.step (YldS.yld (y_assign rfl)) rfl ?_
  refine QJ.done ?_
  refine PJ.next ?_
  obtain ⟨kj8, hk9, hm⟩ := withK_open hm
  refine WJ.join (X := Str) (fun (x : Str) => kj8 x = some r) (fun (x : Str) => [(5, str x)]) (fun (x : Str) => []) ?_ ?_
  · clear hk9
    refine WJ.seq ?_
    refine WJ.quiet ?_
    refine QJ.step (YldS.yld (y_assign rfl)) rfl ?_
    refine QJ.done ?_
    refine PJ.next ?_
    refine WJ.block ?_
    refine WJ.sel (L' := (fun (x : Str × Int) => []) ([], 0)) [] ⟨List.nodup_nil, rfl⟩ ?_
    refine WJ.sub (m' := (fun (x : Str × Int) => [(0, v2), (1, v5), (5, str x.1), (6, .int .i64 x.2)]) ([], 0)) ⟨rfl, rfl, rfl, rfl, trivial⟩ ?_
    refine WJ.loop (X := Str × Int) (fun N (x : Str × Int) => s_l18Known_l1 kj8 list1 taken4 N x.1 x.2 = some r) (fun (x : Str × Int) => [(0, v2), (1, v5), (5, str x.1), (6, .int .i64 x.2)]) (fun (x : Str × Int) => []) ?_ N ([], 0) hm
    · rintro N ⟨out10, i11⟩ hI
      have hm := hI; clear hI
      cases N with
      | zero => cases hm
      | succ N =>
      unfold s_l18Known_l1 at hm
      refine WJ.seq ?_
      refine WJ.seq ?_
      refine WJ.quiet ?_
      refine QJ.step (YldS.yld (y_move rfl)) rfl ?_
      refine QJ.step (YldS.yld (y_move rfl)) rfl ?_
      refine QJ.step (YldS.yld (y_lenS Try.runUnderlying27 hr6 rfl)) rfl ?_
      refine QJ.step (YldS.yld (y_bin rfl rfl rfl)) rfl ?_
      refine QJ.done ?_
      refine PJ.next ?_
      refine WJ.cond (t := decide (i11 < (List.length taken4 : Int))) rfl (fun hb12 => ?_) (fun hb12 => ?_)
      · replace hm := ifT hm hb12
        refine WJ.skip ?_
        refine PJ.next ?_
        obtain ⟨kj14, hk15, hm⟩ := withK_open hm
        refine WJ.join (X := Str) (fun (x : Str) => kj14 x = some r) (fun (x : Str) => [(0, v2), (1, v5), (5, str x), (6, .int .i64 i11)]) (fun (x : Str) => []) ?_ ?_
        · clear hk15
          refine WJ.block ?_
          refine WJ.seq ?_
          refine WJ.quiet ?_
          refine QJ.step (YldS.yld (y_move rfl)) rfl ?_
          refine QJ.step (YldS.yld (y_move rfl)) rfl ?_
          refine QJ.step (YldS.yld (y_move rfl)) rfl ?_
          obtain ⟨e16, h17, hm⟩ := bindS hm
          obtain ⟨ad18, _, rfl, ha19, hy20⟩ := hr6.elem h17
          refine QJ.step (YldS.yld (hy20 Try.runUnderlying27 Try.sizeOf2 rfl rfl)) rfl ?_
          refine QJ.step (YldS.yld (y_load1 (v := .int .i64 e16) Try.isAgg2 ha19 St.frozenC rfl)) rfl ?_
          obtain ⟨e21, h22, hm⟩ := bindS hm
          obtain ⟨ad23, _, ⟨v26, rfl, hr27⟩, ha24, hy25⟩ := hr3.elem h22
          refine QJ.step (YldS.yld (hy25 Try.runUnderlying24 Try.sizeOf38 rfl rfl)) rfl ?_
          refine QJ.step (YldS.yld (y_fld (ad := ad23) fld38_1 rfl)) rfl ?_
          refine QJ.step (YldS.yld (y_load1 (v := str e21.letters) Try.isAgg9 (ha24.sub 1 1) St.frozenC rfl)) rfl ?_
          refine QJ.step (YldS.yld (y_assign rfl)) rfl ?_
          refine QJ.done ?_
          refine PJ.next ?_
          refine WJ.seq ?_
          refine WJ.quiet ?_
          refine QJ.step (YldS.yld (y_assign rfl)) rfl ?_
          refine QJ.done ?_
          refine PJ.next ?_
          refine WJ.block ?_
          refine WJ.sel (L' := (fun (x : Str × Int) => []) (out10, 0)) [] ⟨List.nodup_nil, rfl⟩ ?_
          refine WJ.sub (m' := (fun (x : Str × Int) => [(0, v2), (1, v5), (5, str x.1), (6, .int .i64 i11), (7, str e21.letters), (8, .int .i64 x.2)]) (out10, 0)) ⟨rfl, rfl, rfl, rfl, rfl, rfl, trivial⟩ ?_
          refine WJ.loop (X := Str × Int) (fun N (x : Str × Int) => s_l18Known_l2 kj14 e21 N x.1 x.2 = some r) (fun (x : Str × Int) => [(0, v2), (1, v5), (5, str x.1), (6, .int .i64 i11), (7, str e21.letters), (8, .int .i64 x.2)]) (fun (x : Str × Int) => []) ?_ N (out10, 0) hm
          · rintro N ⟨out28, k29⟩ hI
            have hm := hI; clear hI
            cases N with
            | zero => cases hm
            | succ N =>
            unfold s_l18Known_l2 at hm
            refine WJ.seq ?_
            refine WJ.seq ?_
            refine WJ.quiet ?_
            refine QJ.step (YldS.yld (y_move rfl)) rfl ?_
            refine QJ.step (YldS.yld (y_move rfl)) rfl ?_
            refine QJ.step (YldS.yld (y_lenStr Try.runUnderlying9 rfl)) rfl ?_
            refine QJ.step (YldS.yld (y_bin rfl rfl rfl)) rfl ?_
            refine QJ.done ?_
            refine PJ.next ?_
            refine WJ.cond (t := decide (k29 < (List.length e21.letters : Int))) rfl (fun hb30 => ?_) (fun hb30 => ?_)
            · replace hm := ifT hm hb30
              refine WJ.skip ?_
              refine PJ.next ?_
              refine WJ.seq ?_
              refine WJ.block ?_
              refine WJ.quiet ?_
              refine QJ.step (YldS.yld (y_move rfl)) rfl ?_
              refine QJ.step (YldS.yld (y_move rfl)) rfl ?_
              refine QJ.step (YldS.yld (y_move rfl)) rfl ?_
              refine QJ.step (YldS.yld (y_move rfl)) rfl ?_
              refine QJ.step (YldS.yld (y_bin rfl rfl rfl)) rfl ?_
              obtain ⟨s31, h32, hm⟩ := bindS hm
              refine QJ.step (YldS.yld (y_subStr (i := some k29) (j := some (w64 (k29 + 1))) h32 Try.runUnderlying9 rfl ⟨_, rfl⟩ ⟨_, rfl⟩)) rfl ?_
              obtain ⟨r33, h34, hm⟩ := bindS hm
              refine QJ.step (y_call Try.call76 rfl (RetG.quiet fun w hw => ok_s_l02PutLetter h34 w )) rfl ?_
              refine QJ.step (YldS.yld (y_assign rfl)) rfl ?_
              refine QJ.done ?_
              refine PJ.block_normal (PJ.next ?_)
              refine WJ.quiet ?_
              refine QJ.step (YldS.yld (y_move rfl)) rfl ?_
              refine QJ.step (YldS.yld (y_bin rfl rfl rfl)) rfl ?_
              refine QJ.step (YldS.yld (y_assign rfl)) rfl ?_
              refine QJ.done ?_
              exact PJ.round (r33, w64 (k29 + 1)) [] hm ⟨rfl, rfl, rfl, rfl, rfl, rfl, trivial⟩ ⟨List.nodup_nil, rfl⟩
            · replace hm := ifF hm hb30
              refine WJ.exit ?_
              refine PJ.then_exit (PJ.then_exit (PJ.block_exit (PJ.block_normal ?_)))
              exact PJ.joined out28 [] hm ⟨rfl, rfl, rfl, rfl, trivial⟩ ⟨List.nodup_nil, rfl⟩
        · rintro out13 hm
          subst hk15
          refine WJ.quiet ?_
          refine QJ.step (YldS.yld (y_move rfl)) rfl ?_
          refine QJ.step (YldS.yld (y_bin rfl rfl rfl)) rfl ?_
          refine QJ.step (YldS.yld (y_assign rfl)) rfl ?_
          refine QJ.done ?_
          exact PJ.round (out13, w64 (i11 + 1)) [] hm ⟨rfl, rfl, rfl, rfl, trivial⟩ ⟨List.nodup_nil, rfl⟩
      · replace hm := ifF hm hb12
        refine WJ.exit ?_
        refine PJ.then_exit (PJ.then_exit (PJ.block_exit ?_))
        exact PJ.joined out10 [] hm ⟨rfl, trivial⟩ ⟨List.nodup_nil, rfl⟩
  · rintro out7 hm
    subst hk9
    refine WJ.seq ?_
    refine WJ.quiet ?_
    refine QJ.step (YldS.yld (y_move rfl)) rfl ?_
    refine QJ.step (YldS.yld (y_assign rfl)) rfl ?_
    refine QJ.done ?_
    refine PJ.next ?_
    refine WJ.ret ?_
    obtain rfl := Option.some.inj hm
    refine PJ.sel (L' := []) [] ⟨List.nodup_nil, rfl⟩ ?_
    exact PJ.retn (vs := [str out7]) Try.results42 ⟨rfl, trivial⟩ ⟨rfl, rfl⟩

set_option maxRecDepth 100000 in
set_option maxHeartbeats 1000000 in
theorem ok_s_l18Missing {N : Nat} {known1 : Str} {text2 : Str} {r : Str} (hm : s_l18Missing N known1 text2 = some r) (w : World)  :
    Calls Try.prog 41 #[str known1, str text2] w (Ret (cx w) (str r)) := by
  unfold s_l18Missing at hm
  refine Calls.enter [str known1, str text2] Try.func41 rfl Try.ntmps41 rfl ?_
  refine WJ.seq ?_
  refine WJ.quiet ?_
  refine QJ.step (YldS.yld (y_assign rfl)) rfl ?_
  refine QJ.done ?_
  refine PJ.next ?_
  refine WJ.seq ?_
  refine WJ.quiet ?_
  refine QJ.step (YldS.yld (y_assign rfl)) rfl ?_
  refine QJ.done ?_
  refine PJ.next ?_
  obtain ⟨kj4, hk5, hm⟩ := withK_open hm
  refine WJ.join (X := Str) (fun (x : Str) => kj4 x = some r) (fun (x : Str) => [(5, str x)]) (fun (x : Str) => []) ?_ ?_
  · clear hk5
    refine WJ.seq ?_
    refine WJ.quiet ?_
    refine QJ.step (YldS.yld (y_assign rfl)) rfl ?_
    refine QJ.done ?_
    refine PJ.next ?_
    refine WJ.block ?_
    refine WJ.sel (L' := (fun (x : Str × Int) => []) ([], 0)) [] ⟨List.nodup_nil, rfl⟩ ?_
    refine WJ.sub (m' := (fun (x : Str × Int) => [(0, str known1), (1, str text2), (5, str x.1), (6, .int .i64 x.2)]) ([], 0)) ⟨rfl, rfl, rfl, rfl, trivial⟩ ?_
    refine WJ.loop (X := Str × Int) (fun N (x : Str × Int) => s_l18Missing_l1 kj4 known1 text2 N x.1 x.2 = some r) (fun (x : Str × Int) => [(0, str known1), (1, str text2), (5, str x.1), (6, .int .i64 x.2)]) (fun (x : Str × Int) => []) ?_ N ([], 0) hm
    · rintro N ⟨out6, i7⟩ hI
      have hm := hI; clear hI
      cases N with
      | zero => cases hm
      | succ N =>
      unfold s_l18Missing_l1 at hm
      refine WJ.seq ?_
      refine WJ.seq ?_
      refine WJ.quiet ?_
      refine QJ.step (YldS.yld (y_move rfl)) rfl ?_
      refine QJ.step (YldS.yld (y_move rfl)) rfl ?_
      refine QJ.step (YldS.yld (y_lenStr Try.runUnderlying9 rfl)) rfl ?_
      refine QJ.step (YldS.yld (y_bin rfl rfl rfl)) rfl ?_
      refine QJ.done ?_
      refine PJ.next ?_
      refine WJ.cond (t := decide (i7 < (List.length text2 : Int))) rfl (fun hb8 => ?_) (fun hb8 => ?_)
      · replace hm := ifT hm hb8
        refine WJ.skip ?_
        refine PJ.next ?_
        obtain ⟨kj10, hk11, hm⟩ := withK_open hm
        refine WJ.join (X := Str) (fun (x : Str) => kj10 x = some r) (fun (x : Str) => [(0, str known1), (1, str text2), (5, str x), (6, .int .i64 i7)]) (fun (x : Str) => []) ?_ ?_
        · clear hk11
          refine WJ.block ?_
          refine WJ.seq ?_
          refine WJ.quiet ?_
          refine QJ.step (YldS.yld (y_move rfl)) rfl ?_
          refine QJ.step (YldS.yld (y_move rfl)) rfl ?_
          obtain ⟨c12, h13, hm⟩ := bindS hm
          refine QJ.step (YldS.yld (y_idxStr Try.runUnderlying9 rfl rfl h13)) rfl ?_
          refine QJ.step (YldS.yld (y_bin8 c12 (32 : UInt8) rfl rfl rfl)) rfl ?_
          refine QJ.step (YldS.yld (y_assign rfl)) rfl ?_
          refine QJ.done ?_
          refine PJ.next ?_
          obtain ⟨kj15, hk16, hm⟩ := withK_open hm
          refine WJ.join (X := Bool) (fun (x : Bool) => kj15 x = some r) (fun (x : Bool) => [(0, str known1), (1, str text2), (5, str out6), (6, .int .i64 i7), (7, .bool x)]) (fun (x : Bool) => []) ?_ ?_
          · clear hk16
            refine WJ.seq ?_
            refine WJ.quiet ?_
            refine QJ.step (YldS.yld (y_assign rfl)) rfl ?_
            refine QJ.done ?_
            refine PJ.next ?_
            refine WJ.block ?_
            refine WJ.sel (L' := (fun (x : Bool × Int) => []) ((c12 == (32 : UInt8)), 0)) [] ⟨List.nodup_nil, rfl⟩ ?_
            refine WJ.sub (m' := (fun (x : Bool × Int) => [(0, str known1), (1, str text2), (5, str out6), (6, .int .i64 i7), (7, .bool x.1), (8, .int .i64 x.2)]) ((c12 == (32 : UInt8)), 0)) ⟨rfl, rfl, rfl, rfl, rfl, rfl, trivial⟩ ?_
            refine WJ.loop (X := Bool × Int) (fun N (x : Bool × Int) => s_l18Missing_l2 kj15 known1 text2 i7 N x.1 x.2 = some r) (fun (x : Bool × Int) => [(0, str known1), (1, str text2), (5, str out6), (6, .int .i64 i7), (7, .bool x.1), (8, .int .i64 x.2)]) (fun (x : Bool × Int) => []) ?_ N ((c12 == (32 : UInt8)), 0) hm
            · rintro N ⟨found17, k18⟩ hI
              have hm := hI; clear hI
              cases N with
              | zero => cases hm
              | succ N =>
              unfold s_l18Missing_l2 at hm
              refine WJ.seq ?_
              refine WJ.seq ?_
              refine WJ.quiet ?_
              refine QJ.step (YldS.yld (y_move rfl)) rfl ?_
              refine QJ.step (YldS.yld (y_move rfl)) rfl ?_
              refine QJ.step (YldS.yld (y_lenStr Try.runUnderlying9 rfl)) rfl ?_
              refine QJ.step (YldS.yld (y_bin rfl rfl rfl)) rfl ?_
              refine QJ.done ?_
              refine PJ.next ?_
              refine WJ.cond (t := decide (k18 < (List.length known1 : Int))) rfl (fun hb19 => ?_) (fun hb19 => ?_)
              · replace hm := ifT hm hb19
                refine WJ.skip ?_
                refine PJ.next ?_
                refine WJ.seq ?_
                refine WJ.block ?_
                refine WJ.quiet_draw follows (by kernel_rfl) ?_
                refine QJ.step (YldS.yld (y_move rfl)) rfl ?_
                refine QJ.step (YldS.yld (y_move rfl)) rfl ?_
                obtain ⟨t20, h21, hm⟩ := bindS hm
                refine QJ.cut 8 [(0, str known1), (1, str text2), (5, str out6), (6, .int .i64 i7), (8, .int .i64 k18), (34, .bool t20)] ?_ ?_
                · rcases Bool.eq_false_or_eq_true found17 with hb22 | hb22
                  · obtain rfl := orT h21 hb22
                    refine QJ.off rfl rfl (cB hb22) rfl rfl ?_
                    refine QJ.off rfl rfl (cB hb22) rfl rfl ?_
                    refine QJ.off rfl rfl (cB hb22) rfl rfl ?_
                    refine QJ.off rfl rfl (cB hb22) rfl rfl ?_
                    refine QJ.off rfl rfl (cB hb22) rfl rfl ?_
                    refine QJ.off rfl rfl (cB hb22) rfl rfl ?_
                    refine QJ.off rfl rfl (cB hb22) rfl rfl ?_
                    refine QJ.step (YldS.yld (y_pick_t (cB hb22) rfl)) rfl ?_
                    exact QJ.cut_end ⟨rfl, rfl, rfl, rfl, rfl, rfl, trivial⟩
                  · replace h21 := orF h21 hb22
                    refine QJ.on rfl rfl (cB hb22) (YldS.yld (y_move rfl)) rfl ?_
                    refine QJ.on rfl rfl (cB hb22) (YldS.yld (y_move rfl)) rfl ?_
                    obtain ⟨c23, h24, h21⟩ := bindS h21
                    refine QJ.on rfl rfl (cB hb22) (YldS.yld (y_idxStr Try.runUnderlying9 rfl rfl h24)) rfl ?_
                    refine QJ.on rfl rfl (cB hb22) (YldS.yld (y_move rfl)) rfl ?_
                    refine QJ.on rfl rfl (cB hb22) (YldS.yld (y_move rfl)) rfl ?_
                    obtain ⟨c25, h26, h21⟩ := bindS h21
                    refine QJ.on rfl rfl (cB hb22) (YldS.yld (y_idxStr Try.runUnderlying9 rfl rfl h26)) rfl ?_
                    refine QJ.on rfl rfl (cB hb22) (YldS.yld (y_bin8 c23 c25 rfl rfl rfl)) rfl ?_
                    refine QJ.step (YldS.yld (y_pick_f (cB hb22) rfl)) rfl ?_
                    obtain rfl := Option.some.inj h21
                    exact QJ.cut_end ⟨rfl, rfl, rfl, rfl, rfl, rfl, trivial⟩
                refine QJ.step (YldS.yld (y_assign rfl)) rfl ?_
                refine QJ.done ?_
                refine PJ.block_normal (PJ.next ?_)
                refine WJ.quiet ?_
                refine QJ.step (YldS.yld (y_move rfl)) rfl ?_
                refine QJ.step (YldS.yld (y_bin rfl rfl rfl)) rfl ?_
                refine QJ.step (YldS.yld (y_assign rfl)) rfl ?_
                refine QJ.done ?_
                exact PJ.round (t20, w64 (k18 + 1)) [] hm ⟨rfl, rfl, rfl, rfl, rfl, rfl, trivial⟩ ⟨List.nodup_nil, rfl⟩
              · replace hm := ifF hm hb19
                refine WJ.exit ?_
                refine PJ.then_exit (PJ.then_exit (PJ.block_exit ?_))
                exact PJ.joined found17 [] hm ⟨rfl, rfl, rfl, rfl, rfl, trivial⟩ ⟨List.nodup_nil, rfl⟩
          · rintro found14 hm
            subst hk16
            refine WJ.seq ?_
            refine WJ.quiet ?_
            refine QJ.step (YldS.yld (y_move rfl)) rfl ?_
            refine QJ.step (YldS.yld (y_not rfl)) rfl ?_
            refine QJ.done ?_
            refine PJ.next ?_
            refine WJ.cond (t := !found14) rfl (fun hb27 => ?_) (fun hb27 => ?_)
            · replace hm := ifT hm hb27
              refine WJ.quiet ?_
              refine QJ.step (YldS.yld (y_move rfl)) rfl ?_
              refine QJ.step (YldS.yld (y_move rfl)) rfl ?_
              refine QJ.step (YldS.yld (y_move rfl)) rfl ?_
              refine QJ.step (YldS.yld (y_move rfl)) rfl ?_
              refine QJ.step (YldS.yld (y_bin rfl rfl rfl)) rfl ?_
              obtain ⟨s28, h29, hm⟩ := bindS hm
              refine QJ.step (YldS.yld (y_subStr (i := some i7) (j := some (w64 (i7 + 1))) h29 Try.runUnderlying9 rfl ⟨_, rfl⟩ ⟨_, rfl⟩)) rfl ?_
              obtain ⟨r30, h31, hm⟩ := bindS hm
              refine QJ.step (y_call Try.call76 rfl (RetG.quiet fun w hw => ok_s_l02PutLetter h31 w )) rfl ?_
              refine QJ.step (YldS.yld (y_assign rfl)) rfl ?_
              refine QJ.done ?_
              refine PJ.block_normal ?_
              exact PJ.joined r30 [] hm ⟨rfl, rfl, rfl, rfl, trivial⟩ ⟨List.nodup_nil, rfl⟩
            · replace hm := ifF hm hb27
              refine WJ.skip ?_
              refine PJ.block_normal ?_
              exact PJ.joined out6 [] hm ⟨rfl, rfl, rfl, rfl, trivial⟩ ⟨List.nodup_nil, rfl⟩
        · rintro out9 hm
          subst hk11
          refine WJ.quiet ?_
          refine QJ.step (YldS.yld (y_move rfl)) rfl ?_
          refine QJ.step (YldS.yld (y_bin rfl rfl rfl)) rfl ?_
          refine QJ.step (YldS.yld (y_assign rfl)) rfl ?_
          refine QJ.done ?_
          exact PJ.round (out9, w64 (i7 + 1)) [] hm ⟨rfl, rfl, rfl, rfl, trivial⟩ ⟨List.nodup_nil, rfl⟩
      · replace hm := ifF hm hb8
        refine WJ.exit ?_
        refine PJ.then_exit (PJ.then_exit (PJ.block_exit ?_))
        exact PJ.joined out6 [] hm ⟨rfl, trivial⟩ ⟨List.nodup_nil, rfl⟩
  · rintro out3 hm
    subst hk5
    refine WJ.seq ?_
    refine WJ.quiet ?_
    refine QJ.step (YldS.yld (y_move rfl)) rfl ?_
    refine QJ.step (YldS.yld (y_assign rfl)) rfl ?_
    refine QJ.done ?_
    refine PJ.next ?_
    refine WJ.ret ?_
    obtain rfl := Option.some.inj hm
    refine PJ.sel (L' := []) [] ⟨List.nodup_nil, rfl⟩ ?_
    exact PJ.retn (vs := [str out3]) Try.results41 ⟨rfl, trivial⟩ ⟨rfl, rfl⟩

set_option maxRecDepth 100000 in
set_option maxHeartbeats 1000000 in
theorem ok_s_l18Less {N : Nat} {a1 : List Int} {b4 : List Int} {r : Bool} (hm : s_l18Less N a1 b4 = some r) (w : World) (v2 : Value) (hr3 : RdS w (cx w).Fz v2 fI64.rp a1) (v5 : Value) (hr6 : RdS w (cx w).Fz v5 fI64.rp b4) :
    Calls Try.prog 44 #[v2, v5] w (Ret (cx w) (.bool r)) := by
  unfold s_l18Less at hm
  refine Calls.enter [v2, v5] Try.func44 rfl Try.ntmps44 rfl ?_
  refine WJ.seq ?_
  refine WJ.quiet ?_
  refine QJ.step (YldS.yld (y_assign rfl)) rfl ?_
  refine QJ.done ?_
  refine PJ.next ?_
  refine WJ.seq ?_
  refine WJ.seq ?_
  refine WJ.quiet ?_
  refine QJ.step (YldS.yld (y_move rfl)) rfl ?_
  refine QJ.step (YldS.yld (y_lenS Try.runUnderlying27 hr3 rfl)) rfl ?_
  refine QJ.step (YldS.yld (y_move rfl)) rfl ?_
  refine QJ.step (YldS.yld (y_lenS Try.runUnderlying27 hr6 rfl)) rfl ?_
  refine QJ.step (YldS.yld (y_bin rfl rfl rfl)) rfl ?_
  refine QJ.done ?_
  refine PJ.next ?_
  refine WJ.cond (t := ((List.length a1 : Int) != (List.length b4 : Int))) rfl (fun hb7 => ?_) (fun hb7 => ?_)
  · replace hm := ifT hm hb7
    refine WJ.seq ?_
    refine WJ.quiet ?_
    refine QJ.step (YldS.yld (y_move rfl)) rfl ?_
    refine QJ.step (YldS.yld (y_lenS Try.runUnderlying27 hr3 rfl)) rfl ?_
    refine QJ.step (YldS.yld (y_move rfl)) rfl ?_
    refine QJ.step (YldS.yld (y_lenS Try.runUnderlying27 hr6 rfl)) rfl ?_
    refine QJ.step (YldS.yld (y_bin rfl rfl rfl)) rfl ?_
    refine QJ.step (YldS.yld (y_assign rfl)) rfl ?_
    refine QJ.done ?_
    refine PJ.next ?_
    refine WJ.ret ?_
    refine PJ.then_ret ?_
    obtain rfl := Option.some.inj hm
    refine PJ.sel (L' := []) [] ⟨List.nodup_nil, rfl⟩ ?_
    exact PJ.retn (vs := [.bool (decide ((List.length a1 : Int) < (List.length b4 : Int)))]) Try.results44 ⟨rfl, trivial⟩ ⟨rfl, rfl⟩
  · replace hm := ifF hm hb7
    refine WJ.skip ?_
    refine PJ.next ?_
    obtain ⟨kj8, hk9, hm⟩ := withK_open hm
    refine WJ.join (X := Unit) (fun (_ : Unit) => kj8  = some r) (fun (_ : Unit) => []) (fun (_ : Unit) => []) ?_ ?_
    · clear hk9
      refine WJ.seq ?_
      refine WJ.quiet ?_
      refine QJ.step (YldS.yld (y_assign rfl)) rfl ?_
      refine QJ.done ?_
      refine PJ.next ?_
      refine WJ.block ?_
      refine WJ.sel (L' := (fun (x : Int) => []) 0) [] ⟨List.nodup_nil, rfl⟩ ?_
      refine WJ.sub (m' := (fun (x : Int) => [(0, v2), (1, v5), (5, .int .i64 x)]) 0) ⟨rfl, rfl, rfl, trivial⟩ ?_
      refine WJ.loop (X := Int) (fun N (x : Int) => s_l18Less_l1 kj8 a1 b4 N x = some r) (fun (x : Int) => [(0, v2), (1, v5), (5, .int .i64 x)]) (fun (x : Int) => []) ?_ N 0 hm
      · rintro N i10 hI
        have hm := hI; clear hI
        cases N with
        | zero => cases hm
        | succ N =>
        unfold s_l18Less_l1 at hm
        refine WJ.seq ?_
        refine WJ.seq ?_
        refine WJ.quiet ?_
        refine QJ.step (YldS.yld (y_move rfl)) rfl ?_
        refine QJ.step (YldS.yld (y_move rfl)) rfl ?_
        refine QJ.step (YldS.yld (y_lenS Try.runUnderlying27 hr3 rfl)) rfl ?_
        refine QJ.step (YldS.yld (y_bin rfl rfl rfl)) rfl ?_
        refine QJ.done ?_
        refine PJ.next ?_
        refine WJ.cond (t := decide (i10 < (List.length a1 : Int))) rfl (fun hb11 => ?_) (fun hb11 => ?_)
        · replace hm := ifT hm hb11
          refine WJ.skip ?_
          refine PJ.next ?_
          refine WJ.seq ?_
          refine WJ.block ?_
          refine WJ.seq ?_
          refine WJ.quiet_draw follows (by kernel_rfl) ?_
          refine QJ.step (YldS.yld (y_move rfl)) rfl ?_
          refine QJ.step (YldS.yld (y_move rfl)) rfl ?_
          obtain ⟨e12, h13, hm⟩ := bindS hm
          obtain ⟨ad14, _, rfl, ha15, hy16⟩ := hr3.elem h13
          refine QJ.step (YldS.yld (hy16 Try.runUnderlying27 Try.sizeOf2 rfl rfl)) rfl ?_
          refine QJ.step (YldS.yld (y_load1 (v := .int .i64 e12) Try.isAgg2 ha15 St.frozenC rfl)) rfl ?_
          refine QJ.step (YldS.yld (y_move rfl)) rfl ?_
          refine QJ.step (YldS.yld (y_move rfl)) rfl ?_
          obtain ⟨e17, h18, hm⟩ := bindS hm
          obtain ⟨ad19, _, rfl, ha20, hy21⟩ := hr6.elem h18
          refine QJ.step (YldS.yld (hy21 Try.runUnderlying27 Try.sizeOf2 rfl rfl)) rfl ?_
          refine QJ.step (YldS.yld (y_load1 (v := .int .i64 e17) Try.isAgg2 ha20 St.frozenC rfl)) rfl ?_
          refine QJ.step (YldS.yld (y_bin rfl rfl rfl)) rfl ?_
          refine QJ.done ?_
          refine PJ.next ?_
          refine WJ.cond (t := (e12 != e17)) rfl (fun hb22 => ?_) (fun hb22 => ?_)
          · replace hm := ifT hm hb22
            refine WJ.seq ?_
            refine WJ.quiet_draw follows (by kernel_rfl) ?_
            refine QJ.step (YldS.yld (y_move rfl)) rfl ?_
            refine QJ.step (YldS.yld (y_move rfl)) rfl ?_
            obtain ⟨e23, h24, hm⟩ := bindS hm
            obtain ⟨ad25, _, rfl, ha26, hy27⟩ := hr3.elem h24
            refine QJ.step (YldS.yld (hy27 Try.runUnderlying27 Try.sizeOf2 rfl rfl)) rfl ?_
            refine QJ.step (YldS.yld (y_load1 (v := .int .i64 e23) Try.isAgg2 ha26 St.frozenC rfl)) rfl ?_
            refine QJ.step (YldS.yld (y_move rfl)) rfl ?_
            refine QJ.step (YldS.yld (y_move rfl)) rfl ?_
            obtain ⟨e28, h29, hm⟩ := bindS hm
            obtain ⟨ad30, _, rfl, ha31, hy32⟩ := hr6.elem h29
            refine QJ.step (YldS.yld (hy32 Try.runUnderlying27 Try.sizeOf2 rfl rfl)) rfl ?_
            refine QJ.step (YldS.yld (y_load1 (v := .int .i64 e28) Try.isAgg2 ha31 St.frozenC rfl)) rfl ?_
            refine QJ.step (YldS.yld (y_bin rfl rfl rfl)) rfl ?_
            refine QJ.step (YldS.yld (y_assign rfl)) rfl ?_
            refine QJ.done ?_
            refine PJ.next ?_
            refine WJ.ret ?_
            refine PJ.block_ret (PJ.then_ret (PJ.then_ret (PJ.block_ret (PJ.then_ret ?_))))
            obtain rfl := Option.some.inj hm
            refine PJ.sel (L' := []) [] ⟨List.nodup_nil, rfl⟩ ?_
            exact PJ.retn (vs := [.bool (decide (e23 < e28))]) Try.results44 ⟨rfl, trivial⟩ ⟨rfl, rfl⟩
          · replace hm := ifF hm hb22
            refine WJ.skip ?_
            refine PJ.block_normal (PJ.next ?_)
            refine WJ.quiet ?_
            refine QJ.step (YldS.yld (y_move rfl)) rfl ?_
            refine QJ.step (YldS.yld (y_bin rfl rfl rfl)) rfl ?_
            refine QJ.step (YldS.yld (y_assign rfl)) rfl ?_
            refine QJ.done ?_
            exact PJ.round (w64 (i10 + 1)) [] hm ⟨rfl, rfl, rfl, trivial⟩ ⟨List.nodup_nil, rfl⟩
        · replace hm := ifF hm hb11
          refine WJ.exit ?_
          refine PJ.then_exit (PJ.then_exit (PJ.block_exit ?_))
          exact PJ.joined () [] hm trivial ⟨List.nodup_nil, rfl⟩
    · rintro _ hm
      subst hk9
      refine WJ.seq ?_
      refine WJ.quiet ?_
      refine QJ.step (YldS.yld (y_assign rfl)) rfl ?_
      refine QJ.done ?_
      refine PJ.next ?_
      refine WJ.ret ?_
      obtain rfl := Option.some.inj hm
      refine PJ.sel (L' := []) [] ⟨List.nodup_nil, rfl⟩ ?_
      exact PJ.retn (vs := [.bool false]) Try.results44 ⟨rfl, trivial⟩ ⟨rfl, rfl⟩

set_option maxRecDepth 100000 in
set_option maxHeartbeats 1000000 in
theorem ok_s_LessonsForText {N : Nat} {list1 : List Lesson} {text4 : Str} {r : (List Int) × Int} (hm : s_LessonsForText N list1 text4 = some r) (w : World) (v2 : Value) (hr3 : RdS w (cx w).Fz v2 (shLesson.rp fI64.rp) list1) :
    Calls Try.prog 8 #[v2, str text4] w (RetG (cx w) fun u L => ∃ (u1 : Value), (u = tup [u1, .int .i64 r.2] ∧ L = [row u1 2 fI64 r.1])) := by
  unfold s_LessonsForText at hm
  refine Calls.enter [v2, str text4] Try.func8 rfl Try.ntmps8 rfl ?_
  refine WJ.seq ?_
  refine WJ.quiet ?_
  refine QJ.step (YldS.yld (y_assign rfl)) rfl ?_
  refine QJ.step (YldS.yld (y_assign rfl)) rfl ?_
  refine QJ.done ?_
  refine PJ.next ?_
  refine WJ.seq ?_
  refine WJ.reg ?_
  refine SJ.q (YldS.yld (y_move rfl)) rfl ?_
  refine SJ.buildSlice (R := fI64) (os := []) [] Try.runUnderlying27 Try.sizeOf2 Try.zeroValue2 rfl rfl rfl rfl rfl rfl fun v5 => ?_
  obtain ⟨r6, h7, hm⟩ := bindS hm
  refine SJ.q (y_call Try.call37 rfl (RetG.quiet fun w hw => ok_s_l18Taken h7 w _ (hr3.st hw) _ (hw.row_rd (k := 0) rfl))) rfl ?_
  refine SJ.q (YldS.yld (y_assign rfl)) rfl ?_
  refine SJ.nil ?_
  refine PJ.next ?_
  obtain ⟨kj9, hk10, hm⟩ := withK_open hm
  refine WJ.join (X := Int) (fun (x : Int) => kj9 x = some r) (fun (x : Int) => [(0, v2), (1, str text4), (6, .int .i64 x)]) (fun (x : Int) => []) ?_ ?_
  · clear hk10
    refine WJ.seq ?_
    refine WJ.quiet ?_
    refine QJ.step (YldS.yld (y_move rfl)) rfl ?_
    refine QJ.step (YldS.yld (y_bin rfl rfl rfl)) rfl ?_
    refine QJ.step (YldS.yld (y_move rfl)) rfl ?_
    obtain ⟨t11, h12, hm⟩ := bindS hm
    refine QJ.cut 4 [(0, v2), (1, str text4), (6, .int .i64 r6), (22, .bool t11)] ?_ ?_
    · rcases Bool.eq_false_or_eq_true (r6 == 0) with hb13 | hb13
      · replace h12 := andT h12 hb13
        refine QJ.on rfl rfl (cB hb13) (YldS.yld (y_move rfl)) rfl ?_
        obtain ⟨r14, h15, h12⟩ := bindS h12
        refine QJ.on rfl rfl (cB hb13) (y_call Try.call38 rfl (RetG.quiet fun w hw => ok_s_l00Text h15 w )) rfl ?_
        refine QJ.on rfl rfl (cB hb13) (YldS.yld (y_not rfl)) rfl ?_
        refine QJ.step (YldS.yld (y_pick_t (cB hb13) rfl)) rfl ?_
        obtain rfl := Option.some.inj h12
        exact QJ.cut_end ⟨rfl, rfl, rfl, rfl, trivial⟩
      · obtain rfl := andF h12 hb13
        refine QJ.off rfl rfl (cB hb13) rfl rfl ?_
        refine QJ.off rfl rfl (cB hb13) rfl rfl ?_
        refine QJ.off rfl rfl (cB hb13) rfl rfl ?_
        refine QJ.step (YldS.yld (y_pick_f (cB hb13) rfl)) rfl ?_
        exact QJ.cut_end ⟨rfl, rfl, rfl, rfl, trivial⟩
    refine QJ.done ?_
    refine PJ.next ?_
    refine WJ.cond (t := t11) rfl (fun hb16 => ?_) (fun hb16 => ?_)
    · replace hm := ifT hm hb16
      refine WJ.quiet ?_
      refine QJ.step (YldS.yld (y_assign rfl)) rfl ?_
      refine QJ.done ?_
      exact PJ.joined 2 [] hm ⟨rfl, rfl, rfl, trivial⟩ ⟨List.nodup_nil, rfl⟩
    · replace hm := ifF hm hb16
      refine WJ.skip ?_
      exact PJ.joined r6 [] hm ⟨rfl, rfl, rfl, trivial⟩ ⟨List.nodup_nil, rfl⟩
  · rintro code8 hm
    subst hk10
    obtain ⟨kj18, hk19, hm⟩ := withK_open hm
    refine WJ.join (X := Int) (fun (x : Int) => kj18 x = some r) (fun (x : Int) => [(0, v2), (1, str text4), (6, .int .i64 x)]) (fun (x : Int) => []) ?_ ?_
    · clear hk19
      refine WJ.seq ?_
      refine WJ.quiet ?_
      refine QJ.step (YldS.yld (y_move rfl)) rfl ?_
      refine QJ.step (YldS.yld (y_bin rfl rfl rfl)) rfl ?_
      refine QJ.step (YldS.yld (y_move rfl)) rfl ?_
      obtain ⟨t20, h21, hm⟩ := bindS hm
      refine QJ.cut 4 [(0, v2), (1, str text4), (6, .int .i64 code8), (29, .bool t20)] ?_ ?_
      · rcases Bool.eq_false_or_eq_true (code8 == 0) with hb22 | hb22
        · replace h21 := andT h21 hb22
          refine QJ.on rfl rfl (cB hb22) (YldS.yld (y_move rfl)) rfl ?_
          obtain ⟨r23, h24, h21⟩ := bindS h21
          refine QJ.on rfl rfl (cB hb22) (y_call Try.call39 rfl (RetG.quiet fun w hw => ok_s_l18Circle h24 w _ (hr3.st hw))) rfl ?_
          refine QJ.on rfl rfl (cB hb22) (YldS.yld (y_bin rfl rfl rfl)) rfl ?_
          refine QJ.step (YldS.yld (y_pick_t (cB hb22) rfl)) rfl ?_
          obtain rfl := Option.some.inj h21
          exact QJ.cut_end ⟨rfl, rfl, rfl, rfl, trivial⟩
        · obtain rfl := andF h21 hb22
          refine QJ.off rfl rfl (cB hb22) rfl rfl ?_
          refine QJ.off rfl rfl (cB hb22) rfl rfl ?_
          refine QJ.off rfl rfl (cB hb22) rfl rfl ?_
          refine QJ.step (YldS.yld (y_pick_f (cB hb22) rfl)) rfl ?_
          exact QJ.cut_end ⟨rfl, rfl, rfl, rfl, trivial⟩
      refine QJ.done ?_
      refine PJ.next ?_
      refine WJ.cond (t := t20) rfl (fun hb25 => ?_) (fun hb25 => ?_)
      · replace hm := ifT hm hb25
        refine WJ.quiet ?_
        refine QJ.step (YldS.yld (y_assign rfl)) rfl ?_
        refine QJ.done ?_
        exact PJ.joined 9 [] hm ⟨rfl, rfl, rfl, trivial⟩ ⟨List.nodup_nil, rfl⟩
      · replace hm := ifF hm hb25
        refine WJ.skip ?_
        exact PJ.joined code8 [] hm ⟨rfl, rfl, rfl, trivial⟩ ⟨List.nodup_nil, rfl⟩
    · rintro code17 hm
      subst hk19
      refine WJ.seq ?_
      refine WJ.seq ?_
      refine WJ.quiet ?_
      refine QJ.step (YldS.yld (y_move rfl)) rfl ?_
      refine QJ.step (YldS.yld (y_bin rfl rfl rfl)) rfl ?_
      refine QJ.done ?_
      refine PJ.next ?_
      refine WJ.cond (t := (code17 != 0)) rfl (fun hb26 => ?_) (fun hb26 => ?_)
      · replace hm := ifT hm hb26
        refine WJ.seq ?_
        refine WJ.quiet ?_
        refine QJ.step (YldS.yld (y_move rfl)) rfl ?_
        refine QJ.step (YldS.yld (y_assign rfl)) rfl ?_
        refine QJ.step (YldS.yld (y_assign rfl)) rfl ?_
        refine QJ.done ?_
        refine PJ.next ?_
        refine WJ.ret ?_
        refine PJ.then_ret ?_
        refine PJ.nil_row 2 fI64 ?_
        obtain rfl := Option.some.inj hm
        refine PJ.sel (L' := [row (.slice none 0 0) 2 fI64 []]) [0] ⟨by decide, rfl⟩ ?_
        exact PJ.retn (vs := [(.slice none 0 0), .int .i64 code17]) Try.results8 ⟨rfl, rfl, trivial⟩ ⟨_, rfl, rfl⟩
      · replace hm := ifF hm hb26
        refine WJ.skip ?_
        refine PJ.next ?_
        refine WJ.seq ?_
        refine WJ.reg ?_
        refine SJ.buildSlice (R := fI64) (os := []) [] Try.runUnderlying27 Try.sizeOf2 Try.zeroValue2 rfl rfl rfl rfl rfl rfl fun v27 => ?_
        refine SJ.q (YldS.yld (y_assign rfl)) rfl ?_
        refine SJ.nil ?_
        refine PJ.next ?_
        refine WJ.seq ?_
        refine WJ.quiet ?_
        refine QJ.step (YldS.yld (y_assign rfl)) rfl ?_
        refine QJ.done ?_
        refine PJ.next ?_
        obtain ⟨kj31, hk32, hm⟩ := withK_open hm
        refine WJ.join (X := (List Int) × Value × Int) (fun (x : (List Int) × Value × Int) => kj31 x.1 x.2.2 = some r) (fun (x : (List Int) × Value × Int) => [(7, x.2.1), (8, .int .i64 x.2.2)]) (fun (x : (List Int) × Value × Int) => [row x.2.1 2 fI64 x.1]) ?_ ?_
        · clear hk32
          refine WJ.seq ?_
          refine WJ.quiet ?_
          refine QJ.step (YldS.yld (y_assign rfl)) rfl ?_
          refine QJ.done ?_
          refine PJ.next ?_
          refine WJ.block ?_
          refine WJ.sel (L' := (fun (x : (List Int) × Value × Int × Int) => [row x.2.1 2 fI64 x.1]) ([], v27, (-1), 0)) [0] ⟨by decide, rfl⟩ ?_
          refine WJ.sub (m' := (fun (x : (List Int) × Value × Int × Int) => [(0, v2), (1, str text4), (7, x.2.1), (8, .int .i64 x.2.2.1), (9, .int .i64 x.2.2.2)]) ([], v27, (-1), 0)) ⟨rfl, rfl, rfl, rfl, rfl, trivial⟩ ?_
          refine WJ.loop (X := (List Int) × Value × Int × Int) (fun N (x : (List Int) × Value × Int × Int) => s_LessonsForText_l1 kj31 list1 text4 N x.1 x.2.2.1 x.2.2.2 = some r) (fun (x : (List Int) × Value × Int × Int) => [(0, v2), (1, str text4), (7, x.2.1), (8, .int .i64 x.2.2.1), (9, .int .i64 x.2.2.2)]) (fun (x : (List Int) × Value × Int × Int) => [row x.2.1 2 fI64 x.1]) ?_ N ([], v27, (-1), 0) hm
          · rintro N ⟨l33, v34, least35, bits36⟩ hI
            have hm := hI; clear hI
            cases N with
            | zero => cases hm
            | succ N =>
            unfold s_LessonsForText_l1 at hm
            refine WJ.seq ?_
            refine WJ.seq ?_
            refine WJ.quiet ?_
            refine QJ.step (YldS.yld (y_move rfl)) rfl ?_
            refine QJ.step (YldS.yld (y_move rfl)) rfl ?_
            refine QJ.step (YldS.yld (y_lenS Try.runUnderlying24 hr3 rfl)) rfl ?_
            refine QJ.step (YldS.yld (y_convI Try.runUnderlying3 Try.runUnderlying68 rfl)) rfl ?_
            obtain ⟨q37, h38, hm⟩ := bindS hm
            refine QJ.step (YldS.yld (y_shl' h38 rfl rfl)) rfl ?_
            refine QJ.step (YldS.yld (y_bin rfl rfl rfl)) rfl ?_
            refine QJ.done ?_
            refine PJ.next ?_
            refine WJ.cond (t := decide (bits36 < q37)) rfl (fun hb39 => ?_) (fun hb39 => ?_)
            · replace hm := ifT hm hb39
              refine WJ.skip ?_
              refine PJ.next ?_
              obtain ⟨kj43, hk44, hm⟩ := withK_open hm
              refine WJ.join (X := (List Int) × Value × Int) (fun (x : (List Int) × Value × Int) => kj43 x.1 x.2.2 = some r) (fun (x : (List Int) × Value × Int) => [(0, v2), (1, str text4), (7, x.2.1), (8, .int .i64 x.2.2), (9, .int .i64 bits36)]) (fun (x : (List Int) × Value × Int) => [row x.2.1 2 fI64 x.1]) ?_ ?_
              · clear hk44
                refine WJ.block ?_
                refine WJ.seq ?_
                refine WJ.reg ?_
                refine SJ.buildSlice (R := fI64) (os := []) [] Try.runUnderlying27 Try.sizeOf2 Try.zeroValue2 rfl rfl rfl rfl rfl rfl fun v45 => ?_
                refine SJ.q (YldS.yld (y_assign rfl)) rfl ?_
                refine SJ.nil ?_
                refine PJ.next ?_
                obtain ⟨kj48, hk49, hm⟩ := withK_open hm
                refine WJ.join (X := (List Int) × Value) (fun (x : (List Int) × Value) => kj48 x.1 = some r) (fun (x : (List Int) × Value) => [(0, v2), (1, str text4), (7, v34), (8, .int .i64 least35), (9, .int .i64 bits36), (10, x.2)]) (fun (x : (List Int) × Value) => [row x.2 2 fI64 x.1, row v34 2 fI64 l33]) ?_ ?_
                · clear hk49
                  refine WJ.seq ?_
                  refine WJ.quiet ?_
                  refine QJ.step (YldS.yld (y_assign rfl)) rfl ?_
                  refine QJ.done ?_
                  refine PJ.next ?_
                  refine WJ.block ?_
                  refine WJ.sel (L' := (fun (x : (List Int) × Value × Int) => [row x.2.1 2 fI64 x.1, row v34 2 fI64 l33]) ([], v45, 0)) [0, 1] ⟨by decide, rfl⟩ ?_
                  refine WJ.sub (m' := (fun (x : (List Int) × Value × Int) => [(0, v2), (1, str text4), (7, v34), (8, .int .i64 least35), (9, .int .i64 bits36), (10, x.2.1), (11, .int .i64 x.2.2)]) ([], v45, 0)) ⟨rfl, rfl, rfl, rfl, rfl, rfl, rfl, trivial⟩ ?_
                  refine WJ.loop (X := (List Int) × Value × Int) (fun N (x : (List Int) × Value × Int) => s_LessonsForText_l2 kj48 list1 bits36 N x.1 x.2.2 = some r) (fun (x : (List Int) × Value × Int) => [(0, v2), (1, str text4), (7, v34), (8, .int .i64 least35), (9, .int .i64 bits36), (10, x.2.1), (11, .int .i64 x.2.2)]) (fun (x : (List Int) × Value × Int) => [row x.2.1 2 fI64 x.1, row v34 2 fI64 l33]) ?_ N ([], v45, 0) hm
                  · rintro N ⟨l50, v51, i52⟩ hI
                    have hm := hI; clear hI
                    cases N with
                    | zero => cases hm
                    | succ N =>
                    unfold s_LessonsForText_l2 at hm
                    refine WJ.seq ?_
                    refine WJ.seq ?_
                    refine WJ.quiet ?_
                    refine QJ.step (YldS.yld (y_move rfl)) rfl ?_
                    refine QJ.step (YldS.yld (y_move rfl)) rfl ?_
                    refine QJ.step (YldS.yld (y_lenS Try.runUnderlying24 hr3 rfl)) rfl ?_
                    refine QJ.step (YldS.yld (y_bin rfl rfl rfl)) rfl ?_
                    refine QJ.done ?_
                    refine PJ.next ?_
                    refine WJ.cond (t := decide (i52 < (List.length list1 : Int))) rfl (fun hb53 => ?_) (fun hb53 => ?_)
                    · replace hm := ifT hm hb53
                      refine WJ.skip ?_
                      refine PJ.next ?_
                      obtain ⟨kj56, hk57, hm⟩ := withK_open hm
                      refine WJ.join (X := (List Int) × Value) (fun (x : (List Int) × Value) => kj56 x.1 = some r) (fun (x : (List Int) × Value) => [(0, v2), (1, str text4), (7, v34), (8, .int .i64 least35), (9, .int .i64 bits36), (10, x.2), (11, .int .i64 i52)]) (fun (x : (List Int) × Value) => [row x.2 2 fI64 x.1, row v34 2 fI64 l33]) ?_ ?_
                      · clear hk57
                        refine WJ.block ?_
                        refine WJ.seq ?_
                        refine WJ.quiet ?_
                        refine QJ.step (YldS.yld (y_move rfl)) rfl ?_
                        refine QJ.step (YldS.yld (y_move rfl)) rfl ?_
                        refine QJ.step (YldS.yld (y_convI Try.runUnderlying3 Try.runUnderlying68 rfl)) rfl ?_
                        obtain ⟨q58, h59, hm⟩ := bindS hm
                        refine QJ.step (YldS.yld (y_shr' h59 rfl rfl)) rfl ?_
                        refine QJ.step (YldS.yld (y_and rfl rfl)) rfl ?_
                        refine QJ.step (YldS.yld (y_bin rfl rfl rfl)) rfl ?_
                        refine QJ.done ?_
                        refine PJ.next ?_
                        refine WJ.cond (t := ((iand q58 1) == 1)) rfl (fun hb60 => ?_) (fun hb60 => ?_)
                        · replace hm := ifT hm hb60
                          refine WJ.reg ?_
                          refine SJ.q (YldS.yld (y_move rfl)) rfl ?_
                          refine SJ.q (YldS.yld (y_move rfl)) rfl ?_
                          refine SJ.buildSlice (R := fI64) (os := [.tmp 56]) [i52] Try.runUnderlying27 Try.sizeOf2 Try.zeroValue2 rfl rfl rfl rfl rfl rfl fun v61 => ?_
                          obtain ⟨l62, h63, hm⟩ := bindS hm
                          refine SJ.append (k := 1) (R := fI64) h63 rfl Try.underlying27 el2 rfl rfl rfl (fun w hw => (hw.row_rd (k := 0) rfl)) rfl fun v64 => ?_
                          refine SJ.q (YldS.yld (y_assign rfl)) rfl ?_
                          refine SJ.nil ?_
                          refine PJ.block_normal ?_
                          exact PJ.joined (l62, v64) [1, 2] hm ⟨rfl, rfl, rfl, rfl, rfl, rfl, rfl, trivial⟩ ⟨by decide, rfl⟩
                        · replace hm := ifF hm hb60
                          refine WJ.skip ?_
                          refine PJ.block_normal ?_
                          exact PJ.joined (l50, v51) [0, 1] hm ⟨rfl, rfl, rfl, rfl, rfl, rfl, rfl, trivial⟩ ⟨by decide, rfl⟩
                      · rintro ⟨l54, v55⟩ hm
                        subst hk57
                        refine WJ.quiet ?_
                        refine QJ.step (YldS.yld (y_move rfl)) rfl ?_
                        refine QJ.step (YldS.yld (y_bin rfl rfl rfl)) rfl ?_
                        refine QJ.step (YldS.yld (y_assign rfl)) rfl ?_
                        refine QJ.done ?_
                        exact PJ.round (l54, v55, w64 (i52 + 1)) [0, 1] hm ⟨rfl, rfl, rfl, rfl, rfl, rfl, rfl, trivial⟩ ⟨by decide, rfl⟩
                    · replace hm := ifF hm hb53
                      refine WJ.exit ?_
                      refine PJ.then_exit (PJ.then_exit (PJ.block_exit ?_))
                      exact PJ.joined (l50, v51) [0, 1] hm ⟨rfl, rfl, rfl, rfl, rfl, rfl, trivial⟩ ⟨by decide, rfl⟩
                · rintro ⟨l46, v47⟩ hm
                  subst hk49
                  refine WJ.seq ?_
                  refine WJ.quiet ?_
                  refine QJ.step (YldS.yld (y_move rfl)) rfl ?_
                  refine QJ.step (YldS.yld (y_move rfl)) rfl ?_
                  obtain ⟨r65, h66, hm⟩ := bindS hm
                  refine QJ.step (y_call Try.call40 rfl (RetG.quiet fun w hw => ok_s_l18Hours h66 w _ (hr3.st hw) _ (hw.row_rd (k := 0) rfl))) rfl ?_
                  refine QJ.step (YldS.yld (y_assign rfl)) rfl ?_
                  refine QJ.done ?_
                  refine PJ.next ?_
                  refine WJ.seq ?_
                  refine WJ.seq ?_
                  refine WJ.reg ?_
                  refine SJ.q (YldS.yld (y_move rfl)) rfl ?_
                  refine SJ.q (YldS.yld (y_bin rfl rfl rfl)) rfl ?_
                  refine SJ.q (YldS.yld (y_move rfl)) rfl ?_
                  obtain ⟨t67, h68, hm⟩ := bindS hm
                  refine SJ.cut 4 [(0, v2), (1, str text4), (7, v34), (8, .int .i64 least35), (9, .int .i64 bits36), (10, v47), (12, .int .i64 r65), (68, .bool t67)] [row v47 2 fI64 l46, row v34 2 fI64 l33] ?_ ?_
                  · rcases Bool.eq_false_or_eq_true (decide (least35 ≥ 0)) with hb69 | hb69
                    · replace h68 := andT h68 hb69
                      refine SJ.on rfl rfl (cB hb69) (SJ.q (YldS.yld (y_move rfl)) rfl ?_)
                      refine SJ.on rfl rfl (cB hb69) (SJ.q (YldS.yld (y_move rfl)) rfl ?_)
                      refine SJ.on rfl rfl (cB hb69) (SJ.q (YldS.yld (y_bin rfl rfl rfl)) rfl ?_)
                      refine SJ.q (YldS.yld (y_pick_t (cB hb69) rfl)) rfl ?_
                      obtain rfl := Option.some.inj h68
                      exact SJ.cut_end [0, 1] ⟨rfl, rfl, rfl, rfl, rfl, rfl, rfl, rfl, trivial⟩ ⟨by decide, rfl⟩
                    · obtain rfl := andF h68 hb69
                      refine SJ.off rfl rfl (cB hb69) rfl rfl ?_
                      refine SJ.off rfl rfl (cB hb69) rfl rfl ?_
                      refine SJ.off rfl rfl (cB hb69) rfl rfl ?_
                      refine SJ.q (YldS.yld (y_pick_f (cB hb69) rfl)) rfl ?_
                      exact SJ.cut_end [0, 1] ⟨rfl, rfl, rfl, rfl, rfl, rfl, rfl, rfl, trivial⟩ ⟨by decide, rfl⟩
                  refine SJ.q (YldS.yld (y_move rfl)) rfl ?_
                  obtain ⟨t70, h71, hm⟩ := bindS hm
                  refine SJ.cut 7 [(0, v2), (1, str text4), (7, v34), (8, .int .i64 least35), (9, .int .i64 bits36), (10, v47), (12, .int .i64 r65), (76, .bool t70)] [row v47 2 fI64 l46, row v34 2 fI64 l33] ?_ ?_
                  · rcases Bool.eq_false_or_eq_true t67 with hb72 | hb72
                    · obtain rfl := orT h71 hb72
                      refine SJ.off rfl rfl (cB hb72) rfl rfl ?_
                      refine SJ.off rfl rfl (cB hb72) rfl rfl ?_
                      refine SJ.off rfl rfl (cB hb72) rfl rfl ?_
                      refine SJ.off rfl rfl (cB hb72) rfl rfl ?_
                      refine SJ.off rfl rfl (cB hb72) rfl rfl ?_
                      refine SJ.off rfl rfl (cB hb72) rfl rfl ?_
                      refine SJ.q (YldS.yld (y_pick_t (cB hb72) rfl)) rfl ?_
                      exact SJ.cut_end [0, 1] ⟨rfl, rfl, rfl, rfl, rfl, rfl, rfl, rfl, trivial⟩ ⟨by decide, rfl⟩
                    · replace h71 := orF h71 hb72
                      refine SJ.on rfl rfl (cB hb72) (SJ.q (YldS.yld (y_move rfl)) rfl ?_)
                      refine SJ.on rfl rfl (cB hb72) (SJ.q (YldS.yld (y_move rfl)) rfl ?_)
                      obtain ⟨r73, h74, h71⟩ := bindS h71
                      refine SJ.on rfl rfl (cB hb72) (SJ.q (y_call Try.call42 rfl (RetG.quiet fun w hw => ok_s_l18Known h74 w _ (hr3.st hw) _ (hw.row_rd (k := 0) rfl))) rfl ?_)
                      refine SJ.on rfl rfl (cB hb72) (SJ.q (YldS.yld (y_move rfl)) rfl ?_)
                      obtain ⟨r75, h76, h71⟩ := bindS h71
                      refine SJ.on rfl rfl (cB hb72) (SJ.q (y_call Try.call41 rfl (RetG.quiet fun w hw => ok_s_l18Missing h76 w )) rfl ?_)
                      refine SJ.on rfl rfl (cB hb72) (SJ.q (YldS.yld (y_binS rfl rfl rfl)) rfl ?_)
                      refine SJ.q (YldS.yld (y_pick_f (cB hb72) rfl)) rfl ?_
                      obtain rfl := Option.some.inj h71
                      exact SJ.cut_end [0, 1] ⟨rfl, rfl, rfl, rfl, rfl, rfl, rfl, rfl, trivial⟩ ⟨by decide, rfl⟩
                  refine SJ.q (YldS.yld (y_move rfl)) rfl ?_
                  obtain ⟨t77, h78, hm⟩ := bindS hm
                  refine SJ.cut 8 [(0, v2), (1, str text4), (7, v34), (8, .int .i64 least35), (9, .int .i64 bits36), (10, v47), (12, .int .i64 r65), (85, .bool t77)] [row v47 2 fI64 l46, row v34 2 fI64 l33] ?_ ?_
                  · rcases Bool.eq_false_or_eq_true t70 with hb79 | hb79
                    · obtain rfl := orT h78 hb79
                      refine SJ.off rfl rfl (cB hb79) rfl rfl ?_
                      refine SJ.off rfl rfl (cB hb79) rfl rfl ?_
                      refine SJ.off rfl rfl (cB hb79) rfl rfl ?_
                      refine SJ.off rfl rfl (cB hb79) rfl rfl ?_
                      refine SJ.off rfl rfl (cB hb79) rfl rfl ?_
                      refine SJ.off rfl rfl (cB hb79) rfl rfl ?_
                      refine SJ.off rfl rfl (cB hb79) rfl rfl ?_
                      refine SJ.q (YldS.yld (y_pick_t (cB hb79) rfl)) rfl ?_
                      exact SJ.cut_end [0, 1] ⟨rfl, rfl, rfl, rfl, rfl, rfl, rfl, rfl, trivial⟩ ⟨by decide, rfl⟩
                    · replace h78 := orF h78 hb79
                      refine SJ.on rfl rfl (cB hb79) (SJ.q (YldS.yld (y_move rfl)) rfl ?_)
                      refine SJ.on rfl rfl (cB hb79) (SJ.q (YldS.yld (y_move rfl)) rfl ?_)
                      obtain ⟨r80, h81, h78⟩ := bindS h78
                      refine SJ.on rfl rfl (cB hb79) (SJ.call Try.call43 rfl (fun w hw => ok_s_l18All h81 w _ (hr3.st hw) _ (hw.row_rd (k := 0) rfl)) rfl ?_)
                      rintro v82 _ ⟨_, rfl, rfl⟩
                      refine SJ.on rfl rfl (cB hb79) (SJ.q (YldS.yld (y_lenRow (k := 0) rfl Try.runUnderlying27 rfl)) rfl ?_)
                      refine SJ.on rfl rfl (cB hb79) (SJ.q (YldS.yld (y_move rfl)) rfl ?_)
                      refine SJ.on rfl rfl (cB hb79) (SJ.q (YldS.yld (y_lenRow (k := 1) rfl Try.runUnderlying27 rfl)) rfl ?_)
                      refine SJ.on rfl rfl (cB hb79) (SJ.q (YldS.yld (y_bin rfl rfl rfl)) rfl ?_)
                      refine SJ.q (YldS.yld (y_pick_f (cB hb79) rfl)) rfl ?_
                      obtain rfl := Option.some.inj h78
                      exact SJ.cut_end [1, 2] ⟨rfl, rfl, rfl, rfl, rfl, rfl, rfl, rfl, trivial⟩ ⟨by decide, rfl⟩
                  refine SJ.nil ?_
                  refine PJ.next ?_
                  refine WJ.cond (t := t77) rfl (fun hb83 => ?_) (fun hb83 => ?_)
                  · replace hm := ifT hm hb83
                    refine WJ.exit ?_
                    refine PJ.then_exit (PJ.block_exit ?_)
                    exact PJ.joined (l33, v34, least35) [1] hm ⟨rfl, rfl, rfl, rfl, rfl, trivial⟩ ⟨by decide, rfl⟩
                  · replace hm := ifF hm hb83
                    refine WJ.skip ?_
                    refine PJ.next ?_
                    refine WJ.seq ?_
                    refine WJ.quiet ?_
                    refine QJ.step (YldS.yld (y_move rfl)) rfl ?_
                    refine QJ.step (YldS.yld (y_bin rfl rfl rfl)) rfl ?_
                    refine QJ.step (YldS.yld (y_move rfl)) rfl ?_
                    obtain ⟨t84, h85, hm⟩ := bindS hm
                    refine QJ.cut 4 [(0, v2), (1, str text4), (7, v34), (8, .int .i64 least35), (9, .int .i64 bits36), (10, v47), (12, .int .i64 r65), (92, .bool t84)] ?_ ?_
                    · rcases Bool.eq_false_or_eq_true (decide (least35 < 0)) with hb86 | hb86
                      · obtain rfl := orT h85 hb86
                        refine QJ.off rfl rfl (cB hb86) rfl rfl ?_
                        refine QJ.off rfl rfl (cB hb86) rfl rfl ?_
                        refine QJ.off rfl rfl (cB hb86) rfl rfl ?_
                        refine QJ.step (YldS.yld (y_pick_t (cB hb86) rfl)) rfl ?_
                        exact QJ.cut_end ⟨rfl, rfl, rfl, rfl, rfl, rfl, rfl, rfl, trivial⟩
                      · replace h85 := orF h85 hb86
                        refine QJ.on rfl rfl (cB hb86) (YldS.yld (y_move rfl)) rfl ?_
                        refine QJ.on rfl rfl (cB hb86) (YldS.yld (y_move rfl)) rfl ?_
                        refine QJ.on rfl rfl (cB hb86) (YldS.yld (y_bin rfl rfl rfl)) rfl ?_
                        refine QJ.step (YldS.yld (y_pick_f (cB hb86) rfl)) rfl ?_
                        obtain rfl := Option.some.inj h85
                        exact QJ.cut_end ⟨rfl, rfl, rfl, rfl, rfl, rfl, rfl, rfl, trivial⟩
                    refine QJ.step (YldS.yld (y_move rfl)) rfl ?_
                    obtain ⟨t87, h88, hm⟩ := bindS hm
                    refine QJ.cut 4 [(0, v2), (1, str text4), (7, v34), (8, .int .i64 least35), (9, .int .i64 bits36), (10, v47), (12, .int .i64 r65), (97, .bool t87)] ?_ ?_
                    · rcases Bool.eq_false_or_eq_true t84 with hb89 | hb89
                      · obtain rfl := orT h88 hb89
                        refine QJ.off rfl rfl (cB hb89) rfl rfl ?_
                        refine QJ.off rfl rfl (cB hb89) rfl rfl ?_
                        refine QJ.off rfl rfl (cB hb89) rfl rfl ?_
                        refine QJ.step (YldS.yld (y_pick_t (cB hb89) rfl)) rfl ?_
                        exact QJ.cut_end ⟨rfl, rfl, rfl, rfl, rfl, rfl, rfl, rfl, trivial⟩
                      · replace h88 := orF h88 hb89
                        refine QJ.on rfl rfl (cB hb89) (YldS.yld (y_move rfl)) rfl ?_
                        refine QJ.on rfl rfl (cB hb89) (YldS.yld (y_move rfl)) rfl ?_
                        obtain ⟨r90, h91, h88⟩ := bindS h88
                        refine QJ.on rfl rfl (cB hb89) (y_call Try.call44 rfl (RetG.quiet fun w hw => ok_s_l18Less h91 w _ (hw.row_rd (k := 0) rfl) _ (hw.row_rd (k := 1) rfl))) rfl ?_
                        refine QJ.step (YldS.yld (y_pick_f (cB hb89) rfl)) rfl ?_
                        obtain rfl := Option.some.inj h88
                        exact QJ.cut_end ⟨rfl, rfl, rfl, rfl, rfl, rfl, rfl, rfl, trivial⟩
                    refine QJ.done ?_
                    refine PJ.next ?_
                    refine WJ.cond (t := t87) rfl (fun hb92 => ?_) (fun hb92 => ?_)
                    · replace hm := ifT hm hb92
                      refine WJ.seq ?_
                      refine WJ.quiet ?_
                      refine QJ.step (YldS.yld (y_move rfl)) rfl ?_
                      refine QJ.step (YldS.yld (y_assign rfl)) rfl ?_
                      refine QJ.done ?_
                      refine PJ.next ?_
                      refine WJ.quiet ?_
                      refine QJ.step (YldS.yld (y_move rfl)) rfl ?_
                      refine QJ.step (YldS.yld (y_assign rfl)) rfl ?_
                      refine QJ.done ?_
                      refine PJ.block_normal ?_
                      exact PJ.joined (l46, v47, r65) [0] hm ⟨rfl, rfl, rfl, rfl, rfl, trivial⟩ ⟨by decide, rfl⟩
                    · replace hm := ifF hm hb92
                      refine WJ.skip ?_
                      refine PJ.block_normal ?_
                      exact PJ.joined (l33, v34, least35) [1] hm ⟨rfl, rfl, rfl, rfl, rfl, trivial⟩ ⟨by decide, rfl⟩
              · rintro ⟨l40, v41, least42⟩ hm
                subst hk44
                refine WJ.quiet ?_
                refine QJ.step (YldS.yld (y_move rfl)) rfl ?_
                refine QJ.step (YldS.yld (y_bin rfl rfl rfl)) rfl ?_
                refine QJ.step (YldS.yld (y_assign rfl)) rfl ?_
                refine QJ.done ?_
                exact PJ.round (l40, v41, least42, w64 (bits36 + 1)) [0] hm ⟨rfl, rfl, rfl, rfl, rfl, trivial⟩ ⟨by decide, rfl⟩
            · replace hm := ifF hm hb39
              refine WJ.exit ?_
              refine PJ.then_exit (PJ.then_exit (PJ.block_exit ?_))
              exact PJ.joined (l33, v34, least35) [0] hm ⟨rfl, rfl, trivial⟩ ⟨by decide, rfl⟩
        · rintro ⟨l28, v29, least30⟩ hm
          subst hk32
          refine WJ.seq ?_
          refine WJ.seq ?_
          refine WJ.quiet ?_
          refine QJ.step (YldS.yld (y_move rfl)) rfl ?_
          refine QJ.step (YldS.yld (y_bin rfl rfl rfl)) rfl ?_
          refine QJ.done ?_
          refine PJ.next ?_
          refine WJ.cond (t := decide (least30 < 0)) rfl (fun hb93 => ?_) (fun hb93 => ?_)
          · replace hm := ifT hm hb93
            refine WJ.seq ?_
            refine WJ.quiet ?_
            refine QJ.step (YldS.yld (y_assign rfl)) rfl ?_
            refine QJ.step (YldS.yld (y_assign rfl)) rfl ?_
            refine QJ.done ?_
            refine PJ.next ?_
            refine WJ.ret ?_
            refine PJ.then_ret ?_
            refine PJ.nil_row 2 fI64 ?_
            obtain rfl := Option.some.inj hm
            refine PJ.sel (L' := [row (.slice none 0 0) 2 fI64 []]) [0] ⟨by decide, rfl⟩ ?_
            exact PJ.retn (vs := [(.slice none 0 0), .int .i64 3]) Try.results8 ⟨rfl, rfl, trivial⟩ ⟨_, rfl, rfl⟩
          · replace hm := ifF hm hb93
            refine WJ.skip ?_
            refine PJ.next ?_
            refine WJ.seq ?_
            refine WJ.quiet ?_
            refine QJ.step (YldS.yld (y_move rfl)) rfl ?_
            refine QJ.step (YldS.yld (y_assign rfl)) rfl ?_
            refine QJ.step (YldS.yld (y_assign rfl)) rfl ?_
            refine QJ.done ?_
            refine PJ.next ?_
            refine WJ.ret ?_
            obtain rfl := Option.some.inj hm
            refine PJ.sel (L' := [row v29 2 fI64 l28]) [0] ⟨by decide, rfl⟩ ?_
            exact PJ.retn (vs := [v29, .int .i64 0]) Try.results8 ⟨rfl, rfl, trivial⟩ ⟨_, rfl, rfl⟩

set_option maxRecDepth 100000 in
set_option maxHeartbeats 1000000 in
theorem ok_i_ascending {N : Nat} {marked1 : List Bool} {r : Str} (hm : i_ascending N marked1 = some r) (w : World) (ad2 : Addr) (ha3 : RdS w (cx w).Fz (.slice (some ad2) 256 256) fBool.rp marked1) :
    Calls Try.prog 45 #[.pointer (some ad2)] w (Ret (cx w) (str r)) := by
  unfold i_ascending at hm
  refine Calls.enter [.pointer (some ad2)] Try.func45 rfl Try.ntmps45 rfl ?_
  refine WJ.seq ?_
  refine WJ.quiet ?_
  refine QJ.step (YldS.yld (y_assign rfl)) rfl ?_
  refine QJ.done ?_
  refine PJ.next ?_
  refine WJ.seq ?_
  refine WJ.reg ?_
  refine SJ.buildSlice (R := fByte) (os := []) [] Try.runUnderlying22 Try.sizeOf5 Try.zeroValue5 rfl rfl rfl rfl rfl rfl fun v4 => ?_
  refine SJ.q (YldS.yld (y_assign rfl)) rfl ?_
  refine SJ.nil ?_
  refine PJ.next ?_
  obtain ⟨kj7, hk8, hm⟩ := withK_open hm
  refine WJ.join (X := (List UInt8) × Value) (fun (x : (List UInt8) × Value) => kj7 x.1 = some r) (fun (x : (List UInt8) × Value) => [(3, x.2)]) (fun (x : (List UInt8) × Value) => [row x.2 5 fByte x.1]) ?_ ?_
  · clear hk8
    refine WJ.seq ?_
    refine WJ.quiet ?_
    refine QJ.step (YldS.yld (y_move rfl)) rfl ?_
    refine QJ.done ?_
    refine PJ.next ?_
    refine WJ.block ?_
    refine WJ.sel (L' := (fun (x : (List UInt8) × Value × Int) => [row x.2.1 5 fByte x.1]) ([], v4, 0)) [0] ⟨by decide, rfl⟩ ?_
    refine WJ.sub (m' := (fun (x : (List UInt8) × Value × Int) => [(0, .pointer (some ad2)), (3, x.2.1), (6, .int .i64 x.2.2)]) ([], v4, 0)) ⟨rfl, rfl, rfl, trivial⟩ ?_
    refine WJ.loop (X := (List UInt8) × Value × Int) (fun N (x : (List UInt8) × Value × Int) => i_ascending_l1 kj7 marked1 N x.1 x.2.2 = some r) (fun (x : (List UInt8) × Value × Int) => [(0, .pointer (some ad2)), (3, x.2.1), (6, .int .i64 x.2.2)]) (fun (x : (List UInt8) × Value × Int) => [row x.2.1 5 fByte x.1]) ?_ N ([], v4, 0) hm
    · rintro N ⟨l9, v10, x11⟩ hI
      have hm := hI; clear hI
      cases N with
      | zero => cases hm
      | succ N =>
      unfold i_ascending_l1 at hm
      refine WJ.seq ?_
      refine WJ.quiet ?_
      refine QJ.step (YldS.yld (y_bin rfl rfl rfl)) rfl ?_
      refine QJ.done ?_
      refine PJ.next ?_
      refine WJ.seq ?_
      refine WJ.cond (t := decide (x11 < 256)) rfl (fun hb12 => ?_) (fun hb12 => ?_)
      · replace hm := ifT hm hb12
        refine WJ.skip ?_
        refine PJ.next ?_
        obtain ⟨kj15, hk16, hm⟩ := withK_open hm
        refine WJ.join (X := (List UInt8) × Value) (fun (x : (List UInt8) × Value) => kj15 x.1 = some r) (fun (x : (List UInt8) × Value) => [(0, .pointer (some ad2)), (3, x.2), (6, .int .i64 x11)]) (fun (x : (List UInt8) × Value) => [row x.2 5 fByte x.1]) ?_ ?_
        · clear hk16
          refine WJ.block ?_
          refine WJ.seq ?_
          refine WJ.quiet ?_
          refine QJ.step (YldS.yld (y_move rfl)) rfl ?_
          refine QJ.step (YldS.yld (y_assign rfl)) rfl ?_
          refine QJ.done ?_
          refine PJ.next ?_
          refine WJ.seq ?_
          refine WJ.quiet ?_
          refine QJ.step (YldS.yld (y_move rfl)) rfl ?_
          refine QJ.step (YldS.yld (y_move rfl)) rfl ?_
          refine QJ.step (YldS.yld (y_nil rfl)) rfl ?_
          obtain ⟨e17, h18, hm⟩ := bindS hm
          obtain ⟨ad19, _, rfl, ha20, hy21⟩ := ha3.elemA h18
          refine QJ.step (YldS.yld (hy21 Try.runUnderlying72 Try.sizeOf4 rfl rfl)) rfl ?_
          refine QJ.step (YldS.yld (y_load1 (v := .bool e17) Try.isAgg4 ha20 St.frozenC rfl)) rfl ?_
          refine QJ.done ?_
          refine PJ.next ?_
          refine WJ.cond (t := e17) rfl (fun hb22 => ?_) (fun hb22 => ?_)
          · replace hm := ifT hm hb22
            refine WJ.reg ?_
            refine SJ.q (YldS.yld (y_move rfl)) rfl ?_
            refine SJ.q (YldS.yld (y_move rfl)) rfl ?_
            refine SJ.q (YldS.yld (y_convTo8 Try.runUnderlying3 Try.runUnderlying5 rfl)) rfl ?_
            refine SJ.buildSlice (R := fByte) (os := [.tmp 16]) [UInt8.ofInt x11] Try.runUnderlying22 Try.sizeOf5 Try.zeroValue5 rfl rfl rfl rfl rfl rfl fun v23 => ?_
            obtain ⟨l24, h25, hm⟩ := bindS hm
            refine SJ.append (k := 1) (R := fByte) h25 rfl Try.underlying22 el5 rfl rfl rfl (fun w hw => (hw.row_rd (k := 0) rfl)) rfl fun v26 => ?_
            refine SJ.q (YldS.yld (y_assign rfl)) rfl ?_
            refine SJ.nil ?_
            refine PJ.block_normal ?_
            exact PJ.joined (l24, v26) [1] hm ⟨rfl, rfl, rfl, trivial⟩ ⟨by decide, rfl⟩
          · replace hm := ifF hm hb22
            refine WJ.skip ?_
            refine PJ.block_normal ?_
            exact PJ.joined (l9, v10) [0] hm ⟨rfl, rfl, rfl, trivial⟩ ⟨by decide, rfl⟩
        · rintro ⟨l13, v14⟩ hm
          subst hk16
          refine WJ.quiet ?_
          refine QJ.step (YldS.yld (y_bin rfl rfl rfl)) rfl ?_
          refine QJ.step (YldS.yld (y_move rfl)) rfl ?_
          refine QJ.done ?_
          exact PJ.round (l13, v14, w64 (x11 + 1)) [0] hm ⟨rfl, rfl, rfl, trivial⟩ ⟨by decide, rfl⟩
      · replace hm := ifF hm hb12
        refine WJ.exit ?_
        refine PJ.then_exit (PJ.then_exit (PJ.block_exit ?_))
        exact PJ.joined (l9, v10) [0] hm ⟨rfl, trivial⟩ ⟨by decide, rfl⟩
  · rintro ⟨l5, v6⟩ hm
    subst hk8
    refine WJ.seq ?_
    refine WJ.quiet ?_
    refine QJ.step (YldS.yld (y_move rfl)) rfl ?_
    refine QJ.step (YldS.yld (y_b2s Try.underlying22 Try.underlying9 Try.underlying5 (fun w hw => ⟨_, (hw.row_rd (k := 0) rfl)⟩) rfl)) rfl ?_
    refine QJ.step (YldS.yld (y_assign rfl)) rfl ?_
    refine QJ.done ?_
    refine PJ.next ?_
    refine WJ.ret ?_
    obtain rfl := Option.some.inj hm
    refine PJ.sel (L' := []) [] ⟨List.nodup_nil, rfl⟩ ?_
    exact PJ.retn (vs := [str l5]) Try.results45 ⟨rfl, trivial⟩ ⟨rfl, rfl⟩

set_option maxRecDepth 100000 in
set_option maxHeartbeats 1000000 in
theorem ok_i_UntaughtLetters {N : Nat} {list1 : List Lesson} {text4 : Str} {r : Str × Int} (hm : i_UntaughtLetters N list1 text4 = some r) (w : World) (v2 : Value) (hr3 : RdS w (cx w).Fz v2 (shLesson.rp fI64.rp) list1) :
    Calls Try.prog 9 #[v2, str text4] w (Ret (cx w) (tup [str r.1, .int .i64 r.2])) := by
  unfold i_UntaughtLetters at hm
  refine Calls.enter [v2, str text4] Try.func9 rfl Try.ntmps9 rfl ?_
  refine WJ.seq ?_
  refine WJ.quiet ?_
  refine QJ.step (YldS.yld (y_assign rfl)) rfl ?_
  refine QJ.step (YldS.yld (y_assign rfl)) rfl ?_
  refine QJ.done ?_
  refine PJ.next ?_
  refine WJ.seq ?_
  refine WJ.seq ?_
  refine WJ.quiet ?_
  refine QJ.step (YldS.yld (y_move rfl)) rfl ?_
  obtain ⟨r5, h6, hm⟩ := bindS hm
  refine QJ.step (y_call Try.call27 rfl (RetG.quiet fun w hw => ok_i_ValidLessons h6 w _ (hr3.st hw))) rfl ?_
  refine QJ.step (YldS.yld (y_not rfl)) rfl ?_
  refine QJ.done ?_
  refine PJ.next ?_
  refine WJ.cond (t := !r5) rfl (fun hb7 => ?_) (fun hb7 => ?_)
  · replace hm := ifT hm hb7
    refine WJ.seq ?_
    refine WJ.quiet ?_
    refine QJ.step (YldS.yld (y_assign rfl)) rfl ?_
    refine QJ.step (YldS.yld (y_assign rfl)) rfl ?_
    refine QJ.done ?_
    refine PJ.next ?_
    refine WJ.ret ?_
    refine PJ.then_ret ?_
    obtain rfl := Option.some.inj hm
    refine PJ.sel (L' := []) [] ⟨List.nodup_nil, rfl⟩ ?_
    exact PJ.retn (vs := [str [], .int .i64 1]) Try.results9 ⟨rfl, rfl, trivial⟩ ⟨rfl, rfl⟩
  · replace hm := ifF hm hb7
    refine WJ.skip ?_
    refine PJ.next ?_
    refine WJ.seq ?_
    refine WJ.seq ?_
    refine WJ.quiet ?_
    refine QJ.step (YldS.yld (y_move rfl)) rfl ?_
    obtain ⟨r8, h9, hm⟩ := bindS hm
    refine QJ.step (y_call Try.call28 rfl (RetG.quiet fun w hw => ok_i_isText h9 w )) rfl ?_
    refine QJ.step (YldS.yld (y_not rfl)) rfl ?_
    refine QJ.done ?_
    refine PJ.next ?_
    refine WJ.cond (t := !r8) rfl (fun hb10 => ?_) (fun hb10 => ?_)
    · replace hm := ifT hm hb10
      refine WJ.seq ?_
      refine WJ.quiet ?_
      refine QJ.step (YldS.yld (y_assign rfl)) rfl ?_
      refine QJ.step (YldS.yld (y_assign rfl)) rfl ?_
      refine QJ.done ?_
      refine PJ.next ?_
      refine WJ.ret ?_
      refine PJ.then_ret ?_
      obtain rfl := Option.some.inj hm
      refine PJ.sel (L' := []) [] ⟨List.nodup_nil, rfl⟩ ?_
      exact PJ.retn (vs := [str [], .int .i64 2]) Try.results9 ⟨rfl, rfl, trivial⟩ ⟨rfl, rfl⟩
    · replace hm := ifF hm hb10
      refine WJ.skip ?_
      refine PJ.next ?_
      refine WJ.seq ?_
      refine WJ.reg ?_
      refine SJ.q (YldS.yld (y_move rfl)) rfl ?_
      refine SJ.q (YldS.yld (y_lenS Try.runUnderlying24 hr3 rfl)) rfl ?_
      obtain ⟨q11, h12, hm⟩ := bindS hm
      refine SJ.q (YldS.yld (y_shl' h12 rfl rfl)) rfl ?_
      refine SJ.q (YldS.yld (y_bin rfl rfl rfl)) rfl ?_
      refine SJ.q (YldS.yld (y_move rfl)) rfl ?_
      refine SJ.q (YldS.yld (y_lenS Try.runUnderlying24 hr3 rfl)) rfl ?_
      obtain ⟨r13, h14, hm⟩ := bindS hm
      refine SJ.call Try.call30 rfl (fun w hw => ok_i_chosen h14 w ) rfl ?_
      rintro v15 _ ⟨_, rfl, rfl⟩
      refine SJ.q (YldS.yld (y_assign rfl)) rfl ?_
      refine SJ.nil ?_
      refine PJ.next ?_
      refine WJ.seq ?_
      refine WJ.reg ?_
      refine SJ.q (YldS.yld (y_move rfl)) rfl ?_
      refine SJ.q (YldS.yld (y_move rfl)) rfl ?_
      obtain ⟨r16, h17, hm⟩ := bindS hm
      refine SJ.call Try.call34 rfl (fun w hw => ok_i_known h17 w _ (hr3.st hw) _ (hw.row_rd (k := 0) rfl)) rfl ?_
      rintro _ _ ⟨g18, rfl, rfl⟩
      refine SJ.q (YldS.yld (y_assign rfl)) rfl ?_
      refine SJ.nil ?_
      refine PJ.next ?_
      refine WJ.seq ?_
      refine WJ.reg ?_
      refine SJ.q (YldS.yld (y_build0 Try.runUnderlying72 zv72 Try.sizeOf4)) rfl ?_
      refine SJ.allocA (R := fBool) (xs := List.replicate 256 false) 256 zv72 rfl rfl rfl rfl fun g19 => ?_
      refine SJ.storeA (k := 0) (ys := (List.replicate 256 false)) rfl rfl rfl rfl (by simp) Try.sizeOf72 (by simp [length_encs, fBool]) ?_
      refine SJ.nil ?_
      refine PJ.next ?_
      obtain ⟨kj21, hk22, hm⟩ := withK_open hm
      refine WJ.join (X := (List Bool)) (fun (x : (List Bool)) => kj21 x = some r) (fun (x : (List Bool)) => [(8, pt g19 0)]) (fun (x : (List Bool)) => [row (av g19 256) 72 fBool x]) ?_ ?_
      · clear hk22
        refine WJ.seq ?_
        refine WJ.quiet ?_
        refine QJ.step (YldS.yld (y_move rfl)) rfl ?_
        refine QJ.step (YldS.yld (y_lenStr Try.runUnderlying9 rfl)) rfl ?_
        refine QJ.step (YldS.yld (y_move rfl)) rfl ?_
        refine QJ.done ?_
        refine PJ.next ?_
        refine WJ.block ?_
        refine WJ.sel (L' := (fun (x : (List Bool) × Int) => [row (av g19 256) 72 fBool x.1, row (av g18 256) 72 fBool r16]) ((List.replicate 256 false), 0)) [0, 1] ⟨by decide, rfl⟩ ?_
        refine WJ.sub (m' := (fun (x : (List Bool) × Int) => [(1, str text4), (7, pt g18 0), (8, pt g19 0), (28, .int .i64 (List.length text4 : Int)), (29, .int .i64 x.2)]) ((List.replicate 256 false), 0)) ⟨rfl, rfl, rfl, rfl, rfl, trivial⟩ ?_
        refine WJ.loop (X := (List Bool) × Int) (fun N (x : (List Bool) × Int) => i_UntaughtLetters_l1 kj21 text4 r16 N x.1 x.2 = some r) (fun (x : (List Bool) × Int) => [(1, str text4), (7, pt g18 0), (8, pt g19 0), (28, .int .i64 (List.length text4 : Int)), (29, .int .i64 x.2)]) (fun (x : (List Bool) × Int) => [row (av g19 256) 72 fBool x.1, row (av g18 256) 72 fBool r16]) ?_ N ((List.replicate 256 false), 0) hm
        · rintro N ⟨l23, x24⟩ hI
          have hm := hI; clear hI
          cases N with
          | zero => cases hm
          | succ N =>
          unfold i_UntaughtLetters_l1 at hm
          refine WJ.seq ?_
          refine WJ.quiet ?_
          refine QJ.step (YldS.yld (y_bin rfl rfl rfl)) rfl ?_
          refine QJ.done ?_
          refine PJ.next ?_
          refine WJ.seq ?_
          refine WJ.cond (t := decide (x24 < (List.length text4 : Int))) rfl (fun hb25 => ?_) (fun hb25 => ?_)
          · replace hm := ifT hm hb25
            refine WJ.skip ?_
            refine PJ.next ?_
            obtain ⟨kj27, hk28, hm⟩ := withK_open hm
            refine WJ.join (X := (List Bool)) (fun (x : (List Bool)) => kj27 x = some r) (fun (x : (List Bool)) => [(1, str text4), (7, pt g18 0), (8, pt g19 0), (28, .int .i64 (List.length text4 : Int)), (29, .int .i64 x24)]) (fun (x : (List Bool)) => [row (av g19 256) 72 fBool x, row (av g18 256) 72 fBool r16]) ?_ ?_
            · clear hk28
              refine WJ.block ?_
              refine WJ.seq ?_
              refine WJ.quiet ?_
              refine QJ.step (YldS.yld (y_move rfl)) rfl ?_
              refine QJ.step (YldS.yld (y_assign rfl)) rfl ?_
              refine QJ.done ?_
              refine PJ.next ?_
              refine WJ.seq ?_
              refine WJ.quiet_draw follows (by kernel_rfl) ?_
              refine QJ.step (YldS.yld (y_move rfl)) rfl ?_
              refine QJ.step (YldS.yld (y_move rfl)) rfl ?_
              obtain ⟨c29, h30, hm⟩ := bindS hm
              refine QJ.step (YldS.yld (y_idxStr Try.runUnderlying9 rfl rfl h30)) rfl ?_
              refine QJ.step (YldS.yld (y_bin8 c29 (32 : UInt8) rfl rfl rfl)) rfl ?_
              refine QJ.step (YldS.yld (y_move rfl)) rfl ?_
              obtain ⟨t31, h32, hm⟩ := bindS hm
              refine QJ.cut 9 [(1, str text4), (7, pt g18 0), (8, pt g19 0), (9, .int .i64 x24), (28, .int .i64 (List.length text4 : Int)), (29, .int .i64 x24), (45, .bool t31)] ?_ ?_
              · rcases Bool.eq_false_or_eq_true (c29 != (32 : UInt8)) with hb33 | hb33
                · replace h32 := andT h32 hb33
                  refine QJ.on rfl rfl (cB hb33) (YldS.yld (y_move rfl)) rfl ?_
                  refine QJ.on rfl rfl (cB hb33) (YldS.yld (y_move rfl)) rfl ?_
                  refine QJ.on rfl rfl (cB hb33) (YldS.yld (y_move rfl)) rfl ?_
                  obtain ⟨c34, h35, h32⟩ := bindS h32
                  refine QJ.on rfl rfl (cB hb33) (YldS.yld (y_idxStr Try.runUnderlying9 rfl rfl h35)) rfl ?_
                  refine QJ.on rfl rfl (cB hb33) (YldS.yld (y_nil rfl)) rfl ?_
                  obtain ⟨e36, h37, h32⟩ := bindS h32
                  refine QJ.on rfl rfl (cB hb33) (YldS.yld (y_ixArr (k := 1) (R := fBool) rfl Try.runUnderlying72 Try.sizeOf4 rfl rfl h37)) rfl ?_
                  refine QJ.on rfl rfl (cB hb33) (YldS.yld (y_loadR (k := 1) (i := (Int.toNat (UInt8.toNat c34 : Int))) (off := 0) (u := .bool e36) rfl Try.isAgg4 rfl (idx_get h37) rfl)) rfl ?_
                  refine QJ.on rfl rfl (cB hb33) (YldS.yld (y_not rfl)) rfl ?_
                  refine QJ.step (YldS.yld (y_pick_t (cB hb33) rfl)) rfl ?_
                  obtain rfl := Option.some.inj h32
                  exact QJ.cut_end ⟨rfl, rfl, rfl, rfl, rfl, rfl, rfl, trivial⟩
                · obtain rfl := andF h32 hb33
                  refine QJ.off rfl rfl (cB hb33) rfl rfl ?_
                  refine QJ.off rfl rfl (cB hb33) rfl rfl ?_
                  refine QJ.off rfl rfl (cB hb33) rfl rfl ?_
                  refine QJ.off rfl rfl (cB hb33) rfl rfl ?_
                  refine QJ.off rfl rfl (cB hb33) rfl rfl ?_
                  refine QJ.off rfl rfl (cB hb33) rfl rfl ?_
                  refine QJ.off rfl rfl (cB hb33) rfl rfl ?_
                  refine QJ.off rfl rfl (cB hb33) rfl rfl ?_
                  refine QJ.step (YldS.yld (y_pick_f (cB hb33) rfl)) rfl ?_
                  exact QJ.cut_end ⟨rfl, rfl, rfl, rfl, rfl, rfl, rfl, trivial⟩
              refine QJ.done ?_
              refine PJ.next ?_
              refine WJ.cond (t := t31) rfl (fun hb38 => ?_) (fun hb38 => ?_)
              · replace hm := ifT hm hb38
                refine WJ.reg ?_
                refine SJ.q (YldS.yld (y_move rfl)) rfl ?_
                refine SJ.q (YldS.yld (y_move rfl)) rfl ?_
                obtain ⟨c39, h40, hm⟩ := bindS hm
                refine SJ.q (YldS.yld (y_idxStr Try.runUnderlying9 rfl rfl h40)) rfl ?_
                obtain ⟨e41, h42, hm⟩ := bindS hm
                refine SJ.q (YldS.yld (y_ixArr (k := 0) (R := fBool) rfl Try.runUnderlying72 Try.sizeOf4 rfl rfl h42)) rfl ?_
                refine SJ.storeRL (k := 0) (i := (Int.toNat (UInt8.toNat c39 : Int))) (off := 0) (us := [.bool true]) (b := true) rfl rfl (idx_get h42) rfl rfl Try.sizeOf4 rfl rfl rfl ?_
                refine SJ.nil ?_
                refine PJ.block_normal ?_
                exact PJ.joined (List.set l23 (Int.toNat (UInt8.toNat c39 : Int)) true) [0, 1] hm ⟨rfl, rfl, rfl, rfl, rfl, trivial⟩ ⟨by decide, rfl⟩
              · replace hm := ifF hm hb38
                refine WJ.skip ?_
                refine PJ.block_normal ?_
                exact PJ.joined l23 [0, 1] hm ⟨rfl, rfl, rfl, rfl, rfl, trivial⟩ ⟨by decide, rfl⟩
            · rintro l26 hm
              subst hk28
              refine WJ.quiet ?_
              refine QJ.step (YldS.yld (y_bin rfl rfl rfl)) rfl ?_
              refine QJ.step (YldS.yld (y_move rfl)) rfl ?_
              refine QJ.done ?_
              exact PJ.round (l26, w64 (x24 + 1)) [0, 1] hm ⟨rfl, rfl, rfl, rfl, rfl, trivial⟩ ⟨by decide, rfl⟩
          · replace hm := ifF hm hb25
            refine WJ.exit ?_
            refine PJ.then_exit (PJ.then_exit (PJ.block_exit ?_))
            exact PJ.joined l23 [0] hm ⟨rfl, trivial⟩ ⟨by decide, rfl⟩
      · rintro l20 hm
        subst hk22
        refine WJ.seq ?_
        refine WJ.quiet ?_
        obtain ⟨r43, h44, hm⟩ := bindS hm
        refine QJ.step (y_call Try.call45 rfl (RetG.quiet fun w hw => ok_i_ascending h44 w _ (hw.row_rd (k := 0) rfl))) rfl ?_
        refine QJ.step (YldS.yld (y_assign rfl)) rfl ?_
        refine QJ.step (YldS.yld (y_assign rfl)) rfl ?_
        refine QJ.done ?_
        refine PJ.next ?_
        refine WJ.ret ?_
        obtain rfl := Option.some.inj hm
        refine PJ.sel (L' := []) [] ⟨List.nodup_nil, rfl⟩ ?_
        exact PJ.retn (vs := [str r43, .int .i64 0]) Try.results9 ⟨rfl, rfl, trivial⟩ ⟨rfl, rfl⟩

set_option maxRecDepth 100000 in
set_option maxHeartbeats 1000000 in
theorem ok_s_UntaughtLetters {N : Nat} {list1 : List Lesson} {text4 : Str} {r : Str × Int} (hm : s_UntaughtLetters N list1 text4 = some r) (w : World) (v2 : Value) (hr3 : RdS w (cx w).Fz v2 (shLesson.rp fI64.rp) list1) :
    Calls Try.prog 10 #[v2, str text4] w (Ret (cx w) (tup [str r.1, .int .i64 r.2])) := by
  unfold s_UntaughtLetters at hm
  refine Calls.enter [v2, str text4] Try.func10 rfl Try.ntmps10 rfl ?_
  refine WJ.seq ?_
  refine WJ.quiet ?_
  refine QJ.step (YldS.yld (y_assign rfl)) rfl ?_
  refine QJ.step (YldS.yld (y_assign rfl)) rfl ?_
  refine QJ.done ?_
  refine PJ.next ?_
  refine WJ.seq ?_
  refine WJ.reg ?_
  refine SJ.q (YldS.yld (y_move rfl)) rfl ?_
  refine SJ.buildSlice (R := fI64) (os := []) [] Try.runUnderlying27 Try.sizeOf2 Try.zeroValue2 rfl rfl rfl rfl rfl rfl fun v5 => ?_
  obtain ⟨r6, h7, hm⟩ := bindS hm
  refine SJ.q (y_call Try.call37 rfl (RetG.quiet fun w hw => ok_s_l18Taken h7 w _ (hr3.st hw) _ (hw.row_rd (k := 0) rfl))) rfl ?_
  refine SJ.q (YldS.yld (y_assign rfl)) rfl ?_
  refine SJ.nil ?_
  refine PJ.next ?_
  obtain ⟨kj9, hk10, hm⟩ := withK_open hm
  refine WJ.join (X := Int) (fun (x : Int) => kj9 x = some r) (fun (x : Int) => [(0, v2), (1, str text4), (6, .int .i64 x)]) (fun (x : Int) => []) ?_ ?_
  · clear hk10
    refine WJ.seq ?_
    refine WJ.quiet ?_
    refine QJ.step (YldS.yld (y_move rfl)) rfl ?_
    refine QJ.step (YldS.yld (y_bin rfl rfl rfl)) rfl ?_
    refine QJ.step (YldS.yld (y_move rfl)) rfl ?_
    obtain ⟨t11, h12, hm⟩ := bindS hm
    refine QJ.cut 4 [(0, v2), (1, str text4), (6, .int .i64 r6), (18, .bool t11)] ?_ ?_
    · rcases Bool.eq_false_or_eq_true (r6 == 0) with hb13 | hb13
      · replace h12 := andT h12 hb13
        refine QJ.on rfl rfl (cB hb13) (YldS.yld (y_move rfl)) rfl ?_
        obtain ⟨r14, h15, h12⟩ := bindS h12
        refine QJ.on rfl rfl (cB hb13) (y_call Try.call38 rfl (RetG.quiet fun w hw => ok_s_l00Text h15 w )) rfl ?_
        refine QJ.on rfl rfl (cB hb13) (YldS.yld (y_not rfl)) rfl ?_
        refine QJ.step (YldS.yld (y_pick_t (cB hb13) rfl)) rfl ?_
        obtain rfl := Option.some.inj h12
        exact QJ.cut_end ⟨rfl, rfl, rfl, rfl, trivial⟩
      · obtain rfl := andF h12 hb13
        refine QJ.off rfl rfl (cB hb13) rfl rfl ?_
        refine QJ.off rfl rfl (cB hb13) rfl rfl ?_
        refine QJ.off rfl rfl (cB hb13) rfl rfl ?_
        refine QJ.step (YldS.yld (y_pick_f (cB hb13) rfl)) rfl ?_
        exact QJ.cut_end ⟨rfl, rfl, rfl, rfl, trivial⟩
    refine QJ.done ?_
    refine PJ.next ?_
    refine WJ.cond (t := t11) rfl (fun hb16 => ?_) (fun hb16 => ?_)
    · replace hm := ifT hm hb16
      refine WJ.quiet ?_
      refine QJ.step (YldS.yld (y_assign rfl)) rfl ?_
      refine QJ.done ?_
      exact PJ.joined 2 [] hm ⟨rfl, rfl, rfl, trivial⟩ ⟨List.nodup_nil, rfl⟩
    · replace hm := ifF hm hb16
      refine WJ.skip ?_
      exact PJ.joined r6 [] hm ⟨rfl, rfl, rfl, trivial⟩ ⟨List.nodup_nil, rfl⟩
  · rintro code8 hm
    subst hk10
    refine WJ.seq ?_
    refine WJ.seq ?_
    refine WJ.quiet ?_
    refine QJ.step (YldS.yld (y_move rfl)) rfl ?_
    refine QJ.step (YldS.yld (y_bin rfl rfl rfl)) rfl ?_
    refine QJ.done ?_
    refine PJ.next ?_
    refine WJ.cond (t := (code8 != 0)) rfl (fun hb17 => ?_) (fun hb17 => ?_)
    · replace hm := ifT hm hb17
      refine WJ.seq ?_
      refine WJ.quiet ?_
      refine QJ.step (YldS.yld (y_move rfl)) rfl ?_
      refine QJ.step (YldS.yld (y_assign rfl)) rfl ?_
      refine QJ.step (YldS.yld (y_assign rfl)) rfl ?_
      refine QJ.done ?_
      refine PJ.next ?_
      refine WJ.ret ?_
      refine PJ.then_ret ?_
      obtain rfl := Option.some.inj hm
      refine PJ.sel (L' := []) [] ⟨List.nodup_nil, rfl⟩ ?_
      exact PJ.retn (vs := [str [], .int .i64 code8]) Try.results10 ⟨rfl, rfl, trivial⟩ ⟨rfl, rfl⟩
    · replace hm := ifF hm hb17
      refine WJ.skip ?_
      refine PJ.next ?_
      refine WJ.seq ?_
      refine WJ.reg ?_
      refine SJ.buildSlice (R := fI64) (os := []) [] Try.runUnderlying27 Try.sizeOf2 Try.zeroValue2 rfl rfl rfl rfl rfl rfl fun v18 => ?_
      refine SJ.q (YldS.yld (y_assign rfl)) rfl ?_
      refine SJ.nil ?_
      refine PJ.next ?_
      obtain ⟨kj21, hk22, hm⟩ := withK_open hm
      refine WJ.join (X := (List Int) × Value) (fun (x : (List Int) × Value) => kj21 x.1 = some r) (fun (x : (List Int) × Value) => [(0, v2), (1, str text4), (7, x.2)]) (fun (x : (List Int) × Value) => [row x.2 2 fI64 x.1]) ?_ ?_
      · clear hk22
        refine WJ.seq ?_
        refine WJ.quiet ?_
        refine QJ.step (YldS.yld (y_assign rfl)) rfl ?_
        refine QJ.done ?_
        refine PJ.next ?_
        refine WJ.block ?_
        refine WJ.sel (L' := (fun (x : (List Int) × Value × Int) => [row x.2.1 2 fI64 x.1]) ([], v18, 0)) [0] ⟨by decide, rfl⟩ ?_
        refine WJ.sub (m' := (fun (x : (List Int) × Value × Int) => [(0, v2), (1, str text4), (7, x.2.1), (8, .int .i64 x.2.2)]) ([], v18, 0)) ⟨rfl, rfl, rfl, rfl, trivial⟩ ?_
        refine WJ.loop (X := (List Int) × Value × Int) (fun N (x : (List Int) × Value × Int) => s_UntaughtLetters_l1 kj21 list1 N x.1 x.2.2 = some r) (fun (x : (List Int) × Value × Int) => [(0, v2), (1, str text4), (7, x.2.1), (8, .int .i64 x.2.2)]) (fun (x : (List Int) × Value × Int) => [row x.2.1 2 fI64 x.1]) ?_ N ([], v18, 0) hm
        · rintro N ⟨l23, v24, i25⟩ hI
          have hm := hI; clear hI
          cases N with
          | zero => cases hm
          | succ N =>
          unfold s_UntaughtLetters_l1 at hm
          refine WJ.seq ?_
          refine WJ.seq ?_
          refine WJ.quiet ?_
          refine QJ.step (YldS.yld (y_move rfl)) rfl ?_
          refine QJ.step (YldS.yld (y_move rfl)) rfl ?_
          refine QJ.step (YldS.yld (y_lenS Try.runUnderlying24 hr3 rfl)) rfl ?_
          refine QJ.step (YldS.yld (y_bin rfl rfl rfl)) rfl ?_
          refine QJ.done ?_
          refine PJ.next ?_
          refine WJ.cond (t := decide (i25 < (List.length list1 : Int))) rfl (fun hb26 => ?_) (fun hb26 => ?_)
          · replace hm := ifT hm hb26
            refine WJ.skip ?_
            refine PJ.next ?_
            refine WJ.seq ?_
            refine WJ.block ?_
            refine WJ.reg ?_
            refine SJ.q (YldS.yld (y_move rfl)) rfl ?_
            refine SJ.q (YldS.yld (y_move rfl)) rfl ?_
            refine SJ.buildSlice (R := fI64) (os := [.tmp 30]) [i25] Try.runUnderlying27 Try.sizeOf2 Try.zeroValue2 rfl rfl rfl rfl rfl rfl fun v27 => ?_
            obtain ⟨l28, h29, hm⟩ := bindS hm
            refine SJ.append (k := 1) (R := fI64) h29 rfl Try.underlying27 el2 rfl rfl rfl (fun w hw => (hw.row_rd (k := 0) rfl)) rfl fun v30 => ?_
            refine SJ.q (YldS.yld (y_assign rfl)) rfl ?_
            refine SJ.nil ?_
            refine PJ.block_normal (PJ.next ?_)
            refine WJ.quiet ?_
            refine QJ.step (YldS.yld (y_move rfl)) rfl ?_
            refine QJ.step (YldS.yld (y_bin rfl rfl rfl)) rfl ?_
            refine QJ.step (YldS.yld (y_assign rfl)) rfl ?_
            refine QJ.done ?_
            exact PJ.round (l28, v30, w64 (i25 + 1)) [1] hm ⟨rfl, rfl, rfl, rfl, trivial⟩ ⟨by decide, rfl⟩
          · replace hm := ifF hm hb26
            refine WJ.exit ?_
            refine PJ.then_exit (PJ.then_exit (PJ.block_exit ?_))
            exact PJ.joined (l23, v24) [0] hm ⟨rfl, rfl, rfl, trivial⟩ ⟨by decide, rfl⟩
      · rintro ⟨l19, v20⟩ hm
        subst hk22
        refine WJ.seq ?_
        refine WJ.quiet ?_
        refine QJ.step (YldS.yld (y_move rfl)) rfl ?_
        refine QJ.step (YldS.yld (y_move rfl)) rfl ?_
        obtain ⟨r31, h32, hm⟩ := bindS hm
        refine QJ.step (y_call Try.call42 rfl (RetG.quiet fun w hw => ok_s_l18Known h32 w _ (hr3.st hw) _ (hw.row_rd (k := 0) rfl))) rfl ?_
        refine QJ.step (YldS.yld (y_move rfl)) rfl ?_
        obtain ⟨r33, h34, hm⟩ := bindS hm
        refine QJ.step (y_call Try.call41 rfl (RetG.quiet fun w hw => ok_s_l18Missing h34 w )) rfl ?_
        refine QJ.step (YldS.yld (y_assign rfl)) rfl ?_
        refine QJ.step (YldS.yld (y_assign rfl)) rfl ?_
        refine QJ.done ?_
        refine PJ.next ?_
        refine WJ.ret ?_
        obtain rfl := Option.some.inj hm
        refine PJ.sel (L' := []) [] ⟨List.nodup_nil, rfl⟩ ?_
        exact PJ.retn (vs := [str r33, .int .i64 0]) Try.results10 ⟨rfl, rfl, trivial⟩ ⟨rfl, rfl⟩

set_option maxRecDepth 100000 in
set_option maxHeartbeats 1000000 in
theorem ok_s_l18Some {N : Nat} {s1 : L00Src} {g2 : Nat} {r : (List Lesson) × (List Int) × L00Src} (hm : s_l18Some N s1 = some r) (w : World) (S : Nat → Prop) (v3 : Value) (hr4 : RdS w (Cx.Fz ⟨w, S⟩) v3 fByte.rp s1.code) (hA : (box g2 104 [v3, .int .i64 s1.at_, .int .u64 s1.seed]).holds w S) :
    Calls Try.prog 47 #[pt g2 0] w (RetG ⟨w, S⟩ fun u L => ∃ (u1 : Value) (u2 : List (Raw 4)) (u3 : Value), (u = tup [u1, u3] ∧ L = [box g2 104 [v3, .int .i64 r.2.2.at_, .int .u64 r.2.2.seed], row u1 38 fRaw4 u2, ins shLesson 2 fI64 u2 r.1, row u3 2 fI64 r.2.1])) := by
  unfold s_l18Some at hm
  refine Calls.enter1 hA [pt g2 0] Try.func47 rfl Try.ntmps47 rfl ?_
  refine WJ.seq ?_
  refine WJ.quiet ?_
  refine QJ.step (YldS.yld (y_assign rfl)) rfl ?_
  refine QJ.step (YldS.yld (y_assign rfl)) rfl ?_
  refine QJ.done ?_
  refine PJ.next ?_
  refine WJ.seq ?_
  refine WJ.reg ?_
  refine SJ.q (YldS.yld (y_move rfl)) rfl ?_
  obtain ⟨r5, h6, hm⟩ := bindS hm
  refine SJ.call1 (k := 0) rfl Try.call68 rfl (fun w S hw hA hO => ok_s_l18Bent h6 w S _ (hr4.st1 hw hO) hA) rfl ?_
  rintro v7 _ ⟨_, vs8, rfl, rfl⟩
  refine SJ.q (YldS.yld (y_assign rfl)) rfl ?_
  refine SJ.nil ?_
  refine PJ.next ?_
  refine WJ.seq ?_
  refine WJ.reg ?_
  refine SJ.buildSlice (R := fI64) (os := []) [] Try.runUnderlying27 Try.sizeOf2 Try.zeroValue2 rfl rfl rfl rfl rfl rfl fun v9 => ?_
  refine SJ.q (YldS.yld (y_assign rfl)) rfl ?_
  refine SJ.nil ?_
  refine PJ.next ?_
  obtain ⟨kj14, hk15, hm⟩ := withK_open hm
  refine WJ.join (X := (List Int) × Value × Int × Int) (fun (x : (List Int) × Value × Int × Int) => kj14 x.1 x.2.2.1 x.2.2.2 = some r) (fun (x : (List Int) × Value × Int × Int) => [(0, pt g2 0), (4, v7), (5, x.2.1)]) (fun (x : (List Int) × Value × Int × Int) => [row x.2.1 2 fI64 x.1, box g2 104 [v3, .int .i64 x.2.2.1, .int .u64 x.2.2.2], row v7 38 fRaw4 vs8, ins shLesson 2 fI64 vs8 r5.1]) ?_ ?_
  · clear hk15
    refine WJ.seq ?_
    refine WJ.quiet ?_
    refine QJ.step (YldS.yld (y_assign rfl)) rfl ?_
    refine QJ.done ?_
    refine PJ.next ?_
    refine WJ.block ?_
    refine WJ.sel (L' := (fun (x : (List Int) × Value × Int × Int × Int) => [row x.2.1 2 fI64 x.1, box g2 104 [v3, .int .i64 x.2.2.1, .int .u64 x.2.2.2.1], row v7 38 fRaw4 vs8, ins shLesson 2 fI64 vs8 r5.1]) ([], v9, r5.2.at_, r5.2.seed, 0)) [0, 1, 2, 3] ⟨by decide, rfl⟩ ?_
    refine WJ.sub (m' := (fun (x : (List Int) × Value × Int × Int × Int) => [(0, pt g2 0), (4, v7), (5, x.2.1), (6, .int .i64 x.2.2.2.2)]) ([], v9, r5.2.at_, r5.2.seed, 0)) ⟨rfl, rfl, rfl, rfl, trivial⟩ ?_
    refine WJ.loop (X := (List Int) × Value × Int × Int × Int) (fun N (x : (List Int) × Value × Int × Int × Int) => s_l18Some_l1 kj14 s1 r5 N x.1 x.2.2.1 x.2.2.2.1 x.2.2.2.2 = some r) (fun (x : (List Int) × Value × Int × Int × Int) => [(0, pt g2 0), (4, v7), (5, x.2.1), (6, .int .i64 x.2.2.2.2)]) (fun (x : (List Int) × Value × Int × Int × Int) => [row x.2.1 2 fI64 x.1, box g2 104 [v3, .int .i64 x.2.2.1, .int .u64 x.2.2.2.1], row v7 38 fRaw4 vs8, ins shLesson 2 fI64 vs8 r5.1]) ?_ N ([], v9, r5.2.at_, r5.2.seed, 0) hm
    · rintro N ⟨l16, v17, x18, x19, i20⟩ hI
      have hm := hI; clear hI
      cases N with
      | zero => cases hm
      | succ N =>
      unfold s_l18Some_l1 at hm
      refine WJ.seq ?_
      refine WJ.seq ?_
      refine WJ.quiet ?_
      refine QJ.step (YldS.yld (y_move rfl)) rfl ?_
      refine QJ.step (YldS.yld (y_move rfl)) rfl ?_
      refine QJ.step (YldS.yld (y_lenSh (k := 2) (j := 3) rfl rfl Try.runUnderlying24 rfl)) rfl ?_
      refine QJ.step (YldS.yld (y_bin rfl rfl rfl)) rfl ?_
      refine QJ.done ?_
      refine PJ.next ?_
      refine WJ.cond (t := decide (i20 < (List.length r5.1 : Int))) rfl (fun hb21 => ?_) (fun hb21 => ?_)
      · replace hm := ifT hm hb21
        refine WJ.skip ?_
        refine PJ.next ?_
        obtain ⟨kj26, hk27, hm⟩ := withK_open hm
        refine WJ.join (X := Int × Int × (List Int) × Value) (fun (x : Int × Int × (List Int) × Value) => kj26 x.1 x.2.1 x.2.2.1 = some r) (fun (x : Int × Int × (List Int) × Value) => [(0, pt g2 0), (4, v7), (5, x.2.2.2), (6, .int .i64 i20)]) (fun (x : Int × Int × (List Int) × Value) => [box g2 104 [v3, .int .i64 x.1, .int .u64 x.2.1], row x.2.2.2 2 fI64 x.2.2.1, row v7 38 fRaw4 vs8, ins shLesson 2 fI64 vs8 r5.1]) ?_ ?_
        · clear hk27
          refine WJ.block ?_
          refine WJ.seq ?_
          refine WJ.reg ?_
          refine SJ.q (YldS.yld (y_move rfl)) rfl ?_
          obtain ⟨r28, h29, hm⟩ := bindS hm
          refine SJ.call1 (k := 1) rfl Try.call79 rfl (fun w S hw hA hO => ok_s_l00Src_one h29 w S _ (hr4.st1 hw hO) hA) rfl ?_
          rintro _ _ ⟨rfl, rfl⟩
          refine SJ.nil ?_
          refine PJ.next ?_
          refine WJ.cond (t := r28.1) rfl (fun hb30 => ?_) (fun hb30 => ?_)
          · replace hm := ifT hm hb30
            refine WJ.reg ?_
            refine SJ.q (YldS.yld (y_move rfl)) rfl ?_
            refine SJ.q (YldS.yld (y_move rfl)) rfl ?_
            refine SJ.buildSlice (R := fI64) (os := [.tmp 19]) [i20] Try.runUnderlying27 Try.sizeOf2 Try.zeroValue2 rfl rfl rfl rfl rfl rfl fun v31 => ?_
            obtain ⟨l32, h33, hm⟩ := bindS hm
            refine SJ.append (k := 2) (R := fI64) h33 rfl Try.underlying27 el2 rfl rfl rfl (fun w hw => (hw.row_rd (k := 0) rfl)) rfl fun v34 => ?_
            refine SJ.q (YldS.yld (y_assign rfl)) rfl ?_
            refine SJ.nil ?_
            refine PJ.block_normal ?_
            exact PJ.joined (r28.2.at_, r28.2.seed, l32, v34) [1, 2, 3, 4] hm ⟨rfl, rfl, rfl, rfl, trivial⟩ ⟨by decide, rfl⟩
          · replace hm := ifF hm hb30
            refine WJ.skip ?_
            refine PJ.block_normal ?_
            exact PJ.joined (r28.2.at_, r28.2.seed, l16, v17) [0, 1, 2, 3] hm ⟨rfl, rfl, rfl, rfl, trivial⟩ ⟨by decide, rfl⟩
        · rintro ⟨x22, x23, l24, v25⟩ hm
          subst hk27
          refine WJ.quiet ?_
          refine QJ.step (YldS.yld (y_move rfl)) rfl ?_
          refine QJ.step (YldS.yld (y_bin rfl rfl rfl)) rfl ?_
          refine QJ.step (YldS.yld (y_assign rfl)) rfl ?_
          refine QJ.done ?_
          exact PJ.round (l24, v25, x22, x23, w64 (i20 + 1)) [1, 0, 2, 3] hm ⟨rfl, rfl, rfl, rfl, trivial⟩ ⟨by decide, rfl⟩
      · replace hm := ifF hm hb21
        refine WJ.exit ?_
        refine PJ.then_exit (PJ.then_exit (PJ.block_exit ?_))
        exact PJ.joined (l16, v17, x18, x19) [0, 1, 2, 3] hm ⟨rfl, rfl, rfl, trivial⟩ ⟨by decide, rfl⟩
  · rintro ⟨l10, v11, x12, x13⟩ hm
    subst hk15
    obtain ⟨kj39, hk40, hm⟩ := withK_open hm
    refine WJ.join (X := Int × Int × (List Int) × Value) (fun (x : Int × Int × (List Int) × Value) => kj39 x.1 x.2.1 x.2.2.1 = some r) (fun (x : Int × Int × (List Int) × Value) => [(4, v7), (5, x.2.2.2)]) (fun (x : Int × Int × (List Int) × Value) => [box g2 104 [v3, .int .i64 x.1, .int .u64 x.2.1], row x.2.2.2 2 fI64 x.2.2.1, row v7 38 fRaw4 vs8, ins shLesson 2 fI64 vs8 r5.1]) ?_ ?_
    · clear hk40
      refine WJ.seq ?_
      refine WJ.reg ?_
      refine SJ.q (YldS.yld (y_move rfl)) rfl ?_
      obtain ⟨r41, h42, hm⟩ := bindS hm
      refine SJ.call1 (k := 1) rfl Try.call79 rfl (fun w S hw hA hO => ok_s_l00Src_one h42 w S _ (hr4.st1 hw hO) hA) rfl ?_
      rintro _ _ ⟨rfl, rfl⟩
      refine SJ.nil ?_
      refine PJ.next ?_
      refine WJ.cond (t := r41.1) rfl (fun hb43 => ?_) (fun hb43 => ?_)
      · replace hm := ifT hm hb43
        refine WJ.reg ?_
        refine SJ.q (YldS.yld (y_move rfl)) rfl ?_
        refine SJ.q (YldS.yld (y_move rfl)) rfl ?_
        refine SJ.q (YldS.yld (y_move rfl)) rfl ?_
        refine SJ.q (YldS.yld (y_lenSh (k := 2) (j := 3) rfl rfl Try.runUnderlying24 rfl)) rfl ?_
        refine SJ.buildSlice (R := fI64) (os := [.const (.int .i64 (-1)), .const (.int .i64 0), .tmp 27]) [(-1), 0, (List.length r5.1 : Int)] Try.runUnderlying27 Try.sizeOf2 Try.zeroValue2 rfl rfl rfl rfl rfl rfl fun v44 => ?_
        obtain ⟨r45, h46, hm⟩ := bindS hm
        refine SJ.call2 (k := 1) rfl Try.call80 rfl (fun w S hw hA hO hB => ok_s_l00Src_among h46 w S _ (hr4.st1 hw hO) _ (hB.row_rd (j := 0) (k := 1) rfl rfl) hA) rfl ?_
        rintro _ _ ⟨rfl, rfl⟩
        refine SJ.buildSlice (R := fI64) (os := [.tmp 29]) [r45.1] Try.runUnderlying27 Try.sizeOf2 Try.zeroValue2 rfl rfl rfl rfl rfl rfl fun v47 => ?_
        obtain ⟨l48, h49, hm⟩ := bindS hm
        refine SJ.append (k := 3) (R := fI64) h49 rfl Try.underlying27 el2 rfl rfl rfl (fun w hw => (hw.row_rd (k := 0) rfl)) rfl fun v50 => ?_
        refine SJ.q (YldS.yld (y_assign rfl)) rfl ?_
        refine SJ.nil ?_
        exact PJ.joined (r45.2.at_, r45.2.seed, l48, v50) [1, 3, 4, 5] hm ⟨rfl, rfl, trivial⟩ ⟨by decide, rfl⟩
      · replace hm := ifF hm hb43
        refine WJ.skip ?_
        exact PJ.joined (r41.2.at_, r41.2.seed, l10, v11) [0, 1, 2, 3] hm ⟨rfl, rfl, trivial⟩ ⟨by decide, rfl⟩
    · rintro ⟨x35, x36, l37, v38⟩ hm
      subst hk40
      refine WJ.seq ?_
      refine WJ.quiet ?_
      refine QJ.step (YldS.yld (y_move rfl)) rfl ?_
      refine QJ.step (YldS.yld (y_move rfl)) rfl ?_
      refine QJ.step (YldS.yld (y_assign rfl)) rfl ?_
      refine QJ.step (YldS.yld (y_assign rfl)) rfl ?_
      refine QJ.done ?_
      refine PJ.next ?_
      refine WJ.ret ?_
      obtain rfl := Option.some.inj hm
      refine PJ.sel (L' := [box g2 104 [v3, .int .i64 x35, .int .u64 x36], row v7 38 fRaw4 vs8, ins shLesson 2 fI64 vs8 r5.1, row v38 2 fI64 l37]) [0, 2, 3, 1] ⟨by decide, rfl⟩ ?_
      exact PJ.retn (vs := [v7, v38]) Try.results47 ⟨rfl, rfl, trivial⟩ ⟨_, _, _, rfl, rfl⟩

set_option maxRecDepth 100000 in
set_option maxHeartbeats 1000000 in
theorem ok_s_DrawCanType {N : Nat} {code1 : List UInt8} {r : (List Lesson) × (List Int) × Str} (hm : s_DrawCanType N code1 = some r) (w : World) (v2 : Value) (hr3 : RdS w (cx w).Fz v2 fByte.rp code1) :
    Calls Try.prog 11 #[v2] w (RetG (cx w) fun u L => ∃ (u1 : Value) (u2 : List (Raw 4)) (u3 : Value), (u = tup [u1, u3, str r.2.2] ∧ L = [row u1 38 fRaw4 u2, ins shLesson 2 fI64 u2 r.1, row u3 2 fI64 r.2.1])) := by
  unfold s_DrawCanType at hm
  refine Calls.enter [v2] Try.func11 rfl Try.ntmps11 rfl ?_
  refine WJ.seq ?_
  refine WJ.quiet ?_
  refine QJ.step (YldS.yld (y_assign rfl)) rfl ?_
  refine QJ.step (YldS.yld (y_assign rfl)) rfl ?_
  refine QJ.step (YldS.yld (y_assign rfl)) rfl ?_
  refine QJ.done ?_
  refine PJ.next ?_
  refine WJ.seq ?_
  refine WJ.reg ?_
  refine SJ.q (YldS.yld (y_move rfl)) rfl ?_
  obtain ⟨r4, h5, hm⟩ := bindS hm
  refine SJ.call Try.call46 rfl (fun w hw => ok_s_l00From h5 w _ (hr3.st hw)) rfl ?_
  rintro _ _ ⟨g6, rfl, rfl⟩
  refine SJ.q (YldS.yld (y_assign rfl)) rfl ?_
  refine SJ.nil ?_
  refine PJ.next ?_
  refine WJ.seq ?_
  refine WJ.reg ?_
  refine SJ.q (YldS.yld (y_move rfl)) rfl ?_
  obtain ⟨r7, h8, hm⟩ := bindS hm
  refine SJ.call1 (k := 0) rfl Try.call47 rfl (fun w S hw hA hO => ok_s_l18Some h8 w S _ (hr3.st1 hw hO) hA) rfl ?_
  rintro _ _ ⟨v9, vs10, v11, rfl, rfl⟩
  refine SJ.q (YldS.yld (y_move rfl)) rfl ?_
  refine SJ.q (YldS.yld (y_extract rfl rfl)) rfl ?_
  refine SJ.q (YldS.yld (y_extract rfl rfl)) rfl ?_
  refine SJ.q (YldS.yld (y_assign rfl)) rfl ?_
  refine SJ.q (YldS.yld (y_assign rfl)) rfl ?_
  refine SJ.nil ?_
  refine PJ.next ?_
  refine WJ.seq ?_
  refine WJ.reg ?_
  refine SJ.q (YldS.yld (y_move rfl)) rfl ?_
  refine SJ.q (YldS.yld (y_move rfl)) rfl ?_
  refine SJ.q (YldS.yld (y_move rfl)) rfl ?_
  obtain ⟨r12, h13, hm⟩ := bindS hm
  refine SJ.call1 (k := 0) rfl Try.call48 rfl (fun w S hw hA hO => ok_s_l18DrawText h13 w S _ (hr3.st1 hw hO) hA) rfl ?_
  rintro _ _ ⟨rfl, rfl⟩
  refine SJ.q (YldS.yld (y_assign rfl)) rfl ?_
  refine SJ.q (YldS.yld (y_assign rfl)) rfl ?_
  refine SJ.q (YldS.yld (y_assign rfl)) rfl ?_
  refine SJ.nil ?_
  refine PJ.next ?_
  refine WJ.ret ?_
  obtain rfl := Option.some.inj hm
  refine PJ.sel (L' := [row v9 38 fRaw4 vs10, ins shLesson 2 fI64 vs10 r7.1, row v11 2 fI64 r7.2.1]) [1, 2, 3] ⟨by decide, rfl⟩ ?_
  exact PJ.retn (vs := [v9, v11, str r12.1]) Try.results11 ⟨rfl, rfl, rfl, trivial⟩ ⟨_, _, _, rfl, rfl⟩

set_option maxRecDepth 100000 in
set_option maxHeartbeats 1000000 in
theorem ok_i_takenCode {N : Nat} {list1 : List Lesson} {taken4 : List Int} {r : Int} (hm : i_takenCode N list1 taken4 = some r) (w : World) (v2 : Value) (hr3 : RdS w (cx w).Fz v2 (shLesson.rp fI64.rp) list1) (v5 : Value) (hr6 : RdS w (cx w).Fz v5 fI64.rp taken4) :
    Calls Try.prog 49 #[v2, v5] w (Ret (cx w) (.int .i64 r)) := by
  unfold i_takenCode at hm
  refine Calls.enter [v2, v5] Try.func49 rfl Try.ntmps49 rfl ?_
  refine WJ.seq ?_
  refine WJ.quiet ?_
  refine QJ.step (YldS.yld (y_assign rfl)) rfl ?_
  refine QJ.done ?_
  refine PJ.next ?_
  refine WJ.seq ?_
  refine WJ.seq ?_
  refine WJ.quiet ?_
  refine QJ.step (YldS.yld (y_move rfl)) rfl ?_
  obtain ⟨r7, h8, hm⟩ := bindS hm
  refine QJ.step (y_call Try.call27 rfl (RetG.quiet fun w hw => ok_i_ValidLessons h8 w _ (hr3.st hw))) rfl ?_
  refine QJ.step (YldS.yld (y_not rfl)) rfl ?_
  refine QJ.done ?_
  refine PJ.next ?_
  refine WJ.cond (t := !r7) rfl (fun hb9 => ?_) (fun hb9 => ?_)
  · replace hm := ifT hm hb9
    refine WJ.seq ?_
    refine WJ.quiet ?_
    refine QJ.step (YldS.yld (y_assign rfl)) rfl ?_
    refine QJ.done ?_
    refine PJ.next ?_
    refine WJ.ret ?_
    refine PJ.then_ret ?_
    obtain rfl := Option.some.inj hm
    refine PJ.sel (L' := []) [] ⟨List.nodup_nil, rfl⟩ ?_
    exact PJ.retn (vs := [.int .i64 1]) Try.results49 ⟨rfl, trivial⟩ ⟨rfl, rfl⟩
  · replace hm := ifF hm hb9
    refine WJ.skip ?_
    refine PJ.next ?_
    refine WJ.seq ?_
    refine WJ.seq ?_
    refine WJ.quiet ?_
    refine QJ.step (YldS.yld (y_move rfl)) rfl ?_
    refine QJ.step (YldS.yld (y_move rfl)) rfl ?_
    refine QJ.step (YldS.yld (y_lenS Try.runUnderlying24 hr3 rfl)) rfl ?_
    obtain ⟨r10, h11, hm⟩ := bindS hm
    refine QJ.step (y_call Try.call71 rfl (RetG.quiet fun w hw => ok_i_areIndices h11 w _ (hr6.st hw))) rfl ?_
    refine QJ.step (YldS.yld (y_not rfl)) rfl ?_
    refine QJ.done ?_
    refine PJ.next ?_
    refine WJ.cond (t := !r10) rfl (fun hb12 => ?_) (fun hb12 => ?_)
    · replace hm := ifT hm hb12
      refine WJ.seq ?_
      refine WJ.quiet ?_
      refine QJ.step (YldS.yld (y_assign rfl)) rfl ?_
      refine QJ.done ?_
      refine PJ.next ?_
      refine WJ.ret ?_
      refine PJ.then_ret ?_
      obtain rfl := Option.some.inj hm
      refine PJ.sel (L' := []) [] ⟨List.nodup_nil, rfl⟩ ?_
      exact PJ.retn (vs := [.int .i64 2]) Try.results49 ⟨rfl, trivial⟩ ⟨rfl, rfl⟩
    · replace hm := ifF hm hb12
      refine WJ.skip ?_
      refine PJ.next ?_
      refine WJ.seq ?_
      refine WJ.quiet ?_
      refine QJ.step (YldS.yld (y_assign rfl)) rfl ?_
      refine QJ.done ?_
      refine PJ.next ?_
      refine WJ.ret ?_
      obtain rfl := Option.some.inj hm
      refine PJ.sel (L' := []) [] ⟨List.nodup_nil, rfl⟩ ?_
      exact PJ.retn (vs := [.int .i64 0]) Try.results49 ⟨rfl, trivial⟩ ⟨rfl, rfl⟩

set_option maxRecDepth 100000 in
set_option maxHeartbeats 1000000 in
theorem ok_i_CanType {N : Nat} {list1 : List Lesson} {taken4 : List Int} {text7 : Str} {r : Bool × Int} (hm : i_CanType N list1 taken4 text7 = some r) (w : World) (v2 : Value) (hr3 : RdS w (cx w).Fz v2 (shLesson.rp fI64.rp) list1) (v5 : Value) (hr6 : RdS w (cx w).Fz v5 fI64.rp taken4) :
    Calls Try.prog 12 #[v2, v5, str text7] w (Ret (cx w) (tup [.bool r.1, .int .i64 r.2])) := by
  unfold i_CanType at hm
  refine Calls.enter [v2, v5, str text7] Try.func12 rfl Try.ntmps12 rfl ?_
  refine WJ.seq ?_
  refine WJ.quiet ?_
  refine QJ.step (YldS.yld (y_assign rfl)) rfl ?_
  refine QJ.step (YldS.yld (y_assign rfl)) rfl ?_
  refine QJ.done ?_
  refine PJ.next ?_
  refine WJ.seq ?_
  refine WJ.seq ?_
  refine WJ.quiet ?_
  refine QJ.step (YldS.yld (y_move rfl)) rfl ?_
  refine QJ.step (YldS.yld (y_move rfl)) rfl ?_
  obtain ⟨r8, h9, hm⟩ := bindS hm
  refine QJ.step (y_call Try.call49 rfl (RetG.quiet fun w hw => ok_i_takenCode h9 w _ (hr3.st hw) _ (hr6.st hw))) rfl ?_
  refine QJ.step (YldS.yld (y_assign rfl)) rfl ?_
  refine QJ.done ?_
  refine PJ.next ?_
  refine WJ.seq ?_
  refine WJ.quiet ?_
  refine QJ.step (YldS.yld (y_move rfl)) rfl ?_
  refine QJ.step (YldS.yld (y_bin rfl rfl rfl)) rfl ?_
  refine QJ.done ?_
  refine PJ.next ?_
  refine WJ.cond (t := (r8 != 0)) rfl (fun hb10 => ?_) (fun hb10 => ?_)
  · replace hm := ifT hm hb10
    refine WJ.seq ?_
    refine WJ.quiet ?_
    refine QJ.step (YldS.yld (y_move rfl)) rfl ?_
    refine QJ.step (YldS.yld (y_assign rfl)) rfl ?_
    refine QJ.step (YldS.yld (y_assign rfl)) rfl ?_
    refine QJ.done ?_
    refine PJ.next ?_
    refine WJ.ret ?_
    refine PJ.then_ret ?_
    obtain rfl := Option.some.inj hm
    refine PJ.sel (L' := []) [] ⟨List.nodup_nil, rfl⟩ ?_
    exact PJ.retn (vs := [.bool false, .int .i64 r8]) Try.results12 ⟨rfl, rfl, trivial⟩ ⟨rfl, rfl⟩
  · replace hm := ifF hm hb10
    refine WJ.skip ?_
    refine PJ.next ?_
    refine WJ.seq ?_
    refine WJ.seq ?_
    refine WJ.quiet ?_
    refine QJ.step (YldS.yld (y_move rfl)) rfl ?_
    obtain ⟨r11, h12, hm⟩ := bindS hm
    refine QJ.step (y_call Try.call28 rfl (RetG.quiet fun w hw => ok_i_isText h12 w )) rfl ?_
    refine QJ.step (YldS.yld (y_not rfl)) rfl ?_
    refine QJ.done ?_
    refine PJ.next ?_
    refine WJ.cond (t := !r11) rfl (fun hb13 => ?_) (fun hb13 => ?_)
    · replace hm := ifT hm hb13
      refine WJ.seq ?_
      refine WJ.quiet ?_
      refine QJ.step (YldS.yld (y_assign rfl)) rfl ?_
      refine QJ.step (YldS.yld (y_assign rfl)) rfl ?_
      refine QJ.done ?_
      refine PJ.next ?_
      refine WJ.ret ?_
      refine PJ.then_ret ?_
      obtain rfl := Option.some.inj hm
      refine PJ.sel (L' := []) [] ⟨List.nodup_nil, rfl⟩ ?_
      exact PJ.retn (vs := [.bool false, .int .i64 2]) Try.results12 ⟨rfl, rfl, trivial⟩ ⟨rfl, rfl⟩
    · replace hm := ifF hm hb13
      refine WJ.skip ?_
      refine PJ.next ?_
      refine WJ.seq ?_
      refine WJ.reg ?_
      refine SJ.q (YldS.yld (y_move rfl)) rfl ?_
      refine SJ.q (YldS.yld (y_move rfl)) rfl ?_
      refine SJ.q (YldS.yld (y_move rfl)) rfl ?_
      obtain ⟨r14, h15, hm⟩ := bindS hm
      refine SJ.call Try.call34 rfl (fun w hw => ok_i_known h15 w _ (hr3.st hw) _ (hr6.st hw)) rfl ?_
      rintro _ _ ⟨g16, rfl, rfl⟩
      obtain ⟨r17, h18, hm⟩ := bindS hm
      refine SJ.q (y_call Try.call33 rfl (RetG.quiet fun w hw => ok_i_typable h18 w _ (hw.row_rd (k := 0) rfl))) rfl ?_
      refine SJ.q (YldS.yld (y_assign rfl)) rfl ?_
      refine SJ.q (YldS.yld (y_assign rfl)) rfl ?_
      refine SJ.nil ?_
      refine PJ.next ?_
      refine WJ.ret ?_
      obtain rfl := Option.some.inj hm
      refine PJ.sel (L' := []) [] ⟨List.nodup_nil, rfl⟩ ?_
      exact PJ.retn (vs := [.bool r17, .int .i64 0]) Try.results12 ⟨rfl, rfl, trivial⟩ ⟨rfl, rfl⟩

set_option maxRecDepth 100000 in
set_option maxHeartbeats 1000000 in
theorem ok_s_CanType {N : Nat} {list1 : List Lesson} {taken4 : List Int} {text7 : Str} {r : Bool × Int} (hm : s_CanType N list1 taken4 text7 = some r) (w : World) (v2 : Value) (hr3 : RdS w (cx w).Fz v2 (shLesson.rp fI64.rp) list1) (v5 : Value) (hr6 : RdS w (cx w).Fz v5 fI64.rp taken4) :
    Calls Try.prog 13 #[v2, v5, str text7] w (Ret (cx w) (tup [.bool r.1, .int .i64 r.2])) := by
  unfold s_CanType at hm
  refine Calls.enter [v2, v5, str text7] Try.func13 rfl Try.ntmps13 rfl ?_
  refine WJ.seq ?_
  refine WJ.quiet ?_
  refine QJ.step (YldS.yld (y_assign rfl)) rfl ?_
  refine QJ.step (YldS.yld (y_assign rfl)) rfl ?_
  refine QJ.done ?_
  refine PJ.next ?_
  refine WJ.seq ?_
  refine WJ.quiet ?_
  refine QJ.step (YldS.yld (y_move rfl)) rfl ?_
  refine QJ.step (YldS.yld (y_move rfl)) rfl ?_
  obtain ⟨r8, h9, hm⟩ := bindS hm
  refine QJ.step (y_call Try.call37 rfl (RetG.quiet fun w hw => ok_s_l18Taken h9 w _ (hr3.st hw) _ (hr6.st hw))) rfl ?_
  refine QJ.step (YldS.yld (y_assign rfl)) rfl ?_
  refine QJ.done ?_
  refine PJ.next ?_
  obtain ⟨kj11, hk12, hm⟩ := withK_open hm
  refine WJ.join (X := Int) (fun (x : Int) => kj11 x = some r) (fun (x : Int) => [(0, v2), (1, v5), (2, str text7), (8, .int .i64 x)]) (fun (x : Int) => []) ?_ ?_
  · clear hk12
    refine WJ.seq ?_
    refine WJ.quiet ?_
    refine QJ.step (YldS.yld (y_move rfl)) rfl ?_
    refine QJ.step (YldS.yld (y_bin rfl rfl rfl)) rfl ?_
    refine QJ.step (YldS.yld (y_move rfl)) rfl ?_
    obtain ⟨t13, h14, hm⟩ := bindS hm
    refine QJ.cut 4 [(0, v2), (1, v5), (2, str text7), (8, .int .i64 r8), (18, .bool t13)] ?_ ?_
    · rcases Bool.eq_false_or_eq_true (r8 == 0) with hb15 | hb15
      · replace h14 := andT h14 hb15
        refine QJ.on rfl rfl (cB hb15) (YldS.yld (y_move rfl)) rfl ?_
        obtain ⟨r16, h17, h14⟩ := bindS h14
        refine QJ.on rfl rfl (cB hb15) (y_call Try.call38 rfl (RetG.quiet fun w hw => ok_s_l00Text h17 w )) rfl ?_
        refine QJ.on rfl rfl (cB hb15) (YldS.yld (y_not rfl)) rfl ?_
        refine QJ.step (YldS.yld (y_pick_t (cB hb15) rfl)) rfl ?_
        obtain rfl := Option.some.inj h14
        exact QJ.cut_end ⟨rfl, rfl, rfl, rfl, rfl, trivial⟩
      · obtain rfl := andF h14 hb15
        refine QJ.off rfl rfl (cB hb15) rfl rfl ?_
        refine QJ.off rfl rfl (cB hb15) rfl rfl ?_
        refine QJ.off rfl rfl (cB hb15) rfl rfl ?_
        refine QJ.step (YldS.yld (y_pick_f (cB hb15) rfl)) rfl ?_
        exact QJ.cut_end ⟨rfl, rfl, rfl, rfl, rfl, trivial⟩
    refine QJ.done ?_
    refine PJ.next ?_
    refine WJ.cond (t := t13) rfl (fun hb18 => ?_) (fun hb18 => ?_)
    · replace hm := ifT hm hb18
      refine WJ.quiet ?_
      refine QJ.step (YldS.yld (y_assign rfl)) rfl ?_
      refine QJ.done ?_
      exact PJ.joined 2 [] hm ⟨rfl, rfl, rfl, rfl, trivial⟩ ⟨List.nodup_nil, rfl⟩
    · replace hm := ifF hm hb18
      refine WJ.skip ?_
      exact PJ.joined r8 [] hm ⟨rfl, rfl, rfl, rfl, trivial⟩ ⟨List.nodup_nil, rfl⟩
  · rintro code10 hm
    subst hk12
    refine WJ.seq ?_
    refine WJ.seq ?_
    refine WJ.quiet ?_
    refine QJ.step (YldS.yld (y_move rfl)) rfl ?_
    refine QJ.step (YldS.yld (y_bin rfl rfl rfl)) rfl ?_
    refine QJ.done ?_
    refine PJ.next ?_
    refine WJ.cond (t := (code10 != 0)) rfl (fun hb19 => ?_) (fun hb19 => ?_)
    · replace hm := ifT hm hb19
      refine WJ.seq ?_
      refine WJ.quiet ?_
      refine QJ.step (YldS.yld (y_move rfl)) rfl ?_
      refine QJ.step (YldS.yld (y_assign rfl)) rfl ?_
      refine QJ.step (YldS.yld (y_assign rfl)) rfl ?_
      refine QJ.done ?_
      refine PJ.next ?_
      refine WJ.ret ?_
      refine PJ.then_ret ?_
      obtain rfl := Option.some.inj hm
      refine PJ.sel (L' := []) [] ⟨List.nodup_nil, rfl⟩ ?_
      exact PJ.retn (vs := [.bool false, .int .i64 code10]) Try.results13 ⟨rfl, rfl, trivial⟩ ⟨rfl, rfl⟩
    · replace hm := ifF hm hb19
      refine WJ.skip ?_
      refine PJ.next ?_
      refine WJ.seq ?_
      refine WJ.quiet ?_
      refine QJ.step (YldS.yld (y_move rfl)) rfl ?_
      refine QJ.step (YldS.yld (y_move rfl)) rfl ?_
      obtain ⟨r20, h21, hm⟩ := bindS hm
      refine QJ.step (y_call Try.call42 rfl (RetG.quiet fun w hw => ok_s_l18Known h21 w _ (hr3.st hw) _ (hr6.st hw))) rfl ?_
      refine QJ.step (YldS.yld (y_move rfl)) rfl ?_
      obtain ⟨r22, h23, hm⟩ := bindS hm
      refine QJ.step (y_call Try.call41 rfl (RetG.quiet fun w hw => ok_s_l18Missing h23 w )) rfl ?_
      refine QJ.step (YldS.yld (y_binS rfl rfl rfl)) rfl ?_
      refine QJ.step (YldS.yld (y_assign rfl)) rfl ?_
      refine QJ.step (YldS.yld (y_assign rfl)) rfl ?_
      refine QJ.done ?_
      refine PJ.next ?_
      refine WJ.ret ?_
      obtain rfl := Option.some.inj hm
      refine PJ.sel (L' := []) [] ⟨List.nodup_nil, rfl⟩ ?_
      exact PJ.retn (vs := [.bool (r22 == []), .int .i64 0]) Try.results13 ⟨rfl, rfl, trivial⟩ ⟨rfl, rfl⟩

set_option maxRecDepth 100000 in
set_option maxHeartbeats 1000000 in
theorem ok_w_f6ints {N : Nat} {a1 : List Int} {b4 : List Int} {r : Bool} (hm : w_f6ints N a1 b4 = some r) (w : World) (v2 : Value) (hr3 : RdS w (cx w).Fz v2 fI64.rp a1) (v5 : Value) (hr6 : RdS w (cx w).Fz v5 fI64.rp b4) :
    Calls Try.prog 14 #[v2, v5] w (Ret (cx w) (.bool r)) := by
  unfold w_f6ints at hm
  refine Calls.enter [v2, v5] Try.func14 rfl Try.ntmps14 rfl ?_
  refine WJ.seq ?_
  refine WJ.quiet ?_
  refine QJ.step (YldS.yld (y_assign rfl)) rfl ?_
  refine QJ.done ?_
  refine PJ.next ?_
  refine WJ.seq ?_
  refine WJ.seq ?_
  refine WJ.quiet ?_
  refine QJ.step (YldS.yld (y_move rfl)) rfl ?_
  refine QJ.step (YldS.yld (y_lenS Try.runUnderlying27 hr3 rfl)) rfl ?_
  refine QJ.step (YldS.yld (y_move rfl)) rfl ?_
  refine QJ.step (YldS.yld (y_lenS Try.runUnderlying27 hr6 rfl)) rfl ?_
  refine QJ.step (YldS.yld (y_bin rfl rfl rfl)) rfl ?_
  refine QJ.done ?_
  refine PJ.next ?_
  refine WJ.cond (t := ((List.length a1 : Int) != (List.length b4 : Int))) rfl (fun hb7 => ?_) (fun hb7 => ?_)
  · replace hm := ifT hm hb7
    refine WJ.seq ?_
    refine WJ.quiet ?_
    refine QJ.step (YldS.yld (y_assign rfl)) rfl ?_
    refine QJ.done ?_
    refine PJ.next ?_
    refine WJ.ret ?_
    refine PJ.then_ret ?_
    obtain rfl := Option.some.inj hm
    refine PJ.sel (L' := []) [] ⟨List.nodup_nil, rfl⟩ ?_
    exact PJ.retn (vs := [.bool false]) Try.results14 ⟨rfl, trivial⟩ ⟨rfl, rfl⟩
  · replace hm := ifF hm hb7
    refine WJ.skip ?_
    refine PJ.next ?_
    obtain ⟨kj8, hk9, hm⟩ := withK_open hm
    refine WJ.join (X := Unit) (fun (_ : Unit) => kj8  = some r) (fun (_ : Unit) => []) (fun (_ : Unit) => []) ?_ ?_
    · clear hk9
      refine WJ.seq ?_
      refine WJ.quiet ?_
      refine QJ.step (YldS.yld (y_assign rfl)) rfl ?_
      refine QJ.done ?_
      refine PJ.next ?_
      refine WJ.block ?_
      refine WJ.sel (L' := (fun (x : Int) => []) 0) [] ⟨List.nodup_nil, rfl⟩ ?_
      refine WJ.sub (m' := (fun (x : Int) => [(0, v2), (1, v5), (5, .int .i64 x)]) 0) ⟨rfl, rfl, rfl, trivial⟩ ?_
      refine WJ.loop (X := Int) (fun N (x : Int) => w_f6ints_l1 kj8 a1 b4 N x = some r) (fun (x : Int) => [(0, v2), (1, v5), (5, .int .i64 x)]) (fun (x : Int) => []) ?_ N 0 hm
      · rintro N i10 hI
        have hm := hI; clear hI
        cases N with
        | zero => cases hm
        | succ N =>
        unfold w_f6ints_l1 at hm
        refine WJ.seq ?_
        refine WJ.seq ?_
        refine WJ.quiet ?_
        refine QJ.step (YldS.yld (y_move rfl)) rfl ?_
        refine QJ.step (YldS.yld (y_move rfl)) rfl ?_
        refine QJ.step (YldS.yld (y_lenS Try.runUnderlying27 hr3 rfl)) rfl ?_
        refine QJ.step (YldS.yld (y_bin rfl rfl rfl)) rfl ?_
        refine QJ.done ?_
        refine PJ.next ?_
        refine WJ.cond (t := decide (i10 < (List.length a1 : Int))) rfl (fun hb11 => ?_) (fun hb11 => ?_)
        · replace hm := ifT hm hb11
          refine WJ.skip ?_
          refine PJ.next ?_
          refine WJ.seq ?_
          refine WJ.block ?_
          refine WJ.seq ?_
          refine WJ.quiet_draw follows (by kernel_rfl) ?_
          refine QJ.step (YldS.yld (y_move rfl)) rfl ?_
          refine QJ.step (YldS.yld (y_move rfl)) rfl ?_
          obtain ⟨e12, h13, hm⟩ := bindS hm
          obtain ⟨ad14, _, rfl, ha15, hy16⟩ := hr3.elem h13
          refine QJ.step (YldS.yld (hy16 Try.runUnderlying27 Try.sizeOf2 rfl rfl)) rfl ?_
          refine QJ.step (YldS.yld (y_load1 (v := .int .i64 e12) Try.isAgg2 ha15 St.frozenC rfl)) rfl ?_
          refine QJ.step (YldS.yld (y_move rfl)) rfl ?_
          refine QJ.step (YldS.yld (y_move rfl)) rfl ?_
          obtain ⟨e17, h18, hm⟩ := bindS hm
          obtain ⟨ad19, _, rfl, ha20, hy21⟩ := hr6.elem h18
          refine QJ.step (YldS.yld (hy21 Try.runUnderlying27 Try.sizeOf2 rfl rfl)) rfl ?_
          refine QJ.step (YldS.yld (y_load1 (v := .int .i64 e17) Try.isAgg2 ha20 St.frozenC rfl)) rfl ?_
          refine QJ.step (YldS.yld (y_bin rfl rfl rfl)) rfl ?_
          refine QJ.done ?_
          refine PJ.next ?_
          refine WJ.cond (t := (e12 != e17)) rfl (fun hb22 => ?_) (fun hb22 => ?_)
          · replace hm := ifT hm hb22
            refine WJ.seq ?_
            refine WJ.quiet ?_
            refine QJ.step (YldS.yld (y_assign rfl)) rfl ?_
            refine QJ.done ?_
            refine PJ.next ?_
            refine WJ.ret ?_
            refine PJ.block_ret (PJ.then_ret (PJ.then_ret (PJ.block_ret (PJ.then_ret ?_))))
            obtain rfl := Option.some.inj hm
            refine PJ.sel (L' := []) [] ⟨List.nodup_nil, rfl⟩ ?_
            exact PJ.retn (vs := [.bool false]) Try.results14 ⟨rfl, trivial⟩ ⟨rfl, rfl⟩
          · replace hm := ifF hm hb22
            refine WJ.skip ?_
            refine PJ.block_normal (PJ.next ?_)
            refine WJ.quiet ?_
            refine QJ.step (YldS.yld (y_move rfl)) rfl ?_
            refine QJ.step (YldS.yld (y_bin rfl rfl rfl)) rfl ?_
            refine QJ.step (YldS.yld (y_assign rfl)) rfl ?_
            refine QJ.done ?_
            exact PJ.round (w64 (i10 + 1)) [] hm ⟨rfl, rfl, rfl, trivial⟩ ⟨List.nodup_nil, rfl⟩
        · replace hm := ifF hm hb11
          refine WJ.exit ?_
          refine PJ.then_exit (PJ.then_exit (PJ.block_exit ?_))
          exact PJ.joined () [] hm trivial ⟨List.nodup_nil, rfl⟩
    · rintro _ hm
      subst hk9
      refine WJ.seq ?_
      refine WJ.quiet ?_
      refine QJ.step (YldS.yld (y_assign rfl)) rfl ?_
      refine QJ.done ?_
      refine PJ.next ?_
      refine WJ.ret ?_
      obtain rfl := Option.some.inj hm
      refine PJ.sel (L' := []) [] ⟨List.nodup_nil, rfl⟩ ?_
      exact PJ.retn (vs := [.bool true]) Try.results14 ⟨rfl, trivial⟩ ⟨rfl, rfl⟩

set_option maxRecDepth 100000 in
set_option maxHeartbeats 1000000 in
theorem ok_w_f6has {N : Nat} {list1 : List Int} {n4 : Int} {r : Bool} (hm : w_f6has N list1 n4 = some r) (w : World) (v2 : Value) (hr3 : RdS w (cx w).Fz v2 fI64.rp list1) :
    Calls Try.prog 15 #[v2, .int .i64 n4] w (Ret (cx w) (.bool r)) := by
  unfold w_f6has at hm
  refine Calls.enter [v2, .int .i64 n4] Try.func15 rfl Try.ntmps15 rfl ?_
  refine WJ.seq ?_
  refine WJ.quiet ?_
  refine QJ.step (YldS.yld (y_assign rfl)) rfl ?_
  refine QJ.done ?_
  refine PJ.next ?_
  obtain ⟨kj5, hk6, hm⟩ := withK_open hm
  refine WJ.join (X := Unit) (fun (_ : Unit) => kj5  = some r) (fun (_ : Unit) => []) (fun (_ : Unit) => []) ?_ ?_
  · clear hk6
    refine WJ.seq ?_
    refine WJ.quiet ?_
    refine QJ.step (YldS.yld (y_assign rfl)) rfl ?_
    refine QJ.done ?_
    refine PJ.next ?_
    refine WJ.block ?_
    refine WJ.sel (L' := (fun (x : Int) => []) 0) [] ⟨List.nodup_nil, rfl⟩ ?_
    refine WJ.sub (m' := (fun (x : Int) => [(0, v2), (1, .int .i64 n4), (5, .int .i64 x)]) 0) ⟨rfl, rfl, rfl, trivial⟩ ?_
    refine WJ.loop (X := Int) (fun N (x : Int) => w_f6has_l1 kj5 list1 n4 N x = some r) (fun (x : Int) => [(0, v2), (1, .int .i64 n4), (5, .int .i64 x)]) (fun (x : Int) => []) ?_ N 0 hm
    · rintro N i7 hI
      have hm := hI; clear hI
      cases N with
      | zero => cases hm
      | succ N =>
      unfold w_f6has_l1 at hm
      refine WJ.seq ?_
      refine WJ.seq ?_
      refine WJ.quiet ?_
      refine QJ.step (YldS.yld (y_move rfl)) rfl ?_
      refine QJ.step (YldS.yld (y_move rfl)) rfl ?_
      refine QJ.step (YldS.yld (y_lenS Try.runUnderlying27 hr3 rfl)) rfl ?_
      refine QJ.step (YldS.yld (y_bin rfl rfl rfl)) rfl ?_
      refine QJ.done ?_
      refine PJ.next ?_
      refine WJ.cond (t := decide (i7 < (List.length list1 : Int))) rfl (fun hb8 => ?_) (fun hb8 => ?_)
      · replace hm := ifT hm hb8
        refine WJ.skip ?_
        refine PJ.next ?_
        refine WJ.seq ?_
        refine WJ.block ?_
        refine WJ.seq ?_
        refine WJ.quiet ?_
        refine QJ.step (YldS.yld (y_move rfl)) rfl ?_
        refine QJ.step (YldS.yld (y_move rfl)) rfl ?_
        obtain ⟨e9, h10, hm⟩ := bindS hm
        obtain ⟨ad11, _, rfl, ha12, hy13⟩ := hr3.elem h10
        refine QJ.step (YldS.yld (hy13 Try.runUnderlying27 Try.sizeOf2 rfl rfl)) rfl ?_
        refine QJ.step (YldS.yld (y_load1 (v := .int .i64 e9) Try.isAgg2 ha12 St.frozenC rfl)) rfl ?_
        refine QJ.step (YldS.yld (y_move rfl)) rfl ?_
        refine QJ.step (YldS.yld (y_bin rfl rfl rfl)) rfl ?_
        refine QJ.done ?_
        refine PJ.next ?_
        refine WJ.cond (t := (e9 == n4)) rfl (fun hb14 => ?_) (fun hb14 => ?_)
        · replace hm := ifT hm hb14
          refine WJ.seq ?_
          refine WJ.quiet ?_
          refine QJ.step (YldS.yld (y_assign rfl)) rfl ?_
          refine QJ.done ?_
          refine PJ.next ?_
          refine WJ.ret ?_
          refine PJ.block_ret (PJ.then_ret (PJ.then_ret (PJ.block_ret (PJ.then_ret ?_))))
          obtain rfl := Option.some.inj hm
          refine PJ.sel (L' := []) [] ⟨List.nodup_nil, rfl⟩ ?_
          exact PJ.retn (vs := [.bool true]) Try.results15 ⟨rfl, trivial⟩ ⟨rfl, rfl⟩
        · replace hm := ifF hm hb14
          refine WJ.skip ?_
          refine PJ.block_normal (PJ.next ?_)
          refine WJ.quiet ?_
          refine QJ.step (YldS.yld (y_move rfl)) rfl ?_
          refine QJ.step (YldS.yld (y_bin rfl rfl rfl)) rfl ?_
          refine QJ.step (YldS.yld (y_assign rfl)) rfl ?_
          refine QJ.done ?_
          exact PJ.round (w64 (i7 + 1)) [] hm ⟨rfl, rfl, rfl, trivial⟩ ⟨List.nodup_nil, rfl⟩
      · replace hm := ifF hm hb8
        refine WJ.exit ?_
        refine PJ.then_exit (PJ.then_exit (PJ.block_exit ?_))
        exact PJ.joined () [] hm trivial ⟨List.nodup_nil, rfl⟩
  · rintro _ hm
    subst hk6
    refine WJ.seq ?_
    refine WJ.quiet ?_
    refine QJ.step (YldS.yld (y_assign rfl)) rfl ?_
    refine QJ.done ?_
    refine PJ.next ?_
    refine WJ.ret ?_
    obtain rfl := Option.some.inj hm
    refine PJ.sel (L' := []) [] ⟨List.nodup_nil, rfl⟩ ?_
    exact PJ.retn (vs := [.bool false]) Try.results15 ⟨rfl, trivial⟩ ⟨rfl, rfl⟩

set_option maxRecDepth 100000 in
set_option maxHeartbeats 1000000 in
theorem ok_i_HoursOfLessons {N : Nat} {list1 : List Lesson} {some4 : List Int} {r : Int × Int} (hm : i_HoursOfLessons N list1 some4 = some r) (w : World) (v2 : Value) (hr3 : RdS w (cx w).Fz v2 (shLesson.rp fI64.rp) list1) (v5 : Value) (hr6 : RdS w (cx w).Fz v5 fI64.rp some4) :
    Calls Try.prog 16 #[v2, v5] w (Ret (cx w) (tup [.int .i64 r.1, .int .i64 r.2])) := by
  unfold i_HoursOfLessons at hm
  refine Calls.enter [v2, v5] Try.func16 rfl Try.ntmps16 rfl ?_
  refine WJ.seq ?_
  refine WJ.quiet ?_
  refine QJ.step (YldS.yld (y_assign rfl)) rfl ?_
  refine QJ.step (YldS.yld (y_assign rfl)) rfl ?_
  refine QJ.done ?_
  refine PJ.next ?_
  refine WJ.seq ?_
  refine WJ.seq ?_
  refine WJ.quiet ?_
  refine QJ.step (YldS.yld (y_move rfl)) rfl ?_
  refine QJ.step (YldS.yld (y_move rfl)) rfl ?_
  obtain ⟨r7, h8, hm⟩ := bindS hm
  refine QJ.step (y_call Try.call49 rfl (RetG.quiet fun w hw => ok_i_takenCode h8 w _ (hr3.st hw) _ (hr6.st hw))) rfl ?_
  refine QJ.step (YldS.yld (y_assign rfl)) rfl ?_
  refine QJ.done ?_
  refine PJ.next ?_
  refine WJ.seq ?_
  refine WJ.quiet ?_
  refine QJ.step (YldS.yld (y_move rfl)) rfl ?_
  refine QJ.step (YldS.yld (y_bin rfl rfl rfl)) rfl ?_
  refine QJ.done ?_
  refine PJ.next ?_
  refine WJ.cond (t := (r7 != 0)) rfl (fun hb9 => ?_) (fun hb9 => ?_)
  · replace hm := ifT hm hb9
    refine WJ.seq ?_
    refine WJ.quiet ?_
    refine QJ.step (YldS.yld (y_move rfl)) rfl ?_
    refine QJ.step (YldS.yld (y_assign rfl)) rfl ?_
    refine QJ.step (YldS.yld (y_assign rfl)) rfl ?_
    refine QJ.done ?_
    refine PJ.next ?_
    refine WJ.ret ?_
    refine PJ.then_ret ?_
    obtain rfl := Option.some.inj hm
    refine PJ.sel (L' := []) [] ⟨List.nodup_nil, rfl⟩ ?_
    exact PJ.retn (vs := [.int .i64 0, .int .i64 r7]) Try.results16 ⟨rfl, rfl, trivial⟩ ⟨rfl, rfl⟩
  · replace hm := ifF hm hb9
    refine WJ.skip ?_
    refine PJ.next ?_
    refine WJ.seq ?_
    refine WJ.quiet ?_
    refine QJ.step (YldS.yld (y_move rfl)) rfl ?_
    refine QJ.step (YldS.yld (y_move rfl)) rfl ?_
    obtain ⟨r10, h11, hm⟩ := bindS hm
    refine QJ.step (y_call Try.call35 rfl (RetG.quiet fun w hw => ok_i_hours h11 w _ (hr3.st hw) _ (hr6.st hw))) rfl ?_
    refine QJ.step (YldS.yld (y_assign rfl)) rfl ?_
    refine QJ.step (YldS.yld (y_assign rfl)) rfl ?_
    refine QJ.done ?_
    refine PJ.next ?_
    refine WJ.ret ?_
    obtain rfl := Option.some.inj hm
    refine PJ.sel (L' := []) [] ⟨List.nodup_nil, rfl⟩ ?_
    exact PJ.retn (vs := [.int .i64 r10, .int .i64 0]) Try.results16 ⟨rfl, rfl, trivial⟩ ⟨rfl, rfl⟩

end Go.Proofs.Ytbgngihmpdneaaa
