/-
  The walks: a call hands back what its plain function computes, where that has a value. No other conditions.
-/
import Derived.Test.YtkjccgkpieakpaaFnBoxesW
import Derived.Test.YtkjccgkpieakpaaChecked
namespace Go.Proofs.Ytkjccgkpieakpaa
open Go.RowKit Go.Proofs
set_option linter.unusedVariables false
set_option linter.unusedSimpArgs false

set_option maxRecDepth 100000 in
set_option maxHeartbeats 1000000 in
theorem ok_w_FnBoxes {N : Nat} {code1 : List UInt8} {r : Bool} (hm : w_FnBoxes N code1 = some r) (w : World) (v2 : Value) (hr3 : RdS w (cx w).Fz v2 fByte.rp code1) :
    Calls Try.prog 6 #[v2] w (Ret (cx w) (.bool r)) := by
  unfold w_FnBoxes at hm
  refine Calls.enter [v2] Try.func6 rfl Try.ntmps6 rfl ?_
  refine WJ.seq ?_
  refine WJ.quiet ?_
  refine QJ.step (YldS.yld (y_assign rfl)) rfl ?_
  refine QJ.done ?_
  refine PJ.next ?_
  refine WJ.seq ?_
  refine WJ.seq ?_
  refine WJ.quiet ?_
  refine QJ.step (YldS.yld (y_move rfl)) rfl ?_
  obtain ⟨r4, h5, hm⟩ := bindS hm
  refine QJ.step (y_call Try.call11 rfl (RetG.quiet fun w hw => ok_w_f6big h5 w _ (hr3.st hw))) rfl ?_
  refine QJ.done ?_
  refine PJ.next ?_
  refine WJ.cond (t := r4) rfl (fun hb6 => ?_) (fun hb6 => ?_)
  · replace hm := ifT hm hb6
    refine WJ.seq ?_
    refine WJ.quiet ?_
    refine QJ.step (YldS.yld (y_assign rfl)) rfl ?_
    refine QJ.done ?_
    refine PJ.next ?_
    refine WJ.ret ?_
    refine PJ.then_ret ?_
    obtain rfl := Option.some.inj hm
    refine PJ.sel (L' := []) [] ⟨List.nodup_nil, rfl⟩ ?_
    exact PJ.retn (vs := [.bool true]) Try.results6 ⟨rfl, trivial⟩ ⟨rfl, rfl⟩
  · replace hm := ifF hm hb6
    refine WJ.skip ?_
    refine PJ.next ?_
    refine WJ.seq ?_
    refine WJ.reg ?_
    refine SJ.q (YldS.yld (y_move rfl)) rfl ?_
    obtain ⟨r7, h8, hm⟩ := bindS hm
    refine SJ.call Try.call55 rfl (fun w hw => ok_s_DrawBoxLines h8 w _ (hr3.st hw)) rfl ?_
    rintro v9 _ ⟨_, rfl, rfl⟩
    refine SJ.q (YldS.yld (y_assign rfl)) rfl ?_
    refine SJ.nil ?_
    refine PJ.next ?_
    refine WJ.seq ?_
    refine WJ.reg ?_
    refine SJ.q (YldS.yld (y_move rfl)) rfl ?_
    obtain ⟨r10, h11, hm⟩ := bindS hm
    refine SJ.call Try.call56 rfl (fun w hw => ok_i_BoxLines h11 w _ (hw.row_rd (k := 0) rfl)) rfl ?_
    rintro _ _ ⟨v12, rfl, rfl⟩
    refine SJ.q (YldS.yld (y_move rfl)) rfl ?_
    refine SJ.q (YldS.yld (y_extract rfl rfl)) rfl ?_
    refine SJ.q (YldS.yld (y_extract rfl rfl)) rfl ?_
    refine SJ.q (YldS.yld (y_assign rfl)) rfl ?_
    refine SJ.q (YldS.yld (y_assign rfl)) rfl ?_
    refine SJ.nil ?_
    refine PJ.next ?_
    refine WJ.seq ?_
    refine WJ.reg ?_
    refine SJ.q (YldS.yld (y_move rfl)) rfl ?_
    obtain ⟨r13, h14, hm⟩ := bindS hm
    refine SJ.call Try.call57 rfl (fun w hw => ok_s_BoxLines h14 w _ (hw.row_rd (k := 1) rfl)) rfl ?_
    rintro _ _ ⟨v15, rfl, rfl⟩
    refine SJ.q (YldS.yld (y_move rfl)) rfl ?_
    refine SJ.q (YldS.yld (y_extract rfl rfl)) rfl ?_
    refine SJ.q (YldS.yld (y_extract rfl rfl)) rfl ?_
    refine SJ.q (YldS.yld (y_assign rfl)) rfl ?_
    refine SJ.q (YldS.yld (y_assign rfl)) rfl ?_
    refine SJ.nil ?_
    refine PJ.next ?_
    refine WJ.seq ?_
    refine WJ.reg ?_
    refine SJ.q (YldS.yld (y_move rfl)) rfl ?_
    obtain ⟨r16, h17, hm⟩ := bindS hm
    refine SJ.call Try.call58 rfl (fun w hw => ok_s_DrawCentreBlock h17 w _ (hr3.st hw)) rfl ?_
    rintro _ _ ⟨v18, rfl, rfl⟩
    refine SJ.q (YldS.yld (y_move rfl)) rfl ?_
    refine SJ.q (YldS.yld (y_extract rfl rfl)) rfl ?_
    refine SJ.q (YldS.yld (y_extract rfl rfl)) rfl ?_
    refine SJ.q (YldS.yld (y_assign rfl)) rfl ?_
    refine SJ.q (YldS.yld (y_assign rfl)) rfl ?_
    refine SJ.nil ?_
    refine PJ.next ?_
    refine WJ.seq ?_
    refine WJ.reg ?_
    refine SJ.q (YldS.yld (y_move rfl)) rfl ?_
    refine SJ.q (YldS.yld (y_move rfl)) rfl ?_
    obtain ⟨r19, h20, hm⟩ := bindS hm
    refine SJ.call Try.call59 rfl (fun w hw => ok_i_CentreBlock h20 w _ (hw.row_rd (k := 0) rfl)) rfl ?_
    rintro _ _ ⟨v21, rfl, rfl⟩
    refine SJ.q (YldS.yld (y_move rfl)) rfl ?_
    refine SJ.q (YldS.yld (y_extract rfl rfl)) rfl ?_
    refine SJ.q (YldS.yld (y_extract rfl rfl)) rfl ?_
    refine SJ.q (YldS.yld (y_assign rfl)) rfl ?_
    refine SJ.q (YldS.yld (y_assign rfl)) rfl ?_
    refine SJ.nil ?_
    refine PJ.next ?_
    refine WJ.seq ?_
    refine WJ.reg ?_
    refine SJ.q (YldS.yld (y_move rfl)) rfl ?_
    refine SJ.q (YldS.yld (y_move rfl)) rfl ?_
    obtain ⟨r22, h23, hm⟩ := bindS hm
    refine SJ.call Try.call60 rfl (fun w hw => ok_s_CentreBlock h23 w _ (hw.row_rd (k := 1) rfl)) rfl ?_
    rintro _ _ ⟨v24, rfl, rfl⟩
    refine SJ.q (YldS.yld (y_move rfl)) rfl ?_
    refine SJ.q (YldS.yld (y_extract rfl rfl)) rfl ?_
    refine SJ.q (YldS.yld (y_extract rfl rfl)) rfl ?_
    refine SJ.q (YldS.yld (y_assign rfl)) rfl ?_
    refine SJ.q (YldS.yld (y_assign rfl)) rfl ?_
    refine SJ.nil ?_
    refine PJ.next ?_
    refine WJ.seq ?_
    refine WJ.reg ?_
    refine SJ.q (YldS.yld (y_move rfl)) rfl ?_
    obtain ⟨r25, h26, hm⟩ := bindS hm
    refine SJ.call Try.call61 rfl (fun w hw => ok_s_DrawTitlePage h26 w _ (hr3.st hw)) rfl ?_
    rintro _ _ ⟨v27, rfl, rfl⟩
    refine SJ.q (YldS.yld (y_move rfl)) rfl ?_
    refine SJ.q (YldS.yld (y_extract rfl rfl)) rfl ?_
    refine SJ.q (YldS.yld (y_extract rfl rfl)) rfl ?_
    refine SJ.q (YldS.yld (y_extract rfl rfl)) rfl ?_
    refine SJ.q (YldS.yld (y_assign rfl)) rfl ?_
    refine SJ.q (YldS.yld (y_assign rfl)) rfl ?_
    refine SJ.q (YldS.yld (y_assign rfl)) rfl ?_
    refine SJ.nil ?_
    refine PJ.next ?_
    refine WJ.seq ?_
    refine WJ.reg ?_
    refine SJ.q (YldS.yld (y_move rfl)) rfl ?_
    refine SJ.q (YldS.yld (y_move rfl)) rfl ?_
    refine SJ.q (YldS.yld (y_move rfl)) rfl ?_
    obtain ⟨r28, h29, hm⟩ := bindS hm
    refine SJ.call Try.call62 rfl (fun w hw => ok_i_TitlePage h29 w _ (hw.row_rd (k := 0) rfl)) rfl ?_
    rintro _ _ ⟨v30, rfl, rfl⟩
    refine SJ.q (YldS.yld (y_move rfl)) rfl ?_
    refine SJ.q (YldS.yld (y_extract rfl rfl)) rfl ?_
    refine SJ.q (YldS.yld (y_extract rfl rfl)) rfl ?_
    refine SJ.q (YldS.yld (y_assign rfl)) rfl ?_
    refine SJ.q (YldS.yld (y_assign rfl)) rfl ?_
    refine SJ.nil ?_
    refine PJ.next ?_
    refine WJ.seq ?_
    refine WJ.reg ?_
    refine SJ.q (YldS.yld (y_move rfl)) rfl ?_
    refine SJ.q (YldS.yld (y_move rfl)) rfl ?_
    refine SJ.q (YldS.yld (y_move rfl)) rfl ?_
    obtain ⟨r31, h32, hm⟩ := bindS hm
    refine SJ.call Try.call63 rfl (fun w hw => ok_s_TitlePage h32 w _ (hw.row_rd (k := 1) rfl)) rfl ?_
    rintro _ _ ⟨v33, rfl, rfl⟩
    refine SJ.q (YldS.yld (y_move rfl)) rfl ?_
    refine SJ.q (YldS.yld (y_extract rfl rfl)) rfl ?_
    refine SJ.q (YldS.yld (y_extract rfl rfl)) rfl ?_
    refine SJ.q (YldS.yld (y_assign rfl)) rfl ?_
    refine SJ.q (YldS.yld (y_assign rfl)) rfl ?_
    refine SJ.nil ?_
    refine PJ.next ?_
    refine WJ.seq ?_
    refine WJ.quiet ?_
    refine QJ.step (YldS.yld (y_move rfl)) rfl ?_
    obtain ⟨r34, h35, hm⟩ := bindS hm
    refine QJ.step (y_call Try.call64 rfl (RetG.quiet fun w hw => ok_s_DrawRuleLine h35 w _ (hr3.st hw))) rfl ?_
    refine QJ.step (YldS.yld (y_move rfl)) rfl ?_
    refine QJ.step (YldS.yld (y_extract rfl rfl)) rfl ?_
    refine QJ.step (YldS.yld (y_extract rfl rfl)) rfl ?_
    refine QJ.step (YldS.yld (y_assign rfl)) rfl ?_
    refine QJ.step (YldS.yld (y_assign rfl)) rfl ?_
    refine QJ.done ?_
    refine PJ.next ?_
    refine WJ.seq ?_
    refine WJ.quiet ?_
    refine QJ.step (YldS.yld (y_move rfl)) rfl ?_
    refine QJ.step (YldS.yld (y_move rfl)) rfl ?_
    obtain ⟨r36, h37, hm⟩ := bindS hm
    refine QJ.step (y_call Try.call65 rfl (RetG.quiet fun w hw => ok_i_RuleLine h37 w )) rfl ?_
    refine QJ.step (YldS.yld (y_move rfl)) rfl ?_
    refine QJ.step (YldS.yld (y_extract rfl rfl)) rfl ?_
    refine QJ.step (YldS.yld (y_extract rfl rfl)) rfl ?_
    refine QJ.step (YldS.yld (y_assign rfl)) rfl ?_
    refine QJ.step (YldS.yld (y_assign rfl)) rfl ?_
    refine QJ.done ?_
    refine PJ.next ?_
    refine WJ.seq ?_
    refine WJ.quiet ?_
    refine QJ.step (YldS.yld (y_move rfl)) rfl ?_
    refine QJ.step (YldS.yld (y_move rfl)) rfl ?_
    obtain ⟨r38, h39, hm⟩ := bindS hm
    refine QJ.step (y_call Try.call66 rfl (RetG.quiet fun w hw => ok_s_RuleLine h39 w )) rfl ?_
    refine QJ.step (YldS.yld (y_move rfl)) rfl ?_
    refine QJ.step (YldS.yld (y_extract rfl rfl)) rfl ?_
    refine QJ.step (YldS.yld (y_extract rfl rfl)) rfl ?_
    refine QJ.step (YldS.yld (y_assign rfl)) rfl ?_
    refine QJ.step (YldS.yld (y_assign rfl)) rfl ?_
    refine QJ.done ?_
    refine PJ.next ?_
    refine WJ.seq ?_
    refine WJ.seq ?_
    refine WJ.quiet ?_
    refine QJ.step (YldS.yld (y_move rfl)) rfl ?_
    refine QJ.step (YldS.yld (y_move rfl)) rfl ?_
    refine QJ.step (YldS.yld (y_bin rfl rfl rfl)) rfl ?_
    refine QJ.step (YldS.yld (y_move rfl)) rfl ?_
    obtain ⟨t40, h41, hm⟩ := bindS hm
    refine QJ.cut 5 [(3, v9), (5, .int .i64 r10.2), (6, v15), (8, v18), (9, .int .i64 r16.2), (10, v21), (11, .int .i64 r19.2), (12, v24), (13, .int .i64 r22.2), (14, v27), (15, .int .i64 r25.2.1), (16, .int .i64 r25.2.2), (17, v30), (18, .int .i64 r28.2), (19, v33), (20, .int .i64 r31.2), (22, .int .i64 r34.2), (23, str r36.1), (24, .int .i64 r36.2), (25, str r38.1), (26, .int .i64 r38.2), (107, .bool t40)] ?_ ?_
    · rcases Bool.eq_false_or_eq_true (r10.2 != r13.2) with hb42 | hb42
      · obtain rfl := orT h41 hb42
        refine QJ.off rfl rfl (cB hb42) rfl rfl ?_
        refine QJ.off rfl rfl (cB hb42) rfl rfl ?_
        refine QJ.off rfl rfl (cB hb42) rfl rfl ?_
        refine QJ.off rfl rfl (cB hb42) rfl rfl ?_
        refine QJ.step (YldS.yld (y_pick_t (cB hb42) rfl)) rfl ?_
        exact QJ.cut_end ⟨rfl, rfl, rfl, rfl, rfl, rfl, rfl, rfl, rfl, rfl, rfl, rfl, rfl, rfl, rfl, rfl, rfl, rfl, rfl, rfl, rfl, rfl, trivial⟩
      · replace h41 := orF h41 hb42
        refine QJ.on rfl rfl (cB hb42) (YldS.yld (y_move rfl)) rfl ?_
        refine QJ.on rfl rfl (cB hb42) (YldS.yld (y_move rfl)) rfl ?_
        obtain ⟨r43, h44, h41⟩ := bindS h41
        refine QJ.on rfl rfl (cB hb42) (y_call Try.call67 rfl (RetG.quiet fun w hw => ok_w_f6texts h44 w _ (hw.row_rd (k := 7) rfl) _ (hw.row_rd (k := 6) rfl))) rfl ?_
        refine QJ.on rfl rfl (cB hb42) (YldS.yld (y_not rfl)) rfl ?_
        refine QJ.step (YldS.yld (y_pick_f (cB hb42) rfl)) rfl ?_
        obtain rfl := Option.some.inj h41
        exact QJ.cut_end ⟨rfl, rfl, rfl, rfl, rfl, rfl, rfl, rfl, rfl, rfl, rfl, rfl, rfl, rfl, rfl, rfl, rfl, rfl, rfl, rfl, rfl, rfl, trivial⟩
    refine QJ.step (YldS.yld (y_move rfl)) rfl ?_
    obtain ⟨t45, h46, hm⟩ := bindS hm
    refine QJ.cut 4 [(3, v9), (5, .int .i64 r10.2), (6, v15), (8, v18), (9, .int .i64 r16.2), (10, v21), (11, .int .i64 r19.2), (12, v24), (14, v27), (15, .int .i64 r25.2.1), (16, .int .i64 r25.2.2), (17, v30), (18, .int .i64 r28.2), (19, v33), (20, .int .i64 r31.2), (22, .int .i64 r34.2), (23, str r36.1), (24, .int .i64 r36.2), (25, str r38.1), (26, .int .i64 r38.2), (112, .bool t45)] ?_ ?_
    · rcases Bool.eq_false_or_eq_true t40 with hb47 | hb47
      · obtain rfl := orT h46 hb47
        refine QJ.off rfl rfl (cB hb47) rfl rfl ?_
        refine QJ.off rfl rfl (cB hb47) rfl rfl ?_
        refine QJ.off rfl rfl (cB hb47) rfl rfl ?_
        refine QJ.step (YldS.yld (y_pick_t (cB hb47) rfl)) rfl ?_
        exact QJ.cut_end ⟨rfl, rfl, rfl, rfl, rfl, rfl, rfl, rfl, rfl, rfl, rfl, rfl, rfl, rfl, rfl, rfl, rfl, rfl, rfl, rfl, rfl, trivial⟩
      · replace h46 := orF h46 hb47
        refine QJ.on rfl rfl (cB hb47) (YldS.yld (y_move rfl)) rfl ?_
        refine QJ.on rfl rfl (cB hb47) (YldS.yld (y_move rfl)) rfl ?_
        refine QJ.on rfl rfl (cB hb47) (YldS.yld (y_bin rfl rfl rfl)) rfl ?_
        refine QJ.step (YldS.yld (y_pick_f (cB hb47) rfl)) rfl ?_
        obtain rfl := Option.some.inj h46
        exact QJ.cut_end ⟨rfl, rfl, rfl, rfl, rfl, rfl, rfl, rfl, rfl, rfl, rfl, rfl, rfl, rfl, rfl, rfl, rfl, rfl, rfl, rfl, rfl, trivial⟩
    refine QJ.step (YldS.yld (y_move rfl)) rfl ?_
    obtain ⟨t48, h49, hm⟩ := bindS hm
    refine QJ.cut 5 [(3, v9), (5, .int .i64 r10.2), (6, v15), (8, v18), (9, .int .i64 r16.2), (11, .int .i64 r19.2), (12, v24), (14, v27), (15, .int .i64 r25.2.1), (16, .int .i64 r25.2.2), (17, v30), (18, .int .i64 r28.2), (19, v33), (20, .int .i64 r31.2), (22, .int .i64 r34.2), (23, str r36.1), (24, .int .i64 r36.2), (25, str r38.1), (26, .int .i64 r38.2), (118, .bool t48)] ?_ ?_
    · rcases Bool.eq_false_or_eq_true t45 with hb50 | hb50
      · obtain rfl := orT h49 hb50
        refine QJ.off rfl rfl (cB hb50) rfl rfl ?_
        refine QJ.off rfl rfl (cB hb50) rfl rfl ?_
        refine QJ.off rfl rfl (cB hb50) rfl rfl ?_
        refine QJ.off rfl rfl (cB hb50) rfl rfl ?_
        refine QJ.step (YldS.yld (y_pick_t (cB hb50) rfl)) rfl ?_
        exact QJ.cut_end ⟨rfl, rfl, rfl, rfl, rfl, rfl, rfl, rfl, rfl, rfl, rfl, rfl, rfl, rfl, rfl, rfl, rfl, rfl, rfl, rfl, trivial⟩
      · replace h49 := orF h49 hb50
        refine QJ.on rfl rfl (cB hb50) (YldS.yld (y_move rfl)) rfl ?_
        refine QJ.on rfl rfl (cB hb50) (YldS.yld (y_move rfl)) rfl ?_
        obtain ⟨r51, h52, h49⟩ := bindS h49
        refine QJ.on rfl rfl (cB hb50) (y_call Try.call67 rfl (RetG.quiet fun w hw => ok_w_f6texts h52 w _ (hw.row_rd (k := 4) rfl) _ (hw.row_rd (k := 3) rfl))) rfl ?_
        refine QJ.on rfl rfl (cB hb50) (YldS.yld (y_not rfl)) rfl ?_
        refine QJ.step (YldS.yld (y_pick_f (cB hb50) rfl)) rfl ?_
        obtain rfl := Option.some.inj h49
        exact QJ.cut_end ⟨rfl, rfl, rfl, rfl, rfl, rfl, rfl, rfl, rfl, rfl, rfl, rfl, rfl, rfl, rfl, rfl, rfl, rfl, rfl, rfl, trivial⟩
    refine QJ.step (YldS.yld (y_move rfl)) rfl ?_
    obtain ⟨t53, h54, hm⟩ := bindS hm
    refine QJ.cut 4 [(3, v9), (5, .int .i64 r10.2), (6, v15), (8, v18), (9, .int .i64 r16.2), (11, .int .i64 r19.2), (12, v24), (14, v27), (15, .int .i64 r25.2.1), (16, .int .i64 r25.2.2), (17, v30), (18, .int .i64 r28.2), (19, v33), (22, .int .i64 r34.2), (23, str r36.1), (24, .int .i64 r36.2), (25, str r38.1), (26, .int .i64 r38.2), (123, .bool t53)] ?_ ?_
    · rcases Bool.eq_false_or_eq_true t48 with hb55 | hb55
      · obtain rfl := orT h54 hb55
        refine QJ.off rfl rfl (cB hb55) rfl rfl ?_
        refine QJ.off rfl rfl (cB hb55) rfl rfl ?_
        refine QJ.off rfl rfl (cB hb55) rfl rfl ?_
        refine QJ.step (YldS.yld (y_pick_t (cB hb55) rfl)) rfl ?_
        exact QJ.cut_end ⟨rfl, rfl, rfl, rfl, rfl, rfl, rfl, rfl, rfl, rfl, rfl, rfl, rfl, rfl, rfl, rfl, rfl, rfl, rfl, trivial⟩
      · replace h54 := orF h54 hb55
        refine QJ.on rfl rfl (cB hb55) (YldS.yld (y_move rfl)) rfl ?_
        refine QJ.on rfl rfl (cB hb55) (YldS.yld (y_move rfl)) rfl ?_
        refine QJ.on rfl rfl (cB hb55) (YldS.yld (y_bin rfl rfl rfl)) rfl ?_
        refine QJ.step (YldS.yld (y_pick_f (cB hb55) rfl)) rfl ?_
        obtain rfl := Option.some.inj h54
        exact QJ.cut_end ⟨rfl, rfl, rfl, rfl, rfl, rfl, rfl, rfl, rfl, rfl, rfl, rfl, rfl, rfl, rfl, rfl, rfl, rfl, rfl, trivial⟩
    refine QJ.step (YldS.yld (y_move rfl)) rfl ?_
    obtain ⟨t56, h57, hm⟩ := bindS hm
    refine QJ.cut 5 [(3, v9), (5, .int .i64 r10.2), (6, v15), (8, v18), (9, .int .i64 r16.2), (11, .int .i64 r19.2), (12, v24), (14, v27), (15, .int .i64 r25.2.1), (16, .int .i64 r25.2.2), (18, .int .i64 r28.2), (19, v33), (22, .int .i64 r34.2), (23, str r36.1), (24, .int .i64 r36.2), (25, str r38.1), (26, .int .i64 r38.2), (129, .bool t56)] ?_ ?_
    · rcases Bool.eq_false_or_eq_true t53 with hb58 | hb58
      · obtain rfl := orT h57 hb58
        refine QJ.off rfl rfl (cB hb58) rfl rfl ?_
        refine QJ.off rfl rfl (cB hb58) rfl rfl ?_
        refine QJ.off rfl rfl (cB hb58) rfl rfl ?_
        refine QJ.off rfl rfl (cB hb58) rfl rfl ?_
        refine QJ.step (YldS.yld (y_pick_t (cB hb58) rfl)) rfl ?_
        exact QJ.cut_end ⟨rfl, rfl, rfl, rfl, rfl, rfl, rfl, rfl, rfl, rfl, rfl, rfl, rfl, rfl, rfl, rfl, rfl, rfl, trivial⟩
      · replace h57 := orF h57 hb58
        refine QJ.on rfl rfl (cB hb58) (YldS.yld (y_move rfl)) rfl ?_
        refine QJ.on rfl rfl (cB hb58) (YldS.yld (y_move rfl)) rfl ?_
        obtain ⟨r59, h60, h57⟩ := bindS h57
        refine QJ.on rfl rfl (cB hb58) (y_call Try.call67 rfl (RetG.quiet fun w hw => ok_w_f6texts h60 w _ (hw.row_rd (k := 1) rfl) _ (hw.row_rd (k := 0) rfl))) rfl ?_
        refine QJ.on rfl rfl (cB hb58) (YldS.yld (y_not rfl)) rfl ?_
        refine QJ.step (YldS.yld (y_pick_f (cB hb58) rfl)) rfl ?_
        obtain rfl := Option.some.inj h57
        exact QJ.cut_end ⟨rfl, rfl, rfl, rfl, rfl, rfl, rfl, rfl, rfl, rfl, rfl, rfl, rfl, rfl, rfl, rfl, rfl, rfl, trivial⟩
    refine QJ.step (YldS.yld (y_move rfl)) rfl ?_
    obtain ⟨t61, h62, hm⟩ := bindS hm
    refine QJ.cut 4 [(3, v9), (5, .int .i64 r10.2), (6, v15), (8, v18), (9, .int .i64 r16.2), (11, .int .i64 r19.2), (12, v24), (14, v27), (15, .int .i64 r25.2.1), (16, .int .i64 r25.2.2), (18, .int .i64 r28.2), (19, v33), (22, .int .i64 r34.2), (23, str r36.1), (24, .int .i64 r36.2), (25, str r38.1), (134, .bool t61)] ?_ ?_
    · rcases Bool.eq_false_or_eq_true t56 with hb63 | hb63
      · obtain rfl := orT h62 hb63
        refine QJ.off rfl rfl (cB hb63) rfl rfl ?_
        refine QJ.off rfl rfl (cB hb63) rfl rfl ?_
        refine QJ.off rfl rfl (cB hb63) rfl rfl ?_
        refine QJ.step (YldS.yld (y_pick_t (cB hb63) rfl)) rfl ?_
        exact QJ.cut_end ⟨rfl, rfl, rfl, rfl, rfl, rfl, rfl, rfl, rfl, rfl, rfl, rfl, rfl, rfl, rfl, rfl, rfl, trivial⟩
      · replace h62 := orF h62 hb63
        refine QJ.on rfl rfl (cB hb63) (YldS.yld (y_move rfl)) rfl ?_
        refine QJ.on rfl rfl (cB hb63) (YldS.yld (y_move rfl)) rfl ?_
        refine QJ.on rfl rfl (cB hb63) (YldS.yld (y_bin rfl rfl rfl)) rfl ?_
        refine QJ.step (YldS.yld (y_pick_f (cB hb63) rfl)) rfl ?_
        obtain rfl := Option.some.inj h62
        exact QJ.cut_end ⟨rfl, rfl, rfl, rfl, rfl, rfl, rfl, rfl, rfl, rfl, rfl, rfl, rfl, rfl, rfl, rfl, rfl, trivial⟩
    refine QJ.step (YldS.yld (y_move rfl)) rfl ?_
    obtain ⟨t64, h65, hm⟩ := bindS hm
    refine QJ.cut 4 [(3, v9), (5, .int .i64 r10.2), (6, v15), (8, v18), (9, .int .i64 r16.2), (11, .int .i64 r19.2), (12, v24), (14, v27), (15, .int .i64 r25.2.1), (16, .int .i64 r25.2.2), (18, .int .i64 r28.2), (19, v33), (22, .int .i64 r34.2), (23, str r36.1), (24, .int .i64 r36.2), (139, .bool t64)] ?_ ?_
    · rcases Bool.eq_false_or_eq_true t61 with hb66 | hb66
      · obtain rfl := orT h65 hb66
        refine QJ.off rfl rfl (cB hb66) rfl rfl ?_
        refine QJ.off rfl rfl (cB hb66) rfl rfl ?_
        refine QJ.off rfl rfl (cB hb66) rfl rfl ?_
        refine QJ.step (YldS.yld (y_pick_t (cB hb66) rfl)) rfl ?_
        exact QJ.cut_end ⟨rfl, rfl, rfl, rfl, rfl, rfl, rfl, rfl, rfl, rfl, rfl, rfl, rfl, rfl, rfl, rfl, trivial⟩
      · replace h65 := orF h65 hb66
        refine QJ.on rfl rfl (cB hb66) (YldS.yld (y_move rfl)) rfl ?_
        refine QJ.on rfl rfl (cB hb66) (YldS.yld (y_move rfl)) rfl ?_
        refine QJ.on rfl rfl (cB hb66) (YldS.yld (y_binS rfl rfl rfl)) rfl ?_
        refine QJ.step (YldS.yld (y_pick_f (cB hb66) rfl)) rfl ?_
        obtain rfl := Option.some.inj h65
        exact QJ.cut_end ⟨rfl, rfl, rfl, rfl, rfl, rfl, rfl, rfl, rfl, rfl, rfl, rfl, rfl, rfl, rfl, rfl, trivial⟩
    refine QJ.done ?_
    refine PJ.next ?_
    refine WJ.cond (t := t64) rfl (fun hb67 => ?_) (fun hb67 => ?_)
    · replace hm := ifT hm hb67
      refine WJ.seq ?_
      refine WJ.quiet ?_
      refine QJ.step (YldS.yld (y_assign rfl)) rfl ?_
      refine QJ.done ?_
      refine PJ.next ?_
      refine WJ.ret ?_
      refine PJ.then_ret ?_
      obtain rfl := Option.some.inj hm
      refine PJ.sel (L' := []) [] ⟨List.nodup_nil, rfl⟩ ?_
      exact PJ.retn (vs := [.bool false]) Try.results6 ⟨rfl, trivial⟩ ⟨rfl, rfl⟩
    · replace hm := ifF hm hb67
      refine WJ.skip ?_
      refine PJ.next ?_
      refine WJ.seq ?_
      refine WJ.seq ?_
      refine WJ.quiet ?_
      refine QJ.step (YldS.yld (y_move rfl)) rfl ?_
      refine QJ.step (YldS.yld (y_bin rfl rfl rfl)) rfl ?_
      refine QJ.step (YldS.yld (y_move rfl)) rfl ?_
      obtain ⟨t68, h69, hm⟩ := bindS hm
      refine QJ.cut 5 [(3, v9), (5, .int .i64 r10.2), (6, v15), (8, v18), (9, .int .i64 r16.2), (11, .int .i64 r19.2), (12, v24), (14, v27), (15, .int .i64 r25.2.1), (16, .int .i64 r25.2.2), (18, .int .i64 r28.2), (19, v33), (147, .bool t68)] ?_ ?_
      · rcases Bool.eq_false_or_eq_true (r36.2 == 0) with hb70 | hb70
        · replace h69 := andT h69 hb70
          refine QJ.on rfl rfl (cB hb70) (YldS.yld (y_move rfl)) rfl ?_
          refine QJ.on rfl rfl (cB hb70) (YldS.yld (y_lenStr Try.runUnderlying9 rfl)) rfl ?_
          refine QJ.on rfl rfl (cB hb70) (YldS.yld (y_move rfl)) rfl ?_
          refine QJ.on rfl rfl (cB hb70) (YldS.yld (y_bin rfl rfl rfl)) rfl ?_
          refine QJ.step (YldS.yld (y_pick_t (cB hb70) rfl)) rfl ?_
          obtain rfl := Option.some.inj h69
          exact QJ.cut_end ⟨rfl, rfl, rfl, rfl, rfl, rfl, rfl, rfl, rfl, rfl, rfl, rfl, rfl, trivial⟩
        · obtain rfl := andF h69 hb70
          refine QJ.off rfl rfl (cB hb70) rfl rfl ?_
          refine QJ.off rfl rfl (cB hb70) rfl rfl ?_
          refine QJ.off rfl rfl (cB hb70) rfl rfl ?_
          refine QJ.off rfl rfl (cB hb70) rfl rfl ?_
          refine QJ.step (YldS.yld (y_pick_f (cB hb70) rfl)) rfl ?_
          exact QJ.cut_end ⟨rfl, rfl, rfl, rfl, rfl, rfl, rfl, rfl, rfl, rfl, rfl, rfl, rfl, trivial⟩
      refine QJ.done ?_
      refine PJ.next ?_
      refine WJ.cond (t := t68) rfl (fun hb71 => ?_) (fun hb71 => ?_)
      · replace hm := ifT hm hb71
        refine WJ.seq ?_
        refine WJ.quiet ?_
        refine QJ.step (YldS.yld (y_assign rfl)) rfl ?_
        refine QJ.done ?_
        refine PJ.next ?_
        refine WJ.ret ?_
        refine PJ.then_ret ?_
        obtain rfl := Option.some.inj hm
        refine PJ.sel (L' := []) [] ⟨List.nodup_nil, rfl⟩ ?_
        exact PJ.retn (vs := [.bool false]) Try.results6 ⟨rfl, trivial⟩ ⟨rfl, rfl⟩
      · replace hm := ifF hm hb71
        refine WJ.skip ?_
        refine PJ.next ?_
        obtain ⟨k72, hk73, hm⟩ := withK_open hm
        refine WJ.join (X := Unit) (fun (_ : Unit) => k72  = some r) (fun (_ : Unit) => [(3, v9), (5, .int .i64 r10.2), (6, v15), (8, v18), (9, .int .i64 r16.2), (11, .int .i64 r19.2), (12, v24)]) (fun (_ : Unit) => [row v24 9 fStr r22.1, row v18 9 fStr r16.1, row v15 9 fStr r13.1, row v9 9 fStr r7]) ?_ ?_
        · clear hk73
          refine WJ.seq ?_
          refine WJ.quiet ?_
          refine QJ.step (YldS.yld (y_move rfl)) rfl ?_
          refine QJ.step (YldS.yld (y_bin rfl rfl rfl)) rfl ?_
          refine QJ.done ?_
          refine PJ.next ?_
          refine WJ.cond (t := (r28.2 == 0)) rfl (fun hb74 => ?_) (fun hb74 => ?_)
          · replace hm := ifT hm hb74
            refine WJ.seq ?_
            refine WJ.seq ?_
            refine WJ.quiet ?_
            refine QJ.step (YldS.yld (y_move rfl)) rfl ?_
            refine QJ.step (YldS.yld (y_lenRow (k := 0) rfl Try.runUnderlying35 rfl)) rfl ?_
            refine QJ.step (YldS.yld (y_move rfl)) rfl ?_
            refine QJ.step (YldS.yld (y_bin rfl rfl rfl)) rfl ?_
            refine QJ.done ?_
            refine PJ.next ?_
            refine WJ.cond (t := ((List.length r31.1 : Int) != r25.2.2)) rfl (fun hb75 => ?_) (fun hb75 => ?_)
            · replace hm := ifT hm hb75
              refine WJ.seq ?_
              refine WJ.quiet ?_
              refine QJ.step (YldS.yld (y_assign rfl)) rfl ?_
              refine QJ.done ?_
              refine PJ.next ?_
              refine WJ.ret ?_
              refine PJ.then_ret (PJ.then_ret ?_)
              obtain rfl := Option.some.inj hm
              refine PJ.sel (L' := []) [] ⟨List.nodup_nil, rfl⟩ ?_
              exact PJ.retn (vs := [.bool false]) Try.results6 ⟨rfl, trivial⟩ ⟨rfl, rfl⟩
            · replace hm := ifF hm hb75
              refine WJ.skip ?_
              refine PJ.next ?_
              refine WJ.seq ?_
              refine WJ.quiet ?_
              refine QJ.step (YldS.yld (y_assign rfl)) rfl ?_
              refine QJ.done ?_
              refine PJ.next ?_
              obtain ⟨k78, hk78, hm⟩ := withK_open hm
              refine WJ.join (X := Int) (fun (x : Int) => k78 x = some r) (fun (x : Int) => [(3, v9), (5, .int .i64 r10.2), (6, v15), (8, v18), (9, .int .i64 r16.2), (11, .int .i64 r19.2), (12, v24), (14, v27), (27, .int .i64 x)]) (fun (x : Int) => [row v27 9 fStr r25.1, row v24 9 fStr r22.1, row v18 9 fStr r16.1, row v15 9 fStr r13.1, row v9 9 fStr r7]) ?_ ?_
              · clear hk78
                refine WJ.seq ?_
                refine WJ.quiet ?_
                refine QJ.step (YldS.yld (y_assign rfl)) rfl ?_
                refine QJ.done ?_
                refine PJ.next ?_
                refine WJ.block ?_
                refine WJ.sel (L' := (fun (x : Int × Int) => [row v33 9 fStr r31.1, row v27 9 fStr r25.1, row v24 9 fStr r22.1, row v18 9 fStr r16.1, row v15 9 fStr r13.1, row v9 9 fStr r7]) (0, 0)) [0, 2, 3, 5, 6, 8] ⟨by decide, rfl⟩ ?_
                refine WJ.sub (m' := (fun (x : Int × Int) => [(3, v9), (5, .int .i64 r10.2), (6, v15), (8, v18), (9, .int .i64 r16.2), (11, .int .i64 r19.2), (12, v24), (14, v27), (15, .int .i64 r25.2.1), (19, v33), (27, .int .i64 x.1), (28, .int .i64 x.2)]) (0, 0)) ⟨rfl, rfl, rfl, rfl, rfl, rfl, rfl, rfl, rfl, rfl, rfl, rfl, trivial⟩ ?_
                refine WJ.loop (X := Int × Int) (fun N (x : Int × Int) => w_FnBoxes_l1 k78 r25 r31 N x.1 x.2 = some r) (fun (x : Int × Int) => [(3, v9), (5, .int .i64 r10.2), (6, v15), (8, v18), (9, .int .i64 r16.2), (11, .int .i64 r19.2), (12, v24), (14, v27), (15, .int .i64 r25.2.1), (19, v33), (27, .int .i64 x.1), (28, .int .i64 x.2)]) (fun (x : Int × Int) => [row v33 9 fStr r31.1, row v27 9 fStr r25.1, row v24 9 fStr r22.1, row v18 9 fStr r16.1, row v15 9 fStr r13.1, row v9 9 fStr r7]) ?_ N (0, 0) hm
                · rintro N ⟨filled79, i80⟩ hI
                  have hm := hI; clear hI
                  cases N with
                  | zero => cases hm
                  | succ N =>
                  unfold w_FnBoxes_l1 at hm
                  refine WJ.seq ?_
                  refine WJ.seq ?_
                  refine WJ.quiet ?_
                  refine QJ.step (YldS.yld (y_move rfl)) rfl ?_
                  refine QJ.step (YldS.yld (y_move rfl)) rfl ?_
                  refine QJ.step (YldS.yld (y_lenRow (k := 0) rfl Try.runUnderlying35 rfl)) rfl ?_
                  refine QJ.step (YldS.yld (y_bin rfl rfl rfl)) rfl ?_
                  refine QJ.done ?_
                  refine PJ.next ?_
                  refine WJ.cond (t := decide (i80 < (List.length r31.1 : Int))) rfl (fun hb81 => ?_) (fun hb81 => ?_)
                  · replace hm := ifT hm hb81
                    refine WJ.skip ?_
                    refine PJ.next ?_
                    obtain ⟨k85, hk84, hm⟩ := withK_open hm
                    refine WJ.join (X := Int) (fun (x : Int) => k85 x = some r) (fun (x : Int) => [(3, v9), (5, .int .i64 r10.2), (6, v15), (8, v18), (9, .int .i64 r16.2), (11, .int .i64 r19.2), (12, v24), (14, v27), (15, .int .i64 r25.2.1), (19, v33), (27, .int .i64 x), (28, .int .i64 i80)]) (fun (x : Int) => [row v33 9 fStr r31.1, row v27 9 fStr r25.1, row v24 9 fStr r22.1, row v18 9 fStr r16.1, row v15 9 fStr r13.1, row v9 9 fStr r7]) ?_ ?_
                    · clear hk84
                      refine WJ.block ?_
                      refine WJ.seq ?_
                      refine WJ.seq ?_
                      refine WJ.quiet ?_
                      refine QJ.step (YldS.yld (y_move rfl)) rfl ?_
                      refine QJ.step (YldS.yld (y_move rfl)) rfl ?_
                      obtain ⟨e85, h86, hm⟩ := bindS hm
                      refine QJ.step (YldS.yld (y_ixRow (k := 0) (R := fStr) rfl Try.runUnderlying35 Try.sizeOf9 rfl rfl h86)) rfl ?_
                      refine QJ.step (YldS.yld (y_loadR (k := 0) (i := (Int.toNat i80)) (off := 0) (u := str e85) rfl Try.isAgg9 rfl (idx_get h86) rfl)) rfl ?_
                      refine QJ.step (YldS.yld (y_lenStr Try.runUnderlying9 rfl)) rfl ?_
                      refine QJ.step (YldS.yld (y_move rfl)) rfl ?_
                      refine QJ.step (YldS.yld (y_bin rfl rfl rfl)) rfl ?_
                      refine QJ.done ?_
                      refine PJ.next ?_
                      refine WJ.cond (t := decide ((List.length e85 : Int) > r25.2.1)) rfl (fun hb87 => ?_) (fun hb87 => ?_)
                      · replace hm := ifT hm hb87
                        refine WJ.seq ?_
                        refine WJ.quiet ?_
                        refine QJ.step (YldS.yld (y_assign rfl)) rfl ?_
                        refine QJ.done ?_
                        refine PJ.next ?_
                        refine WJ.ret ?_
                        refine PJ.then_ret (PJ.block_ret (PJ.then_ret (PJ.then_ret (PJ.block_ret (PJ.then_ret (PJ.then_ret ?_))))))
                        obtain rfl := Option.some.inj hm
                        refine PJ.sel (L' := []) [] ⟨List.nodup_nil, rfl⟩ ?_
                        exact PJ.retn (vs := [.bool false]) Try.results6 ⟨rfl, trivial⟩ ⟨rfl, rfl⟩
                      · replace hm := ifF hm hb87
                        refine WJ.skip ?_
                        refine PJ.next ?_
                        refine WJ.seq ?_
                        refine WJ.quiet ?_
                        refine QJ.step (YldS.yld (y_move rfl)) rfl ?_
                        refine QJ.step (YldS.yld (y_move rfl)) rfl ?_
                        obtain ⟨e88, h89, hm⟩ := bindS hm
                        refine QJ.step (YldS.yld (y_ixRow (k := 0) (R := fStr) rfl Try.runUnderlying35 Try.sizeOf9 rfl rfl h89)) rfl ?_
                        refine QJ.step (YldS.yld (y_loadR (k := 0) (i := (Int.toNat i80)) (off := 0) (u := str e88) rfl Try.isAgg9 rfl (idx_get h89) rfl)) rfl ?_
                        obtain ⟨r90, h91, hm⟩ := bindS hm
                        refine QJ.step (y_call Try.call68 rfl (RetG.quiet fun w hw => ok_w_f6trim h91 w )) rfl ?_
                        refine QJ.step (YldS.yld (y_binS rfl rfl rfl)) rfl ?_
                        refine QJ.done ?_
                        refine PJ.next ?_
                        refine WJ.cond (t := (r90 != [])) rfl (fun hb92 => ?_) (fun hb92 => ?_)
                        · replace hm := ifT hm hb92
                          refine WJ.quiet ?_
                          refine QJ.step (YldS.yld (y_move rfl)) rfl ?_
                          refine QJ.step (YldS.yld (y_bin rfl rfl rfl)) rfl ?_
                          refine QJ.step (YldS.yld (y_assign rfl)) rfl ?_
                          refine QJ.done ?_
                          refine PJ.block_normal ?_
                          exact PJ.joined (w64 (filled79 + 1)) [0, 1, 2, 3, 4, 5] hm ⟨rfl, rfl, rfl, rfl, rfl, rfl, rfl, rfl, rfl, rfl, rfl, rfl, trivial⟩ ⟨by decide, rfl⟩
                        · replace hm := ifF hm hb92
                          refine WJ.skip ?_
                          refine PJ.block_normal ?_
                          exact PJ.joined filled79 [0, 1, 2, 3, 4, 5] hm ⟨rfl, rfl, rfl, rfl, rfl, rfl, rfl, rfl, rfl, rfl, rfl, rfl, trivial⟩ ⟨by decide, rfl⟩
                    · rintro filled82 hm
                      subst hk84
                      refine WJ.quiet ?_
                      refine QJ.step (YldS.yld (y_move rfl)) rfl ?_
                      refine QJ.step (YldS.yld (y_bin rfl rfl rfl)) rfl ?_
                      refine QJ.step (YldS.yld (y_assign rfl)) rfl ?_
                      refine QJ.done ?_
                      exact PJ.round (filled82, w64 (i80 + 1)) [0, 1, 2, 3, 4, 5] hm ⟨rfl, rfl, rfl, rfl, rfl, rfl, rfl, rfl, rfl, rfl, rfl, rfl, trivial⟩ ⟨by decide, rfl⟩
                  · replace hm := ifF hm hb81
                    refine WJ.exit ?_
                    refine PJ.then_exit (PJ.then_exit (PJ.block_exit ?_))
                    exact PJ.joined filled79 [1, 2, 3, 4, 5] hm ⟨rfl, rfl, rfl, rfl, rfl, rfl, rfl, rfl, rfl, trivial⟩ ⟨by decide, rfl⟩
              · rintro filled76 hm
                subst hk78
                refine WJ.seq ?_
                refine WJ.quiet ?_
                refine QJ.step (YldS.yld (y_move rfl)) rfl ?_
                refine QJ.step (YldS.yld (y_move rfl)) rfl ?_
                refine QJ.step (YldS.yld (y_lenRow (k := 0) rfl Try.runUnderlying35 rfl)) rfl ?_
                refine QJ.step (YldS.yld (y_bin rfl rfl rfl)) rfl ?_
                refine QJ.done ?_
                refine PJ.next ?_
                refine WJ.cond (t := decide (filled76 > (List.length r25.1 : Int))) rfl (fun hb93 => ?_) (fun hb93 => ?_)
                · replace hm := ifT hm hb93
                  refine WJ.seq ?_
                  refine WJ.quiet ?_
                  refine QJ.step (YldS.yld (y_assign rfl)) rfl ?_
                  refine QJ.done ?_
                  refine PJ.next ?_
                  refine WJ.ret ?_
                  refine PJ.then_ret ?_
                  obtain rfl := Option.some.inj hm
                  refine PJ.sel (L' := []) [] ⟨List.nodup_nil, rfl⟩ ?_
                  exact PJ.retn (vs := [.bool false]) Try.results6 ⟨rfl, trivial⟩ ⟨rfl, rfl⟩
                · replace hm := ifF hm hb93
                  refine WJ.skip ?_
                  exact PJ.joined () [1, 2, 3, 4] hm ⟨rfl, rfl, rfl, rfl, rfl, rfl, rfl, trivial⟩ ⟨by decide, rfl⟩
          · replace hm := ifF hm hb74
            refine WJ.skip ?_
            exact PJ.joined () [3, 5, 6, 8] hm ⟨rfl, rfl, rfl, rfl, rfl, rfl, rfl, trivial⟩ ⟨by decide, rfl⟩
        · rintro _ hm
          subst hk73
          obtain ⟨k94, hk95, hm⟩ := withK_open hm
          refine WJ.join (X := Unit) (fun (_ : Unit) => k94  = some r) (fun (_ : Unit) => [(3, v9), (5, .int .i64 r10.2), (6, v15)]) (fun (_ : Unit) => [row v15 9 fStr r13.1, row v9 9 fStr r7]) ?_ ?_
          · clear hk95
            refine WJ.seq ?_
            refine WJ.quiet ?_
            refine QJ.step (YldS.yld (y_move rfl)) rfl ?_
            refine QJ.step (YldS.yld (y_bin rfl rfl rfl)) rfl ?_
            refine QJ.done ?_
            refine PJ.next ?_
            refine WJ.cond (t := (r19.2 == 0)) rfl (fun hb96 => ?_) (fun hb96 => ?_)
            · replace hm := ifT hm hb96
              refine WJ.seq ?_
              refine WJ.quiet ?_
              refine QJ.step (YldS.yld (y_assign rfl)) rfl ?_
              refine QJ.done ?_
              refine PJ.next ?_
              refine WJ.block ?_
              refine WJ.sel (L' := (fun (x : Int) => [row v24 9 fStr r22.1, row v18 9 fStr r16.1, row v15 9 fStr r13.1, row v9 9 fStr r7]) 0) [0, 1, 2, 3] ⟨by decide, rfl⟩ ?_
              refine WJ.sub (m' := (fun (x : Int) => [(3, v9), (5, .int .i64 r10.2), (6, v15), (8, v18), (9, .int .i64 r16.2), (12, v24), (29, .int .i64 x)]) 0) ⟨rfl, rfl, rfl, rfl, rfl, rfl, rfl, trivial⟩ ?_
              refine WJ.loop (X := Int) (fun N (x : Int) => w_FnBoxes_l2 k94 r16 r22 N x = some r) (fun (x : Int) => [(3, v9), (5, .int .i64 r10.2), (6, v15), (8, v18), (9, .int .i64 r16.2), (12, v24), (29, .int .i64 x)]) (fun (x : Int) => [row v24 9 fStr r22.1, row v18 9 fStr r16.1, row v15 9 fStr r13.1, row v9 9 fStr r7]) ?_ N 0 hm
              · rintro N i97 hI
                have hm := hI; clear hI
                cases N with
                | zero => cases hm
                | succ N =>
                unfold w_FnBoxes_l2 at hm
                refine WJ.seq ?_
                refine WJ.seq ?_
                refine WJ.quiet ?_
                refine QJ.step (YldS.yld (y_move rfl)) rfl ?_
                refine QJ.step (YldS.yld (y_move rfl)) rfl ?_
                refine QJ.step (YldS.yld (y_lenRow (k := 0) rfl Try.runUnderlying35 rfl)) rfl ?_
                refine QJ.step (YldS.yld (y_bin rfl rfl rfl)) rfl ?_
                refine QJ.done ?_
                refine PJ.next ?_
                refine WJ.cond (t := decide (i97 < (List.length r22.1 : Int))) rfl (fun hb98 => ?_) (fun hb98 => ?_)
                · replace hm := ifT hm hb98
                  refine WJ.skip ?_
                  refine PJ.next ?_
                  refine WJ.seq ?_
                  refine WJ.block ?_
                  refine WJ.seq ?_
                  refine WJ.quiet_draw follows (by kernel_rfl) ?_
                  refine QJ.step (YldS.yld (y_move rfl)) rfl ?_
                  refine QJ.step (YldS.yld (y_move rfl)) rfl ?_
                  obtain ⟨e99, h100, hm⟩ := bindS hm
                  refine QJ.step (YldS.yld (y_ixRow (k := 0) (R := fStr) rfl Try.runUnderlying35 Try.sizeOf9 rfl rfl h100)) rfl ?_
                  refine QJ.step (YldS.yld (y_loadR (k := 0) (i := (Int.toNat i97)) (off := 0) (u := str e99) rfl Try.isAgg9 rfl (idx_get h100) rfl)) rfl ?_
                  refine QJ.step (YldS.yld (y_lenStr Try.runUnderlying9 rfl)) rfl ?_
                  refine QJ.step (YldS.yld (y_move rfl)) rfl ?_
                  refine QJ.step (YldS.yld (y_move rfl)) rfl ?_
                  obtain ⟨e101, h102, hm⟩ := bindS hm
                  refine QJ.step (YldS.yld (y_ixRow (k := 1) (R := fStr) rfl Try.runUnderlying35 Try.sizeOf9 rfl rfl h102)) rfl ?_
                  refine QJ.step (YldS.yld (y_loadR (k := 1) (i := (Int.toNat i97)) (off := 0) (u := str e101) rfl Try.isAgg9 rfl (idx_get h102) rfl)) rfl ?_
                  refine QJ.step (YldS.yld (y_lenStr Try.runUnderlying9 rfl)) rfl ?_
                  refine QJ.step (YldS.yld (y_bin rfl rfl rfl)) rfl ?_
                  refine QJ.step (YldS.yld (y_move rfl)) rfl ?_
                  obtain ⟨e103, h104, hm⟩ := bindS hm
                  refine QJ.step (YldS.yld (y_ixRow (k := 0) (R := fStr) rfl Try.runUnderlying35 Try.sizeOf9 rfl rfl h104)) rfl ?_
                  refine QJ.step (YldS.yld (y_loadR (k := 0) (i := (Int.toNat 0)) (off := 0) (u := str e103) rfl Try.isAgg9 rfl (idx_get h104) rfl)) rfl ?_
                  refine QJ.step (YldS.yld (y_lenStr Try.runUnderlying9 rfl)) rfl ?_
                  refine QJ.step (YldS.yld (y_move rfl)) rfl ?_
                  obtain ⟨e105, h106, hm⟩ := bindS hm
                  refine QJ.step (YldS.yld (y_ixRow (k := 1) (R := fStr) rfl Try.runUnderlying35 Try.sizeOf9 rfl rfl h106)) rfl ?_
                  refine QJ.step (YldS.yld (y_loadR (k := 1) (i := (Int.toNat 0)) (off := 0) (u := str e105) rfl Try.isAgg9 rfl (idx_get h106) rfl)) rfl ?_
                  refine QJ.step (YldS.yld (y_lenStr Try.runUnderlying9 rfl)) rfl ?_
                  refine QJ.step (YldS.yld (y_bin rfl rfl rfl)) rfl ?_
                  refine QJ.step (YldS.yld (y_bin rfl rfl rfl)) rfl ?_
                  refine QJ.step (YldS.yld (y_move rfl)) rfl ?_
                  obtain ⟨t107, h108, hm⟩ := bindS hm
                  refine QJ.cut 8 [(3, v9), (5, .int .i64 r10.2), (6, v15), (8, v18), (9, .int .i64 r16.2), (12, v24), (29, .int .i64 i97), (216, .bool t107)] ?_ ?_
                  · rcases Bool.eq_false_or_eq_true ((w64 ((List.length e99 : Int) - (List.length e101 : Int))) != (w64 ((List.length e103 : Int) - (List.length e105 : Int)))) with hb109 | hb109
                    · obtain rfl := orT h108 hb109
                      refine QJ.off rfl rfl (cB hb109) rfl rfl ?_
                      refine QJ.off rfl rfl (cB hb109) rfl rfl ?_
                      refine QJ.off rfl rfl (cB hb109) rfl rfl ?_
                      refine QJ.off rfl rfl (cB hb109) rfl rfl ?_
                      refine QJ.off rfl rfl (cB hb109) rfl rfl ?_
                      refine QJ.off rfl rfl (cB hb109) rfl rfl ?_
                      refine QJ.off rfl rfl (cB hb109) rfl rfl ?_
                      refine QJ.step (YldS.yld (y_pick_t (cB hb109) rfl)) rfl ?_
                      exact QJ.cut_end ⟨rfl, rfl, rfl, rfl, rfl, rfl, rfl, rfl, trivial⟩
                    · replace h108 := orF h108 hb109
                      refine QJ.on rfl rfl (cB hb109) (YldS.yld (y_move rfl)) rfl ?_
                      refine QJ.on rfl rfl (cB hb109) (YldS.yld (y_move rfl)) rfl ?_
                      obtain ⟨e110, h111, h108⟩ := bindS h108
                      refine QJ.on rfl rfl (cB hb109) (YldS.yld (y_ixRow (k := 0) (R := fStr) rfl Try.runUnderlying35 Try.sizeOf9 rfl rfl h111)) rfl ?_
                      refine QJ.on rfl rfl (cB hb109) (YldS.yld (y_loadR (k := 0) (i := (Int.toNat i97)) (off := 0) (u := str e110) rfl Try.isAgg9 rfl (idx_get h111) rfl)) rfl ?_
                      refine QJ.on rfl rfl (cB hb109) (YldS.yld (y_lenStr Try.runUnderlying9 rfl)) rfl ?_
                      refine QJ.on rfl rfl (cB hb109) (YldS.yld (y_move rfl)) rfl ?_
                      refine QJ.on rfl rfl (cB hb109) (YldS.yld (y_bin rfl rfl rfl)) rfl ?_
                      refine QJ.step (YldS.yld (y_pick_f (cB hb109) rfl)) rfl ?_
                      obtain rfl := Option.some.inj h108
                      exact QJ.cut_end ⟨rfl, rfl, rfl, rfl, rfl, rfl, rfl, rfl, trivial⟩
                  refine QJ.done ?_
                  refine PJ.next ?_
                  refine WJ.cond (t := t107) rfl (fun hb112 => ?_) (fun hb112 => ?_)
                  · replace hm := ifT hm hb112
                    refine WJ.seq ?_
                    refine WJ.quiet ?_
                    refine QJ.step (YldS.yld (y_assign rfl)) rfl ?_
                    refine QJ.done ?_
                    refine PJ.next ?_
                    refine WJ.ret ?_
                    refine PJ.block_ret (PJ.then_ret (PJ.then_ret (PJ.block_ret (PJ.then_ret ?_))))
                    obtain rfl := Option.some.inj hm
                    refine PJ.sel (L' := []) [] ⟨List.nodup_nil, rfl⟩ ?_
                    exact PJ.retn (vs := [.bool false]) Try.results6 ⟨rfl, trivial⟩ ⟨rfl, rfl⟩
                  · replace hm := ifF hm hb112
                    refine WJ.skip ?_
                    refine PJ.block_normal (PJ.next ?_)
                    refine WJ.quiet ?_
                    refine QJ.step (YldS.yld (y_move rfl)) rfl ?_
                    refine QJ.step (YldS.yld (y_bin rfl rfl rfl)) rfl ?_
                    refine QJ.step (YldS.yld (y_assign rfl)) rfl ?_
                    refine QJ.done ?_
                    exact PJ.round (w64 (i97 + 1)) [0, 1, 2, 3] hm ⟨rfl, rfl, rfl, rfl, rfl, rfl, rfl, trivial⟩ ⟨by decide, rfl⟩
                · replace hm := ifF hm hb98
                  refine WJ.exit ?_
                  refine PJ.then_exit (PJ.then_exit (PJ.block_exit ?_))
                  exact PJ.joined () [2, 3] hm ⟨rfl, rfl, rfl, trivial⟩ ⟨by decide, rfl⟩
            · replace hm := ifF hm hb96
              refine WJ.skip ?_
              exact PJ.joined () [2, 3] hm ⟨rfl, rfl, rfl, trivial⟩ ⟨by decide, rfl⟩
          · rintro _ hm
            subst hk95
            refine WJ.seq ?_
            refine WJ.seq ?_
            refine WJ.quiet ?_
            refine QJ.step (YldS.yld (y_move rfl)) rfl ?_
            refine QJ.step (YldS.yld (y_bin rfl rfl rfl)) rfl ?_
            refine QJ.done ?_
            refine PJ.next ?_
            refine WJ.cond (t := (r10.2 != 0)) rfl (fun hb113 => ?_) (fun hb113 => ?_)
            · replace hm := ifT hm hb113
              refine WJ.seq ?_
              refine WJ.quiet ?_
              refine QJ.step (YldS.yld (y_assign rfl)) rfl ?_
              refine QJ.done ?_
              refine PJ.next ?_
              refine WJ.ret ?_
              refine PJ.then_ret ?_
              obtain rfl := Option.some.inj hm
              refine PJ.sel (L' := []) [] ⟨List.nodup_nil, rfl⟩ ?_
              exact PJ.retn (vs := [.bool true]) Try.results6 ⟨rfl, trivial⟩ ⟨rfl, rfl⟩
            · replace hm := ifF hm hb113
              refine WJ.skip ?_
              refine PJ.next ?_
              obtain ⟨k114, hk115, hm⟩ := withK_open hm
              refine WJ.join (X := Unit) (fun (_ : Unit) => k114  = some r) (fun (_ : Unit) => [(3, v9), (6, v15)]) (fun (_ : Unit) => [row v15 9 fStr r13.1, row v9 9 fStr r7]) ?_ ?_
              · clear hk115
                refine WJ.seq ?_
                refine WJ.quiet ?_
                refine QJ.step (YldS.yld (y_assign rfl)) rfl ?_
                refine QJ.done ?_
                refine PJ.next ?_
                refine WJ.block ?_
                refine WJ.sel (L' := (fun (x : Int) => [row v15 9 fStr r13.1, row v9 9 fStr r7]) 0) [0, 1] ⟨by decide, rfl⟩ ?_
                refine WJ.sub (m' := (fun (x : Int) => [(3, v9), (6, v15), (30, .int .i64 x)]) 0) ⟨rfl, rfl, rfl, trivial⟩ ?_
                refine WJ.loop (X := Int) (fun N (x : Int) => w_FnBoxes_l3 k114 r13 N x = some r) (fun (x : Int) => [(3, v9), (6, v15), (30, .int .i64 x)]) (fun (x : Int) => [row v15 9 fStr r13.1, row v9 9 fStr r7]) ?_ N 0 hm
                · rintro N i116 hI
                  have hm := hI; clear hI
                  cases N with
                  | zero => cases hm
                  | succ N =>
                  unfold w_FnBoxes_l3 at hm
                  refine WJ.seq ?_
                  refine WJ.seq ?_
                  refine WJ.quiet ?_
                  refine QJ.step (YldS.yld (y_move rfl)) rfl ?_
                  refine QJ.step (YldS.yld (y_move rfl)) rfl ?_
                  refine QJ.step (YldS.yld (y_lenRow (k := 0) rfl Try.runUnderlying35 rfl)) rfl ?_
                  refine QJ.step (YldS.yld (y_bin rfl rfl rfl)) rfl ?_
                  refine QJ.done ?_
                  refine PJ.next ?_
                  refine WJ.cond (t := decide (i116 < (List.length r13.1 : Int))) rfl (fun hb117 => ?_) (fun hb117 => ?_)
                  · replace hm := ifT hm hb117
                    refine WJ.skip ?_
                    refine PJ.next ?_
                    refine WJ.seq ?_
                    refine WJ.block ?_
                    refine WJ.seq ?_
                    refine WJ.quiet_draw follows (by kernel_rfl) ?_
                    refine QJ.step (YldS.yld (y_move rfl)) rfl ?_
                    refine QJ.step (YldS.yld (y_move rfl)) rfl ?_
                    obtain ⟨e118, h119, hm⟩ := bindS hm
                    refine QJ.step (YldS.yld (y_ixRow (k := 0) (R := fStr) rfl Try.runUnderlying35 Try.sizeOf9 rfl rfl h119)) rfl ?_
                    refine QJ.step (YldS.yld (y_loadR (k := 0) (i := (Int.toNat i116)) (off := 0) (u := str e118) rfl Try.isAgg9 rfl (idx_get h119) rfl)) rfl ?_
                    refine QJ.step (YldS.yld (y_lenStr Try.runUnderlying9 rfl)) rfl ?_
                    refine QJ.step (YldS.yld (y_move rfl)) rfl ?_
                    obtain ⟨e120, h121, hm⟩ := bindS hm
                    refine QJ.step (YldS.yld (y_ixRow (k := 0) (R := fStr) rfl Try.runUnderlying35 Try.sizeOf9 rfl rfl h121)) rfl ?_
                    refine QJ.step (YldS.yld (y_loadR (k := 0) (i := (Int.toNat 0)) (off := 0) (u := str e120) rfl Try.isAgg9 rfl (idx_get h121) rfl)) rfl ?_
                    refine QJ.step (YldS.yld (y_lenStr Try.runUnderlying9 rfl)) rfl ?_
                    refine QJ.step (YldS.yld (y_bin rfl rfl rfl)) rfl ?_
                    refine QJ.done ?_
                    refine PJ.next ?_
                    refine WJ.cond (t := ((List.length e118 : Int) != (List.length e120 : Int))) rfl (fun hb122 => ?_) (fun hb122 => ?_)
                    · replace hm := ifT hm hb122
                      refine WJ.seq ?_
                      refine WJ.quiet ?_
                      refine QJ.step (YldS.yld (y_assign rfl)) rfl ?_
                      refine QJ.done ?_
                      refine PJ.next ?_
                      refine WJ.ret ?_
                      refine PJ.block_ret (PJ.then_ret (PJ.then_ret (PJ.block_ret (PJ.then_ret ?_))))
                      obtain rfl := Option.some.inj hm
                      refine PJ.sel (L' := []) [] ⟨List.nodup_nil, rfl⟩ ?_
                      exact PJ.retn (vs := [.bool false]) Try.results6 ⟨rfl, trivial⟩ ⟨rfl, rfl⟩
                    · replace hm := ifF hm hb122
                      refine WJ.skip ?_
                      refine PJ.block_normal (PJ.next ?_)
                      refine WJ.quiet ?_
                      refine QJ.step (YldS.yld (y_move rfl)) rfl ?_
                      refine QJ.step (YldS.yld (y_bin rfl rfl rfl)) rfl ?_
                      refine QJ.step (YldS.yld (y_assign rfl)) rfl ?_
                      refine QJ.done ?_
                      exact PJ.round (w64 (i116 + 1)) [0, 1] hm ⟨rfl, rfl, rfl, trivial⟩ ⟨by decide, rfl⟩
                  · replace hm := ifF hm hb117
                    refine WJ.exit ?_
                    refine PJ.then_exit (PJ.then_exit (PJ.block_exit ?_))
                    exact PJ.joined () [0, 1] hm ⟨rfl, rfl, trivial⟩ ⟨by decide, rfl⟩
              · rintro _ hm
                subst hk115
                refine WJ.seq ?_
                refine WJ.quiet_draw follows (by kernel_rfl) ?_
                refine QJ.step (YldS.yld (y_move rfl)) rfl ?_
                refine QJ.step (YldS.yld (y_lenRow (k := 0) rfl Try.runUnderlying35 rfl)) rfl ?_
                refine QJ.step (YldS.yld (y_move rfl)) rfl ?_
                refine QJ.step (YldS.yld (y_lenRow (k := 1) rfl Try.runUnderlying35 rfl)) rfl ?_
                refine QJ.step (YldS.yld (y_bin rfl rfl rfl)) rfl ?_
                refine QJ.step (YldS.yld (y_bin rfl rfl rfl)) rfl ?_
                refine QJ.step (YldS.yld (y_move rfl)) rfl ?_
                obtain ⟨t123, h124, hm⟩ := bindS hm
                refine QJ.cut 11 [(252, .bool t123)] ?_ ?_
                · rcases Bool.eq_false_or_eq_true ((List.length r13.1 : Int) == (w64 ((List.length r7 : Int) + 2))) with hb125 | hb125
                  · replace h124 := andT h124 hb125
                    refine QJ.on rfl rfl (cB hb125) (YldS.yld (y_move rfl)) rfl ?_
                    obtain ⟨e126, h127, h124⟩ := bindS h124
                    refine QJ.on rfl rfl (cB hb125) (YldS.yld (y_ixRow (k := 0) (R := fStr) rfl Try.runUnderlying35 Try.sizeOf9 rfl rfl h127)) rfl ?_
                    refine QJ.on rfl rfl (cB hb125) (YldS.yld (y_loadR (k := 0) (i := (Int.toNat 0)) (off := 0) (u := str e126) rfl Try.isAgg9 rfl (idx_get h127) rfl)) rfl ?_
                    refine QJ.on rfl rfl (cB hb125) (YldS.yld (y_move rfl)) rfl ?_
                    refine QJ.on rfl rfl (cB hb125) (YldS.yld (y_move rfl)) rfl ?_
                    refine QJ.on rfl rfl (cB hb125) (YldS.yld (y_lenRow (k := 0) rfl Try.runUnderlying35 rfl)) rfl ?_
                    refine QJ.on rfl rfl (cB hb125) (YldS.yld (y_bin rfl rfl rfl)) rfl ?_
                    obtain ⟨e128, h129, h124⟩ := bindS h124
                    refine QJ.on rfl rfl (cB hb125) (YldS.yld (y_ixRow (k := 0) (R := fStr) rfl Try.runUnderlying35 Try.sizeOf9 rfl rfl h129)) rfl ?_
                    refine QJ.on rfl rfl (cB hb125) (YldS.yld (y_loadR (k := 0) (i := (Int.toNat (w64 ((List.length r13.1 : Int) - 1)))) (off := 0) (u := str e128) rfl Try.isAgg9 rfl (idx_get h129) rfl)) rfl ?_
                    refine QJ.on rfl rfl (cB hb125) (YldS.yld (y_binS rfl rfl rfl)) rfl ?_
                    refine QJ.step (YldS.yld (y_pick_t (cB hb125) rfl)) rfl ?_
                    obtain rfl := Option.some.inj h124
                    exact QJ.cut_end ⟨rfl, trivial⟩
                  · obtain rfl := andF h124 hb125
                    refine QJ.off rfl rfl (cB hb125) rfl rfl ?_
                    refine QJ.off rfl rfl (cB hb125) rfl rfl ?_
                    refine QJ.off rfl rfl (cB hb125) rfl rfl ?_
                    refine QJ.off rfl rfl (cB hb125) rfl rfl ?_
                    refine QJ.off rfl rfl (cB hb125) rfl rfl ?_
                    refine QJ.off rfl rfl (cB hb125) rfl rfl ?_
                    refine QJ.off rfl rfl (cB hb125) rfl rfl ?_
                    refine QJ.off rfl rfl (cB hb125) rfl rfl ?_
                    refine QJ.off rfl rfl (cB hb125) rfl rfl ?_
                    refine QJ.off rfl rfl (cB hb125) rfl rfl ?_
                    refine QJ.step (YldS.yld (y_pick_f (cB hb125) rfl)) rfl ?_
                    exact QJ.cut_end ⟨rfl, trivial⟩
                refine QJ.step (YldS.yld (y_assign rfl)) rfl ?_
                refine QJ.done ?_
                refine PJ.next ?_
                refine WJ.ret ?_
                obtain rfl := Option.some.inj hm
                refine PJ.sel (L' := []) [] ⟨List.nodup_nil, rfl⟩ ?_
                exact PJ.retn (vs := [.bool t123]) Try.results6 ⟨rfl, trivial⟩ ⟨rfl, rfl⟩

end Go.Proofs.Ytkjccgkpieakpaa
