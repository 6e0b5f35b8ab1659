/-
  The walks: a call hands back what its plain function computes, where that has a value. No other conditions.
-/
import Derived.Test.YtbgngihmpdneaaaFnLessonSetsW2
import Derived.Test.YtbgngihmpdneaaaChecked
namespace Go.Proofs.Ytbgngihmpdneaaa
open Go.RowKit Go.Proofs
set_option linter.unusedVariables false
set_option linter.unusedSimpArgs false

set_option maxRecDepth 100000 in
set_option maxHeartbeats 1000000 in
theorem ok_w_FnLessonSets {N : Nat} {code1 : List UInt8} {r : Bool} (hm : w_FnLessonSets N code1 = some r) (w : World) (v2 : Value) (hr3 : RdS w (cx w).Fz v2 fByte.rp code1) :
    Calls Try.prog 3 #[v2] w (Ret (cx w) (.bool r)) := by
  unfold w_FnLessonSets at hm
  refine Calls.enter [v2] Try.func3 rfl Try.ntmps3 rfl ?_
  refine WJ.seq ?_
  refine WJ.quiet ?_
  refine QJ.step (YldS.yld (y_assign rfl)) rfl ?_
  refine QJ.done ?_
  refine PJ.next ?_
  refine WJ.seq ?_
  refine WJ.seq ?_
  refine WJ.quiet ?_
  refine QJ.step (YldS.yld (y_move rfl)) rfl ?_
  obtain ⟨r4, h5, hm⟩ := bindS hm
  refine QJ.step (y_call Try.call5 rfl (RetG.quiet fun w hw => ok_w_f6big h5 w _ (hr3.st hw))) rfl ?_
  refine QJ.done ?_
  refine PJ.next ?_
  refine WJ.cond (t := r4) rfl (fun hb6 => ?_) (fun hb6 => ?_)
  · replace hm := ifT hm hb6
    refine WJ.seq ?_
    refine WJ.quiet ?_
    refine QJ.step (YldS.yld (y_assign rfl)) rfl ?_
    refine QJ.done ?_
    refine PJ.next ?_
    refine WJ.ret ?_
    refine PJ.then_ret ?_
    obtain rfl := Option.some.inj hm
    refine PJ.sel (L' := []) [] ⟨List.nodup_nil, rfl⟩ ?_
    exact PJ.retn (vs := [.bool true]) Try.results3 ⟨rfl, trivial⟩ ⟨rfl, rfl⟩
  · replace hm := ifF hm hb6
    refine WJ.skip ?_
    refine PJ.next ?_
    refine WJ.seq ?_
    refine WJ.reg ?_
    refine SJ.q (YldS.yld (y_move rfl)) rfl ?_
    obtain ⟨r7, h8, hm⟩ := bindS hm
    refine SJ.call Try.call6 rfl (fun w hw => ok_s_DrawLessonsForText h8 w _ (hr3.st hw)) rfl ?_
    rintro _ _ ⟨v9, vs10, rfl, rfl⟩
    refine SJ.q (YldS.yld (y_move rfl)) rfl ?_
    refine SJ.q (YldS.yld (y_extract rfl rfl)) rfl ?_
    refine SJ.q (YldS.yld (y_extract rfl rfl)) rfl ?_
    refine SJ.q (YldS.yld (y_assign rfl)) rfl ?_
    refine SJ.q (YldS.yld (y_assign rfl)) rfl ?_
    refine SJ.nil ?_
    refine PJ.next ?_
    refine WJ.seq ?_
    refine WJ.reg ?_
    refine SJ.q (YldS.yld (y_move rfl)) rfl ?_
    refine SJ.q (YldS.yld (y_move rfl)) rfl ?_
    obtain ⟨r11, h12, hm⟩ := bindS hm
    refine SJ.call Try.call7 rfl (fun w hw => ok_i_LessonsForText h12 w _ (hw.nss_rd (k := 0) (j := 1) rfl rfl)) rfl ?_
    rintro _ _ ⟨v13, rfl, rfl⟩
    refine SJ.q (YldS.yld (y_move rfl)) rfl ?_
    refine SJ.q (YldS.yld (y_extract rfl rfl)) rfl ?_
    refine SJ.q (YldS.yld (y_extract rfl rfl)) rfl ?_
    refine SJ.q (YldS.yld (y_assign rfl)) rfl ?_
    refine SJ.q (YldS.yld (y_assign rfl)) rfl ?_
    refine SJ.nil ?_
    refine PJ.next ?_
    refine WJ.seq ?_
    refine WJ.reg ?_
    refine SJ.q (YldS.yld (y_move rfl)) rfl ?_
    refine SJ.q (YldS.yld (y_move rfl)) rfl ?_
    obtain ⟨r14, h15, hm⟩ := bindS hm
    refine SJ.call Try.call8 rfl (fun w hw => ok_s_LessonsForText h15 w _ (hw.nss_rd (k := 1) (j := 2) rfl rfl)) rfl ?_
    rintro _ _ ⟨v16, rfl, rfl⟩
    refine SJ.q (YldS.yld (y_move rfl)) rfl ?_
    refine SJ.q (YldS.yld (y_extract rfl rfl)) rfl ?_
    refine SJ.q (YldS.yld (y_extract rfl rfl)) rfl ?_
    refine SJ.q (YldS.yld (y_assign rfl)) rfl ?_
    refine SJ.q (YldS.yld (y_assign rfl)) rfl ?_
    refine SJ.nil ?_
    refine PJ.next ?_
    refine WJ.seq ?_
    refine WJ.quiet ?_
    refine QJ.step (YldS.yld (y_move rfl)) rfl ?_
    refine QJ.step (YldS.yld (y_move rfl)) rfl ?_
    obtain ⟨r17, h18, hm⟩ := bindS hm
    refine QJ.step (y_call Try.call9 rfl (RetG.quiet fun w hw => ok_i_UntaughtLetters h18 w _ (hw.nss_rd (k := 2) (j := 3) rfl rfl))) rfl ?_
    refine QJ.step (YldS.yld (y_move rfl)) rfl ?_
    refine QJ.step (YldS.yld (y_extract rfl rfl)) rfl ?_
    refine QJ.step (YldS.yld (y_extract rfl rfl)) rfl ?_
    refine QJ.step (YldS.yld (y_assign rfl)) rfl ?_
    refine QJ.step (YldS.yld (y_assign rfl)) rfl ?_
    refine QJ.done ?_
    refine PJ.next ?_
    refine WJ.seq ?_
    refine WJ.quiet ?_
    refine QJ.step (YldS.yld (y_move rfl)) rfl ?_
    refine QJ.step (YldS.yld (y_move rfl)) rfl ?_
    obtain ⟨r19, h20, hm⟩ := bindS hm
    refine QJ.step (y_call Try.call10 rfl (RetG.quiet fun w hw => ok_s_UntaughtLetters h20 w _ (hw.nss_rd (k := 2) (j := 3) rfl rfl))) rfl ?_
    refine QJ.step (YldS.yld (y_move rfl)) rfl ?_
    refine QJ.step (YldS.yld (y_extract rfl rfl)) rfl ?_
    refine QJ.step (YldS.yld (y_extract rfl rfl)) rfl ?_
    refine QJ.step (YldS.yld (y_assign rfl)) rfl ?_
    refine QJ.step (YldS.yld (y_assign rfl)) rfl ?_
    refine QJ.done ?_
    refine PJ.next ?_
    refine WJ.seq ?_
    refine WJ.reg ?_
    refine SJ.q (YldS.yld (y_move rfl)) rfl ?_
    obtain ⟨r21, h22, hm⟩ := bindS hm
    refine SJ.call Try.call11 rfl (fun w hw => ok_s_DrawCanType h22 w _ (hr3.st hw)) rfl ?_
    rintro _ _ ⟨v23, vs24, v25, rfl, rfl⟩
    refine SJ.q (YldS.yld (y_move rfl)) rfl ?_
    refine SJ.q (YldS.yld (y_extract rfl rfl)) rfl ?_
    refine SJ.q (YldS.yld (y_extract rfl rfl)) rfl ?_
    refine SJ.q (YldS.yld (y_extract rfl rfl)) rfl ?_
    refine SJ.q (YldS.yld (y_assign rfl)) rfl ?_
    refine SJ.q (YldS.yld (y_assign rfl)) rfl ?_
    refine SJ.q (YldS.yld (y_assign rfl)) rfl ?_
    refine SJ.nil ?_
    refine PJ.next ?_
    refine WJ.seq ?_
    refine WJ.quiet ?_
    refine QJ.step (YldS.yld (y_move rfl)) rfl ?_
    refine QJ.step (YldS.yld (y_move rfl)) rfl ?_
    refine QJ.step (YldS.yld (y_move rfl)) rfl ?_
    obtain ⟨r26, h27, hm⟩ := bindS hm
    refine QJ.step (y_call Try.call12 rfl (RetG.quiet fun w hw => ok_i_CanType h27 w _ (hw.nss_rd (k := 0) (j := 1) rfl rfl) _ (hw.row_rd (k := 2) rfl))) rfl ?_
    refine QJ.step (YldS.yld (y_move rfl)) rfl ?_
    refine QJ.step (YldS.yld (y_extract rfl rfl)) rfl ?_
    refine QJ.step (YldS.yld (y_extract rfl rfl)) rfl ?_
    refine QJ.step (YldS.yld (y_assign rfl)) rfl ?_
    refine QJ.step (YldS.yld (y_assign rfl)) rfl ?_
    refine QJ.done ?_
    refine PJ.next ?_
    refine WJ.seq ?_
    refine WJ.quiet ?_
    refine QJ.step (YldS.yld (y_move rfl)) rfl ?_
    refine QJ.step (YldS.yld (y_move rfl)) rfl ?_
    refine QJ.step (YldS.yld (y_move rfl)) rfl ?_
    obtain ⟨r28, h29, hm⟩ := bindS hm
    refine QJ.step (y_call Try.call13 rfl (RetG.quiet fun w hw => ok_s_CanType h29 w _ (hw.nss_rd (k := 0) (j := 1) rfl rfl) _ (hw.row_rd (k := 2) rfl))) rfl ?_
    refine QJ.step (YldS.yld (y_move rfl)) rfl ?_
    refine QJ.step (YldS.yld (y_extract rfl rfl)) rfl ?_
    refine QJ.step (YldS.yld (y_extract rfl rfl)) rfl ?_
    refine QJ.step (YldS.yld (y_assign rfl)) rfl ?_
    refine QJ.step (YldS.yld (y_assign rfl)) rfl ?_
    refine QJ.done ?_
    refine PJ.next ?_
    refine WJ.seq ?_
    refine WJ.seq ?_
    refine WJ.quiet ?_
    refine QJ.step (YldS.yld (y_move rfl)) rfl ?_
    refine QJ.step (YldS.yld (y_move rfl)) rfl ?_
    refine QJ.step (YldS.yld (y_bin rfl rfl rfl)) rfl ?_
    refine QJ.step (YldS.yld (y_move rfl)) rfl ?_
    obtain ⟨t30, h31, hm⟩ := bindS hm
    refine QJ.cut 5 [(3, v9), (4, str r7.2), (6, .int .i64 r11.2), (7, v16), (9, str r17.1), (10, .int .i64 r17.2), (11, str r19.1), (12, .int .i64 r19.2), (16, .bool r26.1), (17, .int .i64 r26.2), (18, .bool r28.1), (19, .int .i64 r28.2), (87, .bool t30)] ?_ ?_
    · rcases Bool.eq_false_or_eq_true (r11.2 != r14.2) with hb32 | hb32
      · obtain rfl := orT h31 hb32
        refine QJ.off rfl rfl (cB hb32) rfl rfl ?_
        refine QJ.off rfl rfl (cB hb32) rfl rfl ?_
        refine QJ.off rfl rfl (cB hb32) rfl rfl ?_
        refine QJ.off rfl rfl (cB hb32) rfl rfl ?_
        refine QJ.step (YldS.yld (y_pick_t (cB hb32) rfl)) rfl ?_
        exact QJ.cut_end ⟨rfl, rfl, rfl, rfl, rfl, rfl, rfl, rfl, rfl, rfl, rfl, rfl, rfl, trivial⟩
      · replace h31 := orF h31 hb32
        refine QJ.on rfl rfl (cB hb32) (YldS.yld (y_move rfl)) rfl ?_
        refine QJ.on rfl rfl (cB hb32) (YldS.yld (y_move rfl)) rfl ?_
        obtain ⟨r33, h34, h31⟩ := bindS h31
        refine QJ.on rfl rfl (cB hb32) (y_call Try.call14 rfl (RetG.quiet fun w hw => ok_w_f6ints h34 w _ (hw.row_rd (k := 4) rfl) _ (hw.row_rd (k := 3) rfl))) rfl ?_
        refine QJ.on rfl rfl (cB hb32) (YldS.yld (y_not rfl)) rfl ?_
        refine QJ.step (YldS.yld (y_pick_f (cB hb32) rfl)) rfl ?_
        obtain rfl := Option.some.inj h31
        exact QJ.cut_end ⟨rfl, rfl, rfl, rfl, rfl, rfl, rfl, rfl, rfl, rfl, rfl, rfl, rfl, trivial⟩
    refine QJ.step (YldS.yld (y_move rfl)) rfl ?_
    obtain ⟨t35, h36, hm⟩ := bindS hm
    refine QJ.cut 4 [(3, v9), (4, str r7.2), (6, .int .i64 r11.2), (7, v16), (9, str r17.1), (11, str r19.1), (16, .bool r26.1), (17, .int .i64 r26.2), (18, .bool r28.1), (19, .int .i64 r28.2), (92, .bool t35)] ?_ ?_
    · rcases Bool.eq_false_or_eq_true t30 with hb37 | hb37
      · obtain rfl := orT h36 hb37
        refine QJ.off rfl rfl (cB hb37) rfl rfl ?_
        refine QJ.off rfl rfl (cB hb37) rfl rfl ?_
        refine QJ.off rfl rfl (cB hb37) rfl rfl ?_
        refine QJ.step (YldS.yld (y_pick_t (cB hb37) rfl)) rfl ?_
        exact QJ.cut_end ⟨rfl, rfl, rfl, rfl, rfl, rfl, rfl, rfl, rfl, rfl, rfl, trivial⟩
      · replace h36 := orF h36 hb37
        refine QJ.on rfl rfl (cB hb37) (YldS.yld (y_move rfl)) rfl ?_
        refine QJ.on rfl rfl (cB hb37) (YldS.yld (y_move rfl)) rfl ?_
        refine QJ.on rfl rfl (cB hb37) (YldS.yld (y_bin rfl rfl rfl)) rfl ?_
        refine QJ.step (YldS.yld (y_pick_f (cB hb37) rfl)) rfl ?_
        obtain rfl := Option.some.inj h36
        exact QJ.cut_end ⟨rfl, rfl, rfl, rfl, rfl, rfl, rfl, rfl, rfl, rfl, rfl, trivial⟩
    refine QJ.step (YldS.yld (y_move rfl)) rfl ?_
    obtain ⟨t38, h39, hm⟩ := bindS hm
    refine QJ.cut 4 [(3, v9), (4, str r7.2), (6, .int .i64 r11.2), (7, v16), (9, str r17.1), (16, .bool r26.1), (17, .int .i64 r26.2), (18, .bool r28.1), (19, .int .i64 r28.2), (97, .bool t38)] ?_ ?_
    · rcases Bool.eq_false_or_eq_true t35 with hb40 | hb40
      · obtain rfl := orT h39 hb40
        refine QJ.off rfl rfl (cB hb40) rfl rfl ?_
        refine QJ.off rfl rfl (cB hb40) rfl rfl ?_
        refine QJ.off rfl rfl (cB hb40) rfl rfl ?_
        refine QJ.step (YldS.yld (y_pick_t (cB hb40) rfl)) rfl ?_
        exact QJ.cut_end ⟨rfl, rfl, rfl, rfl, rfl, rfl, rfl, rfl, rfl, rfl, trivial⟩
      · replace h39 := orF h39 hb40
        refine QJ.on rfl rfl (cB hb40) (YldS.yld (y_move rfl)) rfl ?_
        refine QJ.on rfl rfl (cB hb40) (YldS.yld (y_move rfl)) rfl ?_
        refine QJ.on rfl rfl (cB hb40) (YldS.yld (y_binS rfl rfl rfl)) rfl ?_
        refine QJ.step (YldS.yld (y_pick_f (cB hb40) rfl)) rfl ?_
        obtain rfl := Option.some.inj h39
        exact QJ.cut_end ⟨rfl, rfl, rfl, rfl, rfl, rfl, rfl, rfl, rfl, rfl, trivial⟩
    refine QJ.step (YldS.yld (y_move rfl)) rfl ?_
    obtain ⟨t41, h42, hm⟩ := bindS hm
    refine QJ.cut 4 [(3, v9), (4, str r7.2), (6, .int .i64 r11.2), (7, v16), (9, str r17.1), (16, .bool r26.1), (18, .bool r28.1), (102, .bool t41)] ?_ ?_
    · rcases Bool.eq_false_or_eq_true t38 with hb43 | hb43
      · obtain rfl := orT h42 hb43
        refine QJ.off rfl rfl (cB hb43) rfl rfl ?_
        refine QJ.off rfl rfl (cB hb43) rfl rfl ?_
        refine QJ.off rfl rfl (cB hb43) rfl rfl ?_
        refine QJ.step (YldS.yld (y_pick_t (cB hb43) rfl)) rfl ?_
        exact QJ.cut_end ⟨rfl, rfl, rfl, rfl, rfl, rfl, rfl, rfl, trivial⟩
      · replace h42 := orF h42 hb43
        refine QJ.on rfl rfl (cB hb43) (YldS.yld (y_move rfl)) rfl ?_
        refine QJ.on rfl rfl (cB hb43) (YldS.yld (y_move rfl)) rfl ?_
        refine QJ.on rfl rfl (cB hb43) (YldS.yld (y_bin rfl rfl rfl)) rfl ?_
        refine QJ.step (YldS.yld (y_pick_f (cB hb43) rfl)) rfl ?_
        obtain rfl := Option.some.inj h42
        exact QJ.cut_end ⟨rfl, rfl, rfl, rfl, rfl, rfl, rfl, rfl, trivial⟩
    refine QJ.step (YldS.yld (y_move rfl)) rfl ?_
    obtain ⟨t44, h45, hm⟩ := bindS hm
    refine QJ.cut 4 [(3, v9), (4, str r7.2), (6, .int .i64 r11.2), (7, v16), (9, str r17.1), (107, .bool t44)] ?_ ?_
    · rcases Bool.eq_false_or_eq_true t41 with hb46 | hb46
      · obtain rfl := orT h45 hb46
        refine QJ.off rfl rfl (cB hb46) rfl rfl ?_
        refine QJ.off rfl rfl (cB hb46) rfl rfl ?_
        refine QJ.off rfl rfl (cB hb46) rfl rfl ?_
        refine QJ.step (YldS.yld (y_pick_t (cB hb46) rfl)) rfl ?_
        exact QJ.cut_end ⟨rfl, rfl, rfl, rfl, rfl, rfl, trivial⟩
      · replace h45 := orF h45 hb46
        refine QJ.on rfl rfl (cB hb46) (YldS.yld (y_move rfl)) rfl ?_
        refine QJ.on rfl rfl (cB hb46) (YldS.yld (y_move rfl)) rfl ?_
        refine QJ.on rfl rfl (cB hb46) (YldS.yld (y_neB Try.underlying4 rfl rfl rfl)) rfl ?_
        refine QJ.step (YldS.yld (y_pick_f (cB hb46) rfl)) rfl ?_
        obtain rfl := Option.some.inj h45
        exact QJ.cut_end ⟨rfl, rfl, rfl, rfl, rfl, rfl, trivial⟩
    refine QJ.done ?_
    refine PJ.next ?_
    refine WJ.cond (t := t44) rfl (fun hb47 => ?_) (fun hb47 => ?_)
    · replace hm := ifT hm hb47
      refine WJ.seq ?_
      refine WJ.quiet ?_
      refine QJ.step (YldS.yld (y_assign rfl)) rfl ?_
      refine QJ.done ?_
      refine PJ.next ?_
      refine WJ.ret ?_
      refine PJ.then_ret ?_
      obtain rfl := Option.some.inj hm
      refine PJ.sel (L' := []) [] ⟨List.nodup_nil, rfl⟩ ?_
      exact PJ.retn (vs := [.bool false]) Try.results3 ⟨rfl, trivial⟩ ⟨rfl, rfl⟩
    · replace hm := ifF hm hb47
      refine WJ.skip ?_
      refine PJ.next ?_
      refine WJ.seq ?_
      refine WJ.seq ?_
      refine WJ.quiet ?_
      refine QJ.step (YldS.yld (y_move rfl)) rfl ?_
      refine QJ.step (YldS.yld (y_bin rfl rfl rfl)) rfl ?_
      refine QJ.step (YldS.yld (y_move rfl)) rfl ?_
      obtain ⟨t48, h49, hm⟩ := bindS hm
      refine QJ.cut 3 [(3, v9), (4, str r7.2), (6, .int .i64 r11.2), (7, v16), (9, str r17.1), (113, .bool t48)] ?_ ?_
      · rcases Bool.eq_false_or_eq_true (r11.2 == 0) with hb50 | hb50
        · replace h49 := andT h49 hb50
          refine QJ.on rfl rfl (cB hb50) (YldS.yld (y_move rfl)) rfl ?_
          refine QJ.on rfl rfl (cB hb50) (YldS.yld (y_binS rfl rfl rfl)) rfl ?_
          refine QJ.step (YldS.yld (y_pick_t (cB hb50) rfl)) rfl ?_
          obtain rfl := Option.some.inj h49
          exact QJ.cut_end ⟨rfl, rfl, rfl, rfl, rfl, rfl, trivial⟩
        · obtain rfl := andF h49 hb50
          refine QJ.off rfl rfl (cB hb50) rfl rfl ?_
          refine QJ.off rfl rfl (cB hb50) rfl rfl ?_
          refine QJ.step (YldS.yld (y_pick_f (cB hb50) rfl)) rfl ?_
          exact QJ.cut_end ⟨rfl, rfl, rfl, rfl, rfl, rfl, trivial⟩
      refine QJ.step (YldS.yld (y_move rfl)) rfl ?_
      obtain ⟨t51, h52, hm⟩ := bindS hm
      refine QJ.cut 7 [(3, v9), (4, str r7.2), (6, .int .i64 r11.2), (7, v16), (121, .bool t51)] ?_ ?_
      · rcases Bool.eq_false_or_eq_true t48 with hb53 | hb53
        · obtain rfl := orT h52 hb53
          refine QJ.off rfl rfl (cB hb53) rfl rfl ?_
          refine QJ.off rfl rfl (cB hb53) rfl rfl ?_
          refine QJ.off rfl rfl (cB hb53) rfl rfl ?_
          refine QJ.off_undef rfl rfl rfl rfl ?_
          refine QJ.off_undef rfl rfl rfl rfl ?_
          refine QJ.off rfl rfl (cB hb53) rfl rfl ?_
          refine QJ.step (YldS.yld (y_pick_t (cB hb53) rfl)) rfl ?_
          exact QJ.cut_end ⟨rfl, rfl, rfl, rfl, rfl, trivial⟩
        · replace h52 := orF h52 hb53
          refine QJ.on rfl rfl (cB hb53) (YldS.yld (y_move rfl)) rfl ?_
          refine QJ.on rfl rfl (cB hb53) (YldS.yld (y_bin rfl rfl rfl)) rfl ?_
          refine QJ.on rfl rfl (cB hb53) (YldS.yld (y_move rfl)) rfl ?_
          obtain ⟨t54, h55, h52⟩ := bindS h52
          refine QJ.cut 3 [(3, v9), (4, str r7.2), (6, .int .i64 r11.2), (7, v16), (114, .bool t48), (120, .bool t54)] ?_ ?_
          · rcases Bool.eq_false_or_eq_true (r11.2 == 3) with hb56 | hb56
            · replace h55 := andT h55 hb56
              refine QJ.on rfl rfl (cB hb56) (YldS.yld (y_move rfl)) rfl ?_
              refine QJ.on rfl rfl (cB hb56) (YldS.yld (y_binS rfl rfl rfl)) rfl ?_
              refine QJ.on rfl rfl (cB hb53) (YldS.yld (y_pick_t (cB hb56) rfl)) rfl ?_
              obtain rfl := Option.some.inj h55
              exact QJ.cut_end ⟨rfl, rfl, rfl, rfl, rfl, rfl, trivial⟩
            · obtain rfl := andF h55 hb56
              refine QJ.off rfl rfl (cB hb56) rfl rfl ?_
              refine QJ.off rfl rfl (cB hb56) rfl rfl ?_
              refine QJ.on rfl rfl (cB hb53) (YldS.yld (y_pick_f (cB hb56) rfl)) rfl ?_
              exact QJ.cut_end ⟨rfl, rfl, rfl, rfl, rfl, rfl, trivial⟩
          refine QJ.step (YldS.yld (y_pick_f (cB hb53) rfl)) rfl ?_
          obtain rfl := Option.some.inj h52
          exact QJ.cut_end ⟨rfl, rfl, rfl, rfl, rfl, trivial⟩
      refine QJ.done ?_
      refine PJ.next ?_
      refine WJ.cond (t := t51) rfl (fun hb57 => ?_) (fun hb57 => ?_)
      · replace hm := ifT hm hb57
        refine WJ.seq ?_
        refine WJ.quiet ?_
        refine QJ.step (YldS.yld (y_assign rfl)) rfl ?_
        refine QJ.done ?_
        refine PJ.next ?_
        refine WJ.ret ?_
        refine PJ.then_ret ?_
        obtain rfl := Option.some.inj hm
        refine PJ.sel (L' := []) [] ⟨List.nodup_nil, rfl⟩ ?_
        exact PJ.retn (vs := [.bool false]) Try.results3 ⟨rfl, trivial⟩ ⟨rfl, rfl⟩
      · replace hm := ifF hm hb57
        refine WJ.skip ?_
        refine PJ.next ?_
        refine WJ.seq ?_
        refine WJ.seq ?_
        refine WJ.quiet ?_
        refine QJ.step (YldS.yld (y_move rfl)) rfl ?_
        refine QJ.step (YldS.yld (y_bin rfl rfl rfl)) rfl ?_
        refine QJ.done ?_
        refine PJ.next ?_
        refine WJ.cond (t := (r11.2 != 0)) rfl (fun hb58 => ?_) (fun hb58 => ?_)
        · replace hm := ifT hm hb58
          refine WJ.seq ?_
          refine WJ.quiet ?_
          refine QJ.step (YldS.yld (y_assign rfl)) rfl ?_
          refine QJ.done ?_
          refine PJ.next ?_
          refine WJ.ret ?_
          refine PJ.then_ret ?_
          obtain rfl := Option.some.inj hm
          refine PJ.sel (L' := []) [] ⟨List.nodup_nil, rfl⟩ ?_
          exact PJ.retn (vs := [.bool true]) Try.results3 ⟨rfl, trivial⟩ ⟨rfl, rfl⟩
        · replace hm := ifF hm hb58
          refine WJ.skip ?_
          refine PJ.next ?_
          obtain ⟨kj59, hk60, hm⟩ := withK_open hm
          refine WJ.join (X := Unit) (fun (_ : Unit) => kj59  = some r) (fun (_ : Unit) => [(3, v9), (4, str r7.2), (7, v16)]) (fun (_ : Unit) => [row v16 2 fI64 r14.1, row v9 38 fRaw4 vs10, ins shLesson 2 fI64 vs10 r7.1]) ?_ ?_
          · clear hk60
            refine WJ.seq ?_
            refine WJ.quiet ?_
            refine QJ.step (YldS.yld (y_assign rfl)) rfl ?_
            refine QJ.done ?_
            refine PJ.next ?_
            refine WJ.block ?_
            refine WJ.sel (L' := (fun (x : Int) => [row v16 2 fI64 r14.1, row v9 38 fRaw4 vs10, ins shLesson 2 fI64 vs10 r7.1]) 0) [3, 5, 6] ⟨by decide, rfl⟩ ?_
            refine WJ.sub (m' := (fun (x : Int) => [(3, v9), (4, str r7.2), (7, v16), (20, .int .i64 x)]) 0) ⟨rfl, rfl, rfl, rfl, trivial⟩ ?_
            refine WJ.loop (X := Int) (fun N (x : Int) => w_FnLessonSets_l1 kj59 r7 r14 N x = some r) (fun (x : Int) => [(3, v9), (4, str r7.2), (7, v16), (20, .int .i64 x)]) (fun (x : Int) => [row v16 2 fI64 r14.1, row v9 38 fRaw4 vs10, ins shLesson 2 fI64 vs10 r7.1]) ?_ N 0 hm
            · rintro N i61 hI
              have hm := hI; clear hI
              cases N with
              | zero => cases hm
              | succ N =>
              unfold w_FnLessonSets_l1 at hm
              refine WJ.seq ?_
              refine WJ.seq ?_
              refine WJ.quiet ?_
              refine QJ.step (YldS.yld (y_move rfl)) rfl ?_
              refine QJ.step (YldS.yld (y_move rfl)) rfl ?_
              refine QJ.step (YldS.yld (y_lenRow (k := 0) rfl Try.runUnderlying27 rfl)) rfl ?_
              refine QJ.step (YldS.yld (y_bin rfl rfl rfl)) rfl ?_
              refine QJ.done ?_
              refine PJ.next ?_
              refine WJ.cond (t := decide (i61 < (List.length r14.1 : Int))) rfl (fun hb62 => ?_) (fun hb62 => ?_)
              · replace hm := ifT hm hb62
                refine WJ.skip ?_
                refine PJ.next ?_
                obtain ⟨kj63, hk64, hm⟩ := withK_open hm
                refine WJ.join (X := Unit) (fun (_ : Unit) => kj63  = some r) (fun (_ : Unit) => [(3, v9), (4, str r7.2), (7, v16), (20, .int .i64 i61)]) (fun (_ : Unit) => [row v16 2 fI64 r14.1, row v9 38 fRaw4 vs10, ins shLesson 2 fI64 vs10 r7.1]) ?_ ?_
                · clear hk64
                  refine WJ.block ?_
                  refine WJ.seq ?_
                  refine WJ.quiet ?_
                  refine QJ.step (YldS.yld (y_assign rfl)) rfl ?_
                  refine QJ.done ?_
                  refine PJ.next ?_
                  refine WJ.block ?_
                  refine WJ.sel (L' := (fun (x : Int) => [row v16 2 fI64 r14.1, row v9 38 fRaw4 vs10, ins shLesson 2 fI64 vs10 r7.1]) 0) [0, 1, 2] ⟨by decide, rfl⟩ ?_
                  refine WJ.sub (m' := (fun (x : Int) => [(3, v9), (4, str r7.2), (7, v16), (20, .int .i64 i61), (21, .int .i64 x)]) 0) ⟨rfl, rfl, rfl, rfl, rfl, trivial⟩ ?_
                  refine WJ.loop (X := Int) (fun N (x : Int) => w_FnLessonSets_l2 kj63 r7 r14 i61 N x = some r) (fun (x : Int) => [(3, v9), (4, str r7.2), (7, v16), (20, .int .i64 i61), (21, .int .i64 x)]) (fun (x : Int) => [row v16 2 fI64 r14.1, row v9 38 fRaw4 vs10, ins shLesson 2 fI64 vs10 r7.1]) ?_ N 0 hm
                  · rintro N j65 hI
                    have hm := hI; clear hI
                    cases N with
                    | zero => cases hm
                    | succ N =>
                    unfold w_FnLessonSets_l2 at hm
                    refine WJ.seq ?_
                    refine WJ.seq ?_
                    refine WJ.ins_len 2 rfl fun hl66 => ?_
                    refine WJ.quiet ?_
                    refine QJ.step (YldS.yld (y_move rfl)) rfl ?_
                    refine QJ.step (YldS.yld (y_move rfl)) rfl ?_
                    refine QJ.step (YldS.yld (y_move rfl)) rfl ?_
                    refine QJ.step (YldS.yld (y_move rfl)) rfl ?_
                    obtain ⟨e67, h68, hm⟩ := bindS hm
                    refine QJ.step (YldS.yld (y_ixRow (k := 0) (R := fI64) rfl Try.runUnderlying27 Try.sizeOf2 rfl rfl h68)) rfl ?_
                    refine QJ.step (YldS.yld (y_loadR (k := 0) (i := (Int.toNat i61)) (off := 0) (u := .int .i64 e67) rfl Try.isAgg2 rfl (idx_get h68) rfl)) rfl ?_
                    obtain ⟨e69, h70, hm⟩ := bindS hm
                    obtain ⟨y71, hy72⟩ := inn_idx hl66.1 h70
                    obtain hs73 := hl66.2 _ _ _ hy72 h70
                    refine QJ.step (YldS.yld (y_ixRow (k := 1) (R := fRaw4) rfl Try.runUnderlying24 Try.sizeOf38 rfl rfl hy72)) rfl ?_
                    refine QJ.step (YldS.yld (y_fldR fld38_2 rfl)) rfl ?_
                    refine QJ.step (YldS.yld (y_loadR (k := 1) (i := (Int.toNat e67)) (off := 2) (u := (shLesson.sl y71)) rfl Try.isAgg27 rfl (idx_get hy72) (sh_cell hs73 rfl))) rfl ?_
                    refine QJ.step (YldS.yld (y_lenG (fun w hw => (hw.ins_rd (k := 2) rfl rfl hy72 h70)) Try.runUnderlying27 rfl)) rfl ?_
                    refine QJ.step (YldS.yld (y_bin rfl rfl rfl)) rfl ?_
                    refine QJ.done ?_
                    refine PJ.next ?_
                    refine WJ.cond (t := decide (j65 < (List.length e69.needs : Int))) rfl (fun hb74 => ?_) (fun hb74 => ?_)
                    · replace hm := ifT hm hb74
                      refine WJ.skip ?_
                      refine PJ.next ?_
                      refine WJ.seq ?_
                      refine WJ.block ?_
                      refine WJ.seq ?_
                      refine WJ.ins_len 2 rfl fun hl75 => ?_
                      refine WJ.quiet ?_
                      refine QJ.step (YldS.yld (y_move rfl)) rfl ?_
                      refine QJ.step (YldS.yld (y_move rfl)) rfl ?_
                      refine QJ.step (YldS.yld (y_move rfl)) rfl ?_
                      refine QJ.step (YldS.yld (y_move rfl)) rfl ?_
                      obtain ⟨e76, h77, hm⟩ := bindS hm
                      refine QJ.step (YldS.yld (y_ixRow (k := 0) (R := fI64) rfl Try.runUnderlying27 Try.sizeOf2 rfl rfl h77)) rfl ?_
                      refine QJ.step (YldS.yld (y_loadR (k := 0) (i := (Int.toNat i61)) (off := 0) (u := .int .i64 e76) rfl Try.isAgg2 rfl (idx_get h77) rfl)) rfl ?_
                      obtain ⟨e78, h79, hm⟩ := bindS hm
                      obtain ⟨y80, hy81⟩ := inn_idx hl75.1 h79
                      obtain hs82 := hl75.2 _ _ _ hy81 h79
                      refine QJ.step (YldS.yld (y_ixRow (k := 1) (R := fRaw4) rfl Try.runUnderlying24 Try.sizeOf38 rfl rfl hy81)) rfl ?_
                      refine QJ.step (YldS.yld (y_fldR fld38_2 rfl)) rfl ?_
                      refine QJ.step (YldS.yld (y_loadR (k := 1) (i := (Int.toNat e76)) (off := 2) (u := (shLesson.sl y80)) rfl Try.isAgg27 rfl (idx_get hy81) (sh_cell hs82 rfl))) rfl ?_
                      refine QJ.step (YldS.yld (y_move rfl)) rfl ?_
                      obtain ⟨e83, h84, hm⟩ := bindS hm
                      refine QJ.step (YldS.yld (y_ixG (R := fI64) (fun w hw => (hw.ins_rd (k := 2) rfl rfl hy81 h79)) Try.runUnderlying27 Try.sizeOf2 rfl rfl h84)) rfl ?_
                      refine QJ.step (YldS.yld (y_loadG (R := fI64) (i := (Int.toNat j65)) (off := 0) (fun w hw => (hw.ins_rd (k := 2) rfl rfl hy81 h79)) Try.isAgg2 rfl (idx_get h84) rfl)) rfl ?_
                      obtain ⟨r85, h86, hm⟩ := bindS hm
                      refine QJ.step (y_call Try.call15 rfl (RetG.quiet fun w hw => ok_w_f6has h86 w _ (hw.row_rd (k := 0) rfl))) rfl ?_
                      refine QJ.step (YldS.yld (y_not rfl)) rfl ?_
                      refine QJ.done ?_
                      refine PJ.next ?_
                      refine WJ.cond (t := !r85) rfl (fun hb87 => ?_) (fun hb87 => ?_)
                      · replace hm := ifT hm hb87
                        refine WJ.seq ?_
                        refine WJ.quiet ?_
                        refine QJ.step (YldS.yld (y_assign rfl)) rfl ?_
                        refine QJ.done ?_
                        refine PJ.next ?_
                        refine WJ.ret ?_
                        refine PJ.block_ret (PJ.then_ret (PJ.then_ret (PJ.block_ret (PJ.block_ret (PJ.then_ret (PJ.then_ret (PJ.block_ret (PJ.then_ret ?_))))))))
                        obtain rfl := Option.some.inj hm
                        refine PJ.sel (L' := []) [] ⟨List.nodup_nil, rfl⟩ ?_
                        exact PJ.retn (vs := [.bool false]) Try.results3 ⟨rfl, trivial⟩ ⟨rfl, rfl⟩
                      · replace hm := ifF hm hb87
                        refine WJ.skip ?_
                        refine PJ.block_normal (PJ.next ?_)
                        refine WJ.quiet ?_
                        refine QJ.step (YldS.yld (y_move rfl)) rfl ?_
                        refine QJ.step (YldS.yld (y_bin rfl rfl rfl)) rfl ?_
                        refine QJ.step (YldS.yld (y_assign rfl)) rfl ?_
                        refine QJ.done ?_
                        exact PJ.round (w64 (j65 + 1)) [0, 1, 2] hm ⟨rfl, rfl, rfl, rfl, rfl, trivial⟩ ⟨by decide, rfl⟩
                    · replace hm := ifF hm hb74
                      refine WJ.exit ?_
                      refine PJ.then_exit (PJ.then_exit (PJ.block_exit (PJ.block_normal ?_)))
                      exact PJ.joined () [0, 1, 2] hm ⟨rfl, rfl, rfl, rfl, trivial⟩ ⟨by decide, rfl⟩
                · rintro _ hm
                  subst hk64
                  refine WJ.quiet ?_
                  refine QJ.step (YldS.yld (y_move rfl)) rfl ?_
                  refine QJ.step (YldS.yld (y_bin rfl rfl rfl)) rfl ?_
                  refine QJ.step (YldS.yld (y_assign rfl)) rfl ?_
                  refine QJ.done ?_
                  exact PJ.round (w64 (i61 + 1)) [0, 1, 2] hm ⟨rfl, rfl, rfl, rfl, trivial⟩ ⟨by decide, rfl⟩
              · replace hm := ifF hm hb62
                refine WJ.exit ?_
                refine PJ.then_exit (PJ.then_exit (PJ.block_exit ?_))
                exact PJ.joined () [0, 1, 2] hm ⟨rfl, rfl, rfl, trivial⟩ ⟨by decide, rfl⟩
          · rintro _ hm
            subst hk60
            refine WJ.seq ?_
            refine WJ.quiet ?_
            refine QJ.step (YldS.yld (y_move rfl)) rfl ?_
            refine QJ.step (YldS.yld (y_move rfl)) rfl ?_
            refine QJ.step (YldS.yld (y_move rfl)) rfl ?_
            obtain ⟨r88, h89, hm⟩ := bindS hm
            refine QJ.step (y_call Try.call12 rfl (RetG.quiet fun w hw => ok_i_CanType h89 w _ (hw.nss_rd (k := 1) (j := 2) rfl rfl) _ (hw.row_rd (k := 0) rfl))) rfl ?_
            refine QJ.step (YldS.yld (y_move rfl)) rfl ?_
            refine QJ.step (YldS.yld (y_extract rfl rfl)) rfl ?_
            refine QJ.step (YldS.yld (y_extract rfl rfl)) rfl ?_
            refine QJ.step (YldS.yld (y_assign rfl)) rfl ?_
            refine QJ.step (YldS.yld (y_assign rfl)) rfl ?_
            refine QJ.done ?_
            refine PJ.next ?_
            refine WJ.seq ?_
            refine WJ.quiet ?_
            refine QJ.step (YldS.yld (y_move rfl)) rfl ?_
            refine QJ.step (YldS.yld (y_move rfl)) rfl ?_
            obtain ⟨r90, h91, hm⟩ := bindS hm
            refine QJ.step (y_call Try.call16 rfl (RetG.quiet fun w hw => ok_i_HoursOfLessons h91 w _ (hw.nss_rd (k := 1) (j := 2) rfl rfl) _ (hw.row_rd (k := 0) rfl))) rfl ?_
            refine QJ.step (YldS.yld (y_move rfl)) rfl ?_
            refine QJ.step (YldS.yld (y_extract rfl rfl)) rfl ?_
            refine QJ.step (YldS.yld (y_extract rfl rfl)) rfl ?_
            refine QJ.step (YldS.yld (y_assign rfl)) rfl ?_
            refine QJ.step (YldS.yld (y_assign rfl)) rfl ?_
            refine QJ.done ?_
            refine PJ.next ?_
            refine WJ.seq ?_
            refine WJ.quiet ?_
            refine QJ.step (YldS.yld (y_assign rfl)) rfl ?_
            refine QJ.done ?_
            refine PJ.next ?_
            obtain ⟨kj93, hk94, hm⟩ := withK_open hm
            refine WJ.join (X := Int) (fun (x : Int) => kj93 x = some r) (fun (x : Int) => [(22, .bool r88.1), (23, .int .i64 r88.2), (24, .int .i64 r90.1), (25, .int .i64 r90.2), (26, .int .i64 x)]) (fun (x : Int) => []) ?_ ?_
            · clear hk94
              refine WJ.seq ?_
              refine WJ.quiet ?_
              refine QJ.step (YldS.yld (y_assign rfl)) rfl ?_
              refine QJ.done ?_
              refine PJ.next ?_
              refine WJ.block ?_
              refine WJ.sel (L' := (fun (x : Int × Int) => [row v9 38 fRaw4 vs10, ins shLesson 2 fI64 vs10 r7.1]) (0, 0)) [1, 2] ⟨by decide, rfl⟩ ?_
              refine WJ.sub (m' := (fun (x : Int × Int) => [(3, v9), (22, .bool r88.1), (23, .int .i64 r88.2), (24, .int .i64 r90.1), (25, .int .i64 r90.2), (26, .int .i64 x.1), (27, .int .i64 x.2)]) (0, 0)) ⟨rfl, rfl, rfl, rfl, rfl, rfl, rfl, trivial⟩ ?_
              refine WJ.loop (X := Int × Int) (fun N (x : Int × Int) => w_FnLessonSets_l3 kj93 r7 N x.1 x.2 = some r) (fun (x : Int × Int) => [(3, v9), (22, .bool r88.1), (23, .int .i64 r88.2), (24, .int .i64 r90.1), (25, .int .i64 r90.2), (26, .int .i64 x.1), (27, .int .i64 x.2)]) (fun (x : Int × Int) => [row v9 38 fRaw4 vs10, ins shLesson 2 fI64 vs10 r7.1]) ?_ N (0, 0) hm
              · rintro N ⟨all95, i96⟩ hI
                have hm := hI; clear hI
                cases N with
                | zero => cases hm
                | succ N =>
                unfold w_FnLessonSets_l3 at hm
                refine WJ.seq ?_
                refine WJ.seq ?_
                refine WJ.quiet ?_
                refine QJ.step (YldS.yld (y_move rfl)) rfl ?_
                refine QJ.step (YldS.yld (y_move rfl)) rfl ?_
                refine QJ.step (YldS.yld (y_lenSh (k := 0) (j := 1) rfl rfl Try.runUnderlying24 rfl)) rfl ?_
                refine QJ.step (YldS.yld (y_bin rfl rfl rfl)) rfl ?_
                refine QJ.done ?_
                refine PJ.next ?_
                refine WJ.cond (t := decide (i96 < (List.length r7.1 : Int))) rfl (fun hb97 => ?_) (fun hb97 => ?_)
                · replace hm := ifT hm hb97
                  refine WJ.skip ?_
                  refine PJ.next ?_
                  refine WJ.seq ?_
                  refine WJ.block ?_
                  refine WJ.ins_len 1 rfl fun hl98 => ?_
                  refine WJ.quiet ?_
                  refine QJ.step (YldS.yld (y_move rfl)) rfl ?_
                  refine QJ.step (YldS.yld (y_move rfl)) rfl ?_
                  refine QJ.step (YldS.yld (y_move rfl)) rfl ?_
                  obtain ⟨e99, h100, hm⟩ := bindS hm
                  obtain ⟨y101, hy102⟩ := inn_idx hl98.1 h100
                  obtain hs103 := hl98.2 _ _ _ hy102 h100
                  refine QJ.step (YldS.yld (y_ixRow (k := 0) (R := fRaw4) rfl Try.runUnderlying24 Try.sizeOf38 rfl rfl hy102)) rfl ?_
                  refine QJ.step (YldS.yld (y_fldR fld38_3 rfl)) rfl ?_
                  refine QJ.step (YldS.yld (y_loadR (k := 0) (i := (Int.toNat i96)) (off := 3) (u := .int .i64 e99.hours) rfl Try.isAgg2 rfl (idx_get hy102) (sh_cell hs103 rfl))) rfl ?_
                  refine QJ.step (YldS.yld (y_bin rfl rfl rfl)) rfl ?_
                  refine QJ.step (YldS.yld (y_assign rfl)) rfl ?_
                  refine QJ.done ?_
                  refine PJ.block_normal (PJ.next ?_)
                  refine WJ.quiet ?_
                  refine QJ.step (YldS.yld (y_move rfl)) rfl ?_
                  refine QJ.step (YldS.yld (y_bin rfl rfl rfl)) rfl ?_
                  refine QJ.step (YldS.yld (y_assign rfl)) rfl ?_
                  refine QJ.done ?_
                  exact PJ.round (w64 (all95 + e99.hours), w64 (i96 + 1)) [0, 1] hm ⟨rfl, rfl, rfl, rfl, rfl, rfl, rfl, trivial⟩ ⟨by decide, rfl⟩
                · replace hm := ifF hm hb97
                  refine WJ.exit ?_
                  refine PJ.then_exit (PJ.then_exit (PJ.block_exit ?_))
                  exact PJ.joined all95 [] hm ⟨rfl, rfl, rfl, rfl, rfl, trivial⟩ ⟨List.nodup_nil, rfl⟩
            · rintro all92 hm
              subst hk94
              refine WJ.seq ?_
              refine WJ.quiet ?_
              refine QJ.step (YldS.yld (y_move rfl)) rfl ?_
              refine QJ.step (YldS.yld (y_bin rfl rfl rfl)) rfl ?_
              refine QJ.step (YldS.yld (y_move rfl)) rfl ?_
              obtain ⟨t104, h105, hm⟩ := bindS hm
              refine QJ.cut 2 [(24, .int .i64 r90.1), (25, .int .i64 r90.2), (26, .int .i64 all92), (187, .bool t104)] ?_ ?_
              · rcases Bool.eq_false_or_eq_true (r88.2 == 0) with hb106 | hb106
                · replace h105 := andT h105 hb106
                  refine QJ.on rfl rfl (cB hb106) (YldS.yld (y_move rfl)) rfl ?_
                  refine QJ.step (YldS.yld (y_pick_t (cB hb106) rfl)) rfl ?_
                  obtain rfl := Option.some.inj h105
                  exact QJ.cut_end ⟨rfl, rfl, rfl, rfl, trivial⟩
                · obtain rfl := andF h105 hb106
                  refine QJ.off rfl rfl (cB hb106) rfl rfl ?_
                  refine QJ.step (YldS.yld (y_pick_f (cB hb106) rfl)) rfl ?_
                  exact QJ.cut_end ⟨rfl, rfl, rfl, rfl, trivial⟩
              refine QJ.step (YldS.yld (y_move rfl)) rfl ?_
              obtain ⟨t107, h108, hm⟩ := bindS hm
              refine QJ.cut 3 [(24, .int .i64 r90.1), (26, .int .i64 all92), (191, .bool t107)] ?_ ?_
              · rcases Bool.eq_false_or_eq_true t104 with hb109 | hb109
                · replace h108 := andT h108 hb109
                  refine QJ.on rfl rfl (cB hb109) (YldS.yld (y_move rfl)) rfl ?_
                  refine QJ.on rfl rfl (cB hb109) (YldS.yld (y_bin rfl rfl rfl)) rfl ?_
                  refine QJ.step (YldS.yld (y_pick_t (cB hb109) rfl)) rfl ?_
                  obtain rfl := Option.some.inj h108
                  exact QJ.cut_end ⟨rfl, rfl, rfl, trivial⟩
                · obtain rfl := andF h108 hb109
                  refine QJ.off rfl rfl (cB hb109) rfl rfl ?_
                  refine QJ.off rfl rfl (cB hb109) rfl rfl ?_
                  refine QJ.step (YldS.yld (y_pick_f (cB hb109) rfl)) rfl ?_
                  exact QJ.cut_end ⟨rfl, rfl, rfl, trivial⟩
              refine QJ.step (YldS.yld (y_move rfl)) rfl ?_
              obtain ⟨t110, h111, hm⟩ := bindS hm
              refine QJ.cut 4 [(196, .bool t110)] ?_ ?_
              · rcases Bool.eq_false_or_eq_true t107 with hb112 | hb112
                · replace h111 := andT h111 hb112
                  refine QJ.on rfl rfl (cB hb112) (YldS.yld (y_move rfl)) rfl ?_
                  refine QJ.on rfl rfl (cB hb112) (YldS.yld (y_move rfl)) rfl ?_
                  refine QJ.on rfl rfl (cB hb112) (YldS.yld (y_bin rfl rfl rfl)) rfl ?_
                  refine QJ.step (YldS.yld (y_pick_t (cB hb112) rfl)) rfl ?_
                  obtain rfl := Option.some.inj h111
                  exact QJ.cut_end ⟨rfl, trivial⟩
                · obtain rfl := andF h111 hb112
                  refine QJ.off rfl rfl (cB hb112) rfl rfl ?_
                  refine QJ.off rfl rfl (cB hb112) rfl rfl ?_
                  refine QJ.off rfl rfl (cB hb112) rfl rfl ?_
                  refine QJ.step (YldS.yld (y_pick_f (cB hb112) rfl)) rfl ?_
                  exact QJ.cut_end ⟨rfl, trivial⟩
              refine QJ.step (YldS.yld (y_assign rfl)) rfl ?_
              refine QJ.done ?_
              refine PJ.next ?_
              refine WJ.ret ?_
              obtain rfl := Option.some.inj hm
              refine PJ.sel (L' := []) [] ⟨List.nodup_nil, rfl⟩ ?_
              exact PJ.retn (vs := [.bool t110]) Try.results3 ⟨rfl, trivial⟩ ⟨rfl, rfl⟩

end Go.Proofs.Ytbgngihmpdneaaa
